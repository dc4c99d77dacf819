/- Packed by pack.py: FPi4 FPi5 FPi6 FPi7 FE FG FIns FG2 FDraw3 FDraw6 FCl FDraw7 FDraw8 FCopy FBlk1 FC2 FC3 FBlk2 FSel FBlk3 FBlk4 FDraw11 FDraw12 FDraw13 -/
import Derived.Test.YtedciihjgbkjgacGreatDoorAZ2QueryFormat
import Derived.Test.YtedciihjgbkjgacGreatDoorAZ1QueryFormat
import Derived.Test.YtedciihjgbkjgacGreatDoorA43

/- A QUERY READ: the program's walk. Conditions: none. -/
namespace Go.Proofs.YtedciihjgbkjgacGreatDoor.A
open Go
set_option linter.unusedSimpArgs false
set_option linter.unusedVariables false
set_option maxRecDepth 100000

theorem jgo_normal {N : St → Side → Prop} {R : Exit → St → Side → Prop} {st : St} {s : Side} : jgo N R .normal st s = N st s := rfl
theorem jgo_exit {N : St → Side → Prop} {R : Exit → St → Side → Prop} {id : Nat} {st : St} {s : Side} : jgo N R (.exit id) st s = R (.exit id) st s := rfl
theorem jgo_ret {N : St → Side → Prop} {R : Exit → St → Side → Prop} {st : St} {s : Side} : jgo N R .ret st s = R .ret st s := rfl
theorem jblk_normal {R : Exit → St → Side → Prop} {id : Nat} {st : St} {s : Side} : jblk id R .normal st s = R .normal st s := rfl
theorem jblk_ret {R : Exit → St → Side → Prop} {id : Nat} {st : St} {s : Side} : jblk id R .ret st s = R .ret st s := rfl
theorem jblk_exit {R : Exit → St → Side → Prop} {id id' : Nat} {st : St} {s : Side} : jblk id R (.exit id') st s = if id' = id then R .normal st s else R (.exit id') st s := rfl
attribute [go_sem] jgo_normal jgo_exit jgo_ret jblk_normal jblk_ret jblk_exit
def wok (w : ByteArray) : Bool := !decide (w = ⟨#[]⟩) && okT (w.extract 1 w.size)
def wat (l : List Rel) (w : ByteArray) : RI := ⟨relIx l (w.extract 0 1), trT (w.extract 1 w.size)⟩
def mxT (w : ByteArray) : Int := Lib.maxOf (trT (w.extract 1 w.size) ++ [-1])
def vcI (ws : List ByteArray) : Nat → Int
  | 0 => 0
  | i + 1 => newV (vcI ws i) (mxT (ws.getD i ⟨#[]⟩))
def impQ (l : List Rel) (a : ByteArray) (ws : List ByteArray) : Qu := ⟨vcI ws ws.length, ws.map (wat l), trT a⟩
def okI (l : List Rel) (s a : ByteArray) (ws : List ByteArray) : Bool := okT a && (ws.all wok && decide (quText l (impQ l a ws) = s))
theorem rowsO_snoc (L : List Tri) (p : Tri) : rowsO (L ++ [p]) = rowsO L ++ [rowOO p] := by simp [rowsO]
theorem rowsO_stm (L : List Tri) : stm 999 (rowsO L) = rowsO L := stm_map 999 _ _ (fun p => by unfold rowOO; split <;> rfl) L
theorem rowsO_len (L : List Tri) : (rowsO L).length = L.length := by simp [rowsO]
theorem asN_1 {k : IntKind} : asN (.sc (.int k 1)) = some 1 := rfl
attribute [go_sem] asN_1 rowsO_len rowsO_stm
theorem ts1 (n : Nat) (r : RI) (row : List Cell) : List.take 1 (List.set (ris n (List.replicate 1 r)) 0 row) = [row] := rfl
theorem ts2 (n : Nat) (r : RI) (row : List Cell) : List.set (ris n (List.replicate 1 r)) 0 row = [row] := rfl
theorem flat_sl (v : Value) (n : Nat) (xs : List Value) : flatB [[Cell.sc v, Cell.sl (n + 1) xs]] = false := rfl
theorem flat_sc (v u : Value) : flatB [[Cell.sc v, Cell.sc u]] = true := rfl
theorem solid_sc {v : Value} (h : v.oneCell' = true) (st : St) : SV.solid st (.sc v) = True := eq_true h
def getW (ws : List ByteArray) (i : Nat) : ByteArray := ws.getD i ⟨#[]⟩
/-- What has been read. -/
structure Red (l : List Rel) (ws : List ByteArray) (L : List Tri) : Prop where
  len : L.length ≤ ws.length
  tri : okTri L
  ok : ∀ k, k < L.length → wok (getW ws k) = true
  eq : L.map (fun p => (p.1, p.2.2)) = (ws.take L.length).map fun w => (Value.int .i64 (wat l w).r, iv (wat l w).l)
theorem maxOf_bnd (zs : List Int) (lo hi : Int) (h0 : zs ≠ []) (h : ∀ x ∈ zs, lo ≤ x ∧ x ≤ hi) : lo ≤ Lib.maxOf zs ∧ Lib.maxOf zs ≤ hi := by
  have key : ∀ (l : List Int) (m : Int), lo ≤ m ∧ m ≤ hi → (∀ x ∈ l, lo ≤ x ∧ x ≤ hi) → lo ≤ l.foldl max m ∧ l.foldl max m ≤ hi := by
    intro l
    induction l with
    | nil => intro m hm _; exact hm
    | cons y l ih =>
      intro m hm hx
      have hy := hx y (by simp)
      exact ih (max m y) (by omega) fun x hx' => hx x (by simp [hx'])
  rcases zs with _ | ⟨z, zs⟩
  · exact absurd rfl h0
  · exact key _ _ (h z (by simp)) h
theorem t1_lo (s : ByteArray) (i : Nat) : -10 ≤ t1 s i ∧ t1 s i ≤ 3 := pT_lo _
theorem selT_lo (s : ByteArray) : ∀ (i : Nat), ∀ x ∈ selT s i, -10 ≤ x ∧ x ≤ 3
  | 0, x, h => by cases h
  | i + 1, x, h => by
    rw [selT] at h
    split at h
    · exact selT_lo s i x h
    · rcases List.mem_append.mp h with h | h
      · exact selT_lo s i x h
      · rw [List.mem_singleton.mp h]; exact t1_lo s i
theorem trT_lo (s : ByteArray) : ∀ x ∈ trT s, -10 ≤ x ∧ x ≤ 3 := by
  unfold trT
  split
  · exact selT_lo s _
  · intro x h; cases h
theorem mxT_bnd (w : ByteArray) : -10 ≤ mxT w ∧ mxT w ≤ 3 := by
  unfold mxT
  refine maxOf_bnd _ _ _ (by simp) fun x hx => ?_
  rcases List.mem_append.mp hx with hx | hx
  · exact trT_lo _ x hx
  · rw [List.mem_singleton.mp hx]; decide
theorem vcI_bnd (ws : List ByteArray) : ∀ i, 0 ≤ vcI ws i ∧ vcI ws i ≤ 4
  | 0 => by simp [vcI]
  | i + 1 => by
    have h1 := vcI_bnd ws i
    have h2 := mxT_bnd (ws.getD i ⟨#[]⟩)
    rw [vcI, newV]; omega
theorem mk_noid {slots : List (Nat × AV)} {vars : List (Nat × List SV)} {objs : List (Nat × Obj')} {next : Nat} (i : Nat) (h : (slots.all fun p => !p.2.ids.contains i) = true) : ∀ t, i ∉ ((mkSt slots vars objs next).slots t).ids := by
  intro t
  rw [mk_slots]
  rcases look_mem (d := AV.un) (l := slots) (k := t) with ⟨e, -⟩ | ⟨p, hp, -, e⟩
  · rw [e]; simp [AV.ids, AV.svs, Pk.svs, SV.ids]
  · rw [e]
    have := List.all_eq_true.mp h p hp
    simpa using this
theorem mk_noidV {slots : List (Nat × AV)} {vars : List (Nat × List SV)} {objs : List (Nat × Obj')} {next : Nat} (i : Nat) (h : (vars.all fun p => p.2.all fun x => !x.ids.contains i) = true) : ∀ k fs, (mkSt slots vars objs next).vars k = some fs → ∀ x ∈ fs, i ∉ x.ids := by
  intro k fs hf x hx
  rw [mk_vars] at hf
  rcases look_mem (d := (none : Option (List SV))) (l := vars.map fun p => (p.1, some p.2)) (k := k) with ⟨e, -⟩ | ⟨p, hp, -, e⟩
  · rw [e] at hf; cases hf
  · rw [e] at hf
    obtain ⟨q, hq, rfl⟩ := List.mem_map.mp hp
    cases hf
    have := List.all_eq_true.mp (List.all_eq_true.mp h q hq) x hx
    simpa using this
theorem rowsT_ris {l : List Rel} {ws : List ByteArray} {L : List Tri} (h : L.map (fun p => (p.1, p.2.2)) = ws.map fun w => (Value.int .i64 (wat l w).r, iv (wat l w).l)) (hok : okTri L) : stm 999 (rowsT L) = ris 999 (ws.map (wat l)) := by
  have e1 : stm 999 (rowsT L) = (L.map (fun p => (p.1, p.2.2))).map fun q => [Cell.sc q.1, Cell.sl 999 q.2] := by
    unfold stm rowsT
    rw [List.map_map, List.map_map]
    refine List.map_congr_left fun p hp => ?_
    show (rowTT p).map (Cell.stm 999) = [Cell.sc p.1, Cell.sl 999 p.2.2]
    unfold rowTT
    by_cases e : isNil p.2.1 = true
    · rw [if_pos e]
      have hr : real p.2.1 = false := by
        revert e
        unfold isNil
        split
        · rename_i hh; intro _; rw [hh]; rfl
        · intro e; cases e
      rw [(hok p hp hr).1]; rfl
    · rw [if_neg e]; rfl
  rw [e1, h]
  simp [ris, cRI, Function.comp_def]
set_option maxHeartbeats 8000000 in
theorem implParse_no (l : List Rel) (s : ByteArray) (hl : l.length ≤ 9223372036854775807) (hs : s.size ≤ 1048576) (h : ¬ hasB s 63) : Sat Tryz.prog 6 [lRels l, lStr s] [oQu noQ, lBool false] [g1, g1] := by
  refine sat_of_body mixed Tryz.func6 rfl (by kernel_rfl) (by kernel_rfl) (rs := [.cell 4 28, .tmp 5]) rfl rfl rfl ?_
  simp -implicitDefEqProofs (maxSteps := 2000000) only [go_sem]
  refine call_of (stringsCut_no s 63 h) (by simp -implicitDefEqProofs (maxSteps := 2000000) only [go_sem]) (by kernel_rfl) (by simp -implicitDefEqProofs (maxSteps := 2000000) only [go_sem]) ?_
  simp -implicitDefEqProofs (maxSteps := 2000000) only [go_sem]
  refine call_of (implParseTerms_sat s (by omega)) (by simp -implicitDefEqProofs (maxSteps := 2000000) only [go_sem]) (by kernel_rfl) (by simp -implicitDefEqProofs (maxSteps := 2000000) only [go_sem]) ?_
  simp -implicitDefEqProofs (maxSteps := 2000000) only [go_sem]
  and_intros <;> rfl
set_option maxHeartbeats 8000000 in
theorem implParse_yes (l : List Rel) (a b : ByteArray) (ws : List ByteArray) (hl : l.length ≤ 9223372036854775807) (h : ¬ hasB a 63) (hs : (a ++ oneB 63 ++ b).size ≤ 1048576) (hw : Sat Tryz.prog 18 [lStr b] [.one (.ow 1 (txs ws))] [g1])
    (hwl : ws.length ≤ 1048576) (hwm : ∀ w ∈ ws, w.size ≤ 1048576) :
    Sat Tryz.prog 6 [lRels l, lStr (a ++ oneB 63 ++ b)] [oQu (if okI l (a ++ oneB 63 ++ b) a ws then impQ l a ws else noQ), lBool (okI l (a ++ oneB 63 ++ b) a ws)] [g1, g1] := by
  have hz := cut3_size a b 63
  have s0 := stringsCut_yes a b 63 h (by omega)
  generalize hss : a ++ oneB 63 ++ b = s at hs hz s0
  refine sat_of_bodyJ Tryz.func6 rfl (by kernel_rfl) (rs := [.cell 4 28, .tmp 5]) rfl rfl rfl ?_
  refine jwp_seq mixed (by kernel_rfl) ?_
  simp -implicitDefEqProofs (maxSteps := 2000000) only [go_sem]
  refine jwp_seq mixed (by kernel_rfl) ?_
  simp -implicitDefEqProofs (maxSteps := 2000000) only [go_sem]
  refine call_of (s0) (by simp -implicitDefEqProofs (maxSteps := 2000000) only [go_sem]) (by kernel_rfl) (by simp -implicitDefEqProofs (maxSteps := 2000000) only [go_sem]) ?_
  simp -implicitDefEqProofs (maxSteps := 2000000) only [go_sem]
  refine jwp_seq mixed (by kernel_rfl) ?_
  simp -implicitDefEqProofs (maxSteps := 2000000) only [go_sem]
  refine call_of (implParseTerms_sat a (by omega)) (by simp -implicitDefEqProofs (maxSteps := 2000000) only [go_sem]) (by kernel_rfl) (by simp -implicitDefEqProofs (maxSteps := 2000000) only [go_sem]) ?_
  simp -implicitDefEqProofs (maxSteps := 2000000) only [go_sem]
  rcases d1 : okT a
  · have e1 : okI l s a ws = false := by unfold okI; rw [d1]; rfl
    rw [e1]
    refine jwp_seq mixed (by kernel_rfl) ?_
    simp -implicitDefEqProofs (maxSteps := 2000000) only [go_sem, d1]
    and_intros <;> rfl
  refine jwp_seq mixed (by kernel_rfl) ?_
  simp -implicitDefEqProofs (maxSteps := 2000000) only [go_sem, d1]
  refine jwp_seq mixed (by kernel_rfl) ?_
  simp -implicitDefEqProofs (maxSteps := 2000000) only [go_sem]
  refine jwp_seqJ ?_
  refine jwp_seq mixed (by kernel_rfl) ?_
  simp -implicitDefEqProofs (maxSteps := 2000000) only [go_sem]
  refine call_of (hw) (by simp -implicitDefEqProofs (maxSteps := 2000000) only [go_sem] <;> and_intros <;> rfl) (by kernel_rfl) (by simp -implicitDefEqProofs (maxSteps := 2000000) only [go_sem]) ?_
  simp -implicitDefEqProofs (maxSteps := 2000000) only [go_sem]
  refine jwp_block ?_
  refine jwp_loop (List Tri) (fun L => mkSt [(0, .one (.im 3 (rels l))), (1, .sc (.string s)), (4, .one (.vad 1000 0)), (5, .sc (.bool false)), (11, .one (.vad 2664 0)), (37, .one (.ref 960 1 0 ws.length)), (38, .sc (.int .i64 (ws.length : Nat))), (39, .sc (.int .i64 (L.length : Nat)))] [(1000, zQ3), (2664, [.sc (.int .i64 (vcI ws L.length)), .ref 962 2 0 L.length, .ref 961 1 0 (trT a).length])] [(960, (1, txs ws)), (961, (1, ints (trT a))), (962, (2, rowsO L))] 4000) (fun L => triSide L)
    (fun L => Red l ws L) (fun L => ws.length - L.length) [] ⟨Nat.zero_le _, (fun p hp => by cases hp), (fun k hk => by cases hk), rfl⟩ rfl (le_st' _ _ [⟨960, some _, false, 1, _⟩, ⟨961, some _, false, 1, _⟩, ⟨962, none, false, 2, _⟩] [] _ (by simp -implicitDefEqProofs (maxSteps := 2000000) only [go_sem, vcI, rowsO, List.map_nil, List.length_nil] <;> and_intros <;> rfl) (by simp -implicitDefEqProofs (maxSteps := 2000000) only [go_sem, vcI, rowsO, List.map_nil, List.length_nil] <;> and_intros <;> rfl) (by simp -implicitDefEqProofs (maxSteps := 2000000) only [go_sem, vcI, rowsO, List.map_nil, List.length_nil] <;> and_intros <;> rfl) (by rfl)) ?_
  rintro L hL
  have hL1 := hL.len
  have hVi := vcI_bnd ws L.length
  refine jwp_seq mixed (by kernel_rfl) ?_
  by_cases c1 : L.length < ws.length
  case neg =>
    simp -implicitDefEqProofs (maxSteps := 2000000) only [go_sem, c1]
    refine jwp_seq mixed (by kernel_rfl) ?_
    simp -implicitDefEqProofs (maxSteps := 2000000) only [go_sem, c1]
    have hLw : L.length = ws.length := by omega
    have hE := hL.eq
    have hO := hL.ok
    rw [hLw] at hVi hO
    rw [hLw, List.take_length] at hE
    have hstm := rowsT_ris hE hL.tri
    refine jwp_le (st' := mkSt [(0, .one (.im 3 (rels l))), (1, .sc (.string s)), (4, .one (.vad 1000 0)), (5, .sc (.bool false)), (11, .one (.vad 2664 0))] [(1000, zQ3), (2664, [.sc (.int .i64 (vcI ws ws.length)), .ref 962 2 0 ws.length, .ref 961 1 0 (trT a).length])] [(961, (1, ints (trT a))), (962, (2, rowsO L))] 50000) (le_st' _ _ [⟨961, some _, false, 1, _⟩, ⟨962, some _, false, 2, _⟩] [] _ (by simp -implicitDefEqProofs (maxSteps := 2000000) only [go_sem, hLw] <;> and_intros <;> rfl) (by simp -implicitDefEqProofs (maxSteps := 2000000) only [go_sem, hLw] <;> and_intros <;> rfl) (by simp -implicitDefEqProofs (maxSteps := 2000000) only [go_sem, hLw] <;> and_intros <;> rfl) (by rfl)) ?_
    refine jwp_thaw (id := 962) (L := L) hL.tri rfl (mk_noid 998 rfl) (mk_noidV 998 rfl) ?_
    refine bwp_le (st' := mkSt [(0, .one (.im 3 (rels l))), (1, .sc (.string s)), (4, .one (.vad 1000 0)), (5, .sc (.bool false)), (11, .one (.vad 2664 0))] [(1000, zQ3), (2664, [.sc (.int .i64 (vcI ws ws.length)), .ref 962 2 0 ws.length, .ref 961 1 0 (trT a).length])] [(961, (1, ints (trT a))), (962, (2, ris 999 (ws.map (wat l))))] 60000) (le_st' _ _ [⟨961, some _, false, 1, _⟩, ⟨962, some _, false, 2, _⟩] [] _ (by simp -implicitDefEqProofs (maxSteps := 2000000) only [go_sem, hstm] <;> and_intros <;> rfl) (by simp -implicitDefEqProofs (maxSteps := 2000000) only [go_sem, hstm] <;> and_intros <;> rfl) (by simp -implicitDefEqProofs (maxSteps := 2000000) only [go_sem, hstm] <;> and_intros <;> rfl) (by rfl)) ?_
    refine bwp_awp mixed (by kernel_rfl) ?_
    have hall : ws.all wok = true := by
      rw [List.all_eq_true]
      intro w hw
      obtain ⟨k, hk, rfl⟩ := List.getElem_of_mem hw
      have := hO k hk
      unfold getW at this
      rwa [List.getD_eq_getElem?_getD, List.getElem?_eq_getElem hk] at this
    have hq : (impQ l a ws).ok := by
      refine ⟨⟨?_, fun x hx => ?_⟩, ?_⟩
      · show (ws.map (wat l)).length ≤ _
        rw [List.length_map]; exact hwl
      · obtain ⟨w, hw, rfl⟩ := List.mem_map.mp hx
        have h1 := hwm w hw
        have h2 := trT_len (w.extract 1 w.size)
        have h3 := ext_size w 1 w.size
        show (trT (w.extract 1 w.size)).length ≤ _
        omega
      · have := trT_len a
        show (trT a).length ≤ _
        omega
    have hpv : (impQ l a ws).vc = vcI ws ws.length := rfl
    have hpa : (impQ l a ws).atoms = ws.map (wat l) := rfl
    have hpf : (impQ l a ws).free = trT a := rfl
    have e2 : okI l s a ws = decide (quText l (impQ l a ws) = s) := by unfold okI; rw [d1, hall, Bool.true_and, Bool.true_and]
    rw [e2]
    have rtk : List.take ws.length (ws.map (wat l)) = ws.map (wat l) := List.take_of_length_le (by simp)
    have ftk : List.take (trT a).length (trT a) = trT a := List.take_length
    rcases g : decide (quText l (impQ l a ws) = s)
    · simp -implicitDefEqProofs (maxSteps := 2000000) only [go_sem, rtk, ftk]
      refine call_of (implFormatQuery_sat l (impQ l a ws) hl hq) (by simp -implicitDefEqProofs (maxSteps := 2000000) only [go_sem, g, rtk, ftk, hpv, hpa, hpf]) (callOk_still (by kernel_rfl) (by simp only [List.all_cons, List.all_nil, LV.still, LV.leaves, Leaf.still, ints_still, ris_still, eds_still, rels_still, iss_still, ems_still, Bool.and_self, Bool.and_true])) (by simp -implicitDefEqProofs (maxSteps := 2000000) only [go_sem, g, rtk, ftk, hpv, hpa, hpf]) ?_
      simp -implicitDefEqProofs (maxSteps := 2000000) only [go_sem, g, rtk, ftk, hpv, hpa, hpf]
      and_intros <;> rfl
    · simp -implicitDefEqProofs (maxSteps := 2000000) only [go_sem, rtk, ftk]
      refine call_of (implFormatQuery_sat l (impQ l a ws) hl hq) (by simp -implicitDefEqProofs (maxSteps := 2000000) only [go_sem, g, rtk, ftk, hpv, hpa, hpf]) (callOk_still (by kernel_rfl) (by simp only [List.all_cons, List.all_nil, LV.still, LV.leaves, Leaf.still, ints_still, ris_still, eds_still, rels_still, iss_still, ems_still, Bool.and_self, Bool.and_true])) (by simp -implicitDefEqProofs (maxSteps := 2000000) only [go_sem, g, rtk, ftk, hpv, hpa, hpf]) ?_
      simp -implicitDefEqProofs (maxSteps := 2000000) only [go_sem, g, rtk, ftk, hpv, hpa, hpf]
      and_intros <;> rfl
  have wi : IntKind.i64.wrap ((L.length : Int) + 1) = ((L.length + 1 : Nat) : Int) := i64_succ (by omega)
  have eg := txs_get c1
  have hwz := hwm _ (mem_getD (⟨#[]⟩ : ByteArray) c1)
  have hvs : vcI ws (L.length + 1) = newV (vcI ws L.length) (mxT (ws.getD L.length ⟨#[]⟩)) := rfl
  have hta : (ws.take (L.length + 1)).map (fun w => (Value.int .i64 (wat l w).r, iv (wat l w).l)) = (ws.take L.length).map (fun w => (Value.int .i64 (wat l w).r, iv (wat l w).l)) ++ [(Value.int .i64 (wat l (ws.getD L.length ⟨#[]⟩)).r, iv (wat l (ws.getD L.length ⟨#[]⟩)).l)] := by
    rw [take_snoc (⟨#[]⟩ : ByteArray) c1, List.map_append]; rfl
  have hall : wok (ws.getD L.length ⟨#[]⟩) = false → okI l s a ws = false := by
    intro hno
    have : ws.all wok = false := by
      rw [List.all_eq_false]
      exact ⟨_, mem_getD (⟨#[]⟩ : ByteArray) c1, by rw [hno]; simp⟩
    unfold okI
    rw [this, Bool.false_and, Bool.and_false]
  have hokk : wok (ws.getD L.length ⟨#[]⟩) = true → ∀ k, k < L.length + 1 → wok (getW ws k) = true := by
    intro h k hk
    rcases Nat.lt_or_ge k L.length with h' | h'
    · exact hL.ok k h'
    · obtain rfl : k = L.length := by omega
      exact h
  generalize ws.getD L.length ⟨#[]⟩ = w at eg hwz hvs hta hall hokk
  simp -implicitDefEqProofs (maxSteps := 2000000) only [go_sem, c1]
  refine jwp_seq mixed (by kernel_rfl) ?_
  simp -implicitDefEqProofs (maxSteps := 2000000) only [go_sem, c1]
  refine jwp_seqJ ?_
  refine jwp_block ?_
  refine jwp_seq mixed (by kernel_rfl) ?_
  simp -implicitDefEqProofs (maxSteps := 2000000) only [go_sem, c1, eg]
  refine jwp_seq mixed (by kernel_rfl) ?_
  rcases d2 : decide (w = (⟨#[]⟩ : ByteArray))
  case true =>
    have e1 := hall (by unfold wok; rw [d2]; rfl)
    rw [e1]
    simp -implicitDefEqProofs (maxSteps := 2000000) only [go_sem, d2]
    and_intros <;> rfl
  have hw1 : 1 ≤ w.size := by
    rcases Nat.lt_or_ge 0 w.size with h | h
    · exact h
    · exact absurd (by obtain ⟨⟨x⟩⟩ := w; cases x with
        | nil => rfl
        | cons y x => simp [ByteArray.size] at h) (of_decide_eq_false d2)
  simp -implicitDefEqProofs (maxSteps := 2000000) only [go_sem, d2]
  have s1 := implParseTerms_sat (w.extract 1 w.size) (by have := ext_size w 1 w.size; omega)
  refine jwp_seq mixed (by kernel_rfl) ?_
  simp -implicitDefEqProofs (maxSteps := 2000000) only [go_sem, hw1]
  repeat (refine And.intro (by omega) ?_)
  refine call_of (s1) (by simp -implicitDefEqProofs (maxSteps := 2000000) only [go_sem]) (by kernel_rfl) (by simp -implicitDefEqProofs (maxSteps := 2000000) only [go_sem]) ?_
  simp -implicitDefEqProofs (maxSteps := 2000000) only [go_sem]
  rcases d3 : okT (w.extract 1 w.size)
  case false =>
    have e1 := hall (by unfold wok; rw [d3, Bool.and_false])
    rw [e1]
    refine jwp_seq mixed (by kernel_rfl) ?_
    simp -implicitDefEqProofs (maxSteps := 2000000) only [go_sem, d3]
    and_intros <;> rfl
  refine jwp_seq mixed (by kernel_rfl) ?_
  simp -implicitDefEqProofs (maxSteps := 2000000) only [go_sem, d3]
  have hwk : wok w = true := by unfold wok; rw [d2, d3]; rfl
  have hwatr : (wat l w).r = relIx l (w.extract 0 1) := rfl
  have hwatl : (wat l w).l = trT (w.extract 1 w.size) := rfl
  have hmxb := mxT_bnd w
  have hmxe : mxT w = Lib.maxOf (trT (w.extract 1 w.size) ++ [-1]) := rfl
  have hXl := trT_len (w.extract 1 w.size)
  have hXz := ext_size w 1 w.size
  rw [hwatr, hwatl] at hta
  generalize trT (w.extract 1 w.size) = X at hmxe hXl hta
  generalize mxT w = mx at hmxb hmxe hvs
  have hm0 : vcI ws L.length = vcI ws L.length := rfl
  generalize hmm : vcI ws L.length = m0 at hVi hvs
  refine jwp_le (st' := mkSt [(0, .one (.im 3 (rels l))), (1, .sc (.string s)), (4, .one (.vad 1000 0)), (5, .sc (.bool false)), (11, .one (.vad 2664 0)), (13, .sc (.string w)), (14, .one (.ref 963 1 0 (iv X).length)), (37, .one (.ref 960 1 0 ws.length)), (38, .sc (.int .i64 (ws.length : Nat))), (39, .sc (.int .i64 (L.length : Nat)))] [(1000, zQ3), (2664, [.sc (.int .i64 (m0)), .ref 962 2 0 L.length, .ref 961 1 0 (trT a).length])] [(960, (1, txs ws)), (961, (1, ints (trT a))), (962, (2, rowsO L)), (963, (1, lift (iv X)))] 20000) (le_st' _ _ [⟨960, some _, false, 1, _⟩, ⟨961, some _, false, 1, _⟩, ⟨962, some _, false, 2, _⟩, ⟨963, some _, false, 1, _⟩] [] _ (by simp -implicitDefEqProofs (maxSteps := 2000000) only [go_sem] <;> and_intros <;> rfl) (by simp -implicitDefEqProofs (maxSteps := 2000000) only [go_sem] <;> and_intros <;> rfl) (by simp -implicitDefEqProofs (maxSteps := 2000000) only [go_sem] <;> and_intros <;> rfl) (by rfl)) ?_
  refine jwp_aside (t := 14) (tid := 963) (xs := iv X) rfl rfl ?_
  intro hd hnil hone hreal
  rw [← triSide_snoc L (.int .i64 (relIx l (w.extract 0 1))) hd (iv X)]
  refine jwp_le (st' := mkSt [(0, .one (.im 3 (rels l))), (1, .sc (.string s)), (4, .one (.vad 1000 0)), (5, .sc (.bool false)), (11, .one (.vad 2664 0)), (13, .sc (.string w)), (14, .sc hd), (37, .one (.ref 960 1 0 ws.length)), (38, .sc (.int .i64 (ws.length : Nat))), (39, .sc (.int .i64 (L.length : Nat)))] [(1000, zQ3), (2664, [.sc (.int .i64 (m0)), .ref 962 2 0 L.length, .ref 961 1 0 (trT a).length])] [(960, (1, txs ws)), (961, (1, ints (trT a))), (962, (2, rowsO L))] 20000) (le_st' _ _ [⟨960, some _, false, 1, _⟩, ⟨961, some _, false, 1, _⟩, ⟨962, some _, false, 2, _⟩] [] _ (by simp -implicitDefEqProofs (maxSteps := 2000000) only [go_sem] <;> and_intros <;> rfl) (by simp -implicitDefEqProofs (maxSteps := 2000000) only [go_sem] <;> and_intros <;> rfl) (by simp -implicitDefEqProofs (maxSteps := 2000000) only [go_sem] <;> and_intros <;> rfl) (by rfl)) ?_
  have hro : rowsO (L ++ [(.int .i64 (relIx l (w.extract 0 1)), hd, iv X)]) = rowsO L ++ [rowOO (.int .i64 (relIx l (w.extract 0 1)), hd, iv X)] := rowsO_snoc _ _
  rcases hnil with hnil | hni
  · subst hnil
    have ho : rowOO (.int .i64 (relIx l (w.extract 0 1)), (Value.slice none 0 0), iv X) = [Cell.sc (.int .i64 (relIx l (w.extract 0 1))), Cell.sl 999 []] := rfl
    refine jwp_seq mixed (by kernel_rfl) ?_
    simp -implicitDefEqProofs (maxSteps := 2000000) only [go_sem, hw1]
    repeat (refine And.intro (by omega) ?_)
    refine call_of (implRelationIndex_sat l (w.extract 0 1) hl) (by simp -implicitDefEqProofs (maxSteps := 2000000) only [go_sem, ts1, flat_sl]) (by kernel_rfl) (by simp -implicitDefEqProofs (maxSteps := 2000000) only [go_sem, ts1, flat_sl]) ?_
    simp -implicitDefEqProofs (maxSteps := 2000000) only [go_sem, ts1, flat_sl]
    refine ⟨by omega, ?_⟩
    first | (with_reducible refine tr_and ?_ ?_; focus kernel_rfl) | (with_reducible refine tr_only ?_; kernel_rfl) | skip
    refine jwp_le (st' := mkSt [(0, .one (.im 3 (rels l))), (1, .sc (.string s)), (4, .one (.vad 1000 0)), (5, .sc (.bool false)), (11, .one (.vad 2664 0)), (14, .sc (Value.slice none 0 0)), (37, .one (.ref 960 1 0 ws.length)), (38, .sc (.int .i64 (ws.length : Nat))), (39, .sc (.int .i64 (L.length : Nat)))] [(1000, zQ3), (2664, [.sc (.int .i64 (m0)), .ref 962 2 0 (L.length + 1), .ref 961 1 0 (trT a).length])] [(960, (1, txs ws)), (961, (1, ints (trT a))), (962, (2, rowsO L ++ [[Cell.sc (.int .i64 (relIx l (w.extract 0 1))), Cell.sl 999 []]]))] 30000) (le_st' _ _ [⟨960, some _, false, 1, _⟩, ⟨961, some _, false, 1, _⟩, ⟨962, some _, false, 2, _⟩] [] _ (by simp -implicitDefEqProofs (maxSteps := 2000000) only [go_sem, ts2] <;> and_intros <;> rfl) (by simp -implicitDefEqProofs (maxSteps := 2000000) only [go_sem, ts2] <;> and_intros <;> rfl) (by simp -implicitDefEqProofs (maxSteps := 2000000) only [go_sem, ts2] <;> and_intros <;> rfl) (by rfl)) ?_
    have hsn : rowsO (L ++ [(.int .i64 (relIx l (w.extract 0 1)), Value.slice none 0 0, iv X)]) = rowsO L ++ [[Cell.sc (.int .i64 (relIx l (w.extract 0 1))), Cell.sl 999 []]] := by rw [hro, ho]
    rw [← hsn]
    refine regMax_jwp (id := 2664) (m0 := m0) (mx := mx) (hd := Value.slice none 0 0) (xs := X) (fs := [.ref 962 2 0 (L.length + 1), .ref 961 1 0 (trT a).length]) rfl rfl rfl ?_ (by omega) hmxe (by omega) ?_
    · rcases hre : real (Value.slice none 0 0)
      · obtain ⟨q1, q2⟩ := hreal hre
        exact .inl ⟨q2, List.map_eq_nil_iff.mp q1⟩
      · refine .inr ?_
        rw [triSide_snoc, sideIf, hre]
        exact List.mem_append_right _ (List.mem_singleton_self _)
    rw [jblk_normal, jgo_normal]
    refine jwp_le (st' := mkSt [(0, .one (.im 3 (rels l))), (1, .sc (.string s)), (4, .one (.vad 1000 0)), (5, .sc (.bool false)), (11, .one (.vad 2664 0)), (37, .one (.ref 960 1 0 ws.length)), (38, .sc (.int .i64 (ws.length : Nat))), (39, .sc (.int .i64 (L.length : Nat)))] [(1000, zQ3), (2664, [.sc (.int .i64 (newV m0 mx)), .ref 962 2 0 (L.length + 1), .ref 961 1 0 (trT a).length])] [(960, (1, txs ws)), (961, (1, ints (trT a))), (962, (2, rowsO (L ++ [(.int .i64 (relIx l (w.extract 0 1)), Value.slice none 0 0, iv X)])))] 40000) (le_st' _ _ [⟨960, some _, false, 1, _⟩, ⟨961, some _, false, 1, _⟩, ⟨962, some _, false, 2, _⟩] [] _ (by simp -implicitDefEqProofs (maxSteps := 2000000) only [go_sem, false_and, and_false, if_false, Nat.reduceLeDiff] <;> and_intros <;> rfl) (by simp -implicitDefEqProofs (maxSteps := 2000000) only [go_sem, false_and, and_false, if_false, Nat.reduceLeDiff] <;> and_intros <;> rfl) (by simp -implicitDefEqProofs (maxSteps := 2000000) only [go_sem, false_and, and_false, if_false, Nat.reduceLeDiff] <;> and_intros <;> rfl) (by rfl)) ?_
    refine jwp_awp mixed (by kernel_rfl) ?_
    simp -implicitDefEqProofs (maxSteps := 2000000) only [go_sem, wi]
    refine ⟨L ++ [(.int .i64 (relIx l (w.extract 0 1)), Value.slice none 0 0, iv X)], ⟨by simp; omega, ?_, ?_, ?_⟩, by simp; omega, rfl, (le_st' _ _ [⟨960, some _, false, 1, _⟩, ⟨961, some _, false, 1, _⟩, ⟨962, some _, false, 2, _⟩] [] _ (by simp -implicitDefEqProofs (maxSteps := 2000000) only [go_sem, List.length_append, List.length_singleton, hvs] <;> and_intros <;> rfl) (by simp -implicitDefEqProofs (maxSteps := 2000000) only [go_sem, List.length_append, List.length_singleton, hvs] <;> and_intros <;> rfl) (by simp -implicitDefEqProofs (maxSteps := 2000000) only [go_sem, List.length_append, List.length_singleton, hvs] <;> and_intros <;> rfl) (by rfl))⟩
    · intro p hp
      rcases List.mem_append.mp hp with hp | hp
      · exact hL.tri p hp
      · rw [List.mem_singleton.mp hp]; exact hreal
    · rw [List.length_append, List.length_singleton]
      exact hokk hwk
    · rw [List.length_append, List.length_singleton, List.map_append, hL.eq, hta]; rfl
  · have ho : rowOO (.int .i64 (relIx l (w.extract 0 1)), hd, iv X) = [Cell.sc (.int .i64 (relIx l (w.extract 0 1))), Cell.sc hd] := by unfold rowOO; rw [hni]; rfl
    refine jwp_seq mixed (by kernel_rfl) ?_
    simp -implicitDefEqProofs (maxSteps := 2000000) only [go_sem, hw1, hni, hone, solid_sc hone]
    repeat (refine And.intro (by omega) ?_)
    refine call_of (implRelationIndex_sat l (w.extract 0 1) hl) (by simp -implicitDefEqProofs (maxSteps := 2000000) only [go_sem, hni, hone, solid_sc hone, ts1, flat_sc]) (by kernel_rfl) (by simp -implicitDefEqProofs (maxSteps := 2000000) only [go_sem, hni, hone, solid_sc hone, ts1, flat_sc]) ?_
    simp -implicitDefEqProofs (maxSteps := 2000000) only [go_sem, hni, hone, solid_sc hone, ts1, flat_sc]
    refine ⟨by omega, ?_⟩
    first | (with_reducible refine tr_and ?_ ?_; focus kernel_rfl) | (with_reducible refine tr_only ?_; kernel_rfl) | skip
    refine jwp_le (st' := mkSt [(0, .one (.im 3 (rels l))), (1, .sc (.string s)), (4, .one (.vad 1000 0)), (5, .sc (.bool false)), (11, .one (.vad 2664 0)), (14, .sc hd), (37, .one (.ref 960 1 0 ws.length)), (38, .sc (.int .i64 (ws.length : Nat))), (39, .sc (.int .i64 (L.length : Nat)))] [(1000, zQ3), (2664, [.sc (.int .i64 (m0)), .ref 962 2 0 (L.length + 1), .ref 961 1 0 (trT a).length])] [(960, (1, txs ws)), (961, (1, ints (trT a))), (962, (2, rowsO L ++ [[Cell.sc (.int .i64 (relIx l (w.extract 0 1))), Cell.sc hd]]))] 30000) (le_st' _ _ [⟨960, some _, false, 1, _⟩, ⟨961, some _, false, 1, _⟩, ⟨962, some _, false, 2, _⟩] [] _ (by simp -implicitDefEqProofs (maxSteps := 2000000) only [go_sem, ts2] <;> and_intros <;> rfl) (by simp -implicitDefEqProofs (maxSteps := 2000000) only [go_sem, ts2] <;> and_intros <;> rfl) (by simp -implicitDefEqProofs (maxSteps := 2000000) only [go_sem, ts2] <;> and_intros <;> rfl) (by rfl)) ?_
    have hsn : rowsO (L ++ [(.int .i64 (relIx l (w.extract 0 1)), hd, iv X)]) = rowsO L ++ [[Cell.sc (.int .i64 (relIx l (w.extract 0 1))), Cell.sc hd]] := by rw [hro, ho]
    rw [← hsn]
    refine regMax_jwp (id := 2664) (m0 := m0) (mx := mx) (hd := hd) (xs := X) (fs := [.ref 962 2 0 (L.length + 1), .ref 961 1 0 (trT a).length]) rfl rfl rfl ?_ (by omega) hmxe (by omega) ?_
    · rcases hre : real (hd)
      · obtain ⟨q1, q2⟩ := hreal hre
        exact .inl ⟨q2, List.map_eq_nil_iff.mp q1⟩
      · refine .inr ?_
        rw [triSide_snoc, sideIf, hre]
        exact List.mem_append_right _ (List.mem_singleton_self _)
    rw [jblk_normal, jgo_normal]
    refine jwp_le (st' := mkSt [(0, .one (.im 3 (rels l))), (1, .sc (.string s)), (4, .one (.vad 1000 0)), (5, .sc (.bool false)), (11, .one (.vad 2664 0)), (37, .one (.ref 960 1 0 ws.length)), (38, .sc (.int .i64 (ws.length : Nat))), (39, .sc (.int .i64 (L.length : Nat)))] [(1000, zQ3), (2664, [.sc (.int .i64 (newV m0 mx)), .ref 962 2 0 (L.length + 1), .ref 961 1 0 (trT a).length])] [(960, (1, txs ws)), (961, (1, ints (trT a))), (962, (2, rowsO (L ++ [(.int .i64 (relIx l (w.extract 0 1)), hd, iv X)])))] 40000) (le_st' _ _ [⟨960, some _, false, 1, _⟩, ⟨961, some _, false, 1, _⟩, ⟨962, some _, false, 2, _⟩] [] _ (by simp -implicitDefEqProofs (maxSteps := 2000000) only [go_sem, false_and, and_false, if_false, Nat.reduceLeDiff] <;> and_intros <;> rfl) (by simp -implicitDefEqProofs (maxSteps := 2000000) only [go_sem, false_and, and_false, if_false, Nat.reduceLeDiff] <;> and_intros <;> rfl) (by simp -implicitDefEqProofs (maxSteps := 2000000) only [go_sem, false_and, and_false, if_false, Nat.reduceLeDiff] <;> and_intros <;> rfl) (by rfl)) ?_
    refine jwp_awp mixed (by kernel_rfl) ?_
    simp -implicitDefEqProofs (maxSteps := 2000000) only [go_sem, wi]
    refine ⟨L ++ [(.int .i64 (relIx l (w.extract 0 1)), hd, iv X)], ⟨by simp; omega, ?_, ?_, ?_⟩, by simp; omega, rfl, (le_st' _ _ [⟨960, some _, false, 1, _⟩, ⟨961, some _, false, 1, _⟩, ⟨962, some _, false, 2, _⟩] [] _ (by simp -implicitDefEqProofs (maxSteps := 2000000) only [go_sem, List.length_append, List.length_singleton, hvs] <;> and_intros <;> rfl) (by simp -implicitDefEqProofs (maxSteps := 2000000) only [go_sem, List.length_append, List.length_singleton, hvs] <;> and_intros <;> rfl) (by simp -implicitDefEqProofs (maxSteps := 2000000) only [go_sem, List.length_append, List.length_singleton, hvs] <;> and_intros <;> rfl) (by rfl))⟩
    · intro p hp
      rcases List.mem_append.mp hp with hp | hp
      · exact hL.tri p hp
      · rw [List.mem_singleton.mp hp]; exact hreal
    · rw [List.length_append, List.length_singleton]
      exact hokk hwk
    · rw [List.length_append, List.length_singleton, List.map_append, hL.eq, hta]; rfl
end Go.Proofs.YtedciihjgbkjgacGreatDoor.A


/- A QUERY READ: the two readings agree. Conditions: none. -/
namespace Go.Proofs.YtedciihjgbkjgacGreatDoor.A
open Go
set_option linter.unusedSimpArgs false
set_option linter.unusedVariables false
set_option maxRecDepth 100000

/-! #### a text cut at a sign -/
theorem byA_at {s : ByteArray} {i : Nat} (h : i < s.size) : s.data.toList.getD i 0 ∈ s.data.toList := mem_getD (0 : UInt8) (by rw [← size_data]; exact h)
theorem byA_ne {s : ByteArray} {c : UInt8} (h : ¬ hasB s c) {i : Nat} (hi : i < s.size) : byA s i ≠ c.toNat := by
  intro e
  have h1 := byA_at hi
  rw [UInt8.toNat_inj.mp (show (s.data.toList.getD i 0).toNat = c.toNat from e)] at h1
  exact h h1
theorem spl_no {s : ByteArray} {c : UInt8} : ∀ {n : Nat}, (∀ i, i < n → byA s i ≠ c.toNat) → splO s c.toNat n = [] ∧ splA s c.toNat n = 0
  | 0, _ => ⟨rfl, rfl⟩
  | n + 1, h => by
    have h1 := spl_no (n := n) fun i hi => h i (by omega)
    have h2 := h n (by omega)
    rw [splO, splA, if_neg h2, if_neg h2]
    exact h1
theorem ext_data (s : ByteArray) (i j : Nat) : (s.extract i j).data.toList = (s.data.toList.drop i).take (j - i) := by
  rw [ByteArray.data_extract, Array.toList_extract]
theorem ext_all (s : ByteArray) : s.extract 0 s.size = s := by
  apply byt_eq
  rw [ext_data, List.drop_zero, Nat.sub_zero, size_data, List.take_length]
theorem splS_no {s : ByteArray} {c : UInt8} (h : ¬ hasB s c) : splS s c.toNat = [s] := by
  obtain ⟨h1, h2⟩ := spl_no (c := c) (n := s.size) fun i hi => byA_ne h hi
  unfold splS
  rw [h1, h2, ext_all]; rfl
theorem cut_drop (a b : ByteArray) (c : UInt8) (x : Nat) : (a ++ oneB c ++ b).data.toList.drop (a.size + 1 + x) = b.data.toList.drop x := by
  rw [byt_app, byt_app, List.append_assoc, show (oneB c).data.toList ++ b.data.toList = c :: b.data.toList from rfl, size_data, List.drop_append, List.drop_of_length_le (by omega), List.nil_append,
    show a.data.toList.length + 1 + x - a.data.toList.length = x + 1 by omega, List.drop_succ_cons]
theorem cut_by (a b : ByteArray) (c : UInt8) (j : Nat) : byA (a ++ oneB c ++ b) (a.size + 1 + j) = byA b j := by
  have h := cut_drop a b c j
  have e1 : ((a ++ oneB c ++ b).data.toList.drop (a.size + 1 + j))[0]? = (a ++ oneB c ++ b).data.toList[a.size + 1 + j]? := by rw [List.getElem?_drop, Nat.add_zero]
  unfold byA
  rw [List.getD_eq_getElem?_getD, ← e1, h, List.getElem?_drop, Nat.add_zero, ← List.getD_eq_getElem?_getD]
theorem cut_ext (a b : ByteArray) (c : UInt8) (x y : Nat) : (a ++ oneB c ++ b).extract (a.size + 1 + x) (a.size + 1 + y) = b.extract x y := by
  apply byt_eq
  rw [ext_data, ext_data, cut_drop, show a.size + 1 + y - (a.size + 1 + x) = y - x by omega]
theorem cut_at (a b : ByteArray) (c : UInt8) : byA (a ++ oneB c ++ b) a.size = c.toNat := by
  unfold byA
  rw [byt_app, byt_app, List.append_assoc, show (oneB c).data.toList ++ b.data.toList = c :: b.data.toList from rfl, size_data]
  simp [List.getD_eq_getElem?_getD]
theorem cut_lo (a b : ByteArray) (c : UInt8) {i : Nat} (h : i < a.size) : byA (a ++ oneB c ++ b) i = byA a i := by
  unfold byA
  rw [byt_app, byt_app, List.append_assoc, List.getD_eq_getElem?_getD, List.getElem?_append_left (by rw [← size_data]; exact h), List.getD_eq_getElem?_getD]
theorem spl_cut {a b : ByteArray} {c : UInt8} (h : ¬ hasB a c) : ∀ j, splO (a ++ oneB c ++ b) c.toNat (a.size + 1 + j) = a :: splO b c.toNat j ∧ splA (a ++ oneB c ++ b) c.toNat (a.size + 1 + j) = a.size + 1 + splA b c.toNat j
  | 0 => by
    obtain ⟨h1, h2⟩ := spl_no (s := a ++ oneB c ++ b) (c := c) (n := a.size) fun i hi => by rw [cut_lo a b c hi]; exact byA_ne h hi
    show (if byA (a ++ oneB c ++ b) a.size = c.toNat then splO (a ++ oneB c ++ b) c.toNat a.size ++ [(a ++ oneB c ++ b).extract (splA (a ++ oneB c ++ b) c.toNat a.size) a.size] else _) = [a] ∧ (if byA (a ++ oneB c ++ b) a.size = c.toNat then a.size + 1 else _) = a.size + 1
    rw [if_pos (cut_at a b c), if_pos (cut_at a b c), h1, h2, ext_left]
    exact ⟨rfl, rfl⟩
  | j + 1 => by
    obtain ⟨h1, h2⟩ := spl_cut (b := b) h j
    rw [show a.size + 1 + (j + 1) = (a.size + 1 + j) + 1 by omega, splO, splA, cut_by, splO, splA, h1, h2]
    by_cases e : byA b j = c.toNat
    · rw [if_pos e, if_pos e, if_pos e, if_pos e, cut_ext]
      exact ⟨rfl, by omega⟩
    · rw [if_neg e, if_neg e, if_neg e, if_neg e]
      exact ⟨rfl, rfl⟩
theorem splS_cut {a b : ByteArray} {c : UInt8} (h : ¬ hasB a c) : splS (a ++ oneB c ++ b) c.toNat = a :: splS b c.toNat := by
  obtain ⟨h1, h2⟩ := spl_cut (b := b) h b.size
  unfold splS
  rw [cut3_size, h1, h2, cut_ext]; rfl
theorem splS_join {c : UInt8} : ∀ (ws : List ByteArray), ws ≠ [] → (∀ w ∈ ws, ¬ hasB w c) → splS (joinB ws (oneB c)) c.toNat = ws
  | [], h, _ => absurd rfl h
  | [w], _, h => by rw [joinB_one]; exact splS_no (h w (by simp))
  | w :: x :: r, _, h => by
    rw [joinB_cc, splS_cut (h w (by simp)), splS_join (x :: r) (by simp) fun y hy => h y (List.mem_cons_of_mem _ hy)]
theorem cut_uniq {a b a2 b2 : ByteArray} {c : UInt8} (h : ¬ hasB a c) (h2 : ¬ hasB a2 c) (e : a ++ oneB c ++ b = a2 ++ oneB c ++ b2) : a = a2 ∧ b = b2 := by
  have e1 := splS_cut (b := b) h
  rw [e, splS_cut h2] at e1
  obtain ⟨e2, -⟩ := List.cons.inj e1
  subst e2
  refine ⟨rfl, byt_eq ?_⟩
  have e3 := congrArg (fun x : ByteArray => x.data.toList) e
  simp only [byt_app] at e3
  exact List.append_cancel_left e3
/-! #### terms -/
theorem one_ext {s : ByteArray} {i : Nat} (h : i < s.size) : s.extract i (i + 1) = oneB (s.data.toList.getD i 0) := by
  apply byt_eq
  have hl : i < s.data.toList.length := by rw [← size_data]; exact h
  rw [ext_data, show i + 1 - i = 1 by omega, List.drop_eq_getElem_cons hl, List.take_succ_cons, List.take_zero, List.getD_eq_getElem?_getD, List.getElem?_eq_getElem hl]; rfl
theorem pT_one (c : UInt8) : pT (oneB c) = p1 c.toNat := rfl
theorem t1_eq {s : ByteArray} {i : Nat} (h : i < s.size) : t1 s i = (p1 (byA s i)).1 := by
  unfold t1; rw [one_ext h, pT_one]
theorem okU_eq {s : ByteArray} {i : Nat} (h : i < s.size) : okU s i = (barA s i || (p1 (byA s i)).2) := by
  unfold okU; rw [one_ext h, pT_one]
theorem upTo_tr {p : Nat → Bool} : ∀ {n : Nat}, (∀ k, k < n → p k = true) → upTo p n = true
  | 0, _ => rfl
  | n + 1, h => upTo_step (upTo_tr fun k hk => h k (by omega)) (h n (by omega))
theorem okT_of {s : ByteArray} (h : ∀ c ∈ s.data.toList, (p1 c.toNat).2 = true ∨ c = 124) : okT s = true := by
  refine upTo_tr fun k hk => ?_
  rw [okU_eq hk]
  rcases h _ (byA_at hk) with h | h
  · rw [show (p1 (byA s k)).2 = true from h, Bool.or_true]
  · have : barA s k = true := by
      unfold barA byA
      rw [h]; rfl
    rw [this, Bool.true_or]
abbrev tail (w : ByteArray) : ByteArray := w.extract 1 w.size
theorem tail_size (w : ByteArray) : (tail w).size = w.size - 1 := by rw [ByteArray.size_extract]; omega
theorem tail_by {w : ByteArray} {i : Nat} (h : i + 1 < w.size) : byA (tail w) i = byA w (i + 1) := by
  unfold byA
  rw [ext_data, List.getD_eq_getElem?_getD, List.getElem?_take, if_pos (by omega), List.getElem?_drop, List.getD_eq_getElem?_getD, Nat.add_comm 1 i]
theorem selT_word {w : ByteArray} : ∀ i, i + 1 ≤ w.size → selT (tail w) i = wordT w (i + 1)
  | 0, _ => by
    rw [wordT, if_pos (show skipT w 0 = true from rfl)]; rfl
  | i + 1, h => by
    have h1 := selT_word (w := w) i (by omega)
    have h2 := tail_by (w := w) (i := i) (by omega)
    have h3 := tail_size w
    have h4 : barA (tail w) i = skipT w (i + 1) := by
      unfold barA skipT
      rw [h2, decide_eq_false (show ¬ i + 1 = 0 by omega), Bool.false_or]
    rw [selT, wordT, h4, h1, t1_eq (by omega), t1_eq (s := w) (by omega), h2]
theorem wordR_eq (l : List Rel) (p : ByteArray) : ∀ k, wordR l p (k + 1) = relIx l (p.extract 0 1)
  | 0 => by rw [wordR, if_pos rfl]
  | k + 1 => by rw [wordR, if_neg (by omega), wordR_eq l p k]
theorem wok_of {w : ByteArray} (h : wok w = true) : 1 ≤ w.size ∧ okT (tail w) = true := by
  unfold wok at h
  rw [Bool.and_eq_true, Bool.not_eq_true', decide_eq_false_iff_not] at h
  refine ⟨?_, h.2⟩
  rcases Nat.lt_or_ge 0 w.size with h1 | h1
  · exact h1
  · refine absurd (bytes_eq ?_) h.1
    have : w.data.toList.length = 0 := by rw [← size_data]; omega
    exact List.length_eq_zero_iff.mp this
theorem trT_word {w : ByteArray} (h : wok w = true) : trT (tail w) = wordT w w.size := by
  obtain ⟨h1, h2⟩ := wok_of h
  unfold trT
  rw [if_pos h2, selT_word _ (by rw [tail_size]; omega), tail_size, show w.size - 1 + 1 = w.size by omega]
theorem wordA_eq {l : List Rel} {w : ByteArray} (h : wok w = true) : wordA l w = wat l w := by
  have h1 := (wok_of h).1
  unfold wordA wat
  rw [trT_word h, show w.size = (w.size - 1) + 1 by omega, wordR_eq]
theorem free_eq {a : ByteArray} (hb : ¬ hasB a 124) : ∀ i, i ≤ a.size → selT a i = freeT a i
  | 0, _ => rfl
  | i + 1, h => by
    have h1 : barA a i = false := decide_eq_false (byA_ne (c := 124) hb (by omega))
    rw [selT, freeT, h1, free_eq hb i (by omega)]; rfl
/-! #### the number of variables -/
def gT (m t : Int) : Int := if t + 1 > m then t + 1 else m
theorem gT_max (m t : Int) : gT m t = max m (t + 1) := by unfold gT; split <;> omega
theorem wordV_fold (p : ByteArray) (m : Int) : ∀ k, wordV p m k = (wordT p k).foldl gT m
  | 0 => rfl
  | k + 1 => by
    have h := wordV_fold p m k
    rw [wordV, wordT]
    split
    · exact h
    · rw [List.foldl_append, ← h]; rfl
theorem max_fold (m : Int) : ∀ (r : List Int) (x : Int), r.foldl gT (max m (x + 1)) = max m (r.foldl max x + 1)
  | [], x => rfl
  | t :: r, x => by
    rw [List.foldl_cons, List.foldl_cons, gT_max, ← max_fold m r (max x t)]
    congr 1
    omega
theorem newV_fold {m : Int} (hm : 0 ≤ m) : ∀ (ts : List Int), newV m (Lib.maxOf (ts ++ [-1])) = ts.foldl gT m
  | [] => by
    show max m ((-1 : Int) + 1) = m
    omega
  | t :: r => by
    have e : Lib.maxOf (t :: r ++ [-1]) = max (r.foldl max t) (-1) := by
      show List.foldl max t (t :: (r ++ [-1])) = _
      rw [List.foldl_cons, List.foldl_append, show max t t = t from Int.max_self t]; rfl
    rw [e, List.foldl_cons, gT_max, max_fold]
    unfold newV
    omega
theorem allV_eq {ws : List ByteArray} (h : ∀ w ∈ ws, wok w = true) : ∀ i, i ≤ ws.length → allV ws i = vcI ws i
  | 0, _ => rfl
  | i + 1, hi => by
    have h1 := allV_eq h i (by omega)
    have h2 := h _ (mem_getD (⟨#[]⟩ : ByteArray) (show i < ws.length from hi))
    rw [allV, vcI, h1, wordV_fold]
    unfold mxT
    rw [newV_fold (vcI_bnd ws i).1, trT_word h2]
/-- What the two readings have alike. -/
theorem read_eq {l : List Rel} {a b : ByteArray} {ws : List ByteArray} (ha : ¬ hasB a 63) (ha2 : ¬ hasB a 124) (ho : okT a = true) (hb : ¬ hasB b 63) (hne : ws ≠ []) (hj : b = joinB ws (oneB 32)) (hw : ∀ w ∈ ws, ¬ hasB w 32) (hk : ∀ w ∈ ws, wok w = true) :
    (splS (a ++ oneB 63 ++ b) 63).length = 2 ∧ readQ l (a ++ oneB 63 ++ b) = impQ l a ws := by
  have h1 : splS (a ++ oneB 63 ++ b) 63 = [a, b] := by
    have := splS_cut (b := b) ha
    rw [splS_no hb] at this
    exact this
  have h2 : splS b 32 = ws := by rw [hj]; exact splS_join ws hne hw
  refine ⟨by rw [h1]; rfl, ?_⟩
  unfold readQ impQ
  rw [h1]
  show (⟨allV (splS b 32) (splS b 32).length, allA l (splS b 32) (splS b 32).length, freeT a a.size⟩ : Qu) = _
  rw [h2, allV_eq hk _ (Nat.le_refl _), ← free_eq ha2 _ (Nat.le_refl _)]
  unfold allA trT
  rw [List.take_length, if_pos ho]
  congr 1
  exact List.map_congr_left fun w hw => wordA_eq (hk w hw)
end Go.Proofs.YtedciihjgbkjgacGreatDoor.A


/- A QUERY READ: the program's contract. Conditions: none. -/
namespace Go.Proofs.YtedciihjgbkjgacGreatDoor.A
open Go
set_option linter.unusedSimpArgs false
set_option linter.unusedVariables false
set_option maxRecDepth 100000

/-! #### the signs in a query's text -/
def okC (c : UInt8) : Prop := (p1 c.toNat).2 = true ∧ c ≠ 63 ∧ c ≠ 32 ∧ c ≠ 124
theorem letT_ok : ∀ k : Fin 14, isT ((k.val : Int) - 10) = true ∧ (p1 (letT ((k.val : Int) - 10)).toNat).2 = true ∧ letT ((k.val : Int) - 10) ≠ 63 ∧ letT ((k.val : Int) - 10) ≠ 32 ∧ letT ((k.val : Int) - 10) ≠ 124 := by decide +kernel
theorem fmt_ok {t : Int} (h : -10 ≤ t ∧ t ≤ 3) : fmtT t = oneB (letT t) ∧ okC (letT t) := by
  have := letT_ok ⟨(t + 10).toNat, by omega⟩
  rw [show ((⟨(t + 10).toNat, by omega⟩ : Fin 14).val : Int) - 10 = t by show (((t + 10).toNat : Nat) : Int) - 10 = t; omega] at this
  refine ⟨?_, this.2⟩
  unfold fmtT
  rw [if_pos this.1]
theorem catT_cons (t : Int) : ∀ ts : List Int, catT (t :: ts) = fmtT t ++ catT ts
  | [] => by
    show joinB [fmtT t] noB = fmtT t ++ catT []
    rw [joinB_one, catT_nil, app_noB]
  | x :: r => by
    show joinB (fmtT t :: fmtT x :: r.map fmtT) noB = _
    rw [joinB_cc, app_noB]; rfl
theorem catT_ok : ∀ {ts : List Int}, (∀ t ∈ ts, -10 ≤ t ∧ t ≤ 3) → ∀ c ∈ (catT ts).data.toList, okC c
  | [], _, c, hc => by rw [catT_nil] at hc; cases hc
  | t :: ts, h, c, hc => by
    obtain ⟨h1, h2⟩ := fmt_ok (h t (by simp))
    rw [catT_cons, byt_app, h1] at hc
    rcases List.mem_append.mp hc with hc | hc
    · rw [List.mem_singleton.mp (show c ∈ [letT t] from hc)]; exact h2
    · exact catT_ok (fun x hx => h x (List.mem_cons_of_mem _ hx)) c hc
theorem barT_ok {ts : List Int} {n : Nat} (h : ∀ t ∈ ts, -10 ≤ t ∧ t ≤ 3) : ∀ c ∈ (barT ts n).data.toList, okC c ∨ c = 124 := by
  intro c hc
  unfold barT at hc
  split at hc
  · rw [byt_app, byt_app] at hc
    rcases List.mem_append.mp hc with hc | hc
    · exact .inl (catT_ok (fun t ht => h t (List.mem_of_mem_take ht)) c hc)
    · rcases List.mem_append.mp hc with hc | hc
      · exact .inr (List.mem_singleton.mp (show c ∈ [(124 : UInt8)] from hc))
      · exact .inl (catT_ok (fun t ht => h t (List.mem_of_mem_drop ht)) c hc)
  · exact .inl (catT_ok (fun t ht => h t (List.mem_of_mem_take ht)) c hc)
theorem tail_app {a b : ByteArray} (h : a.size = 1) : tail (a ++ b) = b := by
  apply byt_eq
  rw [ext_data, byt_app, size_data, byt_app]
  rw [size_data] at h
  rcases e : a.data.toList with _ | ⟨x, _ | ⟨_, _⟩⟩
  · rw [e] at h; simp at h
  · simp
    rw [size_data, List.take_length]
  · rw [e] at h; simp at h
/-- What a good query's texts are. -/
theorem text_ok {l : List Rel} {q : Qu} (g : goodQu l q = true) : ∀ w ∈ qTexts l q, wok w = true ∧ ¬ hasB w 63 ∧ ¬ hasB w 32 := by
  intro w hw
  obtain ⟨a, ha, rfl⟩ := List.mem_map.mp hw
  obtain ⟨i, hi, e⟩ := List.mem_iff_getElem.mp ha
  obtain ⟨n, k, G⟩ := goodAt_of g hi
  have e2 : q.atoms.getD i default = a := by simp [List.getD_eq_getElem?_getD, hi, e]
  rw [e2] at G
  have hname : ∃ c : UInt8, (l.getD n default).name = oneB c ∧ c ≠ 63 ∧ c ≠ 32 := by
    have g2 := g
    unfold goodQu goodRels at g2
    simp only [Bool.and_eq_true] at g2
    have h3 := upTo_at g2.1.1 G.hn
    unfold relOk goodRel at h3
    simp only [Bool.and_eq_true, decide_eq_true_eq] at h3
    have h4 := h3.1.2.1
    have hb := byt_one G.sn
    refine ⟨_, hb, ?_, ?_⟩
    · rintro e
      have : n0 (l.getD n default) = 63 := by
        unfold n0
        show ((chr0 (l.getD n default).name).toNat : Int) = 63
        rw [e]; rfl
      omega
    · rintro e
      have : n0 (l.getD n default) = 32 := by
        unfold n0
        show ((chr0 (l.getD n default).name).toNat : Int) = 32
        rw [e]; rfl
      omega
  obtain ⟨c, hc, hc1, hc2⟩ := hname
  have hB := barT_ok (n := k) G.ht
  have hT : atomText l a = oneB c ++ barT a.l k := by
    unfold atomText
    rw [G.r, Int.toNat_natCast, G.kl, Int.toNat_natCast, hc]
  rw [hT]
  have hmem : ∀ x ∈ (oneB c ++ barT a.l k).data.toList, x ≠ 63 ∧ x ≠ 32 := by
    intro x hx
    rw [byt_app] at hx
    rcases List.mem_append.mp hx with hx | hx
    · rw [List.mem_singleton.mp (show x ∈ [c] from hx)]; exact ⟨hc1, hc2⟩
    · rcases hB x hx with h | h
      · exact ⟨h.2.1, h.2.2.1⟩
      · rw [h]; decide
  refine ⟨?_, fun h => (hmem _ h).1 rfl, fun h => (hmem _ h).2 rfl⟩
  unfold wok
  rw [Bool.and_eq_true, Bool.not_eq_true', decide_eq_false_iff_not]
  refine ⟨fun e => ?_, ?_⟩
  · have := congrArg ByteArray.size e
    rw [app_size] at this
    have h1 : (oneB c).size = 1 := rfl
    have h2 : (⟨#[]⟩ : ByteArray).size = 0 := rfl
    omega
  · show okT (tail (oneB c ++ barT a.l k)) = true
    rw [tail_app rfl]
    refine okT_of fun x hx => ?_
    rcases hB x hx with h | h
    · exact .inl h.1
    · exact .inr h
theorem join_no {c : UInt8} {x : UInt8} (hx : x ≠ c) : ∀ (ws : List ByteArray), (∀ w ∈ ws, ¬ hasB w c) → ¬ hasB (joinB ws (oneB x)) c
  | [], _ => by rw [joinB_nil]; intro h; cases h
  | [w], h => by rw [joinB_one]; exact h w (by simp)
  | w :: y :: r, h => by
    rw [joinB_cc]
    unfold hasB
    rw [byt_app, byt_app]
    intro hm
    rcases List.mem_append.mp hm with hm | hm
    · rcases List.mem_append.mp hm with hm | hm
      · exact h w (by simp) hm
      · exact hx (List.mem_singleton.mp (show c ∈ [x] from hm)).symm
    · exact join_no hx (y :: r) (fun z hz => h z (List.mem_cons_of_mem _ hz)) hm
/-- A good query's text, cut. -/
theorem quText_cut {l : List Rel} {q : Qu} {a b : ByteArray} (ha : ¬ hasB a 63) (h : quText l q = a ++ oneB 63 ++ b) :
    goodQu l q = true ∧ b = joinB (qTexts l q) (oneB 32) ∧ ¬ hasB a 124 ∧ okT a = true ∧ ¬ hasB b 63 ∧ q.atoms ≠ [] := by
  rcases g : goodQu l q
  · unfold quText at h
    rw [g] at h
    have := congrArg ByteArray.size h
    rw [cut3_size] at this
    have h2 : noB.size = 0 := rfl
    simp only [Bool.false_eq_true, if_false] at this
    omega
  unfold quText at h
  rw [g, if_pos rfl] at h
  have hf := catT_ok (goodFree g)
  have hno : ¬ hasB (catT q.free) 63 := fun hm => (hf _ hm).2.1 rfl
  obtain ⟨h1, h2⟩ := cut_uniq hno ha h
  subst h1
  refine ⟨rfl, h2.symm, fun hm => (hf _ hm).2.2.2 rfl, okT_of fun c hc => .inl (hf c hc).1, ?_, ?_⟩
  · rw [← h2]
    exact join_no (by decide) _ fun w hw => (text_ok g w hw).2.1
  · have := (goodQu_parts g).2.1
    intro e
    rw [e] at this
    simp at this
theorem texts_ne {l : List Rel} {q : Qu} (h : q.atoms ≠ []) : qTexts l q ≠ [] := by
  unfold qTexts atTs
  simpa using h
/-- THE TWO READINGS AGREE. -/
theorem readings {l : List Rel} {a b : ByteArray} {ws : List ByteArray} (ha : ¬ hasB a 63) (hw : (b = noB ∧ ws = []) ∨ (ws ≠ [] ∧ b = joinB ws (oneB 32) ∧ ∀ w ∈ ws, ¬ hasB w 32)) :
    okI l (a ++ oneB 63 ++ b) a ws = okQ l (a ++ oneB 63 ++ b) ∧ (okI l (a ++ oneB 63 ++ b) a ws = true → readQ l (a ++ oneB 63 ++ b) = impQ l a ws) := by
  have k1 : okI l (a ++ oneB 63 ++ b) a ws = true → okQ l (a ++ oneB 63 ++ b) = true ∧ readQ l (a ++ oneB 63 ++ b) = impQ l a ws := by
    intro h
    unfold okI at h
    simp only [Bool.and_eq_true, decide_eq_true_eq, List.all_eq_true] at h
    obtain ⟨h1, h2, h3⟩ := h
    obtain ⟨g1, g2, g3, g4, g5, g6⟩ := quText_cut ha h3
    have hne : ws ≠ [] := by
      intro e
      refine g6 ?_
      show ws.map (wat l) = []
      rw [e]; rfl
    obtain ⟨-, e⟩ | ⟨-, hj, hn⟩ := hw
    · exact absurd e hne
    obtain ⟨r1, r2⟩ := read_eq (l := l) ha g3 h1 g5 hne hj hn h2
    refine ⟨?_, r2⟩
    unfold okQ
    rw [r2, decide_eq_true r1, decide_eq_true h3]; rfl
  have k2 : okQ l (a ++ oneB 63 ++ b) = true → okI l (a ++ oneB 63 ++ b) a ws = true := by
    intro h
    unfold okQ at h
    simp only [Bool.and_eq_true, decide_eq_true_eq] at h
    obtain ⟨h1, h3⟩ := h
    obtain ⟨g1, g2, g3, g4, g5, g6⟩ := quText_cut ha h3
    have ht := text_ok g1
    have hne : ws ≠ [] := by
      intro e
      obtain ⟨e1, -⟩ | ⟨e1, -⟩ := hw
      · have h5 := splS_join (c := 32) (qTexts l (readQ l (a ++ oneB 63 ++ b))) (texts_ne g6) (fun w hw => (ht w hw).2.2)
        rw [← g2] at h5
        have h9 : splS b (32 : UInt8).toNat = [b] := splS_no (by rw [e1]; intro hm; cases hm)
        have h10 := h9.symm.trans h5
        have h6 := (ht b (by rw [← h10]; simp)).1
        have := (wok_of h6).1
        have h7 : b.size = 0 := by rw [e1]; rfl
        omega
      · exact e1 e
    obtain ⟨-, e⟩ | ⟨-, hj, hn⟩ := hw
    · exact absurd e hne
    have hws : ws = qTexts l (readQ l (a ++ oneB 63 ++ b)) := by
      have e1 := splS_join (c := 32) ws hne hn
      have e2 := splS_join (c := 32) (qTexts l (readQ l (a ++ oneB 63 ++ b))) (texts_ne g6) (fun w hw => (ht w hw).2.2)
      rw [← hj, g2, e2] at e1
      exact e1.symm
    have hk : ∀ w ∈ ws, wok w = true := fun w hw => (ht w (by rw [← hws]; exact hw)).1
    obtain ⟨r1, r2⟩ := read_eq (l := l) ha g3 g4 g5 hne hj hn hk
    unfold okI
    rw [← r2, decide_eq_true h3, g4, List.all_eq_true.mpr hk]; rfl
  refine ⟨?_, fun h => (k1 h).2⟩
  rcases e1 : okI l (a ++ oneB 63 ++ b) a ws <;> rcases e2 : okQ l (a ++ oneB 63 ++ b)
  · rfl
  · rw [k2 e2] at e1; cases e1
  · rw [(k1 e1).1] at e2; cases e2
  · rfl
theorem implParseQuery_sat (l : List Rel) (s : ByteArray) (hl : l.length ≤ 9223372036854775807) (h : s.size ≤ 1048576) : Sat Tryz.prog 6 [lRels l, lStr s] [oQu (parQ l s), lBool (okQ l s)] [g1, g1] := by
  by_cases hb : hasB s 63
  case neg =>
    have e : okQ l s = false := by
      unfold okQ
      rw [show splS s 63 = [s] from splS_no hb]; rfl
    unfold parQ
    rw [e]
    exact implParse_no l s hl h hb
  obtain ⟨a, b, rfl, ha⟩ := first_B hb
  have hz := cut3_size a b 63
  have key : ∀ ws : List ByteArray, ((b = noB ∧ ws = []) ∨ (ws ≠ [] ∧ b = joinB ws (oneB 32) ∧ ∀ w ∈ ws, ¬ hasB w 32)) → Sat Tryz.prog 18 [lStr b] [.one (.ow 1 (txs ws))] [g1] → ws.length ≤ 1048576 → (∀ w ∈ ws, w.size ≤ 1048576) →
      Sat Tryz.prog 6 [lRels l, lStr (a ++ oneB 63 ++ b)] [oQu (parQ l (a ++ oneB 63 ++ b)), lBool (okQ l (a ++ oneB 63 ++ b))] [g1, g1] := by
    intro ws hw hs hwl hwm
    have h1 := implParse_yes l a b ws hl ha h hs hwl hwm
    obtain ⟨r1, r2⟩ := readings (l := l) ha hw
    have e : (if okI l (a ++ oneB 63 ++ b) a ws then impQ l a ws else noQ) = parQ l (a ++ oneB 63 ++ b) := by
      unfold parQ
      rw [← r1]
      split
      · rename_i hh; rw [r2 hh]
      · rfl
    rw [e, r1] at h1
    exact h1
  by_cases h0 : b = noB
  · subst h0
    exact key [] (.inl ⟨rfl, rfl⟩) implWords_none (by simp) (by intro w hw; cases hw)
  · obtain ⟨ws, h1, h2, h3⟩ := words_of 32 b.size b (Nat.le_refl _)
    have hbz : 0 < b.size := by
      rcases Nat.lt_or_ge 0 b.size with h | h
      · exact h
      · refine absurd (bytes_eq ?_) h0
        have : b.data.toList.length = 0 := by rw [← size_data]; omega
        exact List.length_eq_zero_iff.mp this
    have h4 := words_size 32 ws
    have hs := implWords_sat ws h3 (by rw [← h2]; exact hbz) (by rw [← h2]; omega)
    rw [← h2] at hs h4
    refine key ws (.inr ⟨h1, h2, h3⟩) hs (by omega) fun w hw => ?_
    have e := splS_join (c := 32) ws h1 h3
    rw [← h2] at e
    have := splS_mem b 32 w (by rw [show splS b 32 = ws from e]; exact hw)
    omega
end Go.Proofs.YtedciihjgbkjgacGreatDoor.A


/- A QUERY'S TEXT, READ: what comes back. Conditions: none. -/
namespace Go.Proofs.YtedciihjgbkjgacGreatDoor.A
open Go
set_option linter.unusedSimpArgs false
set_option linter.unusedVariables false
set_option maxRecDepth 100000

/-! #### terms -/
theorem selT_bytes (s : ByteArray) : ∀ i, i ≤ s.size → selT s i = ((s.data.toList.take i).filter (fun c => decide (c ≠ 124))).map fun c => (p1 c.toNat).1
  | 0, _ => by rw [List.take_zero]; rfl
  | i + 1, h => by
    have hi : i < s.data.toList.length := by rw [← size_data]; exact h
    have ih := selT_bytes s i (by omega)
    rw [selT, ih, take_snoc (0 : UInt8) hi, List.filter_append, List.map_append, t1_eq (by omega)]
    by_cases e : s.data.toList.getD i 0 = 124
    · have hb : barA s i = true := by
        unfold barA byA
        rw [e]; rfl
      rw [hb, if_pos rfl, e]
      exact (List.append_nil _).symm
    · have hb : barA s i = false := by
        refine decide_eq_false fun h2 => e ?_
        exact UInt8.toNat_inj.mp (show (s.data.toList.getD i 0).toNat = (124 : UInt8).toNat from h2)
      rw [hb]
      simp only [Bool.false_eq_true, if_false]
      congr 1
      rw [List.filter_cons_of_pos (by simpa using e)]; rfl
theorem letT_val : ∀ k : Fin 14, (p1 (letT ((k.val : Int) - 10)).toNat).1 = (k.val : Int) - 10 := by decide +kernel
theorem letT_back {t : Int} (h : -10 ≤ t ∧ t ≤ 3) : (p1 (letT t).toNat).1 = t := by
  have := letT_val ⟨(t + 10).toNat, by omega⟩
  rwa [show ((⟨(t + 10).toNat, by omega⟩ : Fin 14).val : Int) - 10 = t by show (((t + 10).toNat : Nat) : Int) - 10 = t; omega] at this
theorem catT_bytes : ∀ {ts : List Int}, (∀ t ∈ ts, -10 ≤ t ∧ t ≤ 3) → (catT ts).data.toList = ts.map letT
  | [], _ => by rw [catT_nil]; rfl
  | t :: ts, h => by
    rw [catT_cons, byt_app, (fmt_ok (h t (by simp))).1, catT_bytes fun x hx => h x (List.mem_cons_of_mem _ hx)]; rfl
theorem sel_lets : ∀ {ts : List Int}, (∀ t ∈ ts, -10 ≤ t ∧ t ≤ 3) → ((ts.map letT).filter (fun c => decide (c ≠ 124))).map (fun c => (p1 c.toNat).1) = ts
  | [], _ => rfl
  | t :: ts, h => by
    have h1 := h t (by simp)
    rw [List.map_cons, List.filter_cons_of_pos (by simpa using (fmt_ok h1).2.2.2.2), List.map_cons, letT_back h1, sel_lets fun x hx => h x (List.mem_cons_of_mem _ hx)]
theorem trT_bytes {s : ByteArray} (h : okT s = true) : trT s = (s.data.toList.filter (fun c => decide (c ≠ 124))).map fun c => (p1 c.toNat).1 := by
  unfold trT
  rw [if_pos h, selT_bytes s _ (Nat.le_refl _), size_data, List.take_length]
theorem trT_cat {ts : List Int} (h : ∀ t ∈ ts, -10 ≤ t ∧ t ≤ 3) : trT (catT ts) = ts := by
  rw [trT_bytes (okT_of fun c hc => .inl (catT_ok h c hc).1), catT_bytes h, sel_lets h]
theorem trT_bar {ts : List Int} {n : Nat} (h : ∀ t ∈ ts, -10 ≤ t ∧ t ≤ 3) : trT (barT ts n) = ts := by
  have h1 : ∀ t ∈ ts.take n, -10 ≤ t ∧ t ≤ 3 := fun t ht => h t (List.mem_of_mem_take ht)
  have h2 : ∀ t ∈ ts.drop n, -10 ≤ t ∧ t ≤ 3 := fun t ht => h t (List.mem_of_mem_drop ht)
  rw [trT_bytes (okT_of fun c hc => (barT_ok h c hc).imp (fun h => h.1) (fun h => h))]
  unfold barT
  split
  · rw [byt_app, byt_app, catT_bytes h1, catT_bytes h2, List.filter_append, List.map_append, List.filter_append, List.map_append, sel_lets h1, sel_lets h2,
      show barB.data.toList.filter (fun c => decide (c ≠ 124)) = [] from rfl, List.map_nil, List.nil_append, List.take_append_drop]
  · rename_i hn
    rw [catT_bytes h1, sel_lets h1, List.take_of_length_le (by omega)]
/-! #### the place of a name -/
theorem n0_one {r : Rel} (h : goodRel r = true) : r.name = oneB (chr0 r.name) := by
  unfold goodRel at h
  simp only [Bool.and_eq_true, beq_iff_eq] at h
  exact byt_one (by have := h.1; omega)
theorem less_one (x y : UInt8) : Op.bytesLess [x] [y] = decide (x < y) := by
  unfold Op.bytesLess
  simp [Op.bytesLess]
theorem rel_good {l : List Rel} (g : goodRels l = true) {i : Nat} (hi : i < l.length) : goodRel (l.getD i default) = true := by
  unfold goodRels at g
  rw [Bool.and_eq_true] at g
  have := upTo_at g.1 hi
  unfold relOk at this
  rw [Bool.and_eq_true] at this
  exact this.1
theorem rel_step {l : List Rel} (g : goodRels l = true) {i : Nat} (hi : i + 1 < l.length) : chr0 (l.getD i default).name < chr0 (l.getD (i + 1) default).name := by
  have h1 := n0_one (rel_good g (show i < l.length by omega))
  have h2 := n0_one (rel_good g hi)
  unfold goodRels at g
  rw [Bool.and_eq_true] at g
  have := upTo_at g.1 hi
  unfold relOk at this
  simp only [Bool.and_eq_true, Bool.or_eq_true, decide_eq_true_eq, Nat.add_sub_cancel] at this
  rcases this.2 with h | h
  · omega
  · rw [h1, h2, Lib.toList_data, Lib.toList_data] at h
    have h3 : Op.bytesLess [chr0 (l.getD i default).name] [chr0 (l.getD (i + 1) default).name] = true := h
    rw [less_one] at h3
    exact of_decide_eq_true h3
theorem rel_lt {l : List Rel} (g : goodRels l = true) (i : Nat) : ∀ d, i + (d + 1) < l.length → (chr0 (l.getD i default).name).toNat < (chr0 (l.getD (i + (d + 1)) default).name).toNat
  | 0, h => UInt8.lt_iff_toNat_lt.mp (rel_step g h)
  | d + 1, h => Nat.lt_trans (rel_lt g i d (by omega)) (UInt8.lt_iff_toNat_lt.mp (rel_step g (i := i + (d + 1)) h))
theorem rel_inj {l : List Rel} (g : goodRels l = true) {i j : Nat} (hi : i < l.length) (hj : j < l.length) (e : (l.getD i default).name = (l.getD j default).name) : i = j := by
  rcases Nat.lt_trichotomy i j with h | h | h
  · have := rel_lt g i (j - i - 1) (by omega)
    rw [show i + (j - i - 1 + 1) = j by omega, e] at this
    omega
  · exact h
  · have := rel_lt g j (i - j - 1) (by omega)
    rw [show j + (i - j - 1 + 1) = i by omega, e] at this
    omega
theorem first_at {p : Nat → Bool} {n : Nat} (hn : p n = false) : ∀ (m k : Nat), k + m > n → k ≤ n → (∀ j, k ≤ j → j < n → p j = true) → firstNo p m k = n
  | 0, k, h1, h2, _ => by omega
  | m + 1, k, h1, h2, h3 => by
    unfold firstNo
    by_cases e : k = n
    · subst e; rw [hn]; rfl
    · rw [h3 k (Nat.le_refl _) (by omega), if_pos rfl]
      exact first_at hn m (k + 1) (by omega) (by omega) fun j hj => h3 j (by omega)
theorem relIx_at {l : List Rel} (g : goodRels l = true) {n : Nat} (hn : n < l.length) : relIx l (l.getD n default).name = n := by
  unfold relIx
  refine first_at ?_ _ _ (by omega) (by omega) fun j _ hj => ?_
  · unfold nameNo
    rw [decide_eq_true rfl]; rfl
  · unfold nameNo
    rw [decide_eq_false fun e => ?_]; rfl
    have := rel_inj g (show j < l.length by omega) hn e
    omega
/-! #### an atom's text, read -/
theorem wat_text {l : List Rel} {q : Qu} (g : goodQu l q = true) {a : RI} {n k : Nat} (G : GoodAt l a n k) : wat l (atomText l a) = a := by
  have gr : goodRels l = true := by
    unfold goodQu at g
    rw [Bool.and_eq_true] at g
    exact g.1
  have hT : atomText l a = (l.getD n default).name ++ barT a.l k := by
    unfold atomText
    rw [G.r, Int.toNat_natCast, G.kl, Int.toNat_natCast]
  have h1 : (atomText l a).extract 0 1 = (l.getD n default).name := by
    rw [hT]
    apply byt_eq
    have hs := G.sn
    rw [size_data] at hs
    rw [ext_data, byt_app, List.drop_zero, Nat.sub_zero, List.take_append_of_le_length (by omega), List.take_of_length_le (by omega)]
  have h2 : tail (atomText l a) = barT a.l k := by rw [hT]; exact tail_app G.sn
  unfold wat
  show (⟨relIx l ((atomText l a).extract 0 1), trT (tail (atomText l a))⟩ : RI) = a
  rw [h1, h2, trT_bar G.ht, relIx_at gr G.hn, ← G.r]
/-! #### the number of variables -/
theorem fold_ge (ts : List Int) : ∀ m : Int, m ≤ ts.foldl gT m ∧ ∀ t ∈ ts, t + 1 ≤ ts.foldl gT m := by
  induction ts with
  | nil => intro m; exact ⟨Int.le_refl _, fun t ht => by cases ht⟩
  | cons x r ih =>
    intro m
    obtain ⟨h1, h2⟩ := ih (gT m x)
    have h3 := gT_max m x
    rw [List.foldl_cons]
    refine ⟨by omega, fun t ht => ?_⟩
    rcases List.mem_cons.mp ht with rfl | ht
    · omega
    · exact h2 t ht
theorem fold_le (B : Int) (ts : List Int) : ∀ m : Int, m ≤ B → (∀ t ∈ ts, t + 1 ≤ B) → ts.foldl gT m ≤ B := by
  induction ts with
  | nil => intro m h _; exact h
  | cons x r ih =>
    intro m h h2
    have h3 := gT_max m x
    have h4 := h2 x (by simp)
    rw [List.foldl_cons]
    exact ih (gT m x) (by omega) fun t ht => h2 t (List.mem_cons_of_mem _ ht)
theorem vcI_step (ws : List ByteArray) (i : Nat) : vcI ws (i + 1) = (trT (tail (ws.getD i ⟨#[]⟩))).foldl gT (vcI ws i) := by
  rw [vcI]
  unfold mxT
  exact newV_fold (vcI_bnd ws i).1 _
theorem texts_get {l : List Rel} {q : Qu} {i : Nat} (h : i < q.atoms.length) : (qTexts l q).getD i ⟨#[]⟩ = atomText l (q.atoms.getD i default) := by
  unfold qTexts atTs
  simp [List.getD_eq_getElem?_getD, h]
set_option maxHeartbeats 4000000 in
theorem vc_read {l : List Rel} {q : Qu} (g : goodQu l q = true) : vcI (qTexts l q) (qTexts l q).length = q.vc := by
  have hlen : (qTexts l q).length = q.atoms.length := by unfold qTexts atTs; rw [List.length_map]
  have hp := goodQu_parts g
  have hterm : ∀ i, i < q.atoms.length → trT (tail ((qTexts l q).getD i ⟨#[]⟩)) = (q.atoms.getD i default).l := by
    intro i hi
    obtain ⟨n, k, G⟩ := goodAt_of g hi
    rw [texts_get hi]
    have h5 := congrArg RI.l (wat_text g G)
    unfold wat at h5
    exact h5
  have hle : ∀ i, i < q.atoms.length → ∀ t ∈ (q.atoms.getD i default).l, t + 1 ≤ q.vc := by
    intro i hi t ht
    have h1 := goodQu_at g hi
    unfold atomOk at h1
    simp only [Bool.and_eq_true] at h1
    obtain ⟨j, hj, rfl⟩ := getD_inQ ht
    have h2 := upTo_at h1.2.2 hj
    unfold termOk at h2
    have := inB_of h2
    omega
  have up : ∀ i, i ≤ q.atoms.length → vcI (qTexts l q) i ≤ q.vc := by
    intro i
    induction i with
    | zero => intro _; exact hp.1.1
    | succ i ih =>
      intro hi
      rw [vcI_step, hterm i hi]
      exact fold_le _ _ _ (ih (by omega)) (hle i hi)
  have mono : ∀ d i, i + d ≤ q.atoms.length → vcI (qTexts l q) i ≤ vcI (qTexts l q) (i + d) := by
    intro d
    induction d with
    | zero => intro i _; exact Int.le_refl _
    | succ d ih =>
      intro i h
      have h1 := ih i (by omega)
      rw [← Nat.add_assoc, vcI_step]
      have := (fold_ge (trT (tail ((qTexts l q).getD (i + d) ⟨#[]⟩))) (vcI (qTexts l q) (i + d))).1
      omega
  have low : ∀ v : Nat, (v : Int) < q.vc → (v : Int) + 1 ≤ vcI (qTexts l q) q.atoms.length := by
    intro v hv
    have g2 := g
    unfold goodQu at g2
    simp only [Bool.and_eq_true] at g2
    have h1 := upTo_at g2.2.2.2.2.2 (show v < q.vc.toNat by omega)
    unfold occurs at h1
    rw [List.take_length, List.any_eq_true] at h1
    obtain ⟨a, ha, hva⟩ := h1
    obtain ⟨i, hi, e⟩ := List.mem_iff_getElem.mp ha
    have e2 : q.atoms.getD i default = a := by simp [List.getD_eq_getElem?_getD, hi, e]
    have h2 := (fold_ge (trT (tail ((qTexts l q).getD i ⟨#[]⟩))) (vcI (qTexts l q) i)).2 v (by rw [hterm i hi, e2]; exact of_decide_eq_true hva)
    rw [← vcI_step] at h2
    have h3 := mono (q.atoms.length - (i + 1)) (i + 1) (by omega)
    rw [show i + 1 + (q.atoms.length - (i + 1)) = q.atoms.length by omega] at h3
    omega
  rw [hlen]
  have h1 := up _ (Nat.le_refl _)
  have h2 := (vcI_bnd (qTexts l q) q.atoms.length).1
  by_cases h : 0 < q.vc
  · have := low (q.vc - 1).toNat (by omega)
    omega
  · omega
/-- A good query's text reads as the query. -/
theorem read_text {l : List Rel} {q : Qu} (g : goodQu l q = true) : okQ l (quText l q) = true ∧ readQ l (quText l q) = q := by
  have hf := goodFree g
  have hc := catT_ok hf
  have ht := text_ok g
  have hne : qTexts l q ≠ [] := texts_ne (by
    have := (goodQu_parts g).2.1
    intro e
    rw [e] at this
    simp at this)
  have hq : quText l q = catT q.free ++ oneB 63 ++ joinB (qTexts l q) (oneB 32) := by
    unfold quText
    rw [g, if_pos rfl]
  obtain ⟨r1, r2⟩ := read_eq (l := l) (a := catT q.free) (b := joinB (qTexts l q) (oneB 32)) (fun hm => (hc _ hm).2.1 rfl) (fun hm => (hc _ hm).2.2.2 rfl) (okT_of fun c h => .inl (hc c h).1) (join_no (by decide) _ fun w hw => (ht w hw).2.1) hne rfl (fun w hw => (ht w hw).2.2) (fun w hw => (ht w hw).1)
  have e : impQ l (catT q.free) (qTexts l q) = q := by
    unfold impQ
    have e1 : (qTexts l q).map (wat l) = q.atoms := by
      unfold qTexts atTs
      rw [List.map_map]
      refine (List.map_congr_left fun a ha => ?_).trans (List.map_id _)
      obtain ⟨i, hi, e⟩ := List.mem_iff_getElem.mp ha
      obtain ⟨n, k, G⟩ := goodAt_of g hi
      have e2 : q.atoms.getD i default = a := by simp [List.getD_eq_getElem?_getD, hi, e]
      rw [e2] at G
      exact wat_text g G
    rw [vc_read g, e1, trT_cat hf]
  rw [← hq, e] at r2
  rw [← hq] at r1
  refine ⟨?_, r2⟩
  unfold okQ
  rw [r2, decide_eq_true r1, decide_eq_true rfl]; rfl
theorem okQ_text (l : List Rel) (q : Qu) : okQ l (quText l q) = goodQu l q := by
  rcases g : goodQu l q
  · have : quText l q = noB := by unfold quText; rw [g]; rfl
    rw [this]
    unfold okQ
    rw [show splS noB 63 = [noB] from splS_no (c := 63) (by intro hm; cases hm)]; rfl
  · exact (read_text g).1
end Go.Proofs.YtedciihjgbkjgacGreatDoor.A


/- CONFLICT EDGES: size, copy, comparison, marks; marks of databases. Conditions: none. -/
namespace Go.Proofs.YtedciihjgbkjgacGreatDoor.A
open Go
set_option linter.unusedSimpArgs false
set_option linter.unusedVariables false
set_option maxRecDepth 100000

def szEds (a : List Edge) (n : Int) : Int := if n - a.length < 0 then -1 else n - a.length
theorem szEds_ok : SzOk szEds (fun a => a.length ≤ 1048576) := by
  intro a n h
  unfold szEds
  split
  · exact ⟨by omega, fun h => absurd (by omega) h⟩
  · exact ⟨by omega, fun h => by omega⟩
def cntE : Int → Nat → List Edge
  | _, 0 => []
  | k, n + 1 => ⟨k, k + 1⟩ :: cntE (k + 2) n
theorem cntE_length : ∀ (k : Int) (n : Nat), (cntE k n).length = n
  | _, 0 => rfl
  | k, n + 1 => by rw [cntE, List.length_cons, cntE_length]
theorem cntE_get : ∀ {k : Int} {n i : Nat}, i < n → (cntE k n).getD i default = ⟨k + ((2 * i : Nat) : Int), k + ((2 * i : Nat) : Int) + 1⟩
  | k, n + 1, 0, _ => by simp [cntE]
  | k, n + 1, i + 1, h => by
    rw [cntE, List.getD_cons_succ, cntE_get (by omega), show k + 2 + ((2 * i : Nat) : Int) = k + ((2 * (i + 1) : Nat) : Int) by omega]
theorem cntE_full (k : Int) (n : Nat) : List.take n (cntE k n) = cntE k n := List.take_of_length_le (by rw [cntE_length]; omega)
attribute [go_sem] cntE_full
def numDb (d : Db) : Nat := 3 * d.rels.length + numRI d.facts
theorem numDb_ok {d : Db} (h : d.ok) : numDb d ≤ 1048577 * 1048577 + 3 * 1048576 := by
  have h1 := numRI_ok h.2.2
  have h2 := h.1.1
  have h3 := h.2.1
  unfold numDb
  have : d.facts.length * 1048577 ≤ 1048576 * 1048577 := Nat.mul_le_mul_right _ h3
  omega
end Go.Proofs.YtedciihjgbkjgacGreatDoor.A


/- CONFLICT GRAPHS: valid edges, independent sets. Conditions: none. -/
namespace Go.Proofs.YtedciihjgbkjgacGreatDoor.A
open Go
set_option linter.unusedSimpArgs false
set_option linter.unusedVariables false
set_option maxRecDepth 100000

/-- Does the i-th edge stand behind the one before it. -/
def lexAt (l : List Edge) (i : Nat) : Bool := decide (i = 0) || !(decide ((l.getD i default).a < (l.getD (i - 1) default).a) || (((l.getD i default).a == (l.getD (i - 1) default).a) && decide ((l.getD i default).b ≤ (l.getD (i - 1) default).b)))
def edAt (n : Int) (l : List Edge) (i : Nat) : Bool := inB (l.getD i default).a 0 ((l.getD i default).b - 1) && (inB (l.getD i default).b 0 (n - 1) && lexAt l i)
def edRaw (n : Int) (l : List Edge) (i : Nat) : Bool := inB (l.getD i default).a 0 (IntKind.i64.wrap ((l.getD i default).b - 1)) && (inB (l.getD i default).b 0 (IntKind.i64.wrap (n - 1)) && lexAt l i)
def goodEds (n : Int) (l : List Edge) : Bool := inB n 0 14 && upTo (edAt n l) l.length
theorem edRaw_eq {n : Int} (hn : inB n 0 14 = true) (l : List Edge) (i : Nat) : edRaw n l i = edAt n l i := by
  obtain ⟨h1, h2⟩ := inB_of hn
  unfold edRaw edAt
  rw [IntWalk.i64_in (n - 1) (by omega)]
  rcases d : inB (l.getD i default).b 0 (n - 1)
  · simp
  · obtain ⟨h3, h4⟩ := inB_of d
    rw [IntWalk.i64_in _ (by omega)]
theorem upTo_same {p p' : Nat → Bool} : ∀ {n : Nat}, (∀ k, k < n → p k = p' k) → upTo p n = upTo p' n
  | 0, _ => rfl
  | n + 1, h => by rw [upTo, upTo, upTo_same fun k hk => h k (by omega), h n (by omega)]
theorem goodEds_raw (n : Int) (l : List Edge) : goodEds n l = (upTo (edRaw n l) l.length && inB n 0 14) := by
  unfold goodEds
  rcases d : inB n 0 14
  · rw [Bool.and_false]; rfl
  · rw [upTo_same fun k _ => edRaw_eq d l k, Bool.and_true]; rfl
def edNo (s : List Int) (l : List Edge) (k : Nat) : Bool := !(decide ((l.getD k default).a ∈ s) && decide ((l.getD k default).b ∈ s))
def indep (l : List Edge) (s : List Int) : Bool := upTo (edNo s l) l.length
end Go.Proofs.YtedciihjgbkjgacGreatDoor.A


/- SORTING BY INSERTION. Conditions: none. -/
namespace Go.Proofs.YtedciihjgbkjgacGreatDoor.A
open Go
set_option linter.unusedSimpArgs false
set_option linter.unusedVariables false
set_option maxRecDepth 100000

def sortI (l : List Int) : List Int := l.mergeSort fun x y => decide (x ≤ y)
theorem sortI_len (l : List Int) : (sortI l).length = l.length := List.length_mergeSort ..
theorem sortI_perm (l : List Int) : (sortI l).Perm l := List.mergeSort_perm l _
theorem sortI_sorted (l : List Int) : (sortI l).Pairwise (· ≤ ·) := by
  have h := List.pairwise_mergeSort (le := fun x y : Int => decide (x ≤ y)) (by intro a b c; simp; omega) (by intro a b; simp; omega) l
  exact h.imp fun h => by simpa using h
theorem sorted_uni {a b : List Int} (ha : a.Pairwise (· ≤ ·)) (hb : b.Pairwise (· ≤ ·)) (hp : a.Perm b) : a = b :=
  List.Perm.eq_of_pairwise (fun x y _ _ h1 h2 => by omega) ha hb hp
def stopAt (out : List Int) (x : Int) : Nat → Nat
  | 0 => 0
  | k + 1 => if decide (out.getD k 0 > x) then stopAt out x k else k + 1
theorem stopAt_le (out : List Int) (x : Int) : ∀ k, stopAt out x k ≤ k
  | 0 => Nat.le_refl _
  | k + 1 => by
    have := stopAt_le out x k
    unfold stopAt
    split <;> omega
theorem stopAt_above (out : List Int) (x : Int) : ∀ (k j : Nat), stopAt out x k ≤ j → j < k → x < out.getD j 0
  | 0, j, _, h => by omega
  | k + 1, j, h1, h2 => by
    unfold stopAt at h1
    split at h1
    · rename_i d
      by_cases e : j = k
      · rw [e]; exact of_decide_eq_true d
      · exact stopAt_above out x k j h1 (by omega)
    · omega
theorem stopAt_at (out : List Int) (x : Int) : ∀ (k j : Nat), stopAt out x k = j + 1 → out.getD j 0 ≤ x
  | 0, j, h => by simp [stopAt] at h
  | k + 1, j, h => by
    unfold stopAt at h
    split at h
    · exact stopAt_at out x k j h
    · rename_i d
      have e : k = j := by omega
      subst e
      have := of_decide_eq_false (by simpa using d : decide (out.getD k 0 > x) = false)
      omega
def insS (out : List Int) (x : Int) : List Int := out.take (stopAt out x out.length) ++ [x] ++ out.drop (stopAt out x out.length)
theorem insS_perm (out : List Int) (x : Int) : (insS out x).Perm (x :: out) := by
  unfold insS
  rw [List.append_assoc, List.singleton_append]
  refine List.perm_middle.trans ?_
  rw [List.take_append_drop]
theorem getD_in {l : List Int} {y : Int} (h : y ∈ l) : ∃ j, j < l.length ∧ l.getD j 0 = y := by
  obtain ⟨j, hj, e⟩ := List.mem_iff_getElem.mp h
  exact ⟨j, hj, by rw [List.getD_eq_getElem?_getD, List.getElem?_eq_getElem hj]; exact e⟩
theorem sorted_at {l : List Int} (h : l.Pairwise (· ≤ ·)) {i j : Nat} (hij : i ≤ j) (hj : j < l.length) : l.getD i 0 ≤ l.getD j 0 := by
  rw [List.getD_eq_getElem?_getD, List.getD_eq_getElem?_getD, List.getElem?_eq_getElem hj, List.getElem?_eq_getElem (by omega)]
  by_cases e : i = j
  · subst e; exact Int.le_refl _
  · exact List.pairwise_iff_getElem.mp h i j (by omega) hj (by omega)
theorem insS_sorted {out : List Int} (h : out.Pairwise (· ≤ ·)) (x : Int) : (insS out x).Pairwise (· ≤ ·) := by
  have hle := stopAt_le out x out.length
  have lo : ∀ y ∈ out.take (stopAt out x out.length), y ≤ x := by
    intro y hy
    obtain ⟨j, hj, rfl⟩ := getD_in hy
    rw [List.length_take] at hj
    obtain ⟨k, hk⟩ : ∃ k, stopAt out x out.length = k + 1 := ⟨stopAt out x out.length - 1, by omega⟩
    have h1 := stopAt_at out x _ k hk
    have h2 := sorted_at h (i := j) (j := k) (by omega) (by omega)
    rw [List.getD_eq_getElem?_getD, List.getElem?_take_of_lt (by omega), ← List.getD_eq_getElem?_getD]
    omega
  have hi : ∀ y ∈ out.drop (stopAt out x out.length), x ≤ y := by
    intro y hy
    obtain ⟨j, hj, rfl⟩ := getD_in hy
    rw [List.length_drop] at hj
    have := stopAt_above out x out.length (stopAt out x out.length + j) (by omega) (by omega)
    rw [List.getD_eq_getElem?_getD, List.getElem?_drop, ← List.getD_eq_getElem?_getD]
    omega
  unfold insS
  rw [List.append_assoc, List.singleton_append, List.pairwise_append]
  refine ⟨List.Pairwise.sublist (List.take_sublist _ _) h, List.pairwise_cons.mpr ⟨hi, List.Pairwise.sublist (List.drop_sublist _ _) h⟩, fun a ha b hb => ?_⟩
  rcases List.mem_cons.mp hb with rfl | hb
  · exact lo a ha
  · exact Int.le_trans (lo a ha) (hi b hb)
def insAll (l : List Int) : Nat → List Int
  | 0 => []
  | k + 1 => insS (insAll l k) (l.getD k 0)
theorem insAll_facts (l : List Int) : ∀ k, k ≤ l.length → (insAll l k).Pairwise (· ≤ ·) ∧ (insAll l k).Perm (l.take k)
  | 0, _ => ⟨List.Pairwise.nil, by simp [insAll]⟩
  | k + 1, h => by
    obtain ⟨h1, h2⟩ := insAll_facts l k (by omega)
    refine ⟨insS_sorted h1 _, (insS_perm _ _).trans ?_⟩
    rw [take_snoc 0 (by omega : k < l.length)]
    exact (List.Perm.cons _ h2).trans (List.perm_append_singleton _ _).symm
theorem insAll_len (l : List Int) {k : Nat} (h : k ≤ l.length) : (insAll l k).length = k := by
  rw [(insAll_facts l k h).2.length_eq, List.length_take]; omega
theorem insAll_eq (l : List Int) : insAll l l.length = sortI l := by
  obtain ⟨h1, h2⟩ := insAll_facts l l.length (Nat.le_refl _)
  rw [List.take_length] at h2
  exact sorted_uni h1 (sortI_sorted l) (h2.trans (sortI_perm l).symm)
end Go.Proofs.YtedciihjgbkjgacGreatDoor.A


/- CONFLICT GRAPHS: maximal independent sets. Conditions: none. -/
namespace Go.Proofs.YtedciihjgbkjgacGreatDoor.A
open Go
set_option linter.unusedSimpArgs false
set_option linter.unusedVariables false
set_option maxRecDepth 100000

/-- Is the i-th number an index, and behind the one before it. -/
def ixAt (l : List Int) (n : Int) (i : Nat) : Bool := inB (l.getD i 0) 0 (n - 1) && (decide (i = 0) || !decide (l.getD i 0 ≤ l.getD (i - 1) 0))
def ixs (l : List Int) (n : Int) : Bool := upTo (ixAt l n) l.length
theorem areIxs_sat (l : List Int) (n : Int) (h : l.length ≤ 9223372036854775807) (hn : -9223372036854775807 ≤ n ∧ n ≤ 9223372036854775807) : Sat Tryz.prog 40 [lInts l, lInt n] [lBool (ixs l n)] [g1, g1] := by
  refine sat_of_body mixed Tryz.func40 rfl (by kernel_rfl) (by kernel_rfl) (rs := [.tmp 4]) rfl rfl rfl ?_
  unfold ixs
  have w0 : IntKind.i64.wrap (n - 1) = n - 1 := IntWalk.i64_in _ (by omega)
  simp -implicitDefEqProofs (maxSteps := 2000000) only [go_sem]
  refine awp_loop Nat (fun k => mkSt [(0, .one (.im 1 (ints l))), (1, .sc (.int .i64 n)), (7, .one (.im 1 (ints l))), (8, .sc (.int .i64 l.length)), (9, .sc (.int .i64 k))] [] [] 1000)
    (fun k => k ≤ l.length ∧ upTo (ixAt l n) k = true) (fun k => l.length - k) 0 ⟨by omega, rfl⟩ (le_st _ _ [] [] _ rfl (by simp -implicitDefEqProofs (maxSteps := 2000000) only [go_sem] <;> rfl) trivial trivial) ?_
  rintro k ⟨h1, h2⟩
  by_cases c1 : k < l.length
  · rcases d1 : inB (l.getD k 0) 0 (n - 1)
    · rw [upTo_false c1 (by rw [ixAt, d1]; rfl)]
      simp -implicitDefEqProofs (maxSteps := 2000000) only [go_sem, c1, w0]
      refine call_of (inW_sat (l.getD k 0) 0 (n - 1)) (by simp -implicitDefEqProofs (maxSteps := 2000000) only [go_sem, d1, c1]) (by kernel_rfl) (by simp -implicitDefEqProofs (maxSteps := 2000000) only [go_sem, d1, c1]) ?_
      simp -implicitDefEqProofs (maxSteps := 2000000) only [go_sem, d1, c1]
    rcases k with _ | j
    · have e : ixAt l n 0 = true := by rw [ixAt, d1]; rfl
      have c0 : (0 : Int) < l.length := by omega
      simp -implicitDefEqProofs (maxSteps := 2000000) only [go_sem, c1, c0, w0]
      refine call_of (inW_sat (l.getD 0 0) 0 (n - 1)) (by simp -implicitDefEqProofs (maxSteps := 2000000) only [go_sem, d1, c1, c0]) (by kernel_rfl) (by simp -implicitDefEqProofs (maxSteps := 2000000) only [go_sem, d1, c1, c0]) ?_
      simp -implicitDefEqProofs (maxSteps := 2000000) only [go_sem, d1, c1, c0]
      exact ⟨1, ⟨c1, upTo_step h2 e⟩, by omega, (le_st _ _ [] [] _ rfl (by simp -implicitDefEqProofs (maxSteps := 2000000) only [go_sem] <;> rfl) trivial trivial)⟩
    · have c2 : j < l.length := by omega
      have c3 : 0 < ((j + 1 : Nat) : Int) := by omega
      have w1 := i64_pred (j := j) (by omega)
      rcases d2 : decide (l.getD (j + 1) 0 ≤ l.getD j 0)
      · have e : ixAt l n (j + 1) = true := by rw [ixAt, d1, Nat.add_sub_cancel, d2]; rfl
        simp -implicitDefEqProofs (maxSteps := 2000000) only [go_sem, c1, w0]
        refine call_of (inW_sat (l.getD (j + 1) 0) 0 (n - 1)) (by simp -implicitDefEqProofs (maxSteps := 2000000) only [go_sem, d1, d2, c1, c2, c3, w1]) (by kernel_rfl) (by simp -implicitDefEqProofs (maxSteps := 2000000) only [go_sem, d1, d2, c1, c2, c3, w1]) ?_
        simp -implicitDefEqProofs (maxSteps := 2000000) only [go_sem, d1, d2, c1, c2, c3, w1]
        rw [i64_succ (by omega)]
        exact ⟨j + 1 + 1, ⟨c1, upTo_step h2 e⟩, by omega, (le_st _ _ [] [] _ rfl (by simp -implicitDefEqProofs (maxSteps := 2000000) only [go_sem] <;> rfl) trivial trivial)⟩
      · rw [upTo_false c1 (show ixAt l n (j + 1) = false by rw [ixAt, d1, Nat.add_sub_cancel, d2]; rfl)]
        simp -implicitDefEqProofs (maxSteps := 2000000) only [go_sem, c1, w0]
        refine call_of (inW_sat (l.getD (j + 1) 0) 0 (n - 1)) (by simp -implicitDefEqProofs (maxSteps := 2000000) only [go_sem, d1, d2, c1, c2, c3, w1]) (by kernel_rfl) (by simp -implicitDefEqProofs (maxSteps := 2000000) only [go_sem, d1, d2, c1, c2, c3, w1]) ?_
        simp -implicitDefEqProofs (maxSteps := 2000000) only [go_sem, d1, d2, c1, c2, c3, w1]
  · obtain rfl : k = l.length := by omega
    simp -implicitDefEqProofs (maxSteps := 2000000) only [go_sem, c1]
    rw [h2]
/-- May a number join a set. -/
def fitsE (l : List Edge) (s : List Int) (x : Int) : Bool := !decide (x ∈ s) && indep l (s ++ [x])
def isMax (n : Int) (l : List Edge) (s : List Int) : Bool := goodEds n l && (ixs s n && (indep l s && upTo (fun x => !fitsE l s x) n.toNat))
theorem ixs_ge {s : List Int} {n : Int} (h : ixs s n = true) : ∀ i : Nat, i < s.length → (i : Int) ≤ s.getD i 0
  | 0, hi => by
    have h1 := upTo_at h hi
    unfold ixAt at h1
    rw [Bool.and_eq_true] at h1
    exact (inB_of h1.1).1
  | i + 1, hi => by
    have ih := ixs_ge h i (by omega)
    have h1 := upTo_at h hi
    unfold ixAt at h1
    rw [Bool.and_eq_true, Nat.add_sub_cancel, decide_eq_false (by omega : ¬ i + 1 = 0), Bool.false_or, Bool.not_eq_true', decide_eq_false_iff_not] at h1
    have := h1.2
    omega
theorem ixs_len {s : List Int} {n : Int} (h : ixs s n = true) (hn : 0 ≤ n) : (s.length : Int) ≤ n := by
  rcases e : s.length with _ | k
  · omega
  · have h1 := ixs_ge h k (by omega)
    have h2 := upTo_at h (show k < s.length by omega)
    unfold ixAt at h2
    rw [Bool.and_eq_true] at h2
    have := (inB_of h2.1).2
    omega
/-! #### a set is extended -/
def extN (l : List Edge) (s : List Int) : Nat → List Int
  | 0 => s
  | k + 1 => if fitsE l (extN l s k) k then extN l s k ++ [(k : Int)] else extN l s k
theorem extN_len (l : List Edge) (s : List Int) : ∀ k, (extN l s k).length ≤ s.length + k
  | 0 => by simp [extN]
  | k + 1 => by
    have := extN_len l s k
    unfold extN
    split
    · simp only [List.length_append, List.length_singleton]; omega
    · omega
def goodSet (n : Int) (l : List Edge) (s : List Int) : Bool := goodEds n l && (ixs s n && indep l s)
def extM (n : Int) (l : List Edge) (s : List Int) : List Int × Bool := if goodSet n l s then (sortI (extN l s n.toNat), true) else ([], false)
theorem extM_len (n : Int) (l : List Edge) (s : List Int) (hs : s.length ≤ 1048576) : (extM n l s).1.length ≤ 1048576 + 14 := by
  unfold extM
  split
  · rename_i g
    unfold goodSet at g
    rw [Bool.and_eq_true] at g
    have g := g.1
    unfold goodEds at g
    rw [Bool.and_eq_true] at g
    have := inB_of g.1
    have := extN_len l s n.toNat
    simp only [sortI_len]
    omega
  · simp
end Go.Proofs.YtedciihjgbkjgacGreatDoor.A


/- CONFLICT GRAPHS DRAWN. Conditions: none. -/
namespace Go.Proofs.YtedciihjgbkjgacGreatDoor.A
open Go
set_option linter.unusedSimpArgs false
set_option linter.unusedVariables false
set_option maxRecDepth 100000

def onV (c : Cur) (n : Nat) : Bool := decide (beV c n = 0)
theorem l1Once_sat (c : Cur) (n : Nat) (hc : c.ok) (h1 : 0 < n) (h2 : n ≤ 256) : Sat Tryz.prog 28 [lCur c, lInt n] [lBool (onV c n)] [lCur (byC c), g1] := by
  refine sat_of_body mixed Tryz.func28 rfl (by kernel_rfl) (by kernel_rfl) (rs := [.tmp 4]) rfl rfl rfl ?_
  have e : (((beV c n : Nat) : Int) == 0) = onV c n := by
    unfold onV
    rcases d : decide (beV c n = 0)
    · have := of_decide_eq_false d; rw [beq_eq_false_iff_ne]; omega
    · have := of_decide_eq_true d; rw [beq_iff_eq]; omega
  simp -implicitDefEqProofs (maxSteps := 2000000) only [go_sem]
  refine call_of (l1Below_sat c n hc h1 h2) (by simp -implicitDefEqProofs (maxSteps := 2000000) only [go_sem, e]) (by kernel_rfl) (by simp -implicitDefEqProofs (maxSteps := 2000000) only [go_sem, e]) ?_
  simp -implicitDefEqProofs (maxSteps := 2000000) only [go_sem, e]
  rfl
abbrev Dr := Cur × List Edge
def stepE (rare i k : Nat) (s : Dr) : Dr := if onV s.1 rare then (byC s.1, s.2 ++ [⟨i, k⟩]) else (byC s.1, s.2)
def rowD (rare i : Nat) (s : Dr) : Nat → Dr
  | 0 => s
  | j + 1 => stepE rare i (i + 1 + j) (rowD rare i s j)
def allD (rare n : Nat) (s : Dr) : Nat → Dr
  | 0 => s
  | i + 1 => rowD rare i (allD rare n s i) (n - (i + 1))
structure DrOk (s : Dr) (m : Nat) : Prop where
  ok : s.1.ok
  len : s.2.length ≤ m
theorem stepE_ok {rare i k m : Nat} {s : Dr} (h : DrOk s m) : DrOk (stepE rare i k s) (m + 1) := by
  unfold stepE
  split
  · refine ⟨byC_ok h.ok, ?_⟩
    have := h.len
    show (s.2 ++ [_]).length ≤ m + 1
    rw [List.length_append, List.length_singleton]; omega
  · refine ⟨byC_ok h.ok, ?_⟩
    have := h.len
    show s.2.length ≤ m + 1
    omega
theorem rowD_ok {rare i m : Nat} {s : Dr} (h : DrOk s m) : ∀ j, DrOk (rowD rare i s j) (m + j)
  | 0 => h
  | j + 1 => stepE_ok (rowD_ok h j)
theorem allD_ok {rare n m : Nat} {s : Dr} (h : DrOk s m) : ∀ i, DrOk (allD rare n s i) (m + i * n)
  | 0 => by rw [Nat.zero_mul]; exact h
  | i + 1 => by
    have h1 := rowD_ok (rare := rare) (i := i) (allD_ok (rare := rare) (n := n) h i) (n - (i + 1))
    have h2 := h1.len
    refine ⟨h1.ok, ?_⟩
    show (rowD rare i (allD rare n s i) (n - (i + 1))).2.length ≤ _
    rw [Nat.add_mul, Nat.one_mul]; omega
def edN (c : Cur) : Nat := beV c 9
def edR (c : Cur) : Nat := 2 + beV (byC c) 4
def edS (c : Cur) : Dr := allD (edR c) (edN c) (byC (byC c), []) (edN c)
/-- One edge is spoilt, now and then. -/
def edE (c : Cur) : Dr :=
  let s := edS c
  if s.2.length = 0 then s
  else if onV s.1 12 then
    let c1 := byC s.1
    let i := beV c1 s.2.length
    let c2 := byC c1
    (byC c2, s.2.set i ⟨(s.2.getD i default).a, ((beV c2 (edN c + 2) : Nat) : Int) - 1⟩)
  else (byC s.1, s.2)
abbrev Ds := Cur × List Int
def stepS (l : List Edge) (x : Nat) (s : Ds) : Ds :=
  if onV s.1 2 then (if onV (byC s.1) 8 || fitsE l s.2 x then (byC (byC s.1), s.2 ++ [(x : Int)]) else (byC (byC s.1), s.2)) else (byC s.1, s.2)
def somD (l : List Edge) (s : Ds) : Nat → Ds
  | 0 => s
  | x + 1 => stepS l x (somD l s x)
structure DsOk (s : Ds) (m : Nat) : Prop where
  ok : s.1.ok
  len : s.2.length ≤ m
theorem stepS_ok {l : List Edge} {x m : Nat} {s : Ds} (h : DsOk s m) : DsOk (stepS l x s) (m + 1) := by
  have := h.len
  unfold stepS
  split
  · split
    · exact ⟨byC_ok (byC_ok h.ok), by show (s.2 ++ [_]).length ≤ m + 1; rw [List.length_append, List.length_singleton]; omega⟩
    · exact ⟨byC_ok (byC_ok h.ok), by show s.2.length ≤ m + 1; omega⟩
  · exact ⟨byC_ok h.ok, by show s.2.length ≤ m + 1; omega⟩
theorem somD_ok {l : List Edge} {m : Nat} {s : Ds} (h : DsOk s m) : ∀ x, DsOk (somD l s x) (m + x)
  | 0 => h
  | x + 1 => stepS_ok (somD_ok h x)
def somE (c : Cur) (n : Nat) (l : List Edge) : Ds :=
  let s := somD l (c, []) n
  (byC s.1, if onV s.1 12 then s.2 ++ [(n : Int)] else s.2)
end Go.Proofs.YtedciihjgbkjgacGreatDoor.A


/- FACTS INSERTED, DATABASES DRAWN. Conditions: none. -/
namespace Go.Proofs.YtedciihjgbkjgacGreatDoor.A
open Go
set_option linter.unusedSimpArgs false
set_option linter.unusedVariables false
set_option maxRecDepth 100000

abbrev yDb : List SV := [.sc (.slice none 0 0), .sc (.slice none 0 0)]
theorem ris_flatN {n : Nat} {x : RI} {l : List RI} : flatB (ris (n + 1) (x :: l)) = false := by simp [flatB, ris, cRI, Cell.flatB]
attribute [go_sem] ris_flatN
theorem repD1 {α : Type} (a : α) : List.replicate 1 a = [a] := rfl
def sameF (d : Db) (f : RI) (i : Nat) : Bool := !(cmpRI (d.facts.getD i default) f == 0)
def hasF (d : Db) (f : RI) : Bool := goodDb d && decide (firstNo (sameF d f) d.facts.length 0 ≥ 0)
end Go.Proofs.YtedciihjgbkjgacGreatDoor.A


/- CLOSURES: the plain law. Conditions: none. (No program in sight but the names.) -/
namespace Go.Proofs.YtedciihjgbkjgacGreatDoor.A
open Go
set_option linter.unusedSimpArgs false
set_option linter.unusedVariables false

/-- Are all numbers of a list in another. -/
def subAt (a b : List Int) (i : Nat) : Bool := decide (a.getD i 0 ∈ b)
def subs (a b : List Int) : Bool := upTo (subAt a b) a.length
theorem upTo_true {p : Nat → Bool} : ∀ {n : Nat}, (∀ k, k < n → p k = true) → upTo p n = true
  | 0, _ => rfl
  | n + 1, h => upTo_step (upTo_true fun k hk => h k (by omega)) (h n (by omega))
theorem subs_iff {a b : List Int} : subs a b = true ↔ ∀ x ∈ a, x ∈ b := by
  constructor
  · intro h x hx
    obtain ⟨i, hi, rfl⟩ := List.mem_iff_getElem.mp hx
    have h1 := upTo_at h hi
    unfold subAt at h1
    rw [List.getD_eq_getElem?_getD, List.getElem?_eq_getElem hi] at h1
    exact of_decide_eq_true h1
  · intro h
    exact upTo_true fun k hk => decide_eq_true (h _ (mem_getD 0 hk))
/-- One atom's dependency, applied to a set. -/
def fire (l : List Rel) (ats : List RI) (skip : Int) (c : List Int) (i : Nat) : List Int :=
  if ((i : Int) != skip) && subs (keyVars l (ats.getD i default)) c then uni c (varsOf (ats.getD i default).l) else c
/-- The first k atoms' dependencies, one after another. -/
def passA (l : List Rel) (ats : List RI) (skip : Int) (c : List Int) : Nat → List Int
  | 0 => c
  | k + 1 => fire l ats skip (passA l ats skip c k) k
structure Small (c : List Int) : Prop where
  strict : Strict c
  small : ∀ x ∈ c, 0 ≤ x ∧ x < 4
theorem Small.uni {c v : List Int} (h : Small c) (hv : ∀ x ∈ v, 0 ≤ x ∧ x < 4) : Small (uni c v) :=
  ⟨uni_strict _ _, fun x hx => ((uni_mem _ _ _).mp hx).elim (h.small x) (hv x)⟩
theorem varsOf_small (l : List Int) : ∀ x ∈ varsOf l, 0 ≤ x ∧ x < 4 := fun x hx => by
  have := (selN_mem _ _ _).mp hx
  omega
theorem Small.selN {p : Int → Bool} : Small (selN p 4) := ⟨selN_strict _ _, fun x hx => by have := (selN_mem _ _ _).mp hx; omega⟩
theorem Small.eq_selN {c : List Int} (h : Small c) : c = A.selN (fun v => decide (v ∈ c)) 4 := by
  refine strict_eq h.strict (selN_strict _ _) fun x => ?_
  rw [selN_mem]
  exact ⟨fun hx => ⟨(h.small x hx).1, (h.small x hx).2, decide_eq_true hx⟩, fun hx => of_decide_eq_true hx.2.2⟩
theorem Small.len {c : List Int} (h : Small c) : c.length ≤ 4 := by
  rw [h.eq_selN]; exact selN_len _ 4
theorem strict_sub_len : ∀ {a b : List Int}, Strict a → Strict b → (∀ x ∈ a, x ∈ b) → a.length ≤ b.length ∧ (a.length = b.length → a = b)
  | [], b, _, _, _ => ⟨by simp, fun h => by cases b <;> simp at h ⊢⟩
  | x :: a, [], _, _, h => absurd (h x (by simp)) (by simp)
  | x :: a, y :: b, ha, hb, h => by
    obtain ⟨ha1, ha2⟩ := List.pairwise_cons.mp ha
    obtain ⟨hb1, hb2⟩ := List.pairwise_cons.mp hb
    rcases List.mem_cons.mp (h x (by simp)) with e | e
    · subst e
      have h1 := strict_sub_len ha2 hb2 fun z hz => by
        rcases List.mem_cons.mp (h z (List.mem_cons_of_mem _ hz)) with e | e
        · have := ha1 z hz; omega
        · exact e
      exact ⟨by simp only [List.length_cons]; omega, fun hl => by rw [h1.2 (by simpa using hl)]⟩
    · have h1 := strict_sub_len (a := x :: a) ha hb2 fun z hz => by
        rcases List.mem_cons.mp hz with rfl | hz'
        · exact e
        · rcases List.mem_cons.mp (h z hz) with e' | e'
          · have := ha1 z hz'; have := hb1 x e; omega
          · exact e'
      exact ⟨by have := h1.1; simp only [List.length_cons] at this ⊢; omega, fun hl => by have := h1.1; simp only [List.length_cons] at this hl; omega⟩
theorem fire_sub {l : List Rel} {ats : List RI} {skip : Int} {c : List Int} {i : Nat} : ∀ x ∈ c, x ∈ fire l ats skip c i := by
  intro x hx
  unfold fire
  split
  · exact (uni_mem _ _ _).mpr (.inl hx)
  · exact hx
theorem fire_small {l : List Rel} {ats : List RI} {skip : Int} {c : List Int} {i : Nat} (h : Small c) : Small (fire l ats skip c i) := by
  unfold fire
  split
  · exact h.uni (varsOf_small _)
  · exact h
theorem passA_sub {l : List Rel} {ats : List RI} {skip : Int} {c : List Int} : ∀ {k : Nat}, ∀ x ∈ c, x ∈ passA l ats skip c k
  | 0, x, hx => hx
  | k + 1, x, hx => fire_sub x (passA_sub (k := k) x hx)
theorem passA_small {l : List Rel} {ats : List RI} {skip : Int} {c : List Int} (h : Small c) : ∀ {k : Nat}, Small (passA l ats skip c k)
  | 0 => h
  | k + 1 => fire_small (passA_small h (k := k))
theorem uni_same {c v : List Int} (h : Strict c) (hv : ∀ x ∈ v, x ∈ c) : uni c v = c :=
  strict_eq (uni_strict _ _) h fun x => by rw [uni_mem]; exact ⟨fun h => h.elim id (hv x), .inl⟩
/-- A passA that changes a set takes in an atom's variables. -/
theorem passA_new {l : List Rel} {ats : List RI} {skip : Int} {c : List Int} (h : Small c) : ∀ (k : Nat), passA l ats skip c k = c ∨ ∃ i, i < k ∧ subs (varsOf (ats.getD i default).l) c = false ∧ subs (varsOf (ats.getD i default).l) (passA l ats skip c k) = true
  | 0 => .inl rfl
  | k + 1 => by
    have ih := passA_new (l := l) (ats := ats) (skip := skip) h k
    have hmono : ∀ i, subs (varsOf (ats.getD i default).l) (passA l ats skip c k) = true → subs (varsOf (ats.getD i default).l) (passA l ats skip c (k + 1)) = true :=
      fun i hi => subs_iff.mpr fun x hx => fire_sub x (subs_iff.mp hi x hx)
    rcases ih with ih | ⟨i, hi, h1, h2⟩
    · rw [passA, ih]
      unfold fire
      split
      · rcases hs : subs (varsOf (ats.getD k default).l) c
        · exact .inr ⟨k, by omega, hs, subs_iff.mpr fun x hx => (uni_mem _ _ _).mpr (.inr hx)⟩
        · exact .inl (uni_same h.strict (subs_iff.mp hs))
      · exact .inl rfl
    · exact .inr ⟨i, by omega, h1, hmono i h2⟩
def took (ats : List RI) (c : List Int) (n : Nat) : List Nat := (List.range n).filter fun i => subs (varsOf (ats.getD i default).l) c
theorem took_le (ats : List RI) (c : List Int) (n : Nat) : (took ats c n).length ≤ n := by
  unfold took; exact Nat.le_trans (List.length_filter_le _ _) (by rw [List.length_range]; exact Nat.le_refl _)
theorem filter_lt {α : Type} {p p' : α → Bool} : ∀ {l : List α}, (∀ x ∈ l, p x = true → p' x = true) → (∃ x ∈ l, p x = false ∧ p' x = true) → (l.filter p).length < (l.filter p').length
  | [], _, ⟨x, hx, _⟩ => absurd hx (by simp)
  | a :: l, h, ⟨x, hx, h1, h2⟩ => by
    have hle : ∀ {l : List α}, (∀ x ∈ l, p x = true → p' x = true) → (l.filter p).length ≤ (l.filter p').length := by
      intro l
      induction l with
      | nil => intro _; simp
      | cons b l ih =>
        intro h
        have ih := ih fun x hx => h x (List.mem_cons_of_mem _ hx)
        rcases hb : p b
        · rw [List.filter_cons_of_neg (by simp [hb])]
          rcases hb' : p' b
          · rw [List.filter_cons_of_neg (by simp [hb'])]; exact ih
          · rw [List.filter_cons_of_pos hb']; simp only [List.length_cons]; omega
        · rw [List.filter_cons_of_pos hb, List.filter_cons_of_pos (h b (by simp) hb)]; simp only [List.length_cons]; omega
    rcases List.mem_cons.mp hx with rfl | hx
    · rw [List.filter_cons_of_neg (by simp [h1]), List.filter_cons_of_pos h2]
      have := hle (l := l) fun y hy => h y (List.mem_cons_of_mem _ hy)
      simp only [List.length_cons]; omega
    · have ih := filter_lt (p := p) (p' := p') (l := l) (fun y hy => h y (List.mem_cons_of_mem _ hy)) ⟨x, hx, h1, h2⟩
      rcases hb : p a
      · rw [List.filter_cons_of_neg (by simp [hb])]
        rcases hb' : p' a
        · rw [List.filter_cons_of_neg (by simp [hb'])]; exact ih
        · rw [List.filter_cons_of_pos hb']; simp only [List.length_cons]; omega
      · rw [List.filter_cons_of_pos hb, List.filter_cons_of_pos (h a (by simp) hb)]; simp only [List.length_cons]; omega
theorem took_lt {l : List Rel} {ats : List RI} {skip : Int} {c : List Int} {n : Nat} (h : Small c) (hne : passA l ats skip c n ≠ c) : (took ats c n).length < (took ats (passA l ats skip c n) n).length := by
  rcases passA_new (l := l) (ats := ats) (skip := skip) h n with e | ⟨i, hi, h1, h2⟩
  · exact absurd e hne
  · exact filter_lt (fun x _ hx => subs_iff.mpr fun y hy => passA_sub y (subs_iff.mp hx y hy)) ⟨i, List.mem_range.mpr hi, h1, h2⟩
/-- So many passes. -/
def iter (l : List Rel) (ats : List RI) (skip : Int) (n : Nat) (c : List Int) : Nat → List Int
  | 0 => c
  | m + 1 => passA l ats skip (iter l ats skip n c m) n
theorem iter_small {l : List Rel} {ats : List RI} {skip : Int} {n : Nat} {c : List Int} (h : Small c) : ∀ {m : Nat}, Small (iter l ats skip n c m)
  | 0 => h
  | m + 1 => passA_small (iter_small h (m := m))
theorem iter_took {l : List Rel} {ats : List RI} {skip : Int} {n : Nat} {c : List Int} (h : Small c) : ∀ m : Nat, (∃ j, j ≤ m ∧ iter l ats skip n c (j + 1) = iter l ats skip n c j) ∨ m < (took ats (iter l ats skip n c (m + 1)) n).length
  | 0 => by
    by_cases e : iter l ats skip n c 1 = iter l ats skip n c 0
    · exact .inl ⟨0, by omega, e⟩
    · have := took_lt (l := l) (ats := ats) (skip := skip) (n := n) (iter_small h (m := 0)) e
      refine .inr ?_
      show 0 < (took ats (passA l ats skip (iter l ats skip n c 0) n) n).length
      omega
  | m + 1 => by
    rcases iter_took h m with ⟨j, hj, e⟩ | ht
    · exact .inl ⟨j, by omega, e⟩
    · by_cases e : iter l ats skip n c (m + 2) = iter l ats skip n c (m + 1)
      · exact .inl ⟨m + 1, by omega, e⟩
      · have := took_lt (l := l) (ats := ats) (skip := skip) (n := n) (iter_small h (m := m + 1)) e
        refine .inr ?_
        show m + 1 < (took ats (passA l ats skip (iter l ats skip n c (m + 1)) n) n).length
        omega
theorem iter_stays {l : List Rel} {ats : List RI} {skip : Int} {n : Nat} {c : List Int} {j : Nat} (e : iter l ats skip n c (j + 1) = iter l ats skip n c j) : ∀ d : Nat, iter l ats skip n c (j + d) = iter l ats skip n c j
  | 0 => rfl
  | d + 1 => by
    have ih := iter_stays e d
    show passA l ats skip (iter l ats skip n c (j + d)) n = _
    rw [ih]
    exact e
/-- Where a passA changes nothing, as many passes as there are atoms lead there too. -/
theorem iter_done {l : List Rel} {ats : List RI} {skip : Int} {n : Nat} {c : List Int} (h : Small c) {j : Nat} (e : iter l ats skip n c (j + 1) = iter l ats skip n c j) : iter l ats skip n c j = iter l ats skip n c n := by
  rcases iter_took (l := l) (ats := ats) (skip := skip) (n := n) h n with ⟨i, hi, e'⟩ | ht
  · have h1 := iter_stays e' (n - i)
    rw [show i + (n - i) = n by omega] at h1
    rw [h1]
    by_cases hij : i ≤ j
    · have h2 := iter_stays e' (j - i)
      rw [show i + (j - i) = j by omega] at h2
      exact h2
    · have h2 := iter_stays e (i - j)
      rw [show j + (i - j) = i by omega] at h2
      exact h2.symm
  · have := took_le ats (iter l ats skip n c (n + 1)) n
    omega
end Go.Proofs.YtedciihjgbkjgacGreatDoor.A


/- A FACT IS INSERTED. Conditions: none. -/
namespace Go.Proofs.YtedciihjgbkjgacGreatDoor.A
open Go
set_option linter.unusedSimpArgs false
set_option linter.unusedVariables false
set_option maxRecDepth 100000

theorem goneR_take (s : Nat) (A B : List RI) : List.take A.length (goneR (ris s (A ++ B)) A.length B.length) = ris s A := by
  simp [goneR, ris]
theorem rst_ins (s : Nat) (A B : List RI) (f : RI) : rst (ris 999 A ++ (ris (s + 1) [f] ++ ris 999 B)) = ris 1 (A ++ f :: B) := by
  have e : ∀ a b : Rows, rst (a ++ b) = rst a ++ rst b := fun a b => by simp [rst]
  rw [e, e, ris_rst 998, ris_rst s, ris_rst 998, ris_append, ris_append]; rfl
theorem flat_ins (s : Nat) (f : RI) (X : Rows) : flatB (ris (s + 1) [f] ++ X) = false := by simp [flatB, ris, cRI, Cell.flatB]
theorem take_ins (s : Nat) (f : RI) (B : List RI) : List.take (1 + B.length) (ris s [f] ++ ris 999 B) = ris s [f] ++ ris 999 B := List.take_of_length_le (by simp [ris]; omega)
theorem flat_ne {s : Nat} {B : List RI} (h : 0 < B.length) : flatB (ris (s + 1) B) = false := by
  rcases B with _ | ⟨x, B⟩
  · simp at h
  · exact ris_flatN
theorem goneR_tk (L : List RI) {j : Nat} (h : j ≤ L.length) : List.take j (goneR (ris 999 L) j (L.length - j)) = ris 999 (List.take j L) := by
  have := goneR_take 999 (List.take j L) (List.drop j L)
  rw [List.take_append_drop, List.length_take, List.length_drop, Nat.min_eq_left h] at this
  exact this
theorem goneR_ln (L : List RI) {j : Nat} (h : j ≤ L.length) : List.length (goneR (ris 999 L) j (L.length - j)) = L.length := by
  simp [goneR, ris]; omega
theorem insAt (P : Nat → Bool) : ∀ n : Nat, ∃ k, k ≤ n ∧ (∀ j, j < k → P j = true) ∧ (k < n → P k = false)
  | 0 => ⟨0, Nat.le_refl _, fun j h => by omega, fun h => by omega⟩
  | n + 1 => by
    obtain ⟨k, h1, h2, h3⟩ := insAt P n
    rcases Nat.lt_or_ge k n with h | h
    · exact ⟨k, by omega, h2, fun _ => h3 h⟩
    · obtain rfl : k = n := by omega
      rcases e : P k
      · exact ⟨k, by omega, h2, fun _ => e⟩
      · refine ⟨k + 1, Nat.le_refl _, fun j hj => ?_, fun h => by omega⟩
        rcases Nat.lt_or_ge j k with h4 | h4
        · exact h2 j h4
        · obtain rfl : j = k := by omega
          exact e
end Go.Proofs.YtedciihjgbkjgacGreatDoor.A


/- DATABASES DRAWN. Conditions: none. -/
namespace Go.Proofs.YtedciihjgbkjgacGreatDoor.A
open Go
set_option linter.unusedSimpArgs false
set_option linter.unusedVariables false
set_option maxRecDepth 100000

/-- A row of steps, each of which exists. -/
theorem seqOf {α : Type} (G : Nat → α → Prop) (R : α → α → Prop) (a : α) (h0 : G 0 a) (h : ∀ k a, G k a → ∃ b, G (k + 1) b ∧ R a b) : ∃ s : Nat → α, s 0 = a ∧ ∀ k, G k (s k) ∧ R (s k) (s (k + 1)) := by
  let f : (k : Nat) → { x : α // G k x } := fun k => Nat.rec (motive := fun k => { x : α // G k x }) ⟨a, h0⟩ (fun k x => ⟨Classical.choose (h k x.1 x.2), (Classical.choose_spec (h k x.1 x.2)).1⟩) k
  exact ⟨fun k => (f k).1, rfl, fun k => ⟨(f k).2, (Classical.choose_spec (h k (f k).1 (f k).2)).2⟩⟩
theorem sigs_len (c : Cur) : (sigs c).length = 4 := rfl
theorem sigs_ok (c : Cur) : ∀ x ∈ sigs c, (1 ≤ x.ar ∧ x.ar ≤ 3) ∧ x.name.size ≤ 2 := by
  intro x hx
  unfold sigs sigR at hx
  simp only [List.mem_cons, List.not_mem_nil, or_false] at hx
  rcases hx with rfl | rfl | rfl | rfl <;> exact ⟨by simp only; omega, by simp only; decide⟩
/-- A small database. -/
structure DbS (d : Db) (m : Nat) : Prop where
  rels : d.rels.length ≤ 4
  names : ∀ x ∈ d.rels, x.name.size ≤ 2
  facts : d.facts.length ≤ m
  vals : ∀ x ∈ d.facts, x.l.length ≤ 4
theorem DbS.ok {d : Db} {m : Nat} (h : DbS d m) (hm : m ≤ 1000) : d.ok := by
  have h1 := h.rels
  have h2 := h.facts
  refine ⟨⟨by omega, fun x hx => ?_⟩, by omega, fun x hx => ?_⟩
  · have := h.names x hx; unfold Rel.ok; omega
  · have := h.vals x hx; unfold RI.ok; omega
def valL : List Int := [2, 2, 3, 3]
theorem valL_at : ∀ i : Fin 4, ∃ v : Nat, valL.getD i.val 0 = v ∧ 0 < v ∧ v ≤ 256
  | ⟨0, _⟩ => ⟨2, rfl, by omega, by omega⟩
  | ⟨1, _⟩ => ⟨2, rfl, by omega, by omega⟩
  | ⟨2, _⟩ => ⟨3, rfl, by omega, by omega⟩
  | ⟨3, _⟩ => ⟨3, rfl, by omega, by omega⟩
end Go.Proofs.YtedciihjgbkjgacGreatDoor.A


/- QUERIES: copies. Conditions: none. -/
namespace Go.Proofs.YtedciihjgbkjgacGreatDoor.A
open Go
set_option linter.unusedSimpArgs false
set_option linter.unusedVariables false
set_option maxRecDepth 100000

theorem repC {α : Type} (a : α) : List.replicate 1 a = [a] := rfl
theorem specCopy_sat (q : Qu) (h : q.ok) : Sat Tryz.prog 35 [lQu q] [oQu q] [g3] := by
  refine sat_of_body mixed Tryz.func35 rfl (by kernel_rfl) (by kernel_rfl) (rs := [.cell 2 28]) rfl rfl rfl ?_
  have hf := h.2
  have ha := h.1.1
  simp -implicitDefEqProofs (maxSteps := 2000000) only [go_sem]
  repeat (refine ⟨by omega, ?_⟩)
  first | (with_reducible refine tr_and ?_ ?_; focus kernel_rfl) | (with_reducible refine tr_only ?_; kernel_rfl) | skip
  refine awp_loop Nat (fun k => mkSt [(1, .one (.vad 1000 0)), (2, .one (.vad 1064 0)), (3, .one (.vad 1576 0)), (4, .sc (.int .i64 k))] [(1000, sQu q), (1064, [.sc (.int .i64 0), .sc (.slice none 0 0), .sc (.slice none 0 0)]), (1576, [.sc (.int .i64 q.vc), .ref 960 2 0 k, .ref 961 1 0 q.free.length])] [(960, (2, ris 999 (q.atoms.take k))), (961, (1, ints q.free))] 4000)
    (fun k => k ≤ q.atoms.length) (fun k => q.atoms.length - k) 0 (by omega) (le_st' _ _ [⟨960, none, false, 2, _⟩, ⟨961, some _, false, 1, _⟩] [] _ (by simp -implicitDefEqProofs (maxSteps := 2000000) only [go_sem] <;> and_intros <;> rfl) (by simp -implicitDefEqProofs (maxSteps := 2000000) only [go_sem] <;> and_intros <;> rfl) (by simp -implicitDefEqProofs (maxSteps := 2000000) only [go_sem] <;> and_intros <;> rfl) (by rfl)) ?_
  rintro k h4
  by_cases c1 : k < q.atoms.length
  · have wk : IntKind.i64.wrap ((k : Int) + 1) = ((k + 1 : Nat) : Int) := i64_succ (by omega)
    have hx : (q.atoms.getD k default).l.length ≤ 1048576 := h.1.2 _ (mem_getD default c1)
    have ht : (q.atoms.take k).length = k := by rw [List.length_take]; omega
    simp -implicitDefEqProofs (maxSteps := 2000000) only [go_sem, c1]
    repeat (refine ⟨by omega, ?_⟩)
    refine tr_and (by kernel_rfl) ?_
    rw [wk]
    refine ⟨k + 1, c1, by omega, ?_⟩
    rw [take_snoc default c1]
    exact (le_st' _ _ [⟨960, some _, false, 2, _⟩, ⟨961, some _, false, 1, _⟩] [] _ (by simp -implicitDefEqProofs (maxSteps := 2000000) only [go_sem, ht, repC, List.set_cons_zero] <;> and_intros <;> rfl) (by simp -implicitDefEqProofs (maxSteps := 2000000) only [go_sem, ht, repC, List.set_cons_zero] <;> and_intros <;> rfl) (by simp -implicitDefEqProofs (maxSteps := 2000000) only [go_sem, ht, repC, List.set_cons_zero] <;> and_intros <;> rfl) (by rfl))
  · obtain rfl : k = q.atoms.length := by omega
    rw [List.take_length]
    simp -implicitDefEqProofs (maxSteps := 2000000) only [go_sem, c1]
    kernel_rfl
end Go.Proofs.YtedciihjgbkjgacGreatDoor.A


/- BLOCKS: the plain law. Conditions: none. (No program in sight.) -/
namespace Go.Proofs.YtedciihjgbkjgacGreatDoor.A
open Go
set_option linter.unusedSimpArgs false
set_option linter.unusedVariables false

/-- A relation of equal keys over sorted facts. -/
structure Eqv (S : Nat → Nat → Bool) (n : Nat) : Prop where
  refl : ∀ i, i < n → S i i = true
  symm : ∀ i j, i < n → j < n → S i j = true → S j i = true
  trans : ∀ i j k, i < n → j < n → k < n → S i j = true → S j k = true → S i k = true
  mid : ∀ i j k, i ≤ j → j ≤ k → k < n → S i k = true → S i j = true
def isFst (S : Nat → Nat → Bool) (i : Nat) : Bool := (List.range i).all fun j => !S j i
def clsOf (S : Nat → Nat → Bool) (i k : Nat) : List Nat := (List.range k).filter (S i)
def fsts (S : Nat → Nat → Bool) (k : Nat) : List Nat := (List.range k).filter (isFst S)
def blkN (S : Nat → Nat → Bool) (k : Nat) : List (List Nat) := (fsts S k).map fun i => clsOf S i k
def castL (l : List Nat) : List Int := l.map fun (i : Nat) => (i : Int)
def blk (S : Nat → Nat → Bool) (k : Nat) : List (List Int) := (blkN S k).map castL
section eqv
variable {S : Nat → Nat → Bool} {n : Nat}
theorem isFst_not {i j : Nat} (h : isFst S i = true) (hj : j < i) : S j i = false := by
  unfold isFst at h
  have := List.all_eq_true.mp h j (by simpa using hj)
  simpa using this
theorem isFst_of {i : Nat} (h : ∀ j, j < i → S j i = false) : isFst S i = true := by
  unfold isFst
  rw [List.all_eq_true]
  intro j hj
  rw [h j (by simpa using hj)]; rfl
theorem clsOf_succ (i k : Nat) : clsOf S i (k + 1) = clsOf S i k ++ if S i k then [k] else [] := by
  unfold clsOf
  rw [List.range_succ, List.filter_append]
  congr 1
  rcases h : S i k <;> simp [h]
theorem fsts_succ (k : Nat) : fsts S (k + 1) = fsts S k ++ if isFst S k then [k] else [] := by
  unfold fsts
  rw [List.range_succ, List.filter_append]
  congr 1
  rcases h : isFst S k <;> simp [h]
theorem fsts_mem {i k : Nat} : i ∈ fsts S k ↔ i < k ∧ isFst S i = true := by
  unfold fsts
  rw [List.mem_filter]; simp
theorem clsOf_mem {i j k : Nat} : j ∈ clsOf S i k ↔ j < k ∧ S i j = true := by
  unfold clsOf
  rw [List.mem_filter]; simp
theorem clsOf_fst (E : Eqv S n) {i k : Nat} (hk : k ≤ n) (hi : i < k) (h : isFst S i = true) : ∃ t, clsOf S i k = i :: t := by
  obtain ⟨d, rfl⟩ := Nat.le.dest (show i + 1 ≤ k from hi)
  unfold clsOf
  rw [List.range_add, List.range_succ, List.filter_append, List.filter_append]
  have : (List.range i).filter (S i) = [] := by
    rw [List.filter_eq_nil_iff]
    intro j hj
    have hj : j < i := by simpa using hj
    intro hs
    have := E.symm i j (by omega) (by omega) hs
    rw [isFst_not h hj] at this; cases this
  rw [this]
  simp [E.refl i (by omega)]
/-- A new fact begins a block. -/
theorem blkN_new (E : Eqv S n) {k : Nat} (hk : k < n) (h : isFst S k = true) : blkN S (k + 1) = blkN S k ++ [[k]] := by
  unfold blkN
  rw [fsts_succ, h, if_pos rfl, List.map_append, List.map_singleton]
  congr 1
  · refine List.map_congr_left fun i hi => ?_
    obtain ⟨h1, h2⟩ := fsts_mem.mp hi
    rw [clsOf_succ, isFst_not h h1]; simp
  · rw [clsOf_succ, E.refl k hk, if_pos rfl]
    have : clsOf S k k = [] := by
      unfold clsOf
      rw [List.filter_eq_nil_iff]
      intro j hj
      have hj : j < k := by simpa using hj
      intro hs
      have := E.symm k j hk (by omega) hs
      rw [isFst_not h hj] at this; cases this
    rw [this]; rfl
/-- The least of those that a fact shares its block with. -/
theorem least {p : Nat → Bool} : ∀ {k : Nat}, (∃ j, j < k ∧ p j = true) → ∃ j, j < k ∧ p j = true ∧ ∀ i, i < j → p i = false
  | 0, ⟨j, h, _⟩ => by omega
  | k + 1, ⟨j, h1, h2⟩ => by
    by_cases e : ∃ j, j < k ∧ p j = true
    · obtain ⟨j, h3, h4, h5⟩ := least e
      exact ⟨j, by omega, h4, h5⟩
    · have hj : j = k := by
        rcases Nat.lt_or_ge j k with h | h
        · exact absurd ⟨j, h, h2⟩ e
        · omega
      subst hj
      refine ⟨j, by omega, h2, fun i hi => ?_⟩
      rcases hp : p i
      · rfl
      · exact absurd ⟨i, hi, hp⟩ e
/-- A fact joins the last block. -/
theorem blkN_join (E : Eqv S n) {k : Nat} (hk : k < n) (h : isFst S k = false) : ∃ (L : List (List Nat)) (i : Nat) (t : List Nat), blkN S k = L ++ [i :: t] ∧ S i k = true ∧ i < k ∧ blkN S (k + 1) = L ++ [(i :: t) ++ [k]] := by
  have hex : ∃ j, j < k ∧ S j k = true := by
    refine Classical.byContradiction fun hn => ?_
    rw [isFst_of (fun j hj => by
      rcases e : S j k
      · rfl
      · exact absurd ⟨j, hj, e⟩ hn)] at h
    cases h
  obtain ⟨i, h1, h2, h3⟩ := least hex
  have hfi : isFst S i = true := isFst_of fun j hj => by
    rcases e : S j i
    · rfl
    · have := E.trans j i k (by omega) (by omega) hk e h2
      rw [h3 j hj] at this; cases this
  have hfs : fsts S k = fsts S i ++ [i] := by
    obtain ⟨d, rfl⟩ := Nat.le.dest (show i + 1 ≤ k from h1)
    unfold fsts
    rw [List.range_add, List.filter_append, List.range_succ, List.filter_append]
    have e1 : List.filter (isFst S) [i] = [i] := by simp [hfi]
    have e2 : List.filter (isFst S) ((List.range d).map (i + 1 + ·)) = [] := by
      rw [List.filter_eq_nil_iff]
      intro j hj
      obtain ⟨m, hm, rfl⟩ := List.mem_map.mp hj
      have hm : m < d := by simpa using hm
      intro hf
      have := E.mid i (i + 1 + m) (i + 1 + d) (by omega) (by omega) hk h2
      rw [isFst_not hf (by omega)] at this; cases this
    rw [e1, e2, List.append_nil]
  obtain ⟨t, ht⟩ := clsOf_fst E (k := k) (by omega) h1 hfi
  refine ⟨(fsts S i).map (fun j => clsOf S j k), i, t, ?_, h2, h1, ?_⟩
  · unfold blkN
    rw [hfs, List.map_append, List.map_singleton, ht]
  · unfold blkN
    rw [fsts_succ, h, hfs]
    simp only [Bool.false_eq_true, if_false, List.append_nil, List.map_append, List.map_singleton]
    rw [clsOf_succ i k, h2, if_pos rfl, ht]
    congr 1
    refine List.map_congr_left fun j hj => ?_
    obtain ⟨g1, g2⟩ := fsts_mem.mp hj
    rw [clsOf_succ]
    rcases e : S j k
    · simp
    · have := E.trans j k i (by omega) hk (by omega) e (E.symm i k (by omega) hk h2)
      rw [isFst_not hfi g1] at this; cases this
theorem blk_new (E : Eqv S n) {k : Nat} (hk : k < n) (h : isFst S k = true) : blk S (k + 1) = blk S k ++ [[(k : Int)]] := by
  unfold blk
  rw [blkN_new E hk h]; simp [castL]
theorem blk_join (E : Eqv S n) {k : Nat} (hk : k < n) (h : isFst S k = false) : ∃ (L : List (List Int)) (i : Nat) (t : List Int), blk S k = L ++ [(i : Int) :: t] ∧ S i k = true ∧ i < k ∧ blk S (k + 1) = L ++ [(((i : Int) :: t) ++ [(k : Int)])] := by
  obtain ⟨L, i, t, h1, h2, h3, h4⟩ := blkN_join E hk h
  refine ⟨L.map castL, i, castL t, ?_, h2, h3, ?_⟩
  · unfold blk; rw [h1]; simp [castL]
  · unfold blk; rw [h4]; simp [castL]
/-- The last block of what there is, where a new one begins. -/
theorem blk_last (E : Eqv S n) {k : Nat} (hk : k < n) (h : isFst S k = true) {L : List (List Int)} {b : List Int} (e : blk S k = L ++ [b]) : ∃ (i : Nat) (t : List Int), b = (i : Int) :: t ∧ i < k ∧ S i k = false := by
  have hb : b ∈ blk S k := by rw [e]; simp
  unfold blk at hb
  obtain ⟨c, hc, rfl⟩ := List.mem_map.mp hb
  unfold blkN at hc
  obtain ⟨i, hi, rfl⟩ := List.mem_map.mp hc
  obtain ⟨h1, h2⟩ := fsts_mem.mp hi
  obtain ⟨t, ht⟩ := clsOf_fst E (k := k) (by omega) h1 h2
  exact ⟨i, castL t, by rw [ht]; rfl, h1, isFst_not h h1⟩
theorem blk_zero : blk S 0 = [] := rfl
theorem blk_sum (E : Eqv S n) : ∀ {k : Nat}, k ≤ n → ((blk S k).map List.length).sum = k
  | 0, _ => rfl
  | k + 1, hk => by
    have ih := blk_sum E (k := k) (by omega)
    rcases h : isFst S k
    · obtain ⟨L, i, t, h1, _, _, h4⟩ := blk_join E (k := k) (by omega) h
      rw [h4]
      rw [h1] at ih
      simp at ih ⊢
      omega
    · rw [blk_new E (by omega) h]
      simp [ih]
theorem blk_ne (E : Eqv S n) {k : Nat} (hk : k ≤ n) : ∀ b ∈ blk S k, 0 < b.length := by
  intro b hb
  unfold blk at hb
  obtain ⟨c, hc, rfl⟩ := List.mem_map.mp hb
  unfold blkN at hc
  obtain ⟨i, hi, rfl⟩ := List.mem_map.mp hc
  obtain ⟨h1, h2⟩ := fsts_mem.mp hi
  obtain ⟨t, ht⟩ := clsOf_fst E hk h1 h2
  rw [ht]; simp [castL]
/-- Blocks lie one behind another. -/
theorem blk_asc (E : Eqv S n) {k : Nat} (hk : k ≤ n) : (blk S k).Pairwise fun a b => ∀ x ∈ a, ∀ y ∈ b, x < y := by
  unfold blk blkN
  rw [List.map_map, List.pairwise_map]
  have hs : (fsts S k).Pairwise (· < ·) := List.Pairwise.filter _ List.pairwise_lt_range
  refine List.Pairwise.imp_of_mem (fun {i j} hi hj hij => ?_) hs
  obtain ⟨a1, a2⟩ := fsts_mem.mp hi
  obtain ⟨b1, b2⟩ := fsts_mem.mp hj
  intro x hx y hy
  obtain ⟨x', hx', rfl⟩ := List.mem_map.mp hx
  obtain ⟨y', hy', rfl⟩ := List.mem_map.mp hy
  obtain ⟨c1, c2⟩ := clsOf_mem.mp hx'
  obtain ⟨d1, d2⟩ := clsOf_mem.mp hy'
  have hjy : j ≤ y' := by
    rcases Nat.lt_or_ge y' j with h | h
    · have := E.symm j y' (by omega) (by omega) d2
      rw [isFst_not b2 h] at this; cases this
    · exact h
  have hno : S i j = false := isFst_not b2 hij
  have : x' < y' := by
    rcases Nat.lt_or_ge x' y' with h | h
    · exact h
    · have := E.mid i j x' (by omega) (by omega) (by omega) c2
      rw [hno] at this; cases this
  omega
end eqv

/-! #### repairs by their rank -/
def prodL : List (List Int) → Nat
  | [] => 1
  | b :: l => b.length * prodL l
theorem prodL_append : ∀ (a b : List (List Int)), prodL (a ++ b) = prodL a * prodL b
  | [], b => by simp [prodL]
  | x :: a, b => by rw [List.cons_append, prodL, prodL, prodL_append a b, Nat.mul_assoc]
theorem lt_two_pow (n : Nat) : n ≤ 2 ^ n := Nat.le_of_lt Nat.lt_two_pow_self
theorem prodL_le : ∀ (l : List (List Int)), prodL l ≤ 2 ^ ((l.map List.length).sum)
  | [] => by simp [prodL]
  | b :: l => by
    rw [prodL, List.map_cons, List.sum_cons, Nat.pow_add]
    exact Nat.mul_le_mul (lt_two_pow _) (prodL_le l)
theorem prodL_pos : ∀ {l : List (List Int)}, (∀ b ∈ l, 0 < b.length) → 0 < prodL l
  | [], _ => by simp [prodL]
  | b :: l, h => by
    rw [prodL]
    exact Nat.mul_pos (h b (by simp)) (prodL_pos fun c hc => h c (by simp [hc]))
def pickR : List (List Int) → Nat → List Int × Nat
  | [], r => ([], r)
  | b :: l, r => (b.getD ((pickR l r).2 % b.length) 0 :: (pickR l r).1, (pickR l r).2 / b.length)
theorem pickR_len : ∀ (l : List (List Int)) (r : Nat), (pickR l r).1.length = l.length
  | [], r => rfl
  | b :: l, r => by rw [pickR, List.length_cons, List.length_cons, pickR_len l r]
theorem pickR_le : ∀ (l : List (List Int)) (r : Nat), (pickR l r).2 ≤ r
  | [], r => Nat.le_refl _
  | b :: l, r => Nat.le_trans (Nat.div_le_self _ _) (pickR_le l r)
theorem pickR_drop {l : List (List Int)} {i : Nat} (h : i < l.length) (r : Nat) : pickR (l.drop i) r = ((l.getD i []).getD ((pickR (l.drop (i + 1)) r).2 % (l.getD i []).length) 0 :: (pickR (l.drop (i + 1)) r).1, (pickR (l.drop (i + 1)) r).2 / (l.getD i []).length) := by
  rw [List.drop_eq_getElem_cons h, pickR]
  simp [List.getD_eq_getElem?_getD, h]
theorem pickR_mem : ∀ {l : List (List Int)} {r : Nat} {x : Int}, (∀ b ∈ l, 0 < b.length) → x ∈ (pickR l r).1 → ∃ b ∈ l, x ∈ b
  | [], r, x, _, h => by cases h
  | b :: l, r, x, hl, h => by
    rw [pickR] at h
    rcases List.mem_cons.mp h with rfl | h
    · exact ⟨b, by simp, by
        have hb := hl b (by simp)
        rw [List.getD_eq_getElem?_getD, List.getElem?_eq_getElem (Nat.mod_lt _ hb)]
        exact List.getElem_mem _⟩
    · obtain ⟨c, hc, hx⟩ := pickR_mem (fun c hc => hl c (by simp [hc])) h
      exact ⟨c, by simp [hc], hx⟩
theorem pickR_asc : ∀ {l : List (List Int)} {r : Nat}, (∀ b ∈ l, 0 < b.length) → (l.Pairwise fun a b => ∀ x ∈ a, ∀ y ∈ b, x < y) → (pickR l r).1.Pairwise (· < ·)
  | [], r, _, _ => List.Pairwise.nil
  | b :: l, r, hl, hp => by
    rw [pickR]
    rw [List.pairwise_cons] at hp ⊢
    refine ⟨fun y hy => ?_, pickR_asc (fun c hc => hl c (by simp [hc])) hp.2⟩
    obtain ⟨c, hc, hyc⟩ := pickR_mem (fun c hc => hl c (by simp [hc])) hy
    refine hp.1 c hc _ ?_ y hyc
    have hb := hl b (by simp)
    rw [List.getD_eq_getElem?_getD, List.getElem?_eq_getElem (Nat.mod_lt _ hb)]
    exact List.getElem_mem _
theorem sort_rev {l : List Int} (h : l.Pairwise (· < ·)) : sortI l.reverse = l :=
  sorted_uni (sortI_sorted _) (h.imp fun h => by omega) ((sortI_perm _).trans (List.reverse_perm l))
end Go.Proofs.YtedciihjgbkjgacGreatDoor.A


/- VIOLATIONS OF CONSTRAINTS, EQUAL KEYS. Conditions: none. -/
namespace Go.Proofs.YtedciihjgbkjgacGreatDoor.A
open Go
set_option linter.unusedSimpArgs false
set_option linter.unusedVariables false
set_option maxRecDepth 100000

abbrev at0 (l : List Int) (i : Int) : Int := l.getD i.toNat 0
def viol (x : Den) (a b : RI) : Bool := (a.r == x.fr) && ((b.r == x.sr) && ((at0 a.l x.fj == at0 b.l x.sj) && (if x.cp = 1 then at0 a.l x.fc == at0 b.l x.sc else decide (at0 a.l x.fc < at0 b.l x.sc))))
def IdxOk (x : Den) (a b : RI) : Prop := (x.cp = 1 ∨ x.cp = 2) ∧ (a.r = x.fr → b.r = x.sr → (0 ≤ x.fj ∧ x.fj < a.l.length) ∧ (0 ≤ x.sj ∧ x.sj < b.l.length) ∧ (0 ≤ x.fc ∧ x.fc < a.l.length) ∧ (0 ≤ x.sc ∧ x.sc < b.l.length))
theorem idx_ok {d : Db} {x : Den} {a b : RI} (h : goodDen d x = true) (ha : goodFact d.rels a = true) (hb : goodFact d.rels b = true) : IdxOk x a b := by
  unfold goodDen at h
  simp only [Bool.and_eq_true] at h
  obtain ⟨g, i1, i2, j1, j2, j3, j4, j5⟩ := h
  have k1 := inB_of j1
  have k2 := inB_of j2
  have k3 := inB_of j3
  have k4 := inB_of j4
  have k5 := inB_of j5
  refine ⟨by omega, fun e1 e2 => ?_⟩
  obtain ⟨m, hm, hm2, hm3⟩ := fact_at ha
  obtain ⟨n, hn, hn2, hn3⟩ := fact_at hb
  have t1 : x.fr.toNat = m := by omega
  have t2 : x.sr.toNat = n := by omega
  unfold arOf at k1 k2 k3 k4
  rw [t1, ← hm3] at k1 k2
  rw [t2, ← hn3] at k3 k4
  omega
def violB (d : Db) (x : Den) (i k : Int) : Bool := goodDen d x && ((i != k) && (inB i 0 ((d.facts.length : Int) - 1) && (inB k 0 ((d.facts.length : Int) - 1) && viol x (d.facts.getD i.toNat default) (d.facts.getD k.toNat default))))
end Go.Proofs.YtedciihjgbkjgacGreatDoor.A


/- EQUAL KEYS, CONFLICT EDGES. Conditions: none. -/
namespace Go.Proofs.YtedciihjgbkjgacGreatDoor.A
open Go
set_option linter.unusedSimpArgs false
set_option linter.unusedVariables false
set_option maxRecDepth 100000

abbrev klOf (l : List Rel) (r : Int) : Nat := (l.getD r.toNat default).kl.toNat
def sameK (l : List Rel) (a b : RI) : Bool := (a.r == b.r) && decide (a.l.take (klOf l a.r) = b.l.take (klOf l a.r))
def rowE (p : Nat → Nat → Bool) (a : Nat) : Nat → List Edge
  | 0 => []
  | b + 1 => if decide (a < b) && p a b then rowE p a b ++ [⟨a, b⟩] else rowE p a b
def allE (p : Nat → Nat → Bool) (n : Nat) : Nat → List Edge
  | 0 => []
  | a + 1 => allE p n a ++ rowE p a n
theorem rowE_nil (p : Nat → Nat → Bool) (a : Nat) : ∀ b, b ≤ a + 1 → rowE p a b = []
  | 0, _ => rfl
  | b + 1, h => by
    rw [rowE, rowE_nil p a b (by omega), decide_eq_false (by omega : ¬ a < b)]; rfl
theorem rowE_len (p : Nat → Nat → Bool) (a : Nat) : ∀ b, (rowE p a b).length ≤ b
  | 0 => by simp [rowE]
  | b + 1 => by
    have := rowE_len p a b
    unfold rowE; split
    · simp; omega
    · omega
theorem allE_len (p : Nat → Nat → Bool) (n : Nat) : ∀ a, (allE p n a).length ≤ a * n
  | 0 => by simp [allE]
  | a + 1 => by
    have h1 := allE_len p n a
    have h2 := rowE_len p a n
    rw [allE, List.length_append, Nat.add_mul, Nat.one_mul]; omega
def hit (d : Db) (i k : Int) (x : Den) : Bool := violB d x i k || violB d x k i
def confl (d : Db) (l : List Den) (i k : Nat) : Bool := l.any (hit d i k) || sameK d.rels (d.facts.getD i default) (d.facts.getD k default)
def edgesOf (d : Db) (l : List Den) : List Edge := if goodDb d then allE (confl d l) d.facts.length d.facts.length else []
theorem edgesOf_len (d : Db) (l : List Den) : (edgesOf d l).length ≤ 196 := by
  unfold edgesOf
  split
  · rename_i g
    have h := allE_len (confl d l) d.facts.length d.facts.length
    have h2 := (db_of g).2.1
    have h3 : d.facts.length * d.facts.length ≤ 14 * 14 := Nat.mul_le_mul h2 h2
    omega
  · simp
abbrev fDb (d : Db) : List Fld := [.im 3 (rels d.rels), .im 2 (ris 0 d.facts)]
abbrev fDens (l : List Den) : List Fld := [.im 7 (dens l)]
theorem any_step {α : Type} {d : α} {l : List α} {k : Nat} {p : α → Bool} (h : k < l.length) : (l.take (k + 1)).any p = ((l.take k).any p || p (l.getD k d)) := by
  rw [take_snoc d h, List.any_append]; simp
theorem any_hit {α : Type} {d : α} {l : List α} {k : Nat} {p : α → Bool} (h : k < l.length) (hp : p (l.getD k d) = true) : l.any p = true := List.any_eq_true.mpr ⟨_, mem_getD d h, hp⟩
end Go.Proofs.YtedciihjgbkjgacGreatDoor.A


/- BLOCKS OF A VALID DATABASE. Conditions: none. -/
namespace Go.Proofs.YtedciihjgbkjgacGreatDoor.A
open Go
set_option linter.unusedSimpArgs false
set_option linter.unusedVariables false

theorem cmpInts_trans : ∀ {a b c : List Int}, cmpInts a b < 0 → cmpInts b c < 0 → cmpInts a c < 0
  | [], [], _, h, _ => by simp [cmpInts] at h
  | [], _ :: _, [], _, h => by simp [cmpInts] at h
  | [], _ :: _, _ :: _, _, _ => by simp [cmpInts]
  | _ :: _, [], _, h, _ => by simp [cmpInts] at h
  | _ :: _, _ :: _, [], _, h => by simp [cmpInts] at h
  | x :: a, y :: b, z :: c, h1, h2 => by
    unfold cmpInts at h1 h2 ⊢
    rcases Int.lt_trichotomy x y with d | d | d
    · rcases Int.lt_trichotomy y z with e | e | e
      · rw [if_pos (by omega)]; omega
      · rw [if_pos (by omega)]; omega
      · rw [if_neg (by omega), if_pos e] at h2; omega
    · subst d
      rw [if_neg (by omega), if_neg (by omega)] at h1
      rcases Int.lt_trichotomy x z with e | e | e
      · rw [if_pos e]; omega
      · subst e
        rw [if_neg (by omega), if_neg (by omega)] at h2 ⊢
        exact cmpInts_trans h1 h2
      · rw [if_neg (by omega), if_pos e] at h2; omega
    · rw [if_neg (by omega), if_pos d] at h1; omega
theorem lex_mid : ∀ (m : Nat) {a b c : List Int}, a.length = b.length → b.length = c.length → cmpInts a b ≤ 0 → cmpInts b c ≤ 0 → a.take m = c.take m → a.take m = b.take m
  | 0, _, _, _, _, _, _, _, _ => by simp
  | m + 1, [], [], _, _, _, _, _, _ => rfl
  | m + 1, x :: a, y :: b, [], _, h, _, _, _ => by simp at h
  | m + 1, x :: a, y :: b, z :: c, h1, h2, h3, h4, h5 => by
    simp only [List.take_succ_cons, List.cons.injEq] at h5 ⊢
    obtain ⟨rfl, h5⟩ := h5
    unfold cmpInts at h3 h4
    rcases Int.lt_trichotomy x y with d | d | d
    · rw [if_neg (by omega), if_pos d] at h4; omega
    · subst d
      rw [if_neg (by omega), if_neg (by omega)] at h3 h4
      exact ⟨rfl, lex_mid m (by simpa using h1) (by simpa using h2) h3 h4 h5⟩
    · rw [if_neg (by omega), if_pos d] at h3; omega
theorem cmpRI_trans {a b c : RI} (h1 : cmpRI a b < 0) (h2 : cmpRI b c < 0) : cmpRI a c < 0 := by
  unfold cmpRI at *
  rcases Int.lt_trichotomy a.r b.r with d | d | d
  · rcases Int.lt_trichotomy b.r c.r with e | e | e
    · rw [if_pos (by omega)]; omega
    · rw [if_pos (by omega)]; omega
    · rw [if_neg (by omega), if_pos e] at h2; omega
  · rw [if_neg (by omega), if_neg (by omega)] at h1
    rcases Int.lt_trichotomy b.r c.r with e | e | e
    · rw [if_pos (by omega)]; omega
    · rw [if_neg (by omega), if_neg (by omega)] at h2 ⊢
      exact cmpInts_trans h1 h2
    · rw [if_neg (by omega), if_pos e] at h2; omega
  · rw [if_neg (by omega), if_pos d] at h1; omega
theorem db_step {d : Db} (g : goodDb d = true) {i : Nat} (hi : i + 1 < d.facts.length) : cmpRI (d.facts.getD i default) (d.facts.getD (i + 1) default) < 0 := by
  unfold goodDb at g
  simp only [Bool.and_eq_true] at g
  have := upTo_at g.2.2 hi
  unfold factOk at this
  rw [Bool.and_eq_true, Nat.add_sub_cancel, decide_eq_false (by omega : ¬ i + 1 = 0), Bool.false_or, Bool.not_eq_true', decide_eq_false_iff_not] at this
  omega
theorem db_sorted {d : Db} (g : goodDb d = true) {i : Nat} : ∀ {j : Nat}, i < j → j < d.facts.length → cmpRI (d.facts.getD i default) (d.facts.getD j default) < 0
  | 0, h, _ => by omega
  | j + 1, h, hj => by
    have h1 := db_step g hj
    rcases Nat.lt_or_ge i j with h2 | h2
    · exact cmpRI_trans (db_sorted g h2 (by omega)) h1
    · obtain rfl : i = j := by omega
      exact h1
theorem cmpInts_self (a : List Int) : cmpInts a a = 0 := cmpInts_zero.mpr rfl
theorem cmpRI_self (a : RI) : cmpRI a a = 0 := by
  unfold cmpRI
  rw [if_neg (by omega), if_neg (by omega)]; exact cmpInts_self _
theorem db_le {d : Db} (g : goodDb d = true) {i j : Nat} (h : i ≤ j) (hj : j < d.facts.length) : cmpRI (d.facts.getD i default) (d.facts.getD j default) ≤ 0 := by
  rcases Nat.lt_or_ge i j with h1 | h1
  · have := db_sorted g h1 hj; omega
  · obtain rfl : i = j := by omega
    rw [cmpRI_self]; omega
theorem sameK_iff {l : List Rel} {a b : RI} : sameK l a b = true ↔ a.r = b.r ∧ a.l.take (klOf l a.r) = b.l.take (klOf l a.r) := by
  unfold sameK
  rw [Bool.and_eq_true, beq_iff_eq, decide_eq_true_iff]
theorem good_len {d : Db} (g : goodDb d = true) {i j : Nat} (hi : i < d.facts.length) (hj : j < d.facts.length) (e : (d.facts.getD i default).r = (d.facts.getD j default).r) : (d.facts.getD i default).l.length = (d.facts.getD j default).l.length := by
  have h1 := goodDb_fact g hi
  have h2 := goodDb_fact g hj
  unfold goodFact at h1 h2
  simp only [Bool.and_eq_true, beq_iff_eq] at h1 h2
  have a1 := h1.2.1
  have a2 := h2.2.1
  rw [e] at a1
  omega
def keyR (d : Db) (i k : Nat) : Bool := sameK d.rels (d.facts.getD i default) (d.facts.getD k default)
theorem keyR_eqv {d : Db} (g : goodDb d = true) : Eqv (keyR d) d.facts.length where
  refl i hi := by unfold keyR; rw [sameK_iff]; exact ⟨rfl, rfl⟩
  symm i j hi hj h := by
    unfold keyR at *
    rw [sameK_iff] at *
    exact ⟨h.1.symm, by rw [← h.1]; exact h.2.symm⟩
  trans i j k hi hj hk h1 h2 := by
    unfold keyR at *
    rw [sameK_iff] at *
    refine ⟨h1.1.trans h2.1, ?_⟩
    have := h2.2
    rw [← h1.1] at this
    exact h1.2.trans this
  mid i j k h1 h2 hk h := by
    unfold keyR at *
    rw [sameK_iff] at *
    have a1 := db_le g h1 (by omega)
    have a2 := db_le g h2 hk
    obtain ⟨b1, b2⟩ := h
    have hr : (d.facts.getD i default).r = (d.facts.getD j default).r := by
      unfold cmpRI at a1 a2
      rcases Int.lt_trichotomy (d.facts.getD i default).r (d.facts.getD j default).r with e | e | e
      · rcases Int.lt_trichotomy (d.facts.getD j default).r (d.facts.getD k default).r with e2 | e2 | e2
        · omega
        · omega
        · rw [if_neg (by omega), if_pos e2] at a2; omega
      · exact e
      · rw [if_neg (by omega), if_pos e] at a1; omega
    refine ⟨hr, ?_⟩
    unfold cmpRI at a1 a2
    rw [if_neg (by omega), if_neg (by omega)] at a1 a2
    exact lex_mid _ (good_len g (by omega) (by omega) hr) (good_len g (by omega) hk (by omega)) a1 a2 b2
/-- The blocks. -/
def blocksOf (d : Db) : List (List Int) := blk (keyR d) d.facts.length
theorem blocksOf_prod {d : Db} (g : goodDb d = true) : 0 < prodL (blocksOf d) ∧ prodL (blocksOf d) ≤ 16384 := by
  refine ⟨prodL_pos (blk_ne (keyR_eqv g) (Nat.le_refl _)), ?_⟩
  have h1 := prodL_le (blocksOf d)
  rw [show ((blocksOf d).map List.length).sum = d.facts.length from blk_sum (keyR_eqv g) (Nat.le_refl _)] at h1
  have h2 : 2 ^ d.facts.length ≤ 2 ^ 14 := Nat.pow_le_pow_right (by omega) (goodDb_len g)
  omega
theorem sum_ge : ∀ {l : List (List Int)}, (∀ b ∈ l, 0 < b.length) → l.length ≤ (l.map List.length).sum
  | [], _ => by simp
  | b :: l, h => by
    have := sum_ge (l := l) fun c hc => h c (by simp [hc])
    have := h b (by simp)
    simp; omega
theorem sum_mem : ∀ {l : List (List Int)} {b : List Int}, b ∈ l → b.length ≤ (l.map List.length).sum
  | [], _, h => by cases h
  | c :: l, b, h => by
    rcases List.mem_cons.mp h with rfl | h
    · simp
    · have := sum_mem h
      simp; omega
theorem blocksOf_len {d : Db} (g : goodDb d = true) : (blocksOf d).length ≤ 14 ∧ ∀ b ∈ blocksOf d, 0 < b.length ∧ b.length ≤ 14 := by
  have E := keyR_eqv g
  have h1 := blk_ne E (Nat.le_refl _)
  have h2 := blk_sum E (Nat.le_refl d.facts.length)
  have h3 := goodDb_len g
  refine ⟨?_, fun b hb => ⟨h1 b hb, ?_⟩⟩
  · have := sum_ge h1
    show (blk _ _).length ≤ _
    omega
  · have := sum_mem hb
    have e : ((blocksOf d).map List.length).sum = d.facts.length := h2
    omega
end Go.Proofs.YtedciihjgbkjgacGreatDoor.A


/- FACTS ARE SELECTED. Conditions: none. -/
namespace Go.Proofs.YtedciihjgbkjgacGreatDoor.A
open Go
set_option linter.unusedSimpArgs false
set_option linter.unusedVariables false
set_option maxRecDepth 100000

theorem goodDb_rels {d : Db} (h : goodDb d = true) : d.rels.length ≤ 4 := by
  unfold goodDb goodRels at h
  simp only [Bool.and_eq_true, decide_eq_true_eq] at h
  omega
theorem repS {α : Type} (a : α) : List.replicate 1 a = [a] := rfl
abbrev zDb : List SV := [.sc (.slice none 0 0), .sc (.slice none 0 0)]
/-- The chosen facts. -/
def selF (fs : List RI) (l : List Int) : List RI := l.map fun i => fs.getD i.toNat default
def selOk (d : Db) (l : List Int) : Bool := goodDb d && idxs l d.facts.length
def selD (d : Db) (l : List Int) : Db := if selOk d l then ⟨d.rels, selF d.facts l⟩ else ⟨[], []⟩
theorem selF_length (fs : List RI) (l : List Int) : (selF fs l).length = l.length := by simp [selF]
theorem selF_take (fs : List RI) (l : List Int) {k : Nat} (h : k < l.length) : selF fs (l.take (k + 1)) = selF fs (l.take k) ++ [fs.getD (l.getD k 0).toNat default] := by
  rw [take_snoc 0 h]; simp [selF]
theorem idxs_at {l : List Int} {n : Int} (h : idxs l n = true) {k : Nat} (hk : k < l.length) : 0 ≤ l.getD k 0 ∧ l.getD k 0 < n := by
  have := upTo_at h hk
  unfold idxAt at this
  rw [Bool.and_eq_true] at this
  have := inB_of this.1
  omega
theorem idxs_lt {l : List Int} {n : Int} (h : idxs l n = true) : ∀ (k j : Nat), k < l.length → j < k → l.getD j 0 < l.getD k 0
  | 0, j, _, hj => by omega
  | k + 1, j, hk, hj => by
    have h1 := upTo_at h hk
    unfold idxAt at h1
    rw [Bool.and_eq_true, Nat.add_sub_cancel, decide_eq_false (by omega : ¬ k + 1 = 0), Bool.false_or, Bool.not_eq_true', decide_eq_false_iff_not] at h1
    have h2 := h1.2
    rcases Nat.lt_or_ge j k with hjk | hjk
    · have := idxs_lt h k j (by omega) hjk
      omega
    · obtain rfl : j = k := by omega
      omega
def cellQ (s id w i j s' off len : Nat) (rows : Rows) (c : Cell) (K : Cell → List (Nat × Option Obj') → Prop) : Prop := match c with
  | .sl s'' xs => s'' = s' ∧ off = 0 ∧ len = xs.length ∧ K (.sl s xs) [(id, some (w, Rows.setCell rows i j .gone))]
  | _ => False
theorem cellQ_sl {s id w i j s' s'' off len : Nat} {rows : Rows} {xs : List Value} {K : Cell → List (Nat × Option Obj') → Prop} : cellQ s id w i j s' off len rows (.sl s'' xs) K = (s'' = s' ∧ off = 0 ∧ len = xs.length ∧ K (.sl s xs) [(id, some (w, Rows.setCell rows i j .gone))]) := rfl
def cellI (s id i j s' off len : Nat) (o : Option Obj') (K : Cell → List (Nat × Option Obj') → Prop) : Prop := match o with
  | some (w, rows) => cellQ s id w i j s' off len rows ((rows.getD i []).getD j .gone) K
  | none => False
theorem cellI_some {s id w i j s' off len : Nat} {rows : Rows} {K : Cell → List (Nat × Option Obj') → Prop} : cellI s id i j s' off len (some (w, rows)) K = cellQ s id w i j s' off len rows ((rows.getD i []).getD j .gone) K := rfl
theorem cell_rin {st : St} {s id i j s' off len : Nat} {K : Cell → List (Nat × Option Obj') → Prop} : cellK st s (.rin id i j s' off len) K = cellI s id i j s' off len (st.objs id) K := by
  simp only [cellK, cellI, cellQ, Rows.cell]
  rcases st.objs id with _ | ⟨w, rows⟩
  · rfl
  · simp only
    rcases (List.getD rows i []).getD j .gone with _ | ⟨s'', xs⟩ | _ <;> rfl
attribute [go_sem] cell_rin cellI_some cellQ_sl
/-! #### rows of which some were moved away -/
def cRH (s : Nat) (x : RI × Bool) : List Cell := [.sc (.int .i64 x.1.r), if x.2 then .gone else .sl s (iv x.1.l)]
def rhs (s : Nat) (l : List (RI × Bool)) : Rows := l.map (cRH s)
theorem rhs_length (s : Nat) (l : List (RI × Bool)) : (rhs s l).length = l.length := by simp [rhs]
theorem rhs_get {s : Nat} {l : List (RI × Bool)} {i : Nat} {r : Int} {xs : List Int} (h : l[i]? = some (⟨r, xs⟩, false)) : (rhs s l).getD i [] = [.sc (.int .i64 r), .sl s (iv xs)] := by
  simp [rhs, cRH, List.getD_eq_getElem?_getD, h]
theorem rhs_stm (n s : Nat) (l : List (RI × Bool)) : stm n (rhs (s + 1) l) = rhs n l := stm_map n _ _ (fun x => by rcases x with ⟨x, b⟩; cases b <;> rfl) l
theorem rhs_gone {s : Nat} {l : List (RI × Bool)} {i : Nat} {r : Int} {xs : List Int} (h : l[i]? = some (⟨r, xs⟩, false)) : Rows.setCell (rhs s l) i 1 .gone = rhs s (l.set i (⟨r, xs⟩, true)) := by
  unfold Rows.setCell
  rw [rhs_get h]
  simp [rhs, List.map_set, cRH]
theorem mapF_get {fs : List RI} {i : Nat} (h : i < fs.length) : (fs.map fun a => (a, false))[i]? = some (fs.getD i default, false) := by
  simp [List.getD_eq_getElem?_getD, h]
theorem rhs_of (s : Nat) (l : List RI) : rhs s (l.map fun a => (a, false)) = ris s l := by simp [rhs, ris, cRH, cRI]
attribute [go_sem] rhs_length rhs_stm
end Go.Proofs.YtedciihjgbkjgacGreatDoor.A


/- BLOCKS: the reference. Conditions: none. -/
namespace Go.Proofs.YtedciihjgbkjgacGreatDoor.A
open Go
set_option linter.unusedSimpArgs false
set_option linter.unusedVariables false
set_option maxRecDepth 100000

theorem castL_append (a b : List Nat) : castL (a ++ b) = castL a ++ castL b := by simp [castL]
theorem clsOf_le {S : Nat → Nat → Bool} (i k : Nat) : (clsOf S i k).length ≤ k := by
  unfold clsOf
  have := List.length_filter_le (S i) (List.range k)
  simpa using this
theorem castL_len (l : List Nat) : (castL l).length = l.length := by simp [castL]
theorem clsOf_not {S : Nat → Nat → Bool} {n : Nat} (E : Eqv S n) {i : Nat} (hi : i < n) (h : isFst S i = false) : ∃ j t, clsOf S i n = j :: t ∧ j ≠ i := by
  have hex : ∃ j, j < i ∧ S j i = true := by
    refine Classical.byContradiction fun hn => ?_
    rw [isFst_of (fun j hj => by
      rcases e : S j i
      · rfl
      · exact absurd ⟨j, hj, e⟩ hn)] at h
    cases h
  obtain ⟨j, h1, h2⟩ := hex
  have hm : j ∈ clsOf S i n := clsOf_mem.mpr ⟨by omega, E.symm j i (by omega) hi h2⟩
  rcases hc : clsOf S i n with _ | ⟨a, t⟩
  · rw [hc] at hm; cases hm
  · refine ⟨a, t, rfl, ?_⟩
    have hs : (clsOf S i n).Pairwise (· < ·) := List.Pairwise.filter _ List.pairwise_lt_range
    rw [hc] at hs hm
    rcases List.mem_cons.mp hm with rfl | hm
    · omega
    · have := (List.pairwise_cons.mp hs).1 j hm
      omega
def blkS (d : Db) (k : Nat) : List (List Int) := (fsts (keyR d) k).map fun i => castL (clsOf (keyR d) i d.facts.length)
theorem blkS_all (d : Db) : blkS d d.facts.length = blocksOf d := by
  unfold blkS blocksOf blk blkN
  rw [List.map_map]; rfl
theorem blkS_len (d : Db) (k : Nat) : (blkS d k).length ≤ k := by
  unfold blkS fsts
  rw [List.length_map]
  have := List.length_filter_le (isFst (keyR d)) (List.range k)
  simpa using this
def blocksD (d : Db) : List (List Int) := if goodDb d then blocksOf d else []
theorem rst_blk (a : List (List Int)) : rst (iss 999 a) = iss 1 a := iss_rst 998 a
def sizes (l : List (List Int)) : List Int := l.map fun b => (b.length : Int)
theorem sizes_length (l : List (List Int)) : (sizes l).length = l.length := by simp [sizes]
theorem sizes_get {l : List (List Int)} {i : Nat} (h : i < l.length) : (sizes l).getD i 0 = ((l.getD i []).length : Int) := by
  simp [sizes, List.getD_eq_getElem?_getD, h]
theorem sizes_take {l : List (List Int)} {i : Nat} (h : i < l.length) : sizes (l.take (i + 1)) = sizes (l.take i) ++ [((l.getD i []).length : Int)] := by
  rw [take_snoc [] h]; simp [sizes]
theorem blocksD_len (d : Db) : (blocksD d).length ≤ 14 ∧ ∀ b ∈ blocksD d, 0 < b.length ∧ b.length ≤ 14 := by
  unfold blocksD
  split
  · rename_i g; exact blocksOf_len g
  · exact ⟨by simp, fun b hb => by cases hb⟩
theorem prodL_take {l : List (List Int)} {i : Nat} (h : i < l.length) : prodL (l.take (i + 1)) = prodL (l.take i) * (l.getD i []).length := by
  rw [take_snoc [] h, prodL_append]; simp [prodL]
theorem prodL_part {l : List (List Int)} (hl : ∀ b ∈ l, 0 < b.length) (i : Nat) : prodL (l.take i) ≤ prodL l := by
  have h1 := prodL_append (l.take i) (l.drop i)
  rw [List.take_append_drop] at h1
  have h2 : 0 < prodL (l.drop i) := prodL_pos fun b hb => hl b (List.mem_of_mem_drop hb)
  rw [h1]
  exact Nat.le_mul_of_pos_right _ h2
def cntR (d : Db) : Nat := if goodDb d then prodL (blocksOf d) else 0
theorem cntR_le (d : Db) : cntR d ≤ 16384 := by
  unfold cntR
  split
  · rename_i g; exact (blocksOf_prod g).2
  · omega
end Go.Proofs.YtedciihjgbkjgacGreatDoor.A


/- REPAIRS BY THEIR RANK; PARTIAL REPAIRS: the reference. Conditions: none. -/
namespace Go.Proofs.YtedciihjgbkjgacGreatDoor.A
open Go
set_option linter.unusedSimpArgs false
set_option linter.unusedVariables false
set_option maxRecDepth 100000

def tOf : Nat → Int
  | 0 => -1
  | j + 1 => j
theorem tOf_zero : tOf 0 = -1 := rfl
theorem tOf_succ (j : Nat) : tOf (j + 1) = (j : Int) := rfl
theorem tOf_eq (j : Nat) : tOf j = (j : Int) - 1 := by cases j <;> simp [tOf]
theorem tmodN (a b : Nat) : (a : Int).tmod (b : Int) = ((a % b : Nat) : Int) := by rw [Int.tmod_eq_emod_of_nonneg (by omega)]; rfl
theorem tdivN (a b : Nat) : (a : Int).tdiv (b : Int) = ((a / b : Nat) : Int) := by rw [Int.tdiv_eq_ediv_of_nonneg (by omega)]; rfl
theorem wrapN {n : Nat} (h : n ≤ 9223372036854775807) : IntKind.i64.wrap (n : Int) = n := IntWalk.i64_in _ (by omega)
def nthOk (d : Db) (k : Int) : Bool := inB k 0 ((cntR d : Int) - 1)
def nth' (d : Db) (k : Int) : List Int := if nthOk d k then (pickR (blocksOf d) k.toNat).1 else []
theorem nthOk_good {d : Db} {k : Int} (h : nthOk d k = true) : goodDb d = true ∧ 0 ≤ k ∧ k < cntR d := by
  have h1 := inB_of h
  refine ⟨?_, by omega, by omega⟩
  rcases g : goodDb d
  · have : cntR d = 0 := by unfold cntR; rw [g]; rfl
    omega
  · rfl
theorem nth'_asc {d : Db} (g : goodDb d = true) (r : Nat) : (pickR (blocksOf d) r).1.Pairwise (· < ·) :=
  pickR_asc (blk_ne (keyR_eqv g) (Nat.le_refl _)) (blk_asc (keyR_eqv g) (Nat.le_refl _))
def cst (d : Db) : Bool := goodDb d && decide ((blocksOf d).length = d.facts.length)
def isPR (d : Db) (l : List Int) : Bool := selOk d l && cst (selD d l)
end Go.Proofs.YtedciihjgbkjgacGreatDoor.A


/- QUERIES DRAWN. Conditions: none. -/
namespace Go.Proofs.YtedciihjgbkjgacGreatDoor.A
open Go
set_option linter.unusedSimpArgs false
set_option linter.unusedVariables false
set_option maxRecDepth 100000

/-! #### terms and atoms -/
def tmD (c : Cur) (v : Nat) : Int := if onV c 12 then -1 - ((beV (byC c) 2 : Nat) : Int) else ((beV (byC c) v : Nat) : Int)
def tmsD (c : Cur) (v : Nat) : Nat → List Int × Cur
  | 0 => ([], c)
  | k + 1 => ((tmsD c v k).1 ++ [tmD (tmsD c v k).2 v], byC (byC (tmsD c v k).2))
theorem tmsD_len (c : Cur) (v : Nat) : ∀ k, (tmsD c v k).1.length = k
  | 0 => rfl
  | k + 1 => by rw [tmsD, List.length_append, tmsD_len c v k]; rfl
theorem tmsD_ok {c : Cur} (h : c.ok) (v : Nat) : ∀ k, (tmsD c v k).2.ok
  | 0 => h
  | k + 1 => byC_ok (byC_ok (tmsD_ok h v k))
def atsD (c : Cur) (v f : Nat) : Nat → List RI × Cur
  | 0 => ([], c)
  | i + 1 => ((atsD c v f i).1 ++ [⟨(((f + i) % 4 : Nat) : Int), (tmsD (atsD c v f i).2 v (2 + ((f + i) % 4) / 3)).1⟩], (tmsD (atsD c v f i).2 v (2 + ((f + i) % 4) / 3)).2)
theorem atsD_len (c : Cur) (v f : Nat) : ∀ k, (atsD c v f k).1.length = k
  | 0 => rfl
  | k + 1 => by rw [atsD, List.length_append, atsD_len c v f k]; rfl
theorem atsD_ok {c : Cur} (h : c.ok) (v f : Nat) : ∀ k, (atsD c v f k).2.ok
  | 0 => h
  | k + 1 => tmsD_ok (atsD_ok h v f k) v _
theorem atsD_mem {c : Cur} {v f : Nat} : ∀ {k : Nat}, ∀ x ∈ (atsD c v f k).1, 2 ≤ x.l.length ∧ x.l.length ≤ 3
  | 0, x, hx => by cases hx
  | k + 1, x, hx => by
    rw [atsD] at hx
    rcases List.mem_append.mp hx with h | h
    · exact atsD_mem x h
    · rw [List.mem_singleton.mp h]
      simp only [tmsD_len]; omega
/-! #### variables get new names -/
def posL (nm : List Int) (t : Int) : Nat → Int
  | 0 => -1
  | j + 1 => if nm.getD j 0 = t then (j : Int) else posL nm t j
theorem posL_lo (nm : List Int) (t : Int) : ∀ j, -1 ≤ posL nm t j ∧ posL nm t j < j
  | 0 => by simp [posL]
  | j + 1 => by
    have := posL_lo nm t j
    rw [posL]; split <;> omega
abbrev Tg := List RI × List Int
def tgS (s : Tg) (i k : Nat) : Tg :=
  let a := s.1.getD i default
  let t := a.l.getD k 0
  if t < 0 then s else if posL s.2 t s.2.length < 0 then (s.1.set i ⟨a.r, a.l.set k s.2.length⟩, s.2 ++ [t]) else (s.1.set i ⟨a.r, a.l.set k (posL s.2 t s.2.length)⟩, s.2)
def tgR (s : Tg) (i : Nat) : Nat → Tg
  | 0 => s
  | k + 1 => tgS (tgR s i k) i k
def tgAll (X : List RI) : Nat → Tg
  | 0 => (X, [])
  | i + 1 => tgR (tgAll X i) i (X.getD i default).l.length
/-- Atoms and terms are as many as they were. -/
def likeX (X Y : List RI) : Prop := Y.length = X.length ∧ ∀ i : Nat, (Y.getD i default).l.length = (X.getD i default).l.length
theorem like_refl (X : List RI) : likeX X X := ⟨rfl, fun _ => rfl⟩
theorem like_set {X Y : List RI} (h : likeX X Y) (i k : Nat) (r : Int) (v : Int) : likeX X (Y.set i ⟨r, ((Y.getD i default).l.set k v)⟩) := by
  refine ⟨by rw [List.length_set]; exact h.1, fun j => ?_⟩
  rw [← h.2 j]
  by_cases e : i = j
  · subst e
    by_cases hi : i < Y.length
    · rw [getD_set_same hi]; simp
    · rw [List.getD_eq_getElem?_getD, List.getElem?_eq_none (by rw [List.length_set]; omega), List.getD_eq_getElem?_getD, List.getElem?_eq_none (by omega)]
  · rw [List.getD_eq_getElem?_getD, List.getElem?_set_ne e, ← List.getD_eq_getElem?_getD]
theorem tgS_ok {X : List RI} {s : Tg} {m i k : Nat} (h : likeX X s.1 ∧ s.2.length ≤ m) : likeX X (tgS s i k).1 ∧ (tgS s i k).2.length ≤ m + 1 := by
  unfold tgS
  simp only
  split
  · exact ⟨h.1, by omega⟩
  split
  · exact ⟨like_set h.1 i k _ _, by rw [List.length_append, List.length_singleton]; omega⟩
  · exact ⟨like_set h.1 i k _ _, by show s.2.length ≤ m + 1; omega⟩
theorem tgR_ok {X : List RI} {s : Tg} {m i : Nat} (h : likeX X s.1 ∧ s.2.length ≤ m) : ∀ k, likeX X (tgR s i k).1 ∧ (tgR s i k).2.length ≤ m + k
  | 0 => h
  | k + 1 => tgS_ok (tgR_ok h k)
theorem tgAll_ok {X : List RI} {M : Nat} (hM : ∀ i, (X.getD i default).l.length ≤ M) : ∀ i, likeX X (tgAll X i).1 ∧ (tgAll X i).2.length ≤ i * M
  | 0 => ⟨like_refl X, by simp [tgAll]⟩
  | i + 1 => by
    obtain ⟨h1, h2⟩ := tgR_ok (i := i) (tgAll_ok hM i) (X.getD i default).l.length
    have := hM i
    refine ⟨h1, ?_⟩
    rw [Nat.add_mul, Nat.one_mul]
    show (tgR (tgAll X i) i (X.getD i default).l.length).2.length ≤ _
    omega
def tightQ (q : Qu) : Qu := ⟨((tgAll q.atoms q.atoms.length).2.length : Int), (tgAll q.atoms q.atoms.length).1, q.free⟩
end Go.Proofs.YtedciihjgbkjgacGreatDoor.A


/- QUERIES DRAWN: the walks. Conditions: none. -/
namespace Go.Proofs.YtedciihjgbkjgacGreatDoor.A
open Go
set_option linter.unusedSimpArgs false
set_option linter.unusedVariables false
set_option maxRecDepth 100000

abbrev zQ2 : List SV := [.sc (.int .i64 0), .sc (.slice none 0 0), .sc (.slice none 0 0)]
theorem getD_le {X : List RI} {M : Nat} (h : ∀ x ∈ X, x.l.length ≤ M) (i : Nat) : (X.getD i default).l.length ≤ M := by
  rcases Nat.lt_or_ge i X.length with hi | hi
  · exact h _ (mem_getD default hi)
  · rw [List.getD_eq_getElem?_getD, List.getElem?_eq_none hi]; exact Nat.zero_le _
set_option maxHeartbeats 4000000 in
theorem l11Tight_sat (q : Qu) (h : q.ok) (hn : q.atoms.length ≤ 8) (hM : ∀ x ∈ q.atoms, x.l.length ≤ 8) : Sat Tryz.prog 83 [lQu q] [oQu (tightQ q)] [g3] := by
  refine sat_of_body mixed Tryz.func83 rfl (by kernel_rfl) (by kernel_rfl) (rs := [.cell 2 28]) rfl rfl rfl ?_
  have hM' := getD_le hM
  have ts := specCopy_sat q h
  have hT := tgAll_ok hM'
  unfold tightQ
  generalize hX : q.atoms = X at hn hM hM' hT ⊢
  simp -implicitDefEqProofs (maxSteps := 2000000) only [go_sem]
  refine call_of (ts) (by simp -implicitDefEqProofs (maxSteps := 2000000) only [go_sem, hX]) (callOk_still (by kernel_rfl) (by simp only [List.all_cons, List.all_nil, LV.still, LV.leaves, Leaf.still, ints_still, ris_still, eds_still, rels_still, iss_still, ems_still, Bool.and_self, Bool.and_true])) (by simp -implicitDefEqProofs (maxSteps := 2000000) only [go_sem, hX]) ?_
  simp -implicitDefEqProofs (maxSteps := 2000000) only [go_sem, hX]
  refine awp_loop Nat (fun i => mkSt [(2, .one (.vad 1064 0)), (3, .one (.vad 1256 0)), (4, .one (.ref 960 1 0 (tgAll X i).2.length)), (5, .sc (.int .i64 i))] [(1064, zQ2), (1256, [.sc (.int .i64 q.vc), .ref 961 2 0 X.length, .ref 962 1 0 q.free.length])] [(960, (1, ints (tgAll X i).2)), (961, (2, ris 999 (tgAll X i).1)), (962, (1, ints q.free))] 4000)
    (fun i => i ≤ X.length) (fun i => X.length - i) 0 (by omega) (le_st' _ _ [⟨960, some _, false, 1, _⟩, ⟨961, some _, false, 2, _⟩, ⟨962, some _, false, 1, _⟩] [] _ (by simp -implicitDefEqProofs (maxSteps := 2000000) only [go_sem, hX, tgAll, List.length_nil, ints_nil] <;> and_intros <;> rfl) (by simp -implicitDefEqProofs (maxSteps := 2000000) only [go_sem, hX, tgAll, List.length_nil, ints_nil] <;> and_intros <;> rfl) (by simp -implicitDefEqProofs (maxSteps := 2000000) only [go_sem, hX, tgAll, List.length_nil, ints_nil] <;> and_intros <;> rfl) (by rfl)) ?_
  rintro i h1
  obtain ⟨k1, k2⟩ := hT i
  have hi8 : i * 8 ≤ 64 := by omega
  have ltk : List.take X.length (tgAll X i).1 = (tgAll X i).1 := List.take_of_length_le (by rw [k1.1]; exact Nat.le_refl _)
  by_cases c1 : i < X.length
  · have wi : IntKind.i64.wrap ((i : Int) + 1) = ((i + 1 : Nat) : Int) := i64_succ (by omega)
    have hstep : tgAll X (i + 1) = tgR (tgAll X i) i (X.getD i default).l.length := rfl
    have hRk := fun k => tgR_ok (i := i) ⟨k1, k2⟩ k
    generalize tgAll X i = s0 at k1 k2 hstep hRk ltk ⊢
    have hml := hM' i
    have hml2 : (X.getD i default).l.length ≤ 8 := hml
    generalize hmm : (X.getD i default).l.length = m at hml hstep hml2
    simp -implicitDefEqProofs (maxSteps := 2000000) only [go_sem, c1, ltk, k1.1]
    refine awp_loop Nat (fun k => mkSt [(2, .one (.vad 1064 0)), (3, .one (.vad 1256 0)), (4, .one (.ref 960 1 0 (tgR s0 i k).2.length)), (5, .sc (.int .i64 i)), (6, .sc (.int .i64 k))] [(1064, zQ2), (1256, [.sc (.int .i64 q.vc), .ref 961 2 0 X.length, .ref 962 1 0 q.free.length])] [(960, (1, ints (tgR s0 i k).2)), (961, (2, ris 999 (tgR s0 i k).1)), (962, (1, ints q.free))] 8000)
      (fun k => k ≤ m) (fun k => m - k) 0 (by omega) (le_st' _ _ [⟨960, some _, false, 1, _⟩, ⟨961, some _, false, 2, _⟩, ⟨962, some _, false, 1, _⟩] [] _ (by simp -implicitDefEqProofs (maxSteps := 2000000) only [go_sem, tgR] <;> and_intros <;> rfl) (by simp -implicitDefEqProofs (maxSteps := 2000000) only [go_sem, tgR] <;> and_intros <;> rfl) (by simp -implicitDefEqProofs (maxSteps := 2000000) only [go_sem, tgR] <;> and_intros <;> rfl) (by rfl)) ?_
    rintro k h2
    obtain ⟨j1, j2⟩ := hRk k
    have hst2 : tgR s0 i (k + 1) = tgS (tgR s0 i k) i k := rfl
    have hdone : tgR s0 i m = tgAll X (i + 1) := hstep.symm
    generalize hs1 : tgR s0 i k = s1 at j1 j2 hst2 ⊢
    rcases s1 with ⟨Y, nm⟩
    simp only at j1 j2
    obtain ⟨y1, y2⟩ := j1
    have c2 : i < Y.length := by omega
    have hyl : (Y.getD i default).l.length = m := by rw [y2 i, hmm]
    have htm : List.take m (Y.getD i default).l = (Y.getD i default).l := List.take_of_length_le (by omega)
    by_cases c3 : k < m
    · have wk : IntKind.i64.wrap ((k : Int) + 1) = ((k + 1 : Nat) : Int) := i64_succ (by omega)
      have c4 : k < (Y.getD i default).l.length := by omega
      rcases d1 : decide ((Y.getD i default).l.getD k 0 < 0)
      · have d1' := of_decide_eq_false d1
        simp -implicitDefEqProofs (maxSteps := 2000000) only [go_sem, c1, c2, c3, c4, htm, hyl, d1]
        have hst3 : tgS (Y, nm) i k = if posL nm ((Y.getD i default).l.getD k 0) nm.length < 0 then (Y.set i ⟨(Y.getD i default).r, (Y.getD i default).l.set k nm.length⟩, nm ++ [(Y.getD i default).l.getD k 0]) else (Y.set i ⟨(Y.getD i default).r, (Y.getD i default).l.set k (posL nm ((Y.getD i default).l.getD k 0) nm.length)⟩, nm) := by
          unfold tgS; simp only; rw [if_neg d1']
        obtain ⟨T, hT2⟩ : ∃ T, (Y.getD i default).l.getD k 0 = T := ⟨_, rfl⟩
        rw [hT2] at hst3
        rw [hT2]
        refine awp_loop Nat (fun j => mkSt [(2, .one (.vad 1064 0)), (3, .one (.vad 1256 0)), (4, .one (.ref 960 1 0 nm.length)), (5, .sc (.int .i64 i)), (6, .sc (.int .i64 k)), (7, .sc (.int .i64 T)), (8, .sc (.int .i64 (posL nm T j))), (9, .sc (.int .i64 j))] [(1064, zQ2), (1256, [.sc (.int .i64 q.vc), .ref 961 2 0 X.length, .ref 962 1 0 q.free.length])] [(960, (1, ints nm)), (961, (2, ris 999 Y)), (962, (1, ints q.free))] 16000)
          (fun j => j ≤ nm.length) (fun j => nm.length - j) 0 (by omega) (le_st' _ _ [⟨960, some _, false, 1, _⟩, ⟨961, some _, false, 2, _⟩, ⟨962, some _, false, 1, _⟩] [] _ (by simp -implicitDefEqProofs (maxSteps := 2000000) only [go_sem, posL] <;> and_intros <;> rfl) (by simp -implicitDefEqProofs (maxSteps := 2000000) only [go_sem, posL] <;> and_intros <;> rfl) (by simp -implicitDefEqProofs (maxSteps := 2000000) only [go_sem, posL] <;> and_intros <;> rfl) (by rfl)) ?_
        rintro j h5
        by_cases c5 : j < nm.length
        · have wj : IntKind.i64.wrap ((j : Int) + 1) = ((j + 1 : Nat) : Int) := i64_succ (by omega)
          rcases d3 : (nm.getD j 0 == T)
          · have e3 : posL nm T (j + 1) = posL nm T j := by rw [posL, if_neg (by simpa using d3)]
            simp -implicitDefEqProofs (maxSteps := 2000000) only [go_sem, c5, d3, wj]
            exact ⟨j + 1, c5, by omega, (le_st' _ _ [⟨960, some _, false, 1, _⟩, ⟨961, some _, false, 2, _⟩, ⟨962, some _, false, 1, _⟩] [] _ (by simp -implicitDefEqProofs (maxSteps := 2000000) only [go_sem, e3] <;> and_intros <;> rfl) (by simp -implicitDefEqProofs (maxSteps := 2000000) only [go_sem, e3] <;> and_intros <;> rfl) (by simp -implicitDefEqProofs (maxSteps := 2000000) only [go_sem, e3] <;> and_intros <;> rfl) (by rfl))⟩
          · have e3 : posL nm T (j + 1) = (j : Int) := by rw [posL, if_pos (by simpa using d3)]
            simp -implicitDefEqProofs (maxSteps := 2000000) only [go_sem, c5, d3, wj]
            exact ⟨j + 1, c5, by omega, (le_st' _ _ [⟨960, some _, false, 1, _⟩, ⟨961, some _, false, 2, _⟩, ⟨962, some _, false, 1, _⟩] [] _ (by simp -implicitDefEqProofs (maxSteps := 2000000) only [go_sem, e3] <;> and_intros <;> rfl) (by simp -implicitDefEqProofs (maxSteps := 2000000) only [go_sem, e3] <;> and_intros <;> rfl) (by simp -implicitDefEqProofs (maxSteps := 2000000) only [go_sem, e3] <;> and_intros <;> rfl) (by rfl))⟩
        · obtain rfl : j = nm.length := by omega
          rcases d4 : decide (posL nm T nm.length < 0)
          · rw [if_neg (of_decide_eq_false d4)] at hst3
            simp -implicitDefEqProofs (maxSteps := 2000000) only [go_sem, c1, c2, c3, c4, c5, htm, hyl, d4]
            repeat (refine And.intro (by omega) ?_)
            rw [wk]
            exact ⟨k + 1, c3, by omega, (le_st' _ _ [⟨960, some _, false, 1, _⟩, ⟨961, some _, false, 2, _⟩, ⟨962, some _, false, 1, _⟩] [] _ (by simp -implicitDefEqProofs (maxSteps := 2000000) only [go_sem, hst2, hst3] <;> and_intros <;> rfl) (by simp -implicitDefEqProofs (maxSteps := 2000000) only [go_sem, hst2, hst3] <;> and_intros <;> rfl) (by simp -implicitDefEqProofs (maxSteps := 2000000) only [go_sem, hst2, hst3] <;> and_intros <;> rfl) (by rfl))⟩
          · rw [if_pos (of_decide_eq_true d4)] at hst3
            simp -implicitDefEqProofs (maxSteps := 2000000) only [go_sem, c1, c2, c3, c4, c5, htm, hyl, d4]
            repeat (refine And.intro (by omega) ?_)
            rw [wk]
            exact ⟨k + 1, c3, by omega, (le_st' _ _ [⟨960, some _, false, 1, _⟩, ⟨961, some _, false, 2, _⟩, ⟨962, some _, false, 1, _⟩] [] _ (by simp -implicitDefEqProofs (maxSteps := 2000000) only [go_sem, hst2, hst3, List.length_append, List.length_singleton] <;> and_intros <;> rfl) (by simp -implicitDefEqProofs (maxSteps := 2000000) only [go_sem, hst2, hst3, List.length_append, List.length_singleton] <;> and_intros <;> rfl) (by simp -implicitDefEqProofs (maxSteps := 2000000) only [go_sem, hst2, hst3, List.length_append, List.length_singleton] <;> and_intros <;> rfl) (by rfl))⟩
      · have d1' := of_decide_eq_true d1
        have hst3 : tgS (Y, nm) i k = (Y, nm) := by unfold tgS; simp only; rw [if_pos d1']
        simp -implicitDefEqProofs (maxSteps := 2000000) only [go_sem, c1, c2, c3, c4, htm, hyl, d1]
        rw [wk]
        exact ⟨k + 1, c3, by omega, (le_st' _ _ [⟨960, some _, false, 1, _⟩, ⟨961, some _, false, 2, _⟩, ⟨962, some _, false, 1, _⟩] [] _ (by simp -implicitDefEqProofs (maxSteps := 2000000) only [go_sem, hst2, hst3] <;> and_intros <;> rfl) (by simp -implicitDefEqProofs (maxSteps := 2000000) only [go_sem, hst2, hst3] <;> and_intros <;> rfl) (by simp -implicitDefEqProofs (maxSteps := 2000000) only [go_sem, hst2, hst3] <;> and_intros <;> rfl) (by rfl))⟩
    · obtain rfl : k = m := by omega
      have hst4 : tgAll X (i + 1) = (Y, nm) := by rw [← hdone, hs1]
      simp -implicitDefEqProofs (maxSteps := 2000000) only [go_sem, c1, c2, c3, htm, hyl]
      rw [wi]
      exact ⟨i + 1, c1, by omega, (le_st' _ _ [⟨960, some _, false, 1, _⟩, ⟨961, some _, false, 2, _⟩, ⟨962, some _, false, 1, _⟩] [] _ (by simp -implicitDefEqProofs (maxSteps := 2000000) only [go_sem, hst4] <;> and_intros <;> rfl) (by simp -implicitDefEqProofs (maxSteps := 2000000) only [go_sem, hst4] <;> and_intros <;> rfl) (by simp -implicitDefEqProofs (maxSteps := 2000000) only [go_sem, hst4] <;> and_intros <;> rfl) (by rfl))⟩
  · obtain rfl : i = X.length := by omega
    simp -implicitDefEqProofs (maxSteps := 2000000) only [go_sem, c1, ltk, k1.1]
    and_intros <;> rfl
end Go.Proofs.YtedciihjgbkjgacGreatDoor.A


/- QUERIES DRAWN: more walks. Conditions: none. -/
namespace Go.Proofs.YtedciihjgbkjgacGreatDoor.A
open Go
set_option linter.unusedSimpArgs false
set_option linter.unusedVariables false
set_option maxRecDepth 100000

def qryA (c : Cur) : List RI × Cur := atsD (byC (byC (byC c))) (1 + beV (byC c) 4) (beV (byC (byC c)) 4) (1 + beV c 3)
set_option maxHeartbeats 4000000 in
theorem l11Query_sat (c : Cur) (hc : c.ok) : Sat Tryz.prog 63 [lCur c] [oQu (tightQ ⟨0, (qryA c).1, []⟩)] [lCur (qryA c).2] := by
  refine sat_of_body mixed Tryz.func63 rfl (by kernel_rfl) (by kernel_rfl) (rs := [.cell 2 28]) rfl rfl rfl ?_
  have k1 := byC_ok hc
  have k2 := byC_ok k1
  have k3 := byC_ok k2
  have s0 := l1Below_sat c 3 hc (by decide) (by decide)
  have s1 := l1Below_sat (byC c) 4 k1 (by decide) (by decide)
  have s2 := l1Below_sat (byC (byC c)) 4 k2 (by decide) (by decide)
  have b0 := beV_lt c (n := 3) (by decide)
  have b1 := beV_lt (byC c) (n := 4) (by decide)
  have b2 := beV_lt (byC (byC c)) (n := 4) (by decide)
  have hq : qryA c = atsD (byC (byC (byC c))) (1 + beV (byC c) 4) (beV (byC (byC c)) 4) (1 + beV c 3) := rfl
  rw [hq]
  clear hq
  generalize beV c 3 = n0 at s0 b0 ⊢
  generalize beV (byC c) 4 = v0 at s1 b1 ⊢
  generalize beV (byC (byC c)) 4 = f at s2 b2 ⊢
  generalize byC c = c1 at *
  generalize byC c1 = c2 at *
  generalize byC c2 = c3 at *
  obtain ⟨n, hn⟩ : ∃ n, n = 1 + n0 := ⟨_, rfl⟩
  obtain ⟨v, hv⟩ : ∃ v, v = 1 + v0 := ⟨_, rfl⟩
  have w1 : IntKind.i64.wrap (1 + ((n0 : Nat) : Int)) = ((n : Nat) : Int) := by rw [IntWalk.i64_in _ (by omega)]; omega
  have w2 : IntKind.i64.wrap (1 + ((v0 : Nat) : Int)) = ((v : Nat) : Int) := by rw [IntWalk.i64_in _ (by omega)]; omega
  rw [← hn, ← hv]
  have hA := atsD_len c3 v f
  have hAk := atsD_ok k3 v f
  simp -implicitDefEqProofs (maxSteps := 2000000) only [go_sem]
  refine call_of (s0) (by simp -implicitDefEqProofs (maxSteps := 2000000) only [go_sem, w1] <;> and_intros <;> rfl) (by kernel_rfl) (by simp -implicitDefEqProofs (maxSteps := 2000000) only [go_sem, w1]) ?_
  simp -implicitDefEqProofs (maxSteps := 2000000) only [go_sem, w1]
  refine call_of (s1) (by simp -implicitDefEqProofs (maxSteps := 2000000) only [go_sem, w2] <;> and_intros <;> rfl) (by kernel_rfl) (by simp -implicitDefEqProofs (maxSteps := 2000000) only [go_sem, w2]) ?_
  simp -implicitDefEqProofs (maxSteps := 2000000) only [go_sem, w2]
  refine call_of (s2) (by simp -implicitDefEqProofs (maxSteps := 2000000) only [go_sem] <;> and_intros <;> rfl) (by kernel_rfl) (by simp -implicitDefEqProofs (maxSteps := 2000000) only [go_sem]) ?_
  simp -implicitDefEqProofs (maxSteps := 2000000) only [go_sem]
  refine awp_loop Nat (fun i => mkSt [(0, .one (.vad 0 0)), (2, .one (.vad 1000 0)), (3, .one (.vad 1128 0)), (4, .sc (.int .i64 n)), (5, .sc (.int .i64 v)), (6, .sc (.int .i64 f)), (7, .sc (.int .i64 i))] [(0, sCur (atsD c3 v f i).2), (1000, zQ2), (1128, [.sc (.int .i64 0), .ref 960 2 0 i, .sc (.slice none 0 0)])] [(960, (2, ris 999 (atsD c3 v f i).1))] 8000)
    (fun i => i ≤ n) (fun i => n - i) 0 (by omega) (le_st _ _ [⟨960, none, false, 2, _⟩] [] _ rfl (by simp -implicitDefEqProofs (maxSteps := 2000000) only [go_sem, atsD, ris_nil] <;> rfl) (by simp -implicitDefEqProofs (maxSteps := 2000000) only [go_sem, atsD, ris_nil] <;> rfl) (by simp -implicitDefEqProofs (maxSteps := 2000000) only [go_sem, atsD, ris_nil] <;> rfl)) ?_
  rintro i h1
  have hAi := hA i
  have hki := hAk i
  by_cases c1 : i < n
  · have wi : IntKind.i64.wrap ((i : Int) + 1) = ((i + 1 : Nat) : Int) := i64_succ (by omega)
    have hst : atsD c3 v f (i + 1) = ((atsD c3 v f i).1 ++ [⟨(((f + i) % 4 : Nat) : Int), (tmsD (atsD c3 v f i).2 v (2 + ((f + i) % 4) / 3)).1⟩], (tmsD (atsD c3 v f i).2 v (2 + ((f + i) % 4) / 3)).2) := rfl
    have a1 : IntKind.i64.wrap (((f : Nat) : Int) + ((i : Nat) : Int)) = ((f + i : Nat) : Int) := by rw [IntWalk.i64_in _ (by omega)]; omega
    have a2 : Int.tmod ((f + i : Nat) : Int) 4 = (((f + i) % 4 : Nat) : Int) := by rw [Int.tmod_eq_emod_of_nonneg (by omega)]; omega
    have hr4 : (f + i) % 4 < 4 := Nat.mod_lt _ (by decide)
    generalize (f + i) % 4 = r at hst a2 hr4
    have a3 : Int.tdiv ((r : Nat) : Int) 3 = ((r / 3 : Nat) : Int) := by rw [Int.tdiv_eq_ediv_of_nonneg (by omega)]; omega
    have a4 : IntKind.i64.wrap (2 + ((r / 3 : Nat) : Int)) = ((2 + r / 3 : Nat) : Int) := by rw [IntWalk.i64_in _ (by omega)]; omega
    have a5 : IntKind.i64.wrap ((r / 3 : Nat) : Int) = ((r / 3 : Nat) : Int) := IntWalk.i64_in _ (by omega)
    obtain ⟨m, hm⟩ : ∃ m, m = 2 + r / 3 := ⟨_, rfl⟩
    rw [← hm] at hst a4
    generalize atsD c3 v f i = s at hst hAi hki ⊢
    have hT := tmsD_len s.2 v
    have hTk := tmsD_ok hki v
    simp -implicitDefEqProofs (maxSteps := 2000000) only [go_sem, c1, a1, a2, a3, a5, a4]
    repeat (refine ⟨by decide, ?_⟩)
    refine awp_loop Nat (fun j => mkSt [(0, .one (.vad 0 0)), (2, .one (.vad 1000 0)), (3, .one (.vad 1128 0)), (4, .sc (.int .i64 n)), (5, .sc (.int .i64 v)), (6, .sc (.int .i64 f)), (7, .sc (.int .i64 i)), (9, .one (.vad 8640 0)), (10, .sc (.int .i64 ((m : Int) - (j : Int))))] [(0, sCur (tmsD s.2 v j).2), (1000, zQ2), (1128, [.sc (.int .i64 0), .ref 960 2 0 i, .sc (.slice none 0 0)]), (8640, [.sc (.int .i64 r), .ref 961 1 0 j])] [(960, (2, ris 999 s.1)), (961, (1, ints (tmsD s.2 v j).1))] 16000)
      (fun j => j ≤ m) (fun j => m - j) 0 (by omega) (le_st' _ _ [⟨960, some _, false, 2, _⟩, ⟨961, none, false, 1, _⟩] [] _ (by simp -implicitDefEqProofs (maxSteps := 2000000) only [go_sem, tmsD, ints_nil, Int.sub_zero, Int.natCast_zero] <;> and_intros <;> rfl) (by simp -implicitDefEqProofs (maxSteps := 2000000) only [go_sem, tmsD, ints_nil, Int.sub_zero, Int.natCast_zero] <;> and_intros <;> rfl) (by simp -implicitDefEqProofs (maxSteps := 2000000) only [go_sem, tmsD, ints_nil, Int.sub_zero, Int.natCast_zero] <;> and_intros <;> rfl) (by rfl)) ?_
    rintro j h2
    have hTj := hT j
    have hTkj := hTk j
    have htk : List.take j (tmsD s.2 v j).1 = (tmsD s.2 v j).1 := List.take_of_length_le (by omega)
    by_cases c2 : j < m
    · have d1 : decide ((m : Int) - (j : Int) > 0) = true := decide_eq_true (by omega)
      have wj : IntKind.i64.wrap ((m : Int) - (j : Int) - 1) = (m : Int) - ((j + 1 : Nat) : Int) := by rw [IntWalk.i64_in _ (by omega)]; omega
      have hs1 : tmsD s.2 v (j + 1) = ((tmsD s.2 v j).1 ++ [tmD (tmsD s.2 v j).2 v], byC (byC (tmsD s.2 v j).2)) := rfl
      generalize tmsD s.2 v j = u at hTj hTkj htk hs1 ⊢
      rcases d2 : onV u.2 12
      · have e2 : tmD u.2 v = ((beV (byC u.2) v : Nat) : Int) := by unfold tmD; rw [d2]; rfl
        simp -implicitDefEqProofs (maxSteps := 2000000) only [go_sem, d1, htk]
        refine call_of (l1Once_sat u.2 12 hTkj (by decide) (by decide)) (by simp -implicitDefEqProofs (maxSteps := 2000000) only [go_sem, d2, htk] <;> and_intros <;> rfl) (by kernel_rfl) (by simp -implicitDefEqProofs (maxSteps := 2000000) only [go_sem, d2, htk]) ?_
        simp -implicitDefEqProofs (maxSteps := 2000000) only [go_sem, d2, htk]
        refine call_of (l1Below_sat (byC u.2) v (byC_ok hTkj) (by omega) (by omega)) (by simp -implicitDefEqProofs (maxSteps := 2000000) only [go_sem, hTj, htk]) (by kernel_rfl) (by simp -implicitDefEqProofs (maxSteps := 2000000) only [go_sem, hTj, htk]) ?_
        simp -implicitDefEqProofs (maxSteps := 2000000) only [go_sem, hTj, htk]
        repeat (refine And.intro (by omega) ?_)
        first | (with_reducible refine tr_and ?_ ?_; focus kernel_rfl) | (with_reducible refine tr_only ?_; kernel_rfl) | skip
        rw [wj]
        refine ⟨j + 1, c2, by omega, ?_⟩
        exact (le_st' _ _ [⟨960, some _, false, 2, _⟩, ⟨961, some _, false, 1, _⟩] [] _ (by simp -implicitDefEqProofs (maxSteps := 2000000) only [go_sem, hs1, e2, hTj, htk] <;> and_intros <;> rfl) (by simp -implicitDefEqProofs (maxSteps := 2000000) only [go_sem, hs1, e2, hTj, htk] <;> and_intros <;> rfl) (by simp -implicitDefEqProofs (maxSteps := 2000000) only [go_sem, hs1, e2, hTj, htk] <;> and_intros <;> rfl) (by rfl))
      · have e2 : tmD u.2 v = -1 - ((beV (byC u.2) 2 : Nat) : Int) := by unfold tmD; rw [d2]; rfl
        have b3 := beV_lt (byC u.2) (n := 2) (by decide)
        have w3 : IntKind.i64.wrap (-1 - ((beV (byC u.2) 2 : Nat) : Int)) = -1 - ((beV (byC u.2) 2 : Nat) : Int) := IntWalk.i64_in _ (by omega)
        simp -implicitDefEqProofs (maxSteps := 2000000) only [go_sem, d1, htk]
        refine call_of (l1Once_sat u.2 12 hTkj (by decide) (by decide)) (by simp -implicitDefEqProofs (maxSteps := 2000000) only [go_sem, d2, htk] <;> and_intros <;> rfl) (by kernel_rfl) (by simp -implicitDefEqProofs (maxSteps := 2000000) only [go_sem, d2, htk]) ?_
        simp -implicitDefEqProofs (maxSteps := 2000000) only [go_sem, d2, htk]
        refine call_of (l1Below_sat (byC u.2) 2 (byC_ok hTkj) (by decide) (by decide)) (by simp -implicitDefEqProofs (maxSteps := 2000000) only [go_sem, hTj, htk, w3] <;> and_intros <;> rfl) (by kernel_rfl) (by simp -implicitDefEqProofs (maxSteps := 2000000) only [go_sem, hTj, htk, w3]) ?_
        simp -implicitDefEqProofs (maxSteps := 2000000) only [go_sem, hTj, htk, w3]
        repeat (refine And.intro (by omega) ?_)
        first | (with_reducible refine tr_and ?_ ?_; focus kernel_rfl) | (with_reducible refine tr_only ?_; kernel_rfl) | skip
        rw [wj]
        refine ⟨j + 1, c2, by omega, ?_⟩
        exact (le_st' _ _ [⟨960, some _, false, 2, _⟩, ⟨961, some _, false, 1, _⟩] [] _ (by simp -implicitDefEqProofs (maxSteps := 2000000) only [go_sem, hs1, e2, hTj, htk] <;> and_intros <;> rfl) (by simp -implicitDefEqProofs (maxSteps := 2000000) only [go_sem, hs1, e2, hTj, htk] <;> and_intros <;> rfl) (by simp -implicitDefEqProofs (maxSteps := 2000000) only [go_sem, hs1, e2, hTj, htk] <;> and_intros <;> rfl) (by rfl))
    · obtain rfl : j = m := by omega
      have d1 : decide ((j : Int) - (j : Int) > 0) = false := decide_eq_false (by omega)
      simp -implicitDefEqProofs (maxSteps := 2000000) only [go_sem, d1, htk]
      repeat (refine And.intro (by omega) ?_)
      rw [wi]
      refine ⟨i + 1, c1, by omega, ?_⟩
      rw [hst]
      exact (le_st' _ _ [⟨960, some _, false, 2, _⟩] [] _ (by simp -implicitDefEqProofs (maxSteps := 2000000) only [go_sem, hTj, hAi, htk, repD1, List.set_cons_zero] <;> and_intros <;> rfl) (by simp -implicitDefEqProofs (maxSteps := 2000000) only [go_sem, hTj, hAi, htk, repD1, List.set_cons_zero] <;> and_intros <;> rfl) (by simp -implicitDefEqProofs (maxSteps := 2000000) only [go_sem, hTj, hAi, htk, repD1, List.set_cons_zero] <;> and_intros <;> rfl) (by rfl))
  · obtain rfl : i = n := by omega
    have hAm := fun x hx => atsD_mem (c := c3) (v := v) (f := f) (k := i) x hx
    have htk : List.take i (ris 999 (atsD c3 v f i).1) = ris 999 (atsD c3 v f i).1 := List.take_of_length_le (by rw [ris_length]; omega)
    simp -implicitDefEqProofs (maxSteps := 2000000) only [go_sem, c1, htk]
    refine call_of (l11Tight_sat ⟨0, (atsD c3 v f i).1, []⟩ ⟨⟨by simp only; omega, fun x hx => by have := hAm x hx; unfold RI.ok; omega⟩, by simp⟩ (by simp only; omega) (fun x hx => by have := hAm x hx; omega)) (by simp -implicitDefEqProofs (maxSteps := 2000000) only [go_sem, htk] <;> and_intros <;> rfl) (callOk_still (by kernel_rfl) (by simp only [List.all_cons, List.all_nil, LV.still, LV.leaves, Leaf.still, ints_still, ris_still, eds_still, rels_still, iss_still, ems_still, Bool.and_self, Bool.and_true])) (by simp -implicitDefEqProofs (maxSteps := 2000000) only [go_sem, htk]) ?_
    simp -implicitDefEqProofs (maxSteps := 2000000) only [go_sem, htk]
    and_intros <;> rfl

/-! #### known queries -/
def knL : List ByteArray := [⟨#[63, 114, 120, 124, 121, 32, 115, 121, 124, 122]⟩, ⟨#[63, 114, 120, 124, 121, 32, 115, 121, 124, 120]⟩, ⟨#[63, 114, 120, 124, 121, 32, 115, 122, 124, 121]⟩, ⟨#[63, 114, 120, 124, 121, 32, 115, 120, 124, 122]⟩, ⟨#[63, 114, 120, 124, 49]⟩, ⟨#[63, 114, 120, 124, 120]⟩, ⟨#[63, 114, 120, 124, 121, 32, 115, 121, 124, 49]⟩, ⟨#[63, 114, 120, 124, 121, 32, 115, 121, 124, 122, 32, 114]⟩, ⟨#[63, 114, 120, 124, 121]⟩, ⟨#[63, 114, 120, 124, 122, 32, 115, 121, 124, 122]⟩]
def kn0 : ByteArray := ⟨#[63, 114, 120, 124, 121, 32, 115, 121, 124, 122]⟩
theorem knL_ok : ∀ i : Fin 10, (knL.getD i.val ⟨#[]⟩).size ≤ 100 ∧ 0 < (knL.getD i.val ⟨#[]⟩).size := by decide
theorem kn0_ok : ∀ (i : Fin 4) (j : Fin 2), okQ (sigR (sigL.getD i.val 0) (1 + ((j.val : Nat) : Int))) kn0 = true := by decide +kernel
/-- A query as it is drawn. -/
structure QuD (m : Nat) (q : Qu) : Prop where
  vc : -1 ≤ q.vc ∧ q.vc ≤ m
  n : 1 ≤ q.atoms.length ∧ q.atoms.length ≤ m
  first : 1 ≤ (q.atoms.getD 0 default).l.length
  all : ∀ x ∈ q.atoms, x.l.length ≤ m
  free : q.free.length ≤ m
theorem QuD.ok {m : Nat} {q : Qu} (h : QuD m q) (hm : m ≤ 1000) : q.ok := by
  have h1 := h.n
  have h2 := h.free
  exact ⟨⟨by omega, fun x hx => by have := h.all x hx; unfold RI.ok; omega⟩, by omega⟩
theorem okQ_D {l : List Rel} {s : ByteArray} (h : okQ l s = true) (hs : s.size ≤ 100) (h0 : 0 < s.size) : QuD 100 (parQ l s) := by
  have e : parQ l s = readQ l s := by rw [parQ, if_pos h]
  have hr := readQ_ok (l := l) (show s.size ≤ 1048576 by omega)
  unfold okQ at h
  rw [Bool.and_eq_true, decide_eq_true_iff, decide_eq_true_iff] at h
  have g : goodQu l (readQ l s) = true := by
    rcases g : goodQu l (readQ l s)
    · have := h.2
      rw [quText, g, if_neg (by simp)] at this
      rw [← this] at h0
      exact absurd h0 (by decide)
    · rfl
  rw [e]
  obtain ⟨p1, p2, p3⟩ := goodQu_parts g
  have len : ∀ k, k < (readQ l s).atoms.length → 1 ≤ ((readQ l s).atoms.getD k default).l.length ∧ ((readQ l s).atoms.getD k default).l.length ≤ 3 := by
    intro k hk
    have h3 := goodQu_at g hk
    unfold atomOk relAt at h3
    simp only [Bool.and_eq_true, beq_iff_eq] at h3
    have h4 := inB_of h3.1.1
    have gr : goodRels l = true := by unfold goodQu at g; rw [Bool.and_eq_true] at g; exact g.1
    have h5 := (rel_of gr (show ((readQ l s).atoms.getD k default).r.toNat < l.length by omega)).1
    have h6 := h3.1.2
    omega
  have m0 : ((splS s 63).getD 0 ⟨#[]⟩).size ≤ s.size := splS_mem s 63 _ (mem_getD (⟨#[]⟩ : ByteArray) (by omega))
  refine ⟨by omega, by omega, (len 0 (by omega)).1, fun x hx => ?_, ?_⟩
  · obtain ⟨k, hk, rfl⟩ := List.mem_iff_getElem.mp hx
    have := (len k hk).2
    rw [List.getD_eq_getElem?_getD, List.getElem?_eq_getElem hk] at this
    simp only [Option.getD_some] at this
    omega
  · show (freeT _ _).length ≤ 100
    rw [freeT_len]; omega
theorem sigs_form (c : Cur) : ∃ (i : Fin 4) (j : Fin 2), sigs c = sigR (sigL.getD i.val 0) (1 + ((j.val : Nat) : Int)) :=
  ⟨⟨beV c 4, beV_lt c (by decide)⟩, ⟨beV (byC c) 2, beV_lt (byC c) (by decide)⟩, rfl⟩
theorem l11Known_ex (c0 c : Cur) (hc : c.ok) : ∃ q : Qu, QuD 100 q ∧ Sat Tryz.prog 64 [lCur c, lRels (sigs c0)] [oQu q] [lCur (byC c), g1] := by
  obtain ⟨hk1, hk2⟩ := knL_ok ⟨beV c 10, beV_lt c (by decide)⟩
  simp only at hk1 hk2
  have s0 := l1Pick_own c knL hc (by decide) (by decide)
  have el : knL.length = 10 := rfl
  rw [el] at s0
  have hl := sigs_len c0
  obtain ⟨fi, fj, hf⟩ := sigs_form c0
  have h0 := kn0_ok fi fj
  rw [← hf] at h0
  have eL : (((((((((((List.replicate 10 ByteArray.empty).set 0 ⟨#[63, 114, 120, 124, 121, 32, 115, 121, 124, 122]⟩).set 1 ⟨#[63, 114, 120, 124, 121, 32, 115, 121, 124, 120]⟩).set 2 ⟨#[63, 114, 120, 124, 121, 32, 115, 122, 124, 121]⟩).set 3 ⟨#[63, 114, 120, 124, 121, 32, 115, 120, 124, 122]⟩).set 4 ⟨#[63, 114, 120, 124, 49]⟩).set 5 ⟨#[63, 114, 120, 124, 120]⟩).set 6 ⟨#[63, 114, 120, 124, 121, 32, 115, 121, 124, 49]⟩).set 7 ⟨#[63, 114, 120, 124, 121, 32, 115, 121, 124, 122, 32, 114]⟩).set 8 ⟨#[63, 114, 120, 124, 121]⟩).set 9 ⟨#[63, 114, 120, 124, 122, 32, 115, 121, 124, 122]⟩) = knL := rfl
  generalize sigs c0 = l at hl h0 ⊢
  generalize knL.getD (beV c 10) ⟨#[]⟩ = s at hk1 hk2 s0
  rcases g : okQ l s
  · refine ⟨parQ l kn0, okQ_D h0 (by decide) (by decide), ?_⟩
    refine sat_of_body mixed Tryz.func64 rfl (by kernel_rfl) (by kernel_rfl) (rs := [.cell 4 28]) rfl rfl rfl ?_
    simp -implicitDefEqProofs (maxSteps := 2000000) only [go_sem]
    refine call_of (s0) (by simp -implicitDefEqProofs (maxSteps := 2000000) only [go_sem, eL, el]) (by kernel_rfl) (by simp -implicitDefEqProofs (maxSteps := 2000000) only [go_sem, eL, el]) ?_
    simp -implicitDefEqProofs (maxSteps := 2000000) only [go_sem, eL, el]
    refine call_of (specParseQuery_sat l s (by omega) (by omega)) (by simp -implicitDefEqProofs (maxSteps := 2000000) only [go_sem, g]) (by kernel_rfl) (by simp -implicitDefEqProofs (maxSteps := 2000000) only [go_sem, g]) ?_
    simp -implicitDefEqProofs (maxSteps := 2000000) only [go_sem, g]
    refine call_of (specParseQuery_sat l kn0 (by omega) (by decide)) (by simp -implicitDefEqProofs (maxSteps := 2000000) only [go_sem] <;> and_intros <;> rfl) (by kernel_rfl) (by simp -implicitDefEqProofs (maxSteps := 2000000) only [go_sem]) ?_
    simp -implicitDefEqProofs (maxSteps := 2000000) only [go_sem]
    and_intros <;> rfl
  · refine ⟨parQ l s, okQ_D g hk1 hk2, ?_⟩
    refine sat_of_body mixed Tryz.func64 rfl (by kernel_rfl) (by kernel_rfl) (rs := [.cell 4 28]) rfl rfl rfl ?_
    simp -implicitDefEqProofs (maxSteps := 2000000) only [go_sem]
    refine call_of (s0) (by simp -implicitDefEqProofs (maxSteps := 2000000) only [go_sem, eL, el]) (by kernel_rfl) (by simp -implicitDefEqProofs (maxSteps := 2000000) only [go_sem, eL, el]) ?_
    simp -implicitDefEqProofs (maxSteps := 2000000) only [go_sem, eL, el]
    refine call_of (specParseQuery_sat l s (by omega) (by omega)) (by simp -implicitDefEqProofs (maxSteps := 2000000) only [go_sem, g]) (by kernel_rfl) (by simp -implicitDefEqProofs (maxSteps := 2000000) only [go_sem, g]) ?_
    simp -implicitDefEqProofs (maxSteps := 2000000) only [go_sem, g]
    and_intros <;> rfl
end Go.Proofs.YtedciihjgbkjgacGreatDoor.A
