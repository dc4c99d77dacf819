/- THE ABSTRACT SEMANTICS IS SOUND, eleventh part: structs, arrays and slices that are built; bytes as a string. Conditions: none. -/
import Derived.Test.YtkcbnbbbijlhcaiA14
import Derived.Laws.BytesString
namespace Go.Proofs.Ytkcbnbbbijlhcai.A
open Go
set_option linter.unusedSimpArgs false
set_option linter.unusedVariables false

section build
variable {P : Program} {cx : Cx} {st : St} {sh : Sh} {a : Act} {W : World} {Fr : Nat → Prop} {nid : Nat} {o : Oper} {K : Eff → Prop} {Q : Exit → Act → World → Prop}

theorem all2_setRange {α β : Type} {R : α → β → Prop} {xs ys : List α} {vs us : List β} {j : Nat} (h : All2 R xs vs) (h' : All2 R ys us) : All2 R (setRange xs j ys) (setRange vs j us) := by
  simp only [setRange, all2_length h']
  exact all2_append (all2_append (all2_take j h) h') (all2_drop _ h)
theorem mem_setRange {α : Type} {xs ys : List α} {j : Nat} {x : α} (h : x ∈ setRange xs j ys) : x ∈ xs ∨ x ∈ ys := by
  simp only [setRange, List.mem_append] at h
  rcases h with (h | h) | h
  · exact .inl (List.mem_of_mem_take h)
  · exact .inr h
  · exact .inl (List.mem_of_mem_drop h)
theorem InvS.okay_cells (h : InvS cx st sh a W Fr) {p : Pk} {v : Value} (hv : PkRep st W sh p v) (hs : p.okay st) : All2 (SVRep st W sh) p.svs v.cells.toList :=
  h.pk_cells hv (by rintro s rfl; exact hs)

theorem fill_rep (h : InvS cx st sh a W Fr) {place : Nat → Option (Nat × Nat)} {places : List (Nat × Nat)} (hp : ∀ i q, nth places i = some q → place i = some q) :
    ∀ (parts : List (Nat × Operand)) {cs : List SV} {cells : Array Value} {K : List SV → Prop}, All2 (SVRep st W sh) cs cells.toList → (∀ id, Fr id → ∀ s ∈ cs, id ∉ s.ids) → fillK st places cs parts K →
      ∃ cs' cells', K cs' ∧ Instr.fill place cells (parts.map fun (i, x) => (i, a.eval x)) = some cells' ∧ All2 (SVRep st W sh) cs' cells'.toList ∧ ∀ id, Fr id → ∀ s ∈ cs', id ∉ s.ids
  | [], cs, cells, K, hc, hi, hK => ⟨cs, cells, hK, rfl, hc, hi⟩
  | (i, x) :: r, cs, cells, K, hc, hi, hK => by
    unfold fillK at hK
    split at hK
    · rename_i off n p hn hx
      obtain ⟨hok, hl, hle, hK⟩ := hK
      have ex := h.ev x
      rw [hx] at ex
      have ec := h.okay_cells ex hok
      have hsz : (a.eval x).cells.size = n := by rw [← hl, all2_length ec]; simp
      have hcl := all2_length hc
      have h2 : off + n ≤ cells.size := by rw [hcl] at hle; simpa using hle
      obtain ⟨cells', e1, e2⟩ := fill_cons (rest := r.map fun (i, x) => (i, a.eval x)) (hp i _ hn) hsz h2
      have hc' : All2 (SVRep st W sh) (setRange cs off p.svs) cells'.toList := by rw [e1]; exact all2_setRange hc ec
      obtain ⟨cs', cells2, k1, k2, k3, k4⟩ := fill_rep h hp r hc' (fun id hf s hs hm => by
        rcases mem_setRange hs with hs | hs
        · exact hi id hf s hs hm
        · have := h.ev_ids x hf
          rw [hx] at this
          exact this (by simp only [AV.ids, AV.svs, List.mem_flatMap]; exact ⟨s, hs, hm⟩)) hK
      exact ⟨cs', cells2, k1, by simp only [List.map_cons]; rw [e2]; exact k2, k3, k4⟩
    · exact hK.elim

theorem good_build (h : InvS cx st sh a W Fr) (hd : ∀ d', o.dst = some d' → d' < cx.n) {t : TypeId} {parts : Array (Nat × Operand)} (ho : o.op = .build t parts) {places : List (Nat × Nat)} (hp : placesOf P t = some places) {z : List Value} (hz : zeroOf P t = some z)
    (hK : fillK st places (z.map .sc) parts.toList fun cs => K ⟨.agg cs, [], []⟩) : Good P cx st Fr nid o a W K Q := by
  unfold zeroOf at hz
  split at hz
  · rename_i it hit
    simp only [Option.map_eq_some_iff] at hz
    obtain ⟨zv, hzv, rfl⟩ := hz
    have h0 : All2 (SVRep st W sh) (zv.cells.toList.map .sc) zv.cells.toList := by
      refine all2_of_get (by simp) fun k s u hk hu => ?_
      simp only [List.getElem?_map, Option.map_eq_some_iff] at hk
      obtain ⟨x, hx, rfl⟩ := hk
      rw [hx] at hu; cases hu
      rfl
    have h1 : ∀ id, Fr id → ∀ s ∈ (zv.cells.toList.map SV.sc), id ∉ s.ids := by
      intro id _ s hs
      obtain ⟨x, _, rfl⟩ := List.mem_map.mp hs
      simp [SV.ids]
    have key : ∃ cs' cells', K ⟨.agg cs', [], []⟩ ∧ P.built t (parts.map fun (i, x) => (i, a.eval x)).toList = some cells' ∧ All2 (SVRep st W sh) cs' cells'.toList ∧ ∀ id, Fr id → ∀ s ∈ cs', id ∉ s.ids := by
      unfold placesOf at hp
      split at hp
      · rename_i fields hu
        obtain ⟨cs', cells', k1, k2, k3, k4⟩ := fill_rep h (place := (places.toArray[·]?)) (places := places) (fun i q hq => by rw [nth_eq] at hq; simpa using hq) parts.toList h0 h1 hK
        refine ⟨cs', cells', k1, ?_, k3, k4⟩
        simp only [Program.built, hit, hu, hzv, hp, Array.toList_map]
        exact k2
      · rename_i n e hu
        simp only [Option.map_eq_some_iff] at hp
        obtain ⟨ie, hie, rfl⟩ := hp
        obtain ⟨cs', cells', k1, k2, k3, k4⟩ := fill_rep h (place := fun i => some (i * ie.size, ie.size)) (fun i q hq => by
          rw [nth_eq, List.getElem?_map, Option.map_eq_some_iff] at hq
          obtain ⟨k, hk, rfl⟩ := hq
          obtain ⟨hlt, e⟩ := List.getElem?_eq_some_iff.mp hk
          rw [List.getElem_range] at e
          subst e
          rfl) parts.toList h0 h1 hK
        refine ⟨cs', cells', k1, ?_, k3, k4⟩
        simp only [Program.built, hit, hu, hzv, hie, Array.toList_map]
        exact k2
      · cases hp
    obtain ⟨cs', cells', k1, k2, k3, k4⟩ := key
    refine good_v h hd (s := Instr.build t (parts.map fun (i, x) => (i, a.eval x))) (by simp [execOp, ho]) (v := .agg cells') (run_build W t _ cells' k2) (av := .agg cs') ⟨cells', rfl, k3⟩ (fun id hf hm => ?_) k1
    obtain ⟨s', m1, m2⟩ := agg_ids hm
    exact k4 id hf s' m1 m2
  · cases hz

/-- A slice, as it lies. -/
theorem InvS.rows_read (h : InvS cx st sh a W Fr) {s : SV} {v : Value} (hv : SVRep st W sh s v) {w : Nat} {rows : Rows} (hr : st.rows s = some (w, rows)) :
    ∃ A cap, v = .slice A rows.length cap ∧ rows.length ≤ cap ∧ (∀ r ∈ rows, r.length = w) ∧ (rows ≠ [] → ∃ b o, A = some ⟨b, o, none⟩ ∧ sh.lab b ≠ .dead ∧
      ∀ (i j : Nat) (r : List Cell) (c : Cell), rows[i]? = some r → r[j]? = some c → ∃ u, W.cell? ⟨b, o + i * w + j, none⟩ = some u ∧ (c.flat → ∀ L, OwnCell W sh.lab L c u)) := by
  unfold St.rows at hr
  split at hr
  · simp only [Option.some.injEq, Prod.mk.injEq] at hr
    obtain ⟨rfl, rfl⟩ := hr
    obtain ⟨A, cap, e, hl, hrl, hc⟩ := hv
    refine ⟨A, cap, e, hl, hrl, fun hne => ?_⟩
    obtain ⟨_, b, off, e1, e2, e3⟩ := hc hne
    refine ⟨b, off, e1, by rw [e2]; simp, fun i j r c hi hj => ?_⟩
    obtain ⟨u, g1, g2⟩ := e3 i r hi j c hj
    refine ⟨u, g1, fun hf L => ?_⟩
    cases c with
    | sc x => exact g2
    | gone => exact g2
    | sl q xs => have : q = 0 := hf
                 subst this; exact g2
  · rename_i id w' off len
    split at hr
    · rename_i w2 rows2 hob
      simp only [Option.some.injEq, Prod.mk.injEq] at hr
      obtain ⟨rfl, rfl⟩ := hr
      obtain ⟨rfl, g2, g3⟩ := hv w2 rows2 hob
      have hlen : ((rows2.drop off).take len).length = len := by simp; omega
      obtain ⟨A0, cap0, e0, hcap0⟩ := h.rows_len hv (w := w2) (rows := (rows2.drop off).take len) (by simp only [St.rows, hob])
      obtain ⟨hw0, hrl, hc⟩ := h.objs id w2 rows2 hob
      refine ⟨A0, cap0, e0, hcap0, fun r hm => hrl r (List.mem_of_mem_drop (List.mem_of_mem_take hm)), fun hne => ?_⟩
      have hlt : 0 < len := by
        rcases Nat.eq_zero_or_pos len with e | e
        · exact absurd (List.length_eq_zero_iff.mp (by rw [hlen]; exact e)) hne
        · exact e
      rcases hc with ⟨A, _, hn⟩ | ⟨b, cap, c', t', e1, e2, e3, e4, e5, e6⟩
      · subst hn; simp at g2; omega
      · rcases g3 with g3 | ⟨g3, _⟩
        case inr => omega
        simp only [e1, viewOf, if_neg (show ¬ cap = off by omega), Option.map_some, add_mk] at g3
        rw [e0] at g3
        simp only [Value.slice.injEq] at g3
        refine ⟨b, 0 + off * w2, g3.1, by rw [e3]; simp, fun i j r c hi hj => ?_⟩
        have hi' : rows2[off + i]? = some r := by
          rw [List.getElem?_take] at hi
          split at hi
          · rwa [List.getElem?_drop] at hi
          · cases hi
        obtain ⟨u, k1, k2⟩ := e6 (off + i) j r c hi' hj
        refine ⟨u, ?_, fun hf L => ?_⟩
        · rw [cell_cells e4, show 0 + off * w2 + i * w2 + j = (off + i) * w2 + j by rw [Nat.add_mul]; omega]; exact k1
        · cases c with
          | sc x => exact k2
          | gone => exact k2
          | sl q xs => have : q = 0 := hf
                       subst this; exact k2
    · cases hr
  · rename_i id i0 j0 s0 off len
    split at hr
    · rename_i w2 rows2 hob
      split at hr
      · rename_i s' xs hcell
        split at hr
        · rename_i es
          subst es
          simp only [Option.some.injEq, Prod.mk.injEq] at hr
          obtain ⟨rfl, rfl⟩ := hr
          obtain ⟨g0, g1, hd, g2, g3⟩ := hv.2 w2 rows2 xs hob hcell
          have hlen : (lift ((xs.drop off).take len)).length = len := by rw [lift_length]; simp; omega
          obtain ⟨A0, cap0, e0, hcap0⟩ := h.rows_len hv (w := 1) (rows := lift ((xs.drop off).take len)) (by simp only [St.rows, hob, hcell, if_true])
          refine ⟨A0, cap0, e0, hcap0, fun r hm => ?_, fun hne => ?_⟩
          · simp only [lift, List.mem_map] at hm
            obtain ⟨x, _, rfl⟩ := hm; rfl
          have hlt : 0 < len := by
            rcases Nat.eq_zero_or_pos len with e | e
            · exact absurd (List.length_eq_zero_iff.mp (by rw [hlen]; exact e)) hne
            · exact e
          obtain ⟨v', k1, k2⟩ := h.own_head hob hcell g0
          rw [g2] at k1; cases k1
          rcases k2 with ⟨A, _, hn⟩ | ⟨b, cap, c', t', e1, e2, e3, e4, e5, e6⟩
          · subst hn; simp at g1; omega
          · rcases g3 with g3 | ⟨g3, _⟩
            case inr => omega
            simp only [e1, viewOf, if_neg (show ¬ cap = off by omega), Option.map_some, add_mk] at g3
            rw [e0] at g3
            simp only [Value.slice.injEq] at g3
            refine ⟨b, 0 + off * 1, g3.1, by rw [e3]; simp, fun i j r c hi hj => ?_⟩
            simp only [lift, List.getElem?_map, Option.map_eq_some_iff] at hi
            obtain ⟨x, hx, rfl⟩ := hi
            have hx' : xs[off + i]? = some x := by
              rw [List.getElem?_take] at hx
              split at hx
              · rwa [List.getElem?_drop] at hx
              · cases hx
            cases j with
            | zero =>
              simp at hj; subst hj
              refine ⟨x, ?_, fun _ L => ⟨rfl, (e6 _ x hx').1⟩⟩
              rw [cell_cells e4, show 0 + off * 1 + i * 1 + 0 = off + i by omega]; exact (e6 _ x hx').2
            | succ j => simp at hj
        · cases hr
      · cases hr
    · cases hr
  · cases hr

theorem foldl_bytes : ∀ (bs : List UInt8) (s : ByteArray), ((bs.map fun b => (b.toNat : Int)).foldl (fun r n => r.push (UInt8.ofNat n.toNat)) s).data.toList = s.data.toList ++ bs
  | [], s => by simp
  | b :: bs, s => by
    simp only [List.map_cons, List.foldl_cons]
    rw [foldl_bytes bs]
    simp [ByteArray.push]
theorem good_convert_bytes (h : InvS cx st sh a W Fr) (hd : ∀ d', o.dst = some d' → d' < cx.n) {s d e : TypeId} {x : Operand} (ho : o.op = .convert s d x) (hs : P.underlying s = some (.slice e)) (he : P.underlying e = some (.int .u8)) (hdd : P.underlying d = some .string) {sv : SV}
    (hx : st.ev x = .one sv) {bs : List UInt8} (hr : st.rows sv = some (1, lift (bs.map fun b => .int .u8 b.toNat))) (hK : K ⟨.sc (.string ⟨bs.toArray⟩), [], []⟩) : Good P cx st Fr nid o a W K Q := by
  have ex := h.ev x
  rw [hx] at ex
  obtain ⟨A, cap, ev, hcap, _, hc⟩ := h.rows_read ex hr
  rw [lift_length, List.length_map] at ev
  refine good_v h hd (s := convert s d (a.eval x)) (by simp [execOp, ho]) (v := .string ⟨bs.toArray⟩) ?_ (av := .sc (.string ⟨bs.toArray⟩)) rfl (fun id _ => sc_ids _ id) hK
  rw [ev, run_convert_bytes_string W s d e A _ _ hs he hdd]
  rcases hbs : bs with _ | ⟨b0, bs'⟩
  · cases A with
    | none => simp [Conv.bytesToString, Sem.run_pure]; rfl
    | some ad =>
      have hl0 : (loadCells ad 0).run P W = .ok (([] : List Int).map (Value.int .u8)).toArray W := by
        have := run_loadCells_list (P := P) W ad [] (by simp)
        simpa using this
      exact run_bytesToString W ad 0 cap [] hl0
  · rw [← hbs]
    have hne : lift (bs.map fun b => Value.int .u8 b.toNat) ≠ [] := by rw [hbs]; simp [lift]
    obtain ⟨b, off, eA, _, hcell⟩ := hc hne
    subst eA
    have hload : (loadCells ⟨b, off, none⟩ bs.length).run P W = .ok ((bs.map fun b => (b.toNat : Int)).map (Value.int .u8)).toArray W := by
      have := run_loadCells_list (P := P) W ⟨b, off, none⟩ ((bs.map fun b => (b.toNat : Int)).map (Value.int .u8)) (by
        intro j v hj
        rw [add_mk]
        simp only [List.getElem?_map, Option.map_eq_some_iff] at hj
        obtain ⟨n, ⟨y, hy, rfl⟩, rfl⟩ := hj
        obtain ⟨u, g1, g2⟩ := hcell j 0 [.sc (.int .u8 y.toNat)] (.sc (.int .u8 y.toNat)) (by simp [lift, hy]) (by simp)
        have e : u = .int .u8 y.toNat := (g2 trivial .imm).1
        rw [← e]; simpa using g1)
      simpa using this
    rw [run_bytesToString W _ _ cap _ hload]
    congr 2
    have := foldl_bytes bs ByteArray.empty
    have e2 : ∀ s : ByteArray, s.data.toList = bs → s = ⟨bs.toArray⟩ := by
      rintro ⟨⟨l⟩⟩ rfl; rfl
    exact e2 _ (by rw [this]; rfl)

theorem setCells_rep {lab : Nat → Lab} {w : Nat} {rows : Rows} {cells : List Value} (h : RowsRep W lab nid w rows cells) {i : Nat} (hi : i < rows.length) {cs : List Cell} {vs : List Value} (hcs : cs.length = w) (hl : cs.length = vs.length)
    (hrep : ∀ (k : Nat) (c : Cell) (v : Value), cs[k]? = some c → vs[k]? = some v → OwnCell W lab (.inn nid i k) c v) (hsz : cells.length = rows.length * w) : RowsRep W lab nid w (rows.set i cs) (setRange cells (i * w) vs) := by
  have hfit : i * w + vs.length ≤ cells.length := by
    rw [hsz, ← hl, hcs, ← Nat.succ_mul]
    exact Nat.mul_le_mul_right w hi
  refine ⟨fun r hr => ?_, fun i' j r x hi' hj => ?_⟩
  · rcases List.mem_or_eq_of_mem_set hr with hr | rfl
    · exact h.1 r hr
    · exact hcs
  rw [List.getElem?_set] at hi'
  rw [setRange_get hfit]
  have hvl : vs.length = w := by omega
  split at hi'
  · rename_i e
    subst e
    simp only [hi, if_true, Option.some.injEq] at hi'
    subst hi'
    have hj' : j < cs.length := (List.getElem?_eq_some_iff.mp hj).1
    have hjv : j < vs.length := by omega
    refine ⟨vs[j], ?_, hrep j x _ hj (List.getElem?_eq_getElem hjv)⟩
    rw [if_neg (by omega), if_pos (by omega), show i * w + j - i * w = j by omega, List.getElem?_eq_getElem hjv]
  · rename_i hne
    obtain ⟨v, g1, g2⟩ := h.2 i' j r x hi' hj
    refine ⟨v, ?_, g2⟩
    have hjw : j < w := by
      have := (List.getElem?_eq_some_iff.mp hj).1
      rw [h.1 r (List.mem_of_getElem? hi')] at this
      exact this
    have h1 : i' < i → i' * w + j < i * w := fun hlt => by
      have := Nat.mul_le_mul_right w (show i' + 1 ≤ i from hlt)
      rw [Nat.succ_mul] at this; omega
    have h2 : i < i' → i * w + vs.length ≤ i' * w + j := fun hlt => by
      have := Nat.mul_le_mul_right w (show i + 1 ≤ i' from hlt)
      rw [Nat.succ_mul] at this; omega
    rcases Nat.lt_or_gt_of_ne (fun e : i' = i => hne e.symm) with hlt | hlt
    · rw [if_pos (h1 hlt)]; exact g1
    · have := h2 hlt
      rw [if_neg (by omega), if_neg (by omega)]; exact g1

theorem fillRows_rep (hpins : ∀ q ∈ cx.pins, q.1 < 1000) {nid w : Nat} (hn0 : 0 < nid) (hw : 0 < w) : ∀ (parts : List (Nat × Operand)) {st : St} {sh : Sh} {rows : Rows} {cells : Array Value} {K : Rows → List (Nat × Option Obj') → Prop}, InvS cx st sh a W Fr → st.objs nid = none →
    RowsRep W sh.lab nid w rows cells.toList → cells.size = rows.length * w → (∀ r ∈ rows, ∀ s xs, Cell.sl s xs ∈ r → s = 0 ∨ s = nid) → fillRowsK nid w st rows parts K →
    ∃ rows' ws π cells', K rows' ws ∧ Grafted cx st sh a W Fr nid ws π ∧ rows'.length = rows.length ∧ Instr.fill (fun i => some (i * w, w)) cells (parts.map fun (i, x) => (i, a.eval x)) = some cells' ∧ cells'.size = rows.length * w ∧
      RowsRep W (fun b => π (sh.lab b)) nid w rows' cells'.toList ∧ ∀ r ∈ rows', ∀ s xs, Cell.sl s xs ∈ r → s = 0 ∨ s = nid
  | [], st, sh, rows, cells, K, h, hn, hr, hsz, hst, hK => ⟨rows, [], _, cells, hK, grafted_nil h nid, rfl, rfl, hsz, hr, hst⟩
  | (i, x) :: r, st, sh, rows, cells, K, h, hn, hr, hsz, hst, hK => by
    unfold fillRowsK at hK
    split at hK
    · rename_i p hx
      obtain ⟨hsol, hl, hi, hK⟩ := hK
      have ex := h.ev x
      rw [hx] at ex
      have hone : ∀ s, p = .one s → s.solid st := by rintro s rfl; exact hsol.1
      have ec := h.pk_cells ex hone
      have hu : ∀ y ∈ p.svs, ∀ u, y = .sc u → u.oneCell' = true := by
        have : ∀ (l : List SV), solids st l → ∀ y ∈ l, y.solid st := by
          intro l
          induction l with
          | nil => intro _ y hy; cases hy
          | cons z l ih => rintro ⟨h1, h2⟩ y hy; rcases List.mem_cons.mp hy with rfl | hy
                           · exact h1
                           · exact ih h2 y hy
        rintro y hy u rfl
        exact this _ hsol _ hy
      obtain ⟨cs, ws, π, hK1, g, hcl, hrep, _, hst1⟩ := InvS.cells (a := a) (W := W) (Fr := Fr) hpins hn0 i 0 h hn ec hu hK
      have hsz1 : (a.eval x).cells.size = w := by rw [← hl, all2_length ec]; simp
      have hfit : i * w + w ≤ cells.size := by
        rw [hsz, ← Nat.succ_mul]; exact Nat.mul_le_mul_right w hi
      obtain ⟨cells1, e1, e2⟩ := fill_cons (place := fun i => some (i * w, w)) (rest := r.map fun (i, x) => (i, a.eval x)) (i := i) rfl hsz1 hfit
      have hr1 := rowsRep_relab (nid := nid) g.good g.mine hr
      have hr2 : RowsRep W (fun b => π (sh.lab b)) nid w (rows.set i cs) cells1.toList := by
        rw [e1]
        exact setCells_rep hr1 hi (by rw [hcl, hl]) (by rw [hcl, all2_length ec]) (fun k c v hk hv => by have := hrep k c v hk hv; rwa [Nat.zero_add] at this) (by simpa using hsz)
      have hsz2 : cells1.size = (rows.set i cs).length * w := by
        rw [List.length_set, ← hsz, ← Array.length_toList, e1, setRange_length (by rw [Array.length_toList, Array.length_toList, hsz1]; exact hfit), Array.length_toList]
      obtain ⟨rows', ws', π', cells', k1, k2, k3, k4, k5, k6, k7⟩ := fillRows_rep hpins hn0 hw r g.inv (g.none nid hn) hr2 hsz2 (fun r' hr' s xs hs => by
        rcases List.mem_or_eq_of_mem_set hr' with hr' | rfl
        · exact hst r' hr' s xs hs
        · exact hst1 s xs hs) hK1
      refine ⟨rows', ws' ++ ws, _, cells', k1, grafted_comp g k2, by rw [k3, List.length_set], by simp only [List.map_cons]; rw [e2]; exact k4, by rw [k5, List.length_set], k6, k7⟩
    · exact hK.elim

theorem good_buildSlice (h : InvS cx st sh a W Fr) (hd : ∀ d', o.dst = some d' → d' < cx.n) (hnid : ∀ k, k < 64 → Fr (nid + k)) (hpins : ∀ q ∈ cx.pins, q.1 < 1000) {t : TypeId} {len : Nat} {parts : Array (Nat × Operand)} (ho : o.op = .buildSlice t len parts) {w bytes : Nat} {z : List Value} (ht : elemOf' P t = some (w, bytes, z))
    (hlen : len * w ≤ 16777216) (hK : fillRowsK nid w st (List.replicate len (z.map (zeroCell nid))) parts.toList fun rows ws => K ⟨.one (.ref nid w 0 len), (nid, some (w, rows)) :: ws, []⟩) : Good P cx st Fr nid o a W K Q := by
  obtain ⟨el, info, hu, hin, hsz, hby, hz, hzl, hw0, hb0, hb1⟩ := elemOf_some ht
  unfold zeroOf at hz
  rw [hin] at hz
  simp only [Option.map_eq_some_iff] at hz
  obtain ⟨zv, hzv, rfl⟩ := hz
  have hzs : zv.cells.size = w := by simpa using hzl
  have hF0 : Fr nid := by simpa using hnid 0 (by omega)
  have hlo := h.low nid hF0
  obtain ⟨rows', ws, π, cells', k1, k2, k3, k4, k5, k6, k7⟩ := fillRows_rep (nid := nid) hpins (by omega) hw0 parts.toList h ((h.fresh nid hF0).2.1) (zero_rows (nid := nid) (elemOf_zero ht) (by omega) hzs (Nat.le_refl len)) (by simp [size_madeCells]) (fun r hr s xs hs => .inr (zero_stamps hr hs)) hK
  rw [List.length_replicate] at k3 k5
  refine good_newObj h hd hnid hpins k2 (W1 := W) ⟨rfl, rfl, rfl, rfl⟩ (c := cells') (t := el) (n := len) (cap := len) ?_ hw0 k3 (Nat.le_refl _) k5 k6 ?_ k1
  · have hbig : ¬ len * w > 2 ^ 24 := by
      have : (2 : Nat) ^ 24 = 16777216 := by decide
      omega
    have hfill : Instr.fill (fun i => some (i * info.size, info.size)) (madeCells zv.cells (len * info.size)) (parts.map fun (i, x) => (i, a.eval x)).toList = some cells' := by
      rw [hsz, Array.toList_map]; exact k4
    rw [← hsz] at hbig
    by_cases h0 : len * info.size = 0
    · have e0 : (Array.range (len * info.size)).map (fun i => (#[] : Array Value)[i % (#[] : Array Value).size]!) = madeCells zv.cells (len * info.size) := by
        rw [h0]; simp [madeCells]
      rw [h0] at hfill e0
      have h16 : ¬ (0 > 2 ^ 24) := by omega
      simp only [execOp, ho, Instr.buildSlice, Sem.run_bind, run_under hu, Result.andThen, run_size hin, h0, h16, if_false, if_true, Sem.run_pure]
      simp only [e0, hfill, alloc_val, Sem.run_bind, Result.andThen, Sem.run_pure]
    · simp only [execOp, ho, Instr.buildSlice, Sem.run_bind, run_under hu, Result.andThen, run_size hin, hbig, if_false, h0, zeroValue, run_info hin, hzv, Sem.run_pure]
      have e0 : (Array.range (len * info.size)).map (fun i => zv.cells[i % zv.cells.size]!) = madeCells zv.cells (len * info.size) := rfl
      simp only [e0, hfill, alloc_val, Sem.run_bind, Result.andThen, Sem.run_pure]
  · intro r hm s xs hs
    rcases k7 r hm s xs hs with rfl | rfl
    · rintro ⟨hq, _⟩
      have := h.low 0 hq
      omega
    · rintro ⟨_, hq⟩
      exact hq ⟨by omega, by omega⟩
end build
end Go.Proofs.Ytkcbnbbbijlhcai.A
