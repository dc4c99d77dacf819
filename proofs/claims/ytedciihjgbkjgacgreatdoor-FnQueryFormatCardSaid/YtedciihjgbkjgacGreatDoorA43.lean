/- CLOSURES THAT CALL THEMSELVES, second part: the contract from the code; the call. Conditions: none. -/
import Derived.Test.YtedciihjgbkjgacGreatDoorA42
namespace Go.Proofs.YtedciihjgbkjgacGreatDoor.A
open Go
set_option linter.unusedSimpArgs false
set_option linter.unusedVariables false

/-! #### what a frame holds, and what lies in memory -/
def objIs (o : Option Obj') (w : Nat) (rows : Rows) : Prop := match o with
  | some (w', rows0) => w' = w ∧ rows = stm 999 rows0
  | none => False
theorem objIs_some {w' w : Nat} {r rows : Rows} : objIs (some (w', r)) w rows = (w' = w ∧ rows = stm 999 r) := rfl
theorem objIs_ex {o : Option Obj'} {w : Nat} {rows : Rows} (h : objIs o w rows) : ∃ rows0, o = some (w, rows0) ∧ rows = stm 999 rows0 := by
  unfold objIs at h
  split at h
  · rename_i w' rows0
    obtain ⟨rfl, h⟩ := h
    exact ⟨rows0, rfl, h⟩
  · exact h.elim
/-- What a state says of one captured variable. -/
def holdsC (st : St) (ids : List Nat) (oid id : Nat) : CV → Prop
  | .flds fs => st.vars id = some (fs.map Fld.sv)
  | .own w rows => st.vars id = some [.ref oid w 0 rows.length] ∧ objIs (st.objs oid) w rows
  | .self f => st.vars id = some [.fnv f ids]
def heldT (st : St) (ids : List Nat) (oid : Nat) : List CV → List Nat → Prop
  | [], [] => True
  | cv :: T, id :: r => holdsC st ids oid id cv ∧ heldT st ids oid T r
  | _, _ => False
theorem stm_stm (n : Nat) (rows : Rows) : stm (n + 1) (stm (n + 1) rows) = stm (n + 1) rows := by
  unfold stm
  rw [List.map_map]
  refine List.map_congr_left fun r _ => ?_
  show (r.map _).map _ = _
  rw [List.map_map]
  refine List.map_congr_left fun c _ => ?_
  cases c with
  | sl s xs => cases s <;> rfl
  | _ => rfl
section held
variable {cx : Cx} {st : St} {sh : Sh} {a : Act} {W : World} {Fr : Nat → Prop} {ids : List Nat} {oid : Nat}
theorem heldT_length : ∀ {T : List CV} {r : List Nat}, heldT st ids oid T r → r.length = T.length
  | [], [], _ => rfl
  | _ :: T, _ :: r, ⟨_, h⟩ => by simp [heldT_length h]
  | [], _ :: _, h => h.elim
  | _ :: _, [], h => h.elim
theorem heldT_some : ∀ {T : List CV} {r : List Nat}, heldT st ids oid T r → ∀ id ∈ r, st.vars id ≠ none
  | [], [], _, id, h => by cases h
  | cv :: T, i :: r, ⟨h1, h⟩, id, hm => by
    rcases List.mem_cons.mp hm with rfl | hm
    · cases cv with
      | flds fs => intro e; have h1 : st.vars id = _ := h1; rw [e] at h1; cases h1
      | own w rows => intro e; have h1 := h1.1; rw [e] at h1; cases h1
      | self f => intro e; have h1 : st.vars id = _ := h1; rw [e] at h1; cases h1
    · exact heldT_some h id hm
  | [], _ :: _, h, _, _ => h.elim
  | _ :: _, [], h, _, _ => h.elim
theorem heldT_of : ∀ {T : List CV} {r : List Nat}, r.length = T.length → (∀ (j : Nat) (cv : CV) (id : Nat), T[j]? = some cv → r[j]? = some id → holdsC st ids oid id cv) → heldT st ids oid T r
  | [], [], _, _ => trivial
  | cv :: T, id :: r, h1, h => ⟨h 0 cv id (by simp) (by simp), heldT_of (by simpa using h1) fun j cv id a1 a2 => h (j + 1) cv id (by simpa using a1) (by simpa using a2)⟩
  | [], _ :: _, h, _ => by simp at h
  | _ :: _, [], h, _ => by simp at h
theorem held_rep (h : InvS cx st sh a W Fr) (hall : ∀ id ∈ ids, st.vars id ≠ none) : ∀ {T : List CV} {r : List Nat}, heldT st ids oid T r → VarsRep W sh.lab (ids.map sh.β) oid (sh.μ oid) T r (r.map sh.β)
  | [], [], _ => trivial
  | cv :: T, id :: r, ⟨h1, h2⟩ => by
    refine ⟨?_, held_rep h hall h2⟩
    cases cv with
    | flds fs =>
      obtain ⟨g1, c, t, g2, g3⟩ := h.vars id _ h1
      refine ⟨g1, c, t, g2, ?_⟩
      refine all2_of_get (by have := all2_length g3; rw [List.length_map] at this; exact this) fun k f v hf hv => ?_
      obtain ⟨v', k1, k2⟩ := all2_get g3 (show (fs.map Fld.sv)[k]? = some f.sv by simp [hf])
      rw [hv] at k1; cases k1
      cases f with
      | sc x => exact k2
      | im w rows => exact k2
    | own w rows =>
      obtain ⟨h1, h1'⟩ := h1
      obtain ⟨rows0, ho, rfl⟩ := objIs_ex h1'
      obtain ⟨g1, c, t, g2, g3⟩ := h.vars id _ h1
      refine ⟨g1, c, t, g2, ?_⟩
      rcases hc : c.toList with _ | ⟨v, _ | ⟨_, _⟩⟩
      · rw [hc] at g3; exact g3.elim
      · rw [hc] at g3
        have g4 := g3.1 w rows0 ho
        rw [stm_length] at g4
        exact ⟨v, rfl, by rw [stm_length]; exact g4.2.2, ownRep_stm (by omega) (h.objs oid w rows0 ho), stm_stm 998 rows0⟩
      · rw [hc] at g3; exact g3.2.elim
    | self f =>
      obtain ⟨g1, c, t, g2, g3⟩ := h.vars id _ h1
      refine ⟨g1, c, t, g2, ?_⟩
      rcases hc : c.toList with _ | ⟨v, _ | ⟨_, _⟩⟩
      · rw [hc] at g3; exact g3.elim
      · rw [hc] at g3
        obtain ⟨cs, rfl, k2⟩ := g3.1
        refine ⟨cs, rfl, ?_⟩
        rw [List.map_map]
        refine List.ext_getElem? fun k => ?_
        have hlen := all2_length k2
        rcases hq : ids[k]? with _ | q
        · have : ids.length ≤ k := by simpa using hq
          rw [List.getElem?_eq_none (by omega), List.getElem?_map, hq]; rfl
        · obtain ⟨u, e1, e2⟩ := all2_get k2 hq
          obtain ⟨fs, hfs⟩ := Option.ne_none_iff_exists'.mp (hall q (List.mem_of_getElem? hq))
          rw [e1, List.getElem?_map, hq, e2 fs hfs]; rfl
      · rw [hc] at g3; exact g3.2.elim
  | [], _ :: _, h2 => h2.elim
  | _ :: _, [], h2 => h2.elim
end held
theorem varsT_has {ids : List Nat} {oid : Nat} : ∀ {T : List CV} {r : List Nat} {j : Nat} {cv : CV} {id : Nat}, T[j]? = some cv → r[j]? = some id → (id, cv.svs ids oid) ∈ varsT ids oid T r
  | [], _, _, _, _, h, _ => by simp at h
  | _ :: _, [], _, _, _, _, h => by simp at h
  | cv :: T, i :: r, 0, _, _, h, h' => by simp at h h'; subst h; subst h'; simp [varsT]
  | cv :: T, i :: r, j + 1, _, _, h, h' => by simp at h h'; simp [varsT, varsT_has h h']
theorem varsT_keys {ids : List Nat} {oid : Nat} : ∀ {T : List CV} {r : List Nat}, r.length = T.length → (varsT ids oid T r).map (·.1) = r
  | [], [], _ => rfl
  | _ :: T, i :: r, h => by simp [varsT, varsT_keys (T := T) (r := r) (by simpa using h)]
  | [], _ :: _, h => by simp at h
  | _ :: _, [], h => by simp at h
theorem look_nodup {α : Type} {d : α} : ∀ {l : List (Nat × α)} {p : Nat × α}, (l.map (·.1)).Nodup → p ∈ l → look d l p.1 = p.2
  | (i, x) :: l, p, hn, h => by
    rw [List.map_cons, List.nodup_cons] at hn
    unfold look
    rcases List.mem_cons.mp h with rfl | h
    · simp
    · rw [if_neg (fun e => hn.1 (List.mem_map.mpr ⟨p, h, e⟩))]
      exact look_nodup hn.2 h
theorem held_cv {ids : List Nat} {oid : Nat} {T : List CV} {slots : List (Nat × AV)} {next : Nat} (hl : ids.length = T.length) (hnd : ids.Nodup) (hone : (objsT oid T).length ≤ 1) (hst : ∀ w rows, CV.own w rows ∈ T → stm 999 rows = rows) :
    heldT (mkSt slots (varsT ids oid T ids) (objsT oid T) next) ids oid T ids := by
  refine heldT_of hl fun j cv id h1 h2 => ?_
  have hv : (mkSt slots (varsT ids oid T ids) (objsT oid T) next).vars id = some (cv.svs ids oid) := by
    have := look_nodup (d := none) (l := (varsT ids oid T ids).map fun p => (p.1, some p.2)) (p := (id, some (cv.svs ids oid))) (by rw [List.map_map]; show ((varsT ids oid T ids).map fun p => p.1).Nodup; rw [varsT_keys hl]; exact hnd) (List.mem_map.mpr ⟨_, varsT_has h1 h2, rfl⟩)
    exact this
  cases cv with
  | flds fs => exact hv
  | self f => exact hv
  | own w rows =>
    have ho : (mkSt slots (varsT ids oid T ids) (objsT oid T) next).objs oid = some (w, rows) := ?_
    · show holdsC _ _ _ _ _
      refine ⟨hv, ?_⟩
      rw [ho]
      exact ⟨rfl, (hst w rows (List.mem_of_getElem? h1)).symm⟩
    have hm := objsT_has (oid := oid) h1
    have := look_nodup (d := none) (l := (objsT oid T).map fun p => (p.1, some p.2)) (p := (oid, some (w, rows))) (by
      rw [List.map_map]
      match objsT oid T, hone with
      | [], _ => simp
      | [a], _ => simp
      | _ :: _ :: _, h => simp at h) (List.mem_map.mpr ⟨_, hm, rfl⟩)
    exact this

/-! #### the contract from the code -/
def retQ (K : St → Prop) : Exit → St → Prop
  | .normal, st => K st
  | .ret, st => K st
  | _, _ => False
theorem retQ_normal {K : St → Prop} {st : St} : retQ K .normal st = K st := rfl
theorem retQ_ret {K : St → Prop} {st : St} : retQ K .ret st = K st := rfl
/-- The state at the closure's end. -/
def cvEnd (T : List CV) : St := mkSt [] (varsT (idsT 900 T) 960 T (idsT 900 T)) (objsT 960 T) 1000
def sideT (args : List LV) (T T' : List CV) (n : Nat) : Bool :=
  decide (T.length ≤ 50) && decide (T'.length = T.length) && decide ((objsT 960 T).length ≤ 1) && decide ((objsT 960 T').length ≤ 1) && args.all LV.plain && decide (args.length + T.length ≤ n)
theorem plain_rep {st : St} {W : World} {sh : Sh} : ∀ {k : Nat} {args : List LV} {vs : List Value}, args.all LV.plain = true → LVsRep W sh.lab k args vs → All2 (SVRep st W sh) (args.map argOf) vs
  | _, [], [], _, _ => trivial
  | k, l :: ls, v :: vs, hp, ⟨h1, h2⟩ => by
    simp only [List.all_cons, Bool.and_eq_true] at hp
    refine ⟨?_, plain_rep hp.2 h2⟩
    cases l with
    | agg ls => cases hp.1
    | one l => cases l with
      | sc x => exact h1
      | im w rows => exact h1
      | _ => cases hp.1
  | _, [], _ :: _, _, h => h.elim
  | _, _ :: _, [], _, h => h.elim
theorem plain_ids : ∀ {args : List LV}, args.all LV.plain = true → ∀ s ∈ args.map argOf, s.ids = []
  | l :: ls, hp, s, hs => by
    simp only [List.all_cons, Bool.and_eq_true] at hp
    simp only [List.map_cons, List.mem_cons] at hs
    rcases hs with rfl | hs
    · cases l with
      | agg ls => cases hp.1
      | one l => cases l <;> first | rfl | cases hp.1
    · exact plain_ids hp.2 s hs
theorem idsT_nodup : ∀ (k : Nat) (T : List CV), (idsT k T).Nodup
  | _, [] => List.nodup_nil
  | k, _ :: T => by
    rw [idsT, List.nodup_cons]
    refine ⟨fun h => ?_, idsT_nodup (k + 1) T⟩
    obtain ⟨j, hj⟩ := List.mem_iff_getElem?.mp h
    have := (idsT_get hj).1
    omega
theorem cvSVs_ids {ids : List Nat} {oid : Nat} {cv : CV} {s : SV} (hs : s ∈ cv.svs ids oid) : ∀ id ∈ s.ids, id = oid ∨ id ∈ ids := by
  intro id hid
  cases cv with
  | flds fs =>
    obtain ⟨f, _, rfl⟩ := List.mem_map.mp hs
    exact absurd hid (fsv_ids f id)
  | own w rows => simp only [CV.svs, List.mem_singleton] at hs; subst hs; simp only [SV.ids, List.mem_singleton] at hid; exact .inl hid
  | self f => simp only [CV.svs, List.mem_singleton] at hs; subst hs; exact .inr hid
theorem idsT_low {T : List CV} (h : T.length ≤ 50) {id : Nat} (hid : id ∈ idsT 900 T) : 900 ≤ id ∧ id < 950 := by
  obtain ⟨j, hj⟩ := List.mem_iff_getElem?.mp hid
  have := idsT_get hj
  omega

/-- A CLOSURE'S CONTRACT FROM ITS CODE. -/
theorem rsat_of_body {P : Program} {f : FuncId} {fn : Func} {c : Code} {args : List LV} {T T' : List CV} (hf : P.funcs[f]? = some fn) (hb : fn.body = some c)
    (hn : (fn.name == "runtime.NumGoroutine") = false) (hr : fn.results.toList = []) (hside : sideT args T T' fn.ntmps = true) (hst : ∀ w rows, CV.own w rows ∈ T' → stm 999 rows = rows)
    (h : Bwp P fn.ntmps c (retQ fun st => Le st (cvEnd T')) (cvSt args T)) : RSat P f args T T' := by
  simp only [sideT, Bool.and_eq_true, decide_eq_true_eq] at hside
  obtain ⟨⟨⟨⟨⟨h50, hlT⟩, hone⟩, hone'⟩, hplain⟩, hsz⟩ := hside
  intro W lab bs hd vs hdead hV hargs
  obtain ⟨hl1, hl2⟩ := varsRep_length hV
  have hvl := lvsRep_length hargs
  have hcf : (callFunc f (vs ++ bs.map ptrOf).toArray).run P W = .ok (.enter f (vs ++ bs.map ptrOf).toArray) W := by
    have h1 : fn.name ≠ "runtime.NumGoroutine" := by simpa using hn
    simp [callFunc, hf, h1, hb, Sem.run, program]
  unfold CallF
  rw [hcf]
  simp only
  refine calls_of_wp hf hb ?_
  have husz : (vs ++ bs.map ptrOf).length ≤ fn.ntmps := by simp; omega
  let sh : Sh := ⟨lab, fun _ => hd, fun id => bs.getD (id - 900) 0⟩
  have hβ : (idsT 900 T).map sh.β = bs := by
    refine List.ext_getElem? fun k => ?_
    rw [List.getElem?_map]
    rcases hq : (idsT 900 T)[k]? with _ | q
    · have : (idsT 900 T).length ≤ k := by simpa using hq
      rw [List.getElem?_eq_none (by rw [idsT_length] at this; omega)]; rfl
    · obtain ⟨e, hk⟩ := idsT_get hq
      subst e
      show some (bs.getD (900 + k - 900) 0) = bs[k]?
      rw [show 900 + k - 900 = k by omega, List.getD_eq_getElem?_getD, List.getElem?_eq_getElem (by omega)]
      rfl
  have hall : All2 (SVRep (cvSt args T) W sh) (args.map argOf ++ (idsT 900 T).map fun id => .vad id 0) (vs ++ bs.map ptrOf) := by
    refine all2_append (plain_rep (sh := sh) hplain hargs) ?_
    rw [← hβ]
    refine all2_of_get (by simp) fun k s v hs hv => ?_
    simp only [List.getElem?_map, Option.map_eq_some_iff] at hs
    obtain ⟨id, hid, rfl⟩ := hs
    simp only [List.map_map, List.getElem?_map, hid, Option.map_some, Option.some.injEq] at hv
    subst hv
    exact fun fs _ => rfl
  have hslot : ∀ t, (cvSt args T).slots t = (((args.map argOf ++ (idsT 900 T).map fun id => SV.vad id 0)[t]?).map AV.one).getD .un := fun t => by
    show look AV.un (enumT 0 _) t = _
    rw [enumT_look]; simp
  have hinv : InvS ⟨W, lab, fn.ntmps, (idsT 900 T).zip (bs.map ptrOf)⟩ (cvSt args T) sh ⟨(vs ++ bs.map ptrOf).toArray ++ Array.replicate (fn.ntmps - (vs ++ bs.map ptrOf).toArray.size) undef, []⟩ W (fun id => 1000 ≤ id) := by
    refine ⟨rfl, ?_, ⟨rfl, rfl, rfl, Nat.le_refl _, fun b _ _ => ⟨rfl, rfl⟩, hdead⟩, fun t => ?_, fun id fs hf => cv_vars (sh := sh) hone hV hβ hf, fun id w rows ho => (cv_objs (sh := sh) hV ho).2.1, fun id hf => ⟨?_, ?_, fun t hq => ?_, fun k fs hv s hs hq => ?_⟩, fun id h => h, fun id w rows i j s xs ho hc hf => ?_, fun k v hm hne => ?_, fun k v hm hne => ?_⟩
    · simp only [Array.size_append, List.size_toArray, Array.size_replicate]; omega
    · rw [hslot t]
      have ht := start_tmps husz t
      rw [show (vs ++ bs.map ptrOf).toArray.size = (vs ++ bs.map ptrOf).length by simp]
      rcases hq : (args.map argOf ++ (idsT 900 T).map fun id => SV.vad id 0)[t]? with _ | s
      · exact trivial
      · obtain ⟨v, g1, g2⟩ := all2_get hall hq
        rcases ht with ⟨_, e⟩ | e
        · rw [e] at g1; cases g1
        · rw [e] at g1; cases g1; exact g2
    · rcases hq : (cvSt args T).vars id with _ | fs
      · rfl
      · obtain ⟨j, cv, id', _, h2, h3⟩ := varsT_mem (look_vars hq)
        cases h3
        have := idsT_low h50 (List.mem_of_getElem? h2)
        have hf : 1000 ≤ id := hf
        omega
    · rcases hq : (cvSt args T).objs id with _ | ⟨w, rows⟩
      · rfl
      · have := (cv_objs (sh := sh) hV hq).1
        have hf : 1000 ≤ id := hf
        omega
    · have hf : 1000 ≤ id := hf
      rw [hslot t] at hq
      rcases hs : (args.map argOf ++ (idsT 900 T).map fun id => SV.vad id 0)[t]? with _ | s
      · rw [hs] at hq; simp [AV.ids, AV.svs, Pk.svs, SV.ids] at hq
      · rw [hs] at hq
        simp only [Option.map_some, Option.getD_some, AV.ids, AV.svs, Pk.svs, List.flatMap_cons, List.flatMap_nil, List.append_nil] at hq
        rcases List.mem_append.mp (List.mem_of_getElem? hs) with hm | hm
        · rw [plain_ids hplain s hm] at hq; cases hq
        · obtain ⟨q, hq', rfl⟩ := List.mem_map.mp hm
          simp only [SV.ids, List.mem_singleton] at hq
          subst hq
          have := idsT_low h50 hq'
          omega
    · obtain ⟨j, cv, id', _, h2, h3⟩ := varsT_mem (look_vars hv)
      cases h3
      have hf : 1000 ≤ id := hf
      rcases cvSVs_ids hs id hq with e | e
      · omega
      · have := idsT_low h50 e; omega
    · have hs := (cv_objs (sh := sh) hV ho).2.2
      rw [← hs] at hc
      have := stm_cell (by omega) hc
      have hf : 1000 ≤ s := hf
      omega
    · obtain ⟨x, hx⟩ := Option.ne_none_iff_exists'.mp hne
      have e := (cv_objs (sh := sh) (w := x.1) (rows := x.2) hV hx).1
      have := idsT_low h50 (List.of_mem_zip hm).1
      omega
    · obtain ⟨i, hi⟩ := List.mem_iff_getElem?.mp hm
      obtain ⟨h1, h2⟩ := List.getElem?_zip_eq_some.mp hi
      rw [← hβ] at h2
      simp only [List.map_map, List.getElem?_map, h1, Option.map_some, Option.some.injEq] at h2
      exact h2.symm
  have hp960 : ∀ q ∈ (idsT 900 T).zip (bs.map ptrOf), q.1 < 960 := fun q hq => by
    have := idsT_low h50 (List.of_mem_zip (a := q.1) (b := q.2) hq).1
    omega
  refine h ⟨W, lab, fn.ntmps, (idsT 900 T).zip (bs.map ptrOf)⟩ _ W _ rfl hp960 ⟨sh, hinv⟩ ?_
  rintro e st' a' W' hE hi
  have fin : Le st' (cvEnd T') → a'.defers = [] ∧ ∃ v, (results fn a'.tmps).run P W' = .ok v W' ∧ ∃ v_1, Ending.returned v = .returned v_1 ∧ ∃ lab' hd', VarsRep W' lab' bs 960 hd' T' (idsT 900 T') bs ∧ Ext W lab W' lab' := by
    intro hle
    obtain ⟨sh2, h2⟩ := hle _ a' W' hp960 hi
    obtain ⟨v, hv, _⟩ := results_run (P := P) (W := W') (fn := fn) (tmps := a'.tmps) hr (by simp) (vals := []) trivial
    have hids : idsT 900 T' = idsT 900 T := by
      refine List.ext_getElem? fun k => ?_
      rcases hq : (idsT 900 T)[k]? with _ | q
      · rw [List.getElem?_eq_none_iff, idsT_length] at hq ⊢; omega
      · obtain ⟨e, hk⟩ := idsT_get hq
        have hk' : k < (idsT 900 T').length := by rw [idsT_length]; omega
        rw [List.getElem?_eq_getElem hk']
        have := (idsT_get (List.getElem?_eq_getElem hk')).1
        rw [this, e]
    have hheld := held_cv (ids := idsT 900 T') (oid := 960) (T := T') (slots := []) (next := 1000) (idsT_length 900 T') (idsT_nodup 900 T') hone' hst
    have hrep := held_rep (oid := 960) h2 (heldT_some hheld) hheld
    have hβ2 : (idsT 900 T').map sh2.β = bs := by
      refine List.ext_getElem? fun k => ?_
      rw [List.getElem?_map]
      rcases hq : (idsT 900 T')[k]? with _ | q
      · rw [List.getElem?_eq_none_iff, idsT_length] at hq
        rw [List.getElem?_eq_none (by omega)]; rfl
      · have hk := (idsT_get hq).2
        have hb : bs[k]? = some bs[k] := List.getElem?_eq_getElem (by omega)
        have hm : (q, ptrOf bs[k]) ∈ (idsT 900 T).zip (bs.map ptrOf) := by
          refine List.mem_of_getElem? (i := k) (List.getElem?_zip_eq_some.mpr ⟨by rw [← hids]; exact hq, by rw [List.getElem?_map, hb]; rfl⟩)
        have := h2.pinV q _ hm (heldT_some hheld q (List.mem_of_getElem? hq))
        simp only [ptrOf, Value.pointer.injEq, Option.some.injEq, Addr.mk.injEq] at this
        rw [hb, this.1]; rfl
    rw [hβ2] at hrep
    have hd := h2.defers
    exact ⟨hd, v, hv, v, rfl, sh2.lab, sh2.μ 960, hrep, h2.ext⟩
  cases e with
  | normal => exact fin hE
  | ret => exact fin hE
  | _ => exact hE.elim

/-! #### the call -/
def renC (ids ids2 : List Nat) (oid oid2 : Nat) : Lab → Lab
  | .var id => match (ids.zip ids2).lookup id with | some k => .var k | none => .imm
  | .own id => if id = oid then .own oid2 else .imm
  | .inn id i j => if id = oid then .inn oid2 i j else .imm
  | L => L
theorem lookup_zip : ∀ {ids ids2 : List Nat} {j id id2 : Nat}, ids.Nodup → ids[j]? = some id → ids2[j]? = some id2 → (ids.zip ids2).lookup id = some id2
  | a :: ids, b :: ids2, 0, _, _, _, h1, h2 => by simp at h1 h2; subst h1; subst h2; simp [List.lookup_cons]
  | a :: ids, b :: ids2, j + 1, id, id2, hn, h1, h2 => by
    simp at h1 h2
    rw [List.nodup_cons] at hn
    have hne : (id == a) = false := by
      have : id ≠ a := fun e => hn.1 (by rw [← e]; exact List.mem_of_getElem? h1)
      simpa using this
    rw [List.zip_cons_cons, List.lookup_cons, hne]
    exact lookup_zip hn.2 h1 h2
  | [], _, _, _, _, _, h, _ => by simp at h
  | _ :: _, [], _, _, _, _, _, h => by simp at h
theorem lookup_none : ∀ {ids ids2 : List Nat} {id : Nat}, id ∉ ids → (ids.zip ids2).lookup id = none
  | [], _, _, _ => by simp
  | _ :: _, [], _, _ => by simp
  | a :: ids, b :: ids2, id, h => by
    have hne : (id == a) = false := by
      have : id ≠ a := fun e => h (by simp [e])
      simpa using this
    rw [List.zip_cons_cons, List.lookup_cons, hne]
    exact lookup_none fun m => h (by simp [m])

section call
variable {P : Program} {cx : Cx} {st : St} {sh : Sh} {a : Act} {W : World} {Fr : Nat → Prop} {ids : List Nat} {oid : Nat} {T T' : List CV}
theorem pass_im {s : SV} {l : Leaf} {v : Value} {lab2 : Nat → Lab} {k : Nat} (h : InvS cx st sh a W Fr) (hv : SVRep st W sh s v) (hp : pass st s l) (hpl : LV.plain (.one l) = true) (himm : ∀ b, sh.lab b = .imm → lab2 b = .imm) (hid : ∀ id ∈ lends st s l, ∀ b, ofId (sh.lab b) id → lab2 b = .imm) : LeafRep W lab2 k l v := by
  cases l with
  | sc x => cases s with
    | sc y =>
      have hv : v = y := hv
      have hp : x = y := hp
      rw [hv, ← hp]; rfl
    | _ => exact hp.elim
  | im w rows =>
    have main : (∀ q ∈ s.ids', q ∈ lends st s (.im w rows)) → (∃ rows', st.rows s = some (w, rows') ∧ rows = frz rows') → LeafRep W lab2 k (.im w rows) v := by
      rintro hs ⟨rows', h1, rfl⟩
      exact h.lendRows hv h1 himm fun id hi b hb => hid id (hs id hi) b hb
    cases s with
    | sc y =>
      have hv : v = y := hv
      obtain ⟨h1, rfl⟩ := hp
      rw [hv, isNil_eq h1]; exact imRep_nil
    | ref id w' off len => exact main (fun q hq => by simpa [SV.ids', lends] using hq) hp
    | rin id i j s off len => exact main (fun q hq => by simpa [SV.ids', lends] using hq) hp
    | im w' rows' => exact main (fun q hq => by simp [SV.ids'] at hq) hp
    | vad id j => obtain ⟨_, h1, _⟩ := hp; simp [St.rows] at h1
    | fnv f ids => obtain ⟨_, h1, _⟩ := hp; simp [St.rows] at h1
    | _ => exact main (fun q hq => by simp [SV.ids'] at hq) hp
  | _ => cases hpl
theorem plain_pass {lab2 : Nat → Lab} (h : InvS cx st sh a W Fr) (himm : ∀ b, sh.lab b = .imm → lab2 b = .imm) : ∀ {k : Nat} {pks : List Pk} {args : List LV} {vs : List Value}, All2 (PkRep st W sh) pks vs → All2 (passPk st) pks args → args.all LV.plain = true →
    (∀ id ∈ (List.zipWith (lendsPk st) pks args).flatten, ∀ b, ofId (sh.lab b) id → lab2 b = .imm) → LVsRep W lab2 k args vs
  | _, [], [], [], _, _, _, _ => trivial
  | k, p :: pks, l :: args, v :: vs, ⟨h1, h2⟩, ⟨g1, g2⟩, hp, hl => by
    simp only [List.all_cons, Bool.and_eq_true] at hp
    simp only [List.zipWith_cons_cons, List.flatten_cons, List.mem_append] at hl
    refine ⟨?_, plain_pass h himm h2 g2 hp.2 fun id hid => hl id (.inr hid)⟩
    cases l with
    | agg ls => cases hp.1
    | one l => cases p with
      | agg xs => exact g1.elim
      | one s => exact pass_im h h1 g1 hp.1 himm fun id hid => hl id (.inl hid)
  | _, [], [], _ :: _, h, _, _, _ => h.elim
  | _, [], _ :: _, _, _, h, _, _ => h.elim
  | _, _ :: _, [], _, _, h, _, _ => h.elim
  | _, _ :: _, _ :: _, [], h, _, _, _ => h.elim
theorem renC_imm {ids ids2 : List Nat} {oid oid2 : Nat} : renC ids ids2 oid oid2 .imm = .imm := rfl
theorem rsat_call {g : FuncId} {args : List LV} {vs : List Value} {pks : List Pk} (h : InvS cx st sh a W Fr) (hR : RSat P g args T T') (hheld : heldT st ids oid T ids) (hnd : ids.Nodup) (hpk : All2 (PkRep st W sh) pks vs) (hpass : All2 (passPk st) pks args) (hplain : args.all LV.plain = true)
    (hlend : ∀ i ∈ (List.zipWith (lendsPk st) pks args).flatten, i ≠ oid ∧ i ∉ ids) :
    CallF P g (vs ++ (ids.map sh.β).map ptrOf).toArray W fun _ W' => ∃ lab' hd', VarsRep W' lab' (ids.map sh.β) 960 hd' T' (idsT 900 T') (ids.map sh.β) ∧ Ext W (fun b => renC ids (idsT 900 T) oid 960 (sh.lab b)) W' lab' := by
  refine hR W (fun b => renC ids (idsT 900 T) oid 960 (sh.lab b)) (ids.map sh.β) (sh.μ oid) vs (fun b hb => by show renC _ _ _ _ (sh.lab b) = _; rw [h.ext.dead b hb]; rfl) ?_ ?_
  · refine varsRep_ren (lab := sh.lab) (oid := oid) (ids := ids) (idsT_length 900 T) (fun b hb => by show renC _ _ _ _ (sh.lab b) = _; rw [hb]; rfl) (fun b hb => by show renC _ _ _ _ (sh.lab b) = _; rw [hb]; simp [renC]) (fun b i j hb => by show renC _ _ _ _ (sh.lab b) = _; rw [hb]; simp [renC])
      (fun j id id2 b h1 h2 hb => by show renC _ _ _ _ (sh.lab b) = _; rw [hb]; simp only [renC, lookup_zip hnd h1 h2]) (held_rep h (heldT_some hheld) hheld)
  · refine plain_pass h (fun b hb => by show renC _ _ _ _ (sh.lab b) = _; rw [hb]; rfl) hpk hpass hplain fun id hid b hb => ?_
    obtain ⟨n1, n2⟩ := hlend id hid
    show renC _ _ _ _ (sh.lab b) = _
    rcases hb with e | ⟨i, j, e⟩ | e
    · rw [e]; simp [renC, n1]
    · rw [e]; simp [renC, n1]
    · rw [e]; simp only [renC, lookup_none n2]

/-- What a frame goes on knowing behind such a call. -/
def okKeep (ids : List Nat) : AV → Bool
  | .pk (.one .un) => true
  | .pk (.one (.sc _)) => true
  | .pk (.one (.im _ _)) => true
  | .pk (.one (.vad id _)) => ids.contains id
  | .pk (.one (.ipt _ _)) => true
  | _ => false
def sideC (ids : List Nat) (oid2 next2 : Nat) (d : Option Tmp) (slots2 : List (Nat × AV)) (args : List LV) (T T' : List CV) : Bool :=
  decide ids.Nodup && decide (T'.length = T.length) && decide ((objsT oid2 T').length ≤ 1) && args.all LV.plain && decide (960 ≤ oid2) && decide (oid2 < next2) && decide (1000 ≤ next2) && ids.all (fun i => decide (i < next2)) && slots2.all fun p => okKeep ids p.2 && (some p.1 != d)
theorem rsat_back {next2 oid2 : Nat} {d : Option Tmp} {v : Value} {slots2 : List (Nat × AV)} {args : List LV} (h : InvS cx st sh a W Fr) (hp960 : ∀ q ∈ cx.pins, q.1 < 960) (hd : ∀ d', d = some d' → d' < cx.n) (hheld : heldT st ids oid T ids) (hside : sideC ids oid2 next2 d slots2 args T T' = true)
    (hkeep : eachL (fun p : Nat × AV => st.slots p.1 = p.2) slots2) {W' : World} {lab' : Nat → Lab} {hd' : Value} (hV : VarsRep W' lab' (ids.map sh.β) 960 hd' T' (idsT 900 T') (ids.map sh.β)) (hext : Ext W (fun b => renC ids (idsT 900 T) oid 960 (sh.lab b)) W' lab') :
    Inv cx (mkSt slots2 (varsT ids oid2 T' ids) (objsT oid2 T') next2) (a.put d v) W' := by
  simp only [sideC, Bool.and_eq_true, decide_eq_true_eq, List.all_eq_true] at hside
  obtain ⟨⟨⟨⟨⟨⟨⟨⟨hnd, hlT⟩, hone⟩, hplain⟩, h960⟩, hoid⟩, hnext⟩, hids⟩, hsl⟩ := hside
  have hkeep := eachL_mem hkeep
  have hlen := heldT_length hheld
  have hsome := heldT_some hheld
  let sh2 : Sh := ⟨fun b => renC (idsT 900 T') ids 960 oid2 (lab' b), fun _ => hd', sh.β⟩
  have hV2 : VarsRep W' sh2.lab (ids.map sh.β) oid2 hd' T' ids (ids.map sh.β) := by
    refine varsRep_ren (lab := lab') (oid := 960) (ids := idsT 900 T') (by omega) (fun b hb => by show renC _ _ _ _ (lab' b) = _; rw [hb]; rfl) (fun b hb => by show renC _ _ _ _ (lab' b) = _; rw [hb]; simp [renC]) (fun b i j hb => by show renC _ _ _ _ (lab' b) = _; rw [hb]; simp [renC])
      (fun j id id2 b h1 h2 hb => by show renC _ _ _ _ (lab' b) = _; rw [hb]; simp only [renC, lookup_zip (idsT_nodup 900 T') h1 h2]) hV
  have hsame : ∀ b, (sh.lab b = .imm ∨ sh.lab b = .far) → sh2.lab b = sh.lab b ∧ W'.heap[b]? = W.heap[b]? := by
    intro b hb
    have hlt : b < W.heap.size := h.below (by rcases hb with e | e <;> rw [e] <;> simp)
    have hr : renC ids (idsT 900 T) oid 960 (sh.lab b) = sh.lab b := by rcases hb with e | e <;> rw [e] <;> rfl
    obtain ⟨g1, g2⟩ := hext.same b hlt (by show renC _ _ _ _ (sh.lab b) = _ ∨ renC _ _ _ _ (sh.lab b) = _; rw [hr]; exact hb)
    simp only [hr] at g1
    refine ⟨?_, g2⟩
    show renC _ _ _ _ (lab' b) = _
    rw [g1]
    rcases hb with e | e <;> rw [e] <;> rfl
  have hag : Agree W sh.lab W' sh2.lab (· = .imm) := fun b hb => hsame b (.inl hb)
  refine ⟨sh2, by rw [put_defers]; exact h.defers, by rw [put_size]; exact h.size, ⟨?_, ?_, ?_, ?_, fun b hb hl => ?_, fun b hb => ?_⟩, fun t => ?_, fun id fs hf => cv_vars (sh := sh2) hone hV2 rfl hf, fun id w rows ho => (cv_objs (sh := sh2) hV2 ho).2.1, fun id hf => ⟨?_, ?_, fun t hq => ?_, fun k fs hv s hs hq => ?_⟩, fun id hf => ?_, fun id w rows i j s xs ho hc hf => ?_, fun k v hm hne => ?_, fun k v hm hne => ?_⟩
  · exact hext.os.trans h.ext.os
  · exact hext.tape.trans h.ext.tape
  · exact hext.output.trans h.ext.output
  · exact Nat.le_trans h.ext.size hext.size
  · obtain ⟨g1, g2⟩ := h.ext.same b hb hl
    obtain ⟨k1, k2⟩ := hsame b (by rw [g1]; exact hl)
    exact ⟨by rw [k1, g1], by rw [k2, g2]⟩
  · show renC _ _ _ _ (lab' b) = _
    rw [hext.dead b hb]; rfl
  · show AVRep _ W' sh2 (look AV.un slots2 t) _
    rcases look_mem (d := AV.un) (l := slots2) (k := t) with ⟨e, _⟩ | ⟨p, hp, e1, e2⟩
    · rw [e]; trivial
    · rw [e2]
      have hk := hkeep p hp
      have hs := hsl p hp
      simp only [Bool.and_eq_true, bne_iff_ne, ne_eq] at hs
      rw [tmps_put _ _ _ _ (by rw [h.size]; exact hd), if_neg (by rw [← e1]; exact hs.2), ← e1]
      have hr := h.slots p.1
      rw [hk] at hr
      obtain ⟨q, av⟩ := p
      simp only at hs hr hk ⊢
      have h1 := hs.1
      unfold okKeep at h1
      split at h1
      · trivial
      · exact hr
      · exact imRep_agree hag rfl hr
      · rename_i id j
        intro fs _
        obtain ⟨fs', hfs'⟩ := Option.ne_none_iff_exists'.mp (hsome id (by simpa using h1))
        exact hr fs' hfs'
      · exact ipRep_agree hag rfl hr
      · cases h1
  · rcases hq : (mkSt slots2 (varsT ids oid2 T' ids) (objsT oid2 T') next2).vars id with _ | fs
    · rfl
    · obtain ⟨j, cv, id', _, h2, h3⟩ := varsT_mem (look_vars hq)
      cases h3
      have := hids id (List.mem_of_getElem? h2)
      have hf : next2 ≤ id := hf
      try simp only [decide_eq_true_eq] at this
      omega
  · rcases hq : (mkSt slots2 (varsT ids oid2 T' ids) (objsT oid2 T') next2).objs id with _ | ⟨w, rows⟩
    · rfl
    · have := (cv_objs (sh := sh2) hV2 hq).1
      have hf : next2 ≤ id := hf
      omega
  · have hf : next2 ≤ id := hf
    have hq : id ∈ (look AV.un slots2 t).ids := hq
    rcases look_mem (d := AV.un) (l := slots2) (k := t) with ⟨e, _⟩ | ⟨p, hp, e1, e2⟩
    · rw [e] at hq; simp [AV.ids, AV.svs, Pk.svs, SV.ids] at hq
    · rw [e2] at hq
      have h1 := hsl p hp
      try simp only [Bool.and_eq_true] at h1
      have h1 := h1.1
      unfold okKeep at h1
      split at h1 <;> rename_i e3
      · rw [e3] at hq; simp [AV.ids, AV.svs, Pk.svs, SV.ids] at hq
      · rw [e3] at hq; simp [AV.ids, AV.svs, Pk.svs, SV.ids] at hq
      · rw [e3] at hq; simp [AV.ids, AV.svs, Pk.svs, SV.ids] at hq
      · rw [e3] at hq
        simp [AV.ids, AV.svs, Pk.svs, SV.ids] at hq
        subst hq
        have := hids id (by simpa using h1)
        try simp only [decide_eq_true_eq] at this
        omega
      · rw [e3] at hq; simp [AV.ids, AV.svs, Pk.svs, SV.ids] at hq
      · cases h1
  · obtain ⟨j, cv, id', _, h2, h3⟩ := varsT_mem (look_vars hv)
    cases h3
    have hf : next2 ≤ id := hf
    rcases cvSVs_ids hs id hq with e | e
    · omega
    · have := hids id e
      try simp only [decide_eq_true_eq] at this
      omega
  · have hf : next2 ≤ id := hf
    omega
  · have hs := (cv_objs (sh := sh2) hV2 ho).2.2
    rw [← hs] at hc
    have := stm_cell (by omega) hc
    have hf : next2 ≤ s := hf
    omega
  · obtain ⟨x, hx⟩ := Option.ne_none_iff_exists'.mp hne
    have e := (cv_objs (sh := sh2) (w := x.1) (rows := x.2) hV2 hx).1
    have := hp960 _ hm
    simp only at this
    omega
  · obtain ⟨fs, hfs⟩ := Option.ne_none_iff_exists'.mp hne
    obtain ⟨j, cv, id', _, h2, h3⟩ := varsT_mem (look_vars hfs)
    cases h3
    exact h.pinV k v hm (hsome k (List.mem_of_getElem? h2))
end call

def lastSplit : List Oper → Option (List Oper × Oper)
  | [] => none
  | o :: r => match lastSplit r with
    | some (p, x) => some (o :: p, x)
    | none => some ([], o)
theorem lastSplit_eq : ∀ {l p : List Oper} {x : Oper}, lastSplit l = some (p, x) → l = p ++ [x]
  | [], _, _, h => by cases h
  | o :: r, p, x, h => by
    unfold lastSplit at h
    split at h
    · rename_i p' x' h'
      simp only [Option.some.injEq, Prod.mk.injEq] at h
      obtain ⟨rfl, rfl⟩ := h
      rw [lastSplit_eq h']; rfl
    · rename_i h'
      simp only [Option.some.injEq, Prod.mk.injEq] at h
      obtain ⟨rfl, rfl⟩ := h
      cases r with
      | nil => rfl
      | cons a r =>
        exfalso
        unfold lastSplit at h'
        split at h' <;> cases h'
/-- What is asked where a closure is called. -/
def askC (st1 : St) (f : Operand) (xs : Array Operand) (g : FuncId) (args : List LV) (T : List CV) (ids : List Nat) (oid : Nat) (slots2 : List (Nat × AV)) : Prop :=
  st1.ev f = .one (.fnv g ids) ∧ (pksK st1 xs.toList fun ps => All2 (passPk st1) ps args ∧ ((List.zipWith (lendsPk st1) ps args).flatten.all fun i => decide (i ≠ oid) && !ids.contains i) = true) ∧ heldT st1 ids oid T ids ∧ eachL (fun p : Nat × AV => st1.slots p.1 = p.2) slots2
/-- The call itself. -/
theorem call_last {P : Program} {cx : Cx} {R : Exit → St → Prop} {Q : Exit → Act → World → Prop} {st1 : St} {sh1 : Sh} {a1 : Act} {W1 : World} {Fr : Nat → Prop} {o : Oper} {f : Operand} {xs : Array Operand} {tys : Array TypeId} {g : FuncId} {args : List LV} {T T' : List CV} (hR : RSat P g args T T')
    {ids : List Nat} {oid oid2 next2 : Nat} {slots2 : List (Nat × AV)} (ho : o.op = .call ⟨.value f, xs, tys⟩) (hd : ∀ d', o.dst = some d' → d' < cx.n) (hp : ∀ q ∈ cx.pins, q.1 < 960) (hside : sideC ids oid2 next2 o.dst slots2 args T T' = true)
    (hask : askC st1 f xs g args T ids oid slots2) (h1 : InvS cx st1 sh1 a1 W1 Fr) (hQ : ∀ a' W', Inv cx (mkSt slots2 (varsT ids oid2 T' ids) (objsT oid2 T') next2) a' W' → Q .normal a' W') : o.wp P a1 W1 (Q .normal) Q := by
  obtain ⟨hf, hpks, hheld, hkeep⟩ := hask
  obtain ⟨ps, ⟨hpass, hlend⟩, hrep, _⟩ := pks_rep h1 _ hpks
  have ef := h1.ev f
  rw [hf] at ef
  obtain ⟨cs, ecs, hcs⟩ := ef
  have hcl : cs.toList = (ids.map sh1.β).map ptrOf := by
    rw [List.map_map]
    refine List.ext_getElem? fun k => ?_
    have hlen := all2_length hcs
    rcases hq : ids[k]? with _ | q
    · have : ids.length ≤ k := by simpa using hq
      rw [List.getElem?_eq_none (by omega), List.getElem?_map, hq]; rfl
    · obtain ⟨u, e1, e2⟩ := all2_get hcs hq
      obtain ⟨fs, hfs⟩ := Option.ne_none_iff_exists'.mp (heldT_some hheld q (List.mem_of_getElem? hq))
      rw [e1, List.getElem?_map, hq, e2 fs hfs]; rfl
  have hside' := hside
  simp only [sideC, Bool.and_eq_true, decide_eq_true_eq] at hside'
  obtain ⟨⟨⟨⟨⟨⟨⟨⟨hnd, _⟩, _⟩, hplain⟩, _⟩, _⟩, _⟩, _⟩, _⟩ := hside'
  have hlend' : ∀ i ∈ (List.zipWith (lendsPk st1) ps args).flatten, i ≠ oid ∧ i ∉ ids := fun i hi => by
    have := List.all_eq_true.mp hlend i hi
    simpa using this
  have hcall := rsat_call h1 hR hheld hnd hrep hpass hplain hlend'
  rw [← hcl] at hcall
  have hrun : (execOp a1.eval o).run P W1 = (callFunc g (xs.toList.map a1.eval ++ cs.toList).toArray).run P W1 := by
    simp only [execOp, ho, resolve, Deferred.ofValue, ecs, Sem.run_bind, Sem.run_pure, Result.andThen, invoke]
    congr 2
    simp
  have key : ∀ v W', (∃ lab' hd', VarsRep W' lab' (ids.map sh1.β) 960 hd' T' (idsT 900 T') (ids.map sh1.β) ∧ Ext W1 (fun b => renC ids (idsT 900 T) oid 960 (sh1.lab b)) W' lab') → Q .normal (a1.put o.dst v) W' := by
    rintro v W' ⟨lab', hd', hV, hext⟩
    exact hQ _ _ (rsat_back h1 hp hd hheld hside hkeep hV hext)
  unfold Oper.wp
  rw [hrun]
  unfold CallF at hcall
  rcases hc : (callFunc g (xs.toList.map a1.eval ++ cs.toList).toArray).run P W1 with ⟨nx, W2⟩ | _ | _
  · rw [hc] at hcall
    cases nx with
    | value v => exact key v W2 hcall
    | enter g' as =>
      rw [Oper.upon_enter]
      refine Calls.mono hcall ?_
      rintro e W3 ⟨v, rfl, hv⟩
      exact key v W3 hv
    | _ => exact hcall.elim
  all_goals (rw [hc] at hcall; exact hcall.elim)
/-- A REGION WHOSE LAST OPERATION CALLS A CLOSURE. -/
theorem bwp_call {P : Program} {n : Nat} {R : Exit → St → Prop} {st : St} {id : Nat} {ops : Array Oper} {pre : List Oper} {o : Oper} {f : Operand} {xs : Array Operand} {tys : Array TypeId} {g : FuncId} {args : List LV} {T T' : List CV} (hR : RSat P g args T T')
    (ids : List Nat) (oid oid2 next2 : Nat) (slots2 : List (Nat × AV)) (hsp : lastSplit ops.toList = some (pre, o)) (ho : o.op = .call ⟨.value f, xs, tys⟩) (hg : o.guard = none) (hok : ops.toList.all (okOp n) = true) (hside : sideC ids oid2 next2 o.dst slots2 args T T' = true)
    (h : runK P (ops.toList.map (·.dst)) st.next 0 pre st fun st1 => askC st1 f xs g args T ids oid slots2)
    (hpost : R .normal (mkSt slots2 (varsT ids oid2 T' ids) (objsT oid2 T') next2)) : Bwp P n (.region id ops false) R st := by
  have hops := lastSplit_eq hsp
  intro cx a W Q hn hp hi hQ
  obtain ⟨sh, hi⟩ := hi
  subst hn
  refine wp_region ?_
  have e : List.range ops.size = List.range' 0 (pre.length + [o].length) := by rw [List.range_eq_range', ← Array.length_toList, hops, List.length_append]
  rw [e]
  have hp1000 : ∀ q ∈ cx.pins, q.1 < 1000 := fun q hq => by have := hp q hq; omega
  refine run_then (tail := [o]) hp1000 (okOps hok) pre 0 (by simpa using hops) (hi.less fun q hq => by simpa using hq) h ?_
  rintro st1 sh1 a1 W1 hask h1
  have hget : ops[0 + pre.length]? = some o := by
    rw [← Array.getElem?_toList, hops]; simp
  have hmem : o ∈ ops.toList := by rw [hops]; simp
  simp only [List.length_cons, List.length_nil, List.range'_succ, List.range'_zero, wpOps, hget]
  have hw : Region.wanted o (yielded ops a1.tmps) = true := by simp [Region.wanted, hg]
  rw [if_pos hw]
  refine .inl ?_
  exact Oper.wp_mono (fun a' W' hx => hx) (call_last (R := R) (Q := Q) hR ho (okOps hok o hmem) hp hside hask h1 fun a' W' hx => hQ _ _ _ _ hpost hx)
/-- A FUNCTION'S CONTRACT FROM ITS CODE, where the code calls such closures. -/
theorem sat_of_bodyB {P : Program} {f : FuncId} {fn : Func} {c : Code} {args res upd' : List LV} (hf : P.funcs[f]? = some fn) (hb : fn.body = some c)
    (hn : (fn.name == "runtime.NumGoroutine") = false) {rs : List ResultVar} (hr : fn.results.toList = rs) (hargs : (LVok args 60 && decide (args.length ≤ fn.ntmps)) = true) (hres : LVokR res = true)
    (h : Bwp P fn.ntmps c (endQ P rs args res upd') (startOf args)) : Sat P f args res upd' := by
  simp only [Bool.and_eq_true, decide_eq_true_eq] at hargs
  obtain ⟨hargs, hlen⟩ := hargs
  refine ⟨hargs, hres, fun W lab vs hdead hrep => ?_⟩
  have hvl := lvsRep_length hrep
  have hcf : (callFunc f vs.toArray).run P W = .ok (.enter f vs.toArray) W := by
    have h1 : fn.name ≠ "runtime.NumGoroutine" := by simpa using hn
    simp [callFunc, hf, h1, hb, Sem.run, program]
  unfold CallF
  rw [hcf]
  simp only
  refine calls_of_wp hf hb ?_
  have hinv : InvS ⟨W, lab, fn.ntmps, pinsOf args vs⟩ (startOf args) (sh0 lab args vs) ⟨vs.toArray ++ Array.replicate (fn.ntmps - vs.toArray.size) undef, []⟩ W (fun id => 1000 ≤ id) :=
    start_inv hargs hrep hdead (by omega) (by simp; omega) rfl (by simpa using start_tmps (by omega))
  have hp960 : ∀ q ∈ pinsOf args vs, q.1 < 960 := by
    obtain ⟨h60, h16⟩ := lvok_all hargs
    obtain ⟨hk1, _⟩ := aAll_keys (k := 0) (ls := args) (vs := vs) h16
    intro q hq
    obtain ⟨r, hr, rfl⟩ := List.mem_map.mp hq
    have := hk1 r hr
    show r.k < 960
    omega
  refine h ⟨W, lab, fn.ntmps, pinsOf args vs⟩ _ W _ rfl hp960 ⟨_, hinv⟩ ?_
  rintro e st' a' W' hE ⟨sh', hi⟩
  have fin : endsK P rs args res upd' st' → a'.defers = [] ∧ ∃ v, (results fn a'.tmps).run P W' = .ok v W' ∧ ∃ v_1, Ending.returned v = .returned v_1 ∧ ∃ lab', ResRep W' lab' res v_1 ∧ LVsRep W' lab' 0 upd' vs ∧ Ext W lab W' lab' := by
    intro hE
    obtain ⟨v, h1, h2⟩ := frame_end hi hr hargs hres hrep rfl hE
    exact ⟨hi.defers, v, h1, v, rfl, h2⟩
  cases e with
  | normal => exact fin hE
  | ret => exact fin hE
  | _ => exact hE.elim
def askP (st1 : St) (args : List LV) (ids : List Nat) (oid : Nat) (ps : List Pk) : Prop := All2 (passPk st1) ps args ∧ ((List.zipWith (lendsPk st1) ps args).flatten.all fun i => decide (i ≠ oid) && !ids.contains i) = true
theorem askP_eq {st1 : St} {args : List LV} {ids : List Nat} {oid : Nat} {ps : List Pk} : askP st1 args ids oid ps = (All2 (passPk st1) ps args ∧ ((List.zipWith (lendsPk st1) ps args).flatten.all fun i => decide (i ≠ oid) && !ids.contains i) = true) := rfl
theorem askC_eq {st1 : St} {f : Operand} {xs : List Operand} {g : FuncId} {args : List LV} {T : List CV} {ids : List Nat} {oid : Nat} {slots2 : List (Nat × AV)} :
    askC st1 f xs.toArray g args T ids oid slots2 = (st1.ev f = .one (.fnv g ids) ∧ pksA st1 [] xs (askP st1 args ids oid) ∧ heldT st1 ids oid T ids ∧ eachL (fun p : Nat × AV => st1.slots p.1 = p.2) slots2) := by
  simp only [askC, pksA, List.nil_append, askP]
attribute [go_sem] askC_eq askP_eq retQ_normal retQ_ret objIs_some heldT holdsC cvSt cvEnd enumT varsT objsT idsT argOf CV.svs eachL List.append_nil List.cons_append List.nil_append
end Go.Proofs.YtedciihjgbkjgacGreatDoor.A
