/- THE ABSTRACT SEMANTICS IS SOUND, twenty-ninth part: a frame at its end. Conditions: none. -/
import Derived.Test.YtkcbnbbbijlhcaiA32
namespace Go.Proofs.Ytkcbnbbbijlhcai.A
open Go
set_option linter.unusedSimpArgs false
set_option linter.unusedVariables false

section ends
variable {P : Program} {cx : Cx} {st : St} {sh : Sh} {a : Act} {W : World} {Fr : Nat → Prop}

/-! #### the results -/
def resSem (tmps : Array Value) : ResultVar → Sem Value
  | .tmp t => pure (tmps.getD t undef)
  | .cell a t => do loadVar t (← asAddr (tmps.getD a undef))
theorem resultPk_run (h : InvS cx st sh a W Fr) {r : ResultVar} {K : Pk → Prop} (hK : resultPk P st r K) : ∃ p v, K p ∧ PkRep st W sh p v ∧ (resSem a.tmps r).run P W = .ok v W := by
  cases r with
  | tmp t =>
    simp only [resultPk] at hK
    have hs := h.slots t
    rcases e : st.slots t with p | ps
    · rw [e] at hK hs
      exact ⟨p, _, hK, hs, by simp [resSem]⟩
    · rw [e] at hK; exact hK.elim
  | cell x t =>
    simp only [resultPk] at hK
    have hs := h.slots x
    split at hK
    · rename_i n id j ht hx
      rw [hx] at hs
      have hs : SVRep st W sh (.vad id j) (a.tmps.getD x undef) := hs
      simp only [loadK] at hK
      rcases hf : st.vars id with _ | fs
      · rw [hf] at hK; exact hK.elim
      · rw [hf] at hK
        have e := hs fs hf
        obtain ⟨_, c, tt, h2, h3⟩ := h.vars id fs hf
        have hc : ∀ (j : Nat) (v : Value), c.toList[j]? = some v → W.cell? ⟨sh.β id, j, none⟩ = some v := fun j v hj => by
          rw [cell_cells h2]; simpa using hj
        have fin : ∀ {v : Value}, (loadVar t ⟨sh.β id, j, none⟩).run P W = .ok v W → (resSem a.tmps (.cell x t)).run P W = .ok v W := by
          intro v hv
          simp only [resSem, e, asAddr, Sem.run_bind, Sem.run_pure, Result.andThen, hv]
        cases n with
        | none =>
          obtain ⟨v, g1, g2⟩ := all2_get h3 (List.getElem?_eq_getElem hK.1)
          refine ⟨_, v, hK.2, ?_, fin (run_load1 ht (hc j v g1))⟩
          rw [List.getD_eq_getElem?_getD, List.getElem?_eq_getElem hK.1]
          exact g2
        | some m =>
          have hlen := all2_length h3
          have hl : ((c.toList.drop j).take m).length = m := by simp at hlen ⊢; omega
          refine ⟨_, .agg ((c.toList.drop j).take m).toArray, hK.2, ⟨((c.toList.drop j).take m).toArray, rfl, all2_take m (all2_drop j h3)⟩, fin (run_loadn ht hl fun k v hk => ?_)⟩
          rw [List.getElem?_take] at hk
          split at hk
          · rw [List.getElem?_drop] at hk; exact hc (j + k) v hk
          · cases hk
    · exact hK.elim
theorem resultPks_run (h : InvS cx st sh a W Fr) : ∀ {rs : List ResultVar} {K : List Pk → Prop}, resultPks P st rs K → ∃ pks vals, K pks ∧ All2 (PkRep st W sh) pks vals ∧ All2 (fun r v => (resSem a.tmps r).run P W = .ok v W) rs vals
  | [], K, hK => ⟨[], [], hK, trivial, trivial⟩
  | r :: rs, K, hK => by
    obtain ⟨p, v, h1, h2, h3⟩ := resultPk_run h hK
    obtain ⟨pks, vals, g1, g2, g3⟩ := resultPks_run h h1
    exact ⟨p :: pks, v :: vals, g1, ⟨h2, g2⟩, h3, g3⟩
theorem results_run {fn : Func} {tmps : Array Value} {rs : List ResultVar} (hr : fn.results.toList = rs) (h3 : rs.length ≤ 3) {vals : List Value} (h : All2 (fun r v => (resSem tmps r).run P W = .ok v W) rs vals) :
    ∃ v, (results fn tmps).run P W = .ok v W ∧ ((∃ x, vals = [x] ∧ v = x) ∨ (vals.length ≠ 1 ∧ v = .tuple vals.toArray)) := by
  have e : fn.results = rs.toArray := by rw [← hr]
  have hres : results fn tmps = (do
      let vs ← rs.toArray.mapM (resSem tmps)
      pure (if h : vs.size = 1 then vs[0] else .tuple vs)) := by
    unfold results
    rw [e]
    rfl
  rw [hres]
  match rs, vals, h, h3 with
  | [], [], _, _ => exact ⟨_, by simp, .inr ⟨by simp, rfl⟩⟩
  | [r1], [v1], ⟨a1, _⟩, _ => exact ⟨_, by simp [a1], .inl ⟨v1, rfl, rfl⟩⟩
  | [r1, r2], [v1, v2], ⟨a1, a2, _⟩, _ => exact ⟨_, by simp [a1, a2], .inr ⟨by simp, rfl⟩⟩
  | [r1, r2, r3], [v1, v2, v3], ⟨a1, a2, a3, _⟩, _ => exact ⟨_, by simp [a1, a2, a3], .inr ⟨by simp, rfl⟩⟩
  | _ :: _ :: _ :: _ :: _, _, _, h3 => simp at h3

/-! #### what is left -/
def Shp1 : LV → Value → Prop
  | .one _, _ => True
  | .agg ls, v => ∃ cs : Array Value, v = .agg cs ∧ ls.length = cs.size
def Shp : List LV → List Value → Prop := All2 Shp1
def gonesOf : LV → LV
  | .one _ => .one .gone
  | .agg ls => .agg (ls.map fun _ => .gone)
def leftRow (r : ARow) : List CRow := match r.l with
  | .ow w rows => [⟨r.k, .ref r.k w 0 rows.length, .ow w rows, .gone, r.v⟩]
  | .op fs => [⟨r.k, .vad r.k 0, .op fs, .gone, r.v⟩]
  | _ => []

theorem leavesRep_length {lab : Nat → Lab} : ∀ {k : Nat} {ls : List Leaf} {vs : List Value}, LeavesRep W lab k ls vs → ls.length = vs.length
  | _, [], [], _ => rfl
  | k, l :: ls, v :: vs, ⟨_, h⟩ => by simp [leavesRep_length h]
  | _, [], _ :: _, h => h.elim
  | _, _ :: _, [], h => h.elim
theorem leftLeaves_length : ∀ {k : Nat} {as us : List Leaf}, leftLeaves st k as us → as.length = us.length
  | _, [], [], _ => rfl
  | k, a :: as, u :: us, ⟨_, h⟩ => by simp [leftLeaves_length h]
  | _, [], _ :: _, h => h.elim
  | _, _ :: _, [], h => h.elim
theorem leftLV_length {k : Nat} {a u : LV} (h : leftLV st k a u) : a.leaves.length = u.leaves.length := by
  cases a <;> cases u <;> first | exact h.elim | rfl | exact leftLeaves_length h
theorem leftK_length : ∀ {k : Nat} {args upd : List LV}, leftK st k args upd → (∀ a ∈ args, a.leaves.length ≤ 16) → args.length = upd.length ∧ ∀ u ∈ upd, u.leaves.length ≤ 16
  | _, [], [], _, _ => by simp
  | k, a :: as, u :: us, ⟨h1, h2⟩, h16 => by
    obtain ⟨g1, g2⟩ := leftK_length h2 (fun a m => h16 a (by simp [m]))
    refine ⟨by simp [g1], fun u' m => ?_⟩
    rcases List.mem_cons.mp m with rfl | m
    · rw [← leftLV_length h1]; exact h16 a (by simp)
    · exact g2 u' m
  | _, [], _ :: _, h, _ => h.elim
  | _, _ :: _, [], h, _ => h.elim
theorem shp_left {W0 : World} {lab0 : Nat → Lab} : ∀ {k : Nat} {args upd : List LV} {vs : List Value}, LVsRep W0 lab0 k args vs → leftK st k args upd → Shp upd vs
  | _, [], [], [], _, _ => trivial
  | k, a :: as, u :: us, v :: vs, ⟨h1, h2⟩, ⟨g1, g2⟩ => by
    refine ⟨?_, shp_left h2 g2⟩
    cases a <;> cases u <;> first | exact g1.elim | trivial | skip
    obtain ⟨cs, rfl, h3⟩ := h1
    exact ⟨cs, rfl, by rw [← leftLeaves_length g1, leavesRep_length h3]; simp⟩
  | _, [], _ :: _, _, _, h => h.elim
  | _, _ :: _, [], _, _, h => h.elim
  | _, [], [], _ :: _, h, _ => h.elim
  | _, _ :: _, _ :: _, [], h, _ => h.elim
theorem left_leaves_rows {W0 : World} {lab0 : Nat → Lab} : ∀ {k : Nat} {as us : List Leaf} {vs : List Value}, LeavesRep W0 lab0 k as vs → leftLeaves st k as us → ∀ r ∈ aLs k us vs, ∃ l, (⟨r.k, l, r.v⟩ : ARow) ∈ aLs k as vs ∧ leftLeaf st r.k l r.l
  | _, [], [], [], _, _ => by simp [aLs]
  | k, a :: as, u :: us, v :: vs, ⟨_, h2⟩, ⟨g1, g2⟩ => by
    intro r hr
    simp only [aLs, List.mem_cons] at hr ⊢
    rcases hr with rfl | hr
    · exact ⟨a, .inl rfl, g1⟩
    · obtain ⟨l, m1, m2⟩ := left_leaves_rows h2 g2 r hr
      exact ⟨l, .inr m1, m2⟩
  | _, [], _ :: _, _, _, h => h.elim
  | _, _ :: _, [], _, _, h => h.elim
  | _, [], [], _ :: _, h, _ => h.elim
  | _, _ :: _, _ :: _, [], h, _ => h.elim
theorem left_rows {W0 : World} {lab0 : Nat → Lab} : ∀ {k : Nat} {args upd : List LV} {vs : List Value}, LVsRep W0 lab0 k args vs → leftK st k args upd → ∀ r ∈ aAll k upd vs, ∃ l, (⟨r.k, l, r.v⟩ : ARow) ∈ aAll k args vs ∧ leftLeaf st r.k l r.l
  | _, [], [], [], _, _ => by simp [aAll]
  | k, a :: as, u :: us, v :: vs, ⟨h1, h2⟩, ⟨g1, g2⟩ => by
    intro r hr
    simp only [aAll, List.mem_append] at hr ⊢
    rcases hr with hr | hr
    · cases a <;> cases u <;> first | exact g1.elim | skip
      · simp only [aPk, List.mem_singleton] at hr ⊢
        subst hr
        exact ⟨_, .inl rfl, g1⟩
      · obtain ⟨cs, rfl, h3⟩ := h1
        simp only [aPk] at hr ⊢
        obtain ⟨l, m1, m2⟩ := left_leaves_rows h3 g1 r hr
        exact ⟨l, .inl m1, m2⟩
    · obtain ⟨l, m1, m2⟩ := left_rows h2 g2 r hr
      exact ⟨l, .inr m1, m2⟩
  | _, [], _ :: _, _, _, h => h.elim
  | _, _ :: _, [], _, _, h => h.elim
  | _, [], [], _ :: _, h, _ => h.elim
  | _, _ :: _, _ :: _, [], h, _ => h.elim
theorem shp_aLs_eff {δ : Type} (f : Nat → Leaf → List δ) : ∀ {k : Nat} {ls : List Leaf} {vs : List Value}, ls.length = vs.length → (aLs k ls vs).flatMap (fun r => f r.k r.l) = leavesEff f k ls
  | _, [], [], _ => rfl
  | k, l :: ls, v :: vs, h => by simp only [aLs, List.flatMap_cons, leavesEff, shp_aLs_eff f (by simpa using h : ls.length = vs.length)]
  | _, [], _ :: _, h => by simp at h
  | _, _ :: _, [], h => by simp at h
theorem shp_eff {δ : Type} (f : Nat → Leaf → List δ) : ∀ {k : Nat} {ls : List LV} {vs : List Value}, Shp ls vs → (aAll k ls vs).flatMap (fun r => f r.k r.l) = resEff f k ls
  | _, [], [], _ => rfl
  | k, l :: ls, v :: vs, ⟨h1, h2⟩ => by
    have e : (aPk k l v).flatMap (fun r => f r.k r.l) = leavesEff f k l.leaves := by
      cases l with
      | one l => simp [aPk, LV.leaves, leavesEff]
      | agg ls =>
        obtain ⟨cs, rfl, h3⟩ := h1
        exact shp_aLs_eff f (by simpa using h3)
    simp only [aAll, List.flatMap_append, resEff, shp_eff f h2, e]
  | _, [], _ :: _, h => h.elim
  | _, _ :: _, [], h => h.elim
theorem shp_aLs_rep {lab : Nat → Lab} : ∀ {k : Nat} {ls : List Leaf} {vs : List Value}, ls.length = vs.length → (∀ r ∈ aLs k ls vs, LeafRep W lab r.k r.l r.v) → LeavesRep W lab k ls vs
  | _, [], [], _, _ => trivial
  | k, l :: ls, v :: vs, h, g => ⟨g ⟨k, l, v⟩ (by simp [aLs]), shp_aLs_rep (by simpa using h) fun r hr => g r (by simp [aLs, hr])⟩
  | _, [], _ :: _, h, _ => by simp at h
  | _, _ :: _, [], h, _ => by simp at h
theorem shp_rep {lab : Nat → Lab} : ∀ {k : Nat} {ls : List LV} {vs : List Value}, Shp ls vs → (∀ r ∈ aAll k ls vs, LeafRep W lab r.k r.l r.v) → LVsRep W lab k ls vs
  | _, [], [], _, _ => trivial
  | k, l :: ls, v :: vs, ⟨h1, h2⟩, g => by
    refine ⟨?_, shp_rep h2 fun r hr => g r (by simp [aAll, hr])⟩
    cases l with
    | one l => exact g ⟨k, l, v⟩ (by simp [aAll, aPk])
    | agg ls =>
      obtain ⟨cs, rfl, h3⟩ := h1
      exact ⟨cs, rfl, shp_aLs_rep (by simpa using h3) fun r hr => g r (by simp [aAll, aPk, hr])⟩
  | _, [], _ :: _, h, _ => h.elim
  | _, _ :: _, [], h, _ => h.elim
theorem fitLeaf_gone (s : SV) (l : Leaf) : fitLeaf s l .gone := by cases s <;> cases l <;> trivial
theorem fitLeaves_gones : ∀ {ss : List SV} {ls : List Leaf}, All2 (pass st) ss ls → fitLeaves ss ls (ls.map fun _ => .gone)
  | [], [], _ => trivial
  | s :: ss, l :: ls, ⟨_, h⟩ => ⟨fitLeaf_gone s l, fitLeaves_gones h⟩
  | [], _ :: _, h => h.elim
  | _ :: _, [], h => h.elim
theorem fits_gones : ∀ {ps : List Pk} {ls : List LV}, All2 (passPk st) ps ls → fits ps ls (ls.map gonesOf)
  | [], [], _ => trivial
  | p :: ps, l :: ls, ⟨h1, h2⟩ => by
    refine ⟨?_, fits_gones h2⟩
    cases p <;> cases l <;> first | exact h1.elim | exact fitLeaf_gone _ _ | exact fitLeaves_gones h1
  | [], _ :: _, h => h.elim
  | _ :: _, [], h => h.elim
theorem leftRow_keys (r : ARow) : (leftRow r).map (·.k) = [] ∨ (leftRow r).map (·.k) = [r.k] := by
  unfold leftRow
  split <;> simp
theorem leftRows_keys : ∀ (l : List ARow), ((l.flatMap leftRow).map (·.k)).Sublist (l.map (·.k))
  | [] => by simp
  | r :: l => by
    simp only [List.flatMap_cons, List.map_append, List.map_cons]
    rcases leftRow_keys r with e | e <;> rw [e]
    · simpa using (leftRows_keys l).cons r.k
    · simpa using (leftRows_keys l).cons_cons r.k
theorem leftRow_hand (r : ARow) : (leftRow r).flatMap (fun c => handLeaf c.s c.l) = leftId r.k r.l := by
  unfold leftRow
  rcases hl : r.l with _ | _ | ⟨w, rows⟩ | _ | _ | fs | _ <;> simp [leftId, handLeaf]
theorem leftRow_lends (r : ARow) : ∀ c ∈ leftRow r, lends st c.s c.l = [] := by
  intro c hc
  unfold leftRow at hc
  split at hc <;> simp at hc <;> subst hc <;> rfl

/-- The end of a frame. -/
theorem frame_end (h : InvS cx st sh a W Fr) {fn : Func} {rs : List ResultVar} (hr : fn.results.toList = rs) {args res upd' : List LV} {vs : List Value} (hargs : LVok args 60 = true) (hres : LVok res 3 = true) (hrep0 : LVsRep cx.W0 cx.lab0 0 args vs) (hp : cx.pins = pinsOf args vs)
    (hE : endsK P rs args res upd' st) : ∃ v, (results fn a.tmps).run P W = .ok v W ∧ ∃ lab', ResRep W lab' res v ∧ LVsRep W lab' 0 upd' vs ∧ Ext cx.W0 cx.lab0 W lab' := by
  obtain ⟨pks, vals, ⟨hpass, hleft, hend⟩, hpk, hrun⟩ := resultPks_run h hE
  obtain ⟨hnd, hlent⟩ : ((List.zipWith handPk pks res).flatten ++ resEff leftId 0 upd').Nodup ∧ ∀ i ∈ (List.zipWith (lendsPk st) pks res).flatten, i ∉ (List.zipWith handPk pks res).flatten ++ resEff leftId 0 upd' := by
    simp only [endOk, Bool.and_eq_true, decide_eq_true_eq, List.all_eq_true, Bool.not_eq_true'] at hend
    refine ⟨hend.1, fun i hi hm => ?_⟩
    have := hend.2 i hi
    simp only [List.contains_eq_mem, decide_eq_false_iff_not] at this
    exact this hm
  obtain ⟨ha1, ha2⟩ := lvok_all hargs
  obtain ⟨hr1, hr2⟩ := lvok_all hres
  have hfit := fits_gones hpass
  obtain ⟨hl1, hl2⟩ := leftK_length hleft ha2
  have hshp := shp_left hrep0 hleft
  obtain ⟨hh1, hh2, _⟩ := rowsAll_hand (k := 4096) hpk hpass hfit
  obtain ⟨hk1, hk2⟩ := rowsAll_keys (k := 4096) (ps := pks) (us := res.map gonesOf) (vs := vals) hr2
  obtain ⟨hk3, hk4⟩ := aAll_keys (k := 0) (ls := upd') (vs := vs) hl2
  have hrows := left_rows hrep0 hleft
  have hleafs : ∀ r ∈ aAll 0 upd' vs, ∀ c ∈ leftRow r, SVRep st W sh c.s c.v ∧ pass st c.s c.l ∧ fitLeaf c.s c.l c.u := by
    intro r hr c hc
    obtain ⟨l, m1, m2⟩ := hrows r hr
    have hpin : (r.k, r.v) ∈ cx.pins := by rw [hp]; exact List.mem_map.mpr ⟨_, m1, rfl⟩
    unfold leftRow at hc
    split at hc
    · rename_i w rows e
      simp only [List.mem_singleton] at hc
      subst hc
      rw [e] at m2
      cases l with
      | ow wa ra =>
        simp only [leftLeaf] at m2
        rcases hob : st.objs r.k with _ | ⟨w2, rows'⟩
        · simp only [hob] at m2
        · simp only [hob] at m2
          obtain ⟨rfl, rfl, rfl⟩ := m2
          have hμ := h.pinO r.k r.v hpin (by rw [hob]; simp)
          have hlen : (rst rows').length = rows'.length := by simp [rst]
          refine ⟨fun w' rows2 ho2 => ?_, ?_, trivial⟩
          · rw [hob] at ho2
            cases ho2
            refine ⟨rfl, by omega, .inl ?_⟩
            obtain ⟨A, cap, e1, e2, e3⟩ := own_shape h hob
            rw [hlen, e1, ← hμ, e1]
            rcases e3 with e3 | e3
            · have hz : rows'.length = 0 := by omega
              simp [viewOf, e3]
            · rw [viewOf_full e3]
          · simp only [pass, hob]
            exact ⟨trivial, trivial, trivial, hlen, trivial⟩
      | _ => exact m2.elim
    · rename_i fs e
      simp only [List.mem_singleton] at hc
      subst hc
      rw [e] at m2
      cases l with
      | op fa =>
        have hv : st.vars r.k = some (fs.map Fld.sv) := m2
        have hβ := h.pinV r.k r.v hpin (by rw [hv]; simp)
        exact ⟨fun _ _ => hβ, hv, trivial⟩
      | _ => exact m2.elim
    · cases hc
  have hR : Leaf0 st W sh (rowsAll 4096 pks res (res.map gonesOf) vals ++ (aAll 0 upd' vs).flatMap leftRow) := by
    refine ⟨fun r hr => ?_, ?_, ?_⟩
    · rcases List.mem_append.mp hr with hr | hr
      · exact rowsAll_rep hpk hpass hfit r hr
      · obtain ⟨r', m1, m2⟩ := List.mem_flatMap.mp hr
        exact hleafs r' m1 r m2
    · rw [List.map_append, List.nodup_append]
      refine ⟨hk2, hk4.sublist (leftRows_keys _), fun x hx y hy => ?_⟩
      obtain ⟨r, m1, rfl⟩ := List.mem_map.mp hx
      have := hk1 r m1
      obtain ⟨r', m1', rfl⟩ := List.mem_map.mp ((leftRows_keys _).subset hy)
      have := hk3 r' m1'
      omega
    · rw [List.flatMap_append, hh1, List.flatMap_assoc]
      simp only [leftRow_hand]
      rw [shp_eff leftId hshp]
      exact hnd
  have hhand : (rowsAll 4096 pks res (res.map gonesOf) vals ++ (aAll 0 upd' vs).flatMap leftRow).flatMap (fun r => handLeaf r.s r.l) = (List.zipWith handPk pks res).flatten ++ resEff leftId 0 upd' := by
    rw [List.flatMap_append, hh1, List.flatMap_assoc]
    simp only [leftRow_hand]
    rw [shp_eff leftId hshp]
  have hl : ∀ r ∈ rowsAll 4096 pks res (res.map gonesOf) vals ++ (aAll 0 upd' vs).flatMap leftRow, ∀ id ∈ lends st r.s r.l, true = true ∧ id ∉ (rowsAll 4096 pks res (res.map gonesOf) vals ++ (aAll 0 upd' vs).flatMap leftRow).flatMap fun r => handLeaf r.s r.l := by
    intro r hr id hid
    refine ⟨rfl, ?_⟩
    rw [hhand]
    rcases List.mem_append.mp hr with hr | hr
    · exact hlent id (by rw [← hh2]; exact List.mem_flatMap.mpr ⟨r, hr, hid⟩)
    · obtain ⟨r', _, m2⟩ := List.mem_flatMap.mp hr
      rw [leftRow_lends r' r m2] at hid
      cases hid
  have hleaf := h.leaf hR hl
  obtain ⟨v, hv1, hv2⟩ := results_run hr (by have := all2_length hrun; have := all2_length hpk; have := all2_length hpass; omega) hrun
  refine ⟨v, hv1, lcOf st W sh (rowsAll 4096 pks res (res.map gonesOf) vals ++ (aAll 0 upd' vs).flatMap leftRow) true, ?_, ?_, ?_⟩
  · have hlv := rowsAll_leaves hpk hpass hfit fun r hr => hleaf r (List.mem_append_left _ hr)
    have hlen : res.length = vals.length := by have := all2_length hpk; have := all2_length hpass; omega
    rcases hv2 with ⟨x, rfl, rfl⟩ | ⟨hne, rfl⟩
    · match res, hlv with
      | [lv], hlv => exact hlv.1
      | [], hlv => exact hlv.elim
      | _ :: _ :: _, hlv => exact hlv.2.elim
    · unfold ResRep
      split
      · simp at hlen; omega
      · exact ⟨_, rfl, hlv⟩
  · refine shp_rep hshp fun r hr => ?_
    rcases hrl : r.l with x | ⟨w, rows⟩ | ⟨w, rows⟩ | _ | fs | fs | ⟨f, caps⟩
    case gone => trivial
    case ow => exact hleaf ⟨r.k, .ref r.k w 0 rows.length, .ow w rows, .gone, r.v⟩ (List.mem_append_right _ (List.mem_flatMap.mpr ⟨r, hr, by simp [leftRow, hrl]⟩))
    case op => exact hleaf ⟨r.k, .vad r.k 0, .op fs, .gone, r.v⟩ (List.mem_append_right _ (List.mem_flatMap.mpr ⟨r, hr, by simp [leftRow, hrl]⟩))
    all_goals
      obtain ⟨l, _, m2⟩ := hrows r hr
      rw [hrl] at m2
      cases l <;> exact m2.elim
  · obtain ⟨h1, h2, h3, h4, h5, h6⟩ := h.ext
    refine ⟨h1, h2, h3, h4, fun b hb hl' => ?_, fun b hb => ?_⟩
    · obtain ⟨g1, g2⟩ := h5 b hb hl'
      refine ⟨?_, g2⟩
      simp only [lcOf]
      rcases hl' with e | e <;> rw [g1, e]
      · exact tr_imm
      · exact tr_far
    · simp only [lcOf]
      rw [h6 b hb]; exact tr_dead
end ends
end Go.Proofs.Ytkcbnbbbijlhcai.A
