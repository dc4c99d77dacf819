/- THE ABSTRACT SEMANTICS, orders (first part): what an operation comes to leans on the slices and variables that it names alone. Conditions: none. -/
import Derived.Test.YtkcbnbbbijlhcaiA34
namespace Go.Proofs.Ytkcbnbbbijlhcai.A
open Go
set_option linter.unusedSimpArgs false
set_option linter.unusedVariables false

/-- Two states that agree about some slices and variables. -/
def Ag (F : List Nat) (s s' : St) : Prop := ∀ id ∈ F, s'.objs id = s.objs id ∧ s'.vars id = s.vars id
theorem Ag.mono {F G : List Nat} {s s' : St} (h : Ag F s s') (hg : ∀ id ∈ G, id ∈ F) : Ag G s s' := fun id hi => h id (hg id hi)
section frame
variable {P : Program} {s s' : St} {nid : Nat}
theorem rows_ag {x : SV} (h : Ag x.ids s s') : s'.rows x = s.rows x := by
  cases x with
  | ref id w off len => simp only [St.rows, (h id (by simp [SV.ids])).1]
  | rin id i j q off len => simp only [St.rows, (h id (by simp [SV.ids])).1]
  | _ => rfl
theorem solid_ag {x : SV} (h : Ag x.ids s s') : x.solid s' = x.solid s := by
  cases x with
  | ref id w off len => simp only [SV.solid, rows_ag h]
  | rin id i j q off len => simp only [SV.solid, rows_ag h]
  | vad id j => simp only [SV.solid, (h id (by simp [SV.ids])).2]
  | _ => rfl
theorem solids_ag : ∀ {xs : List SV}, Ag (xs.flatMap SV.ids) s s' → solids s' xs = solids s xs
  | [], _ => rfl
  | x :: r, h => by
    simp only [solids]
    rw [solid_ag (h.mono (by simp +contextual)), solids_ag (h.mono (fun id hi => by simp only [List.flatMap_cons, List.mem_append]; exact .inr hi))]
theorem loadK_ag {x : SV} {n : Option Nat} {K : AV → Prop} (h : Ag x.ids s s') : loadK s' x n K = loadK s x n K := by
  cases x with
  | vad id j => simp only [loadK, (h id (by simp [SV.ids])).2]
  | oad id i j => simp only [loadK, (h id (by simp [SV.ids])).1]
  | oin id i j q k => simp only [loadK, (h id (by simp [SV.ids])).1]
  | _ => rfl
theorem cellK_ag {n : Nat} {x : SV} {K : Cell → List (Nat × Option Obj') → Prop} (h : Ag x.ids s s') : cellK s' n x K = cellK s n x K := by
  cases x with
  | ref id w off len => simp only [cellK, (h id (by simp [SV.ids])).1]
  | rin id i j q off len => simp only [cellK, (h id (by simp [SV.ids])).1]
  | _ => rfl
theorem upd_ag {α : Type} {f g : Nat → Option α} {id : Nat} (h : f id = g id) : ∀ (l : List (Nat × Option α)), upd f l id = upd g l id
  | [] => h
  | (i, x) :: l => by simp only [upd]; rw [upd_ag h l]
theorem ag_upd {F : List Nat} (h : Ag F s s') (ws : List (Nat × Option Obj')) : Ag F { s with objs := upd s.objs ws } { s' with objs := upd s'.objs ws } := fun id hi => ⟨upd_ag (h id hi).1 ws, (h id hi).2⟩
theorem cellsK_ag {n : Nat} : ∀ {xs : List SV} {s s' : St} {K : List Cell → List (Nat × Option Obj') → Prop}, Ag (xs.flatMap SV.ids) s s' → cellsK n s' xs K = cellsK n s xs K
  | [], _, _, _, _ => rfl
  | x :: r, s, s', K, h => by
    simp only [cellsK]
    rw [cellK_ag (h.mono (by simp +contextual))]
    congr 1
    funext c ws
    exact cellsK_ag (ag_upd (h.mono (fun id hi => by simp only [List.flatMap_cons, List.mem_append]; exact .inr hi)) ws)
theorem storeK_ag {x : SV} {n : Nat} {xs : List SV} {K : Eff → Prop} (h : Ag x.ids s s') (h2 : Ag (xs.flatMap SV.ids) s s') : storeK s' nid x n xs K = storeK s nid x n xs K := by
  cases x with
  | vad id j => simp only [storeK, (h id (by simp [SV.ids])).2]
  | oad id i j =>
    simp only [storeK]
    rw [cellsK_ag h2]
    congr 2
    funext cs ws
    rw [upd_ag (h id (by simp [SV.ids])).1 ws]
  | oin id i j q k => simp only [storeK, (h id (by simp [SV.ids])).1]
  | _ => rfl
theorem asNat?_ag {x : Option Operand} {d : Nat} {K : Nat → Prop} (h : ∀ y, x = some y → s'.ev y = s.ev y) : asNat? s' x d K = asNat? s x d K := by
  cases x with
  | none => rfl
  | some y => simp only [asNat?, h y rfl]
theorem cutK_ag {w : Nat} {x : SV} {lo hi : Option Operand} {K : Eff → Prop} (h : Ag x.ids s s') (h1 : ∀ y, lo = some y → s'.ev y = s.ev y) (h2 : ∀ y, hi = some y → s'.ev y = s.ev y) : cutK s' w x lo hi K = cutK s w x lo hi K := by
  cases x <;> simp only [cutK, asNat?_ag h1, asNat?_ag h2] <;> first | rfl | (rw [rows_ag h]) | skip
theorem srcK_ag {w : Nat} {x : AV} {K : Rows → List (Nat × Option Obj') → Prop} (h : Ag x.ids s s') : srcK s' w x K = srcK s w x K := by
  cases x with
  | tup ps => rfl
  | pk p => cases p with
    | agg xs => rfl
    | one x =>
      have h : Ag x.ids s s' := h.mono fun id hi => by simpa [AV.ids, AV.svs, Pk.svs] using hi
      cases x with
      | ref id w' off len => simp only [srcK, (h id (by simp [SV.ids])).1]
      | rin id i j q off len => simp only [srcK, rows_ag h]
      | sc v => cases v <;> rfl
      | _ => rfl
theorem srcK_congr {w : Nat} {x : AV} {K K' : Rows → List (Nat × Option Obj') → Prop} (h : ∀ a b, K a b = K' a b) : srcK s w x K = srcK s w x K' := by
  have : K = K' := by funext a b; exact h a b
  rw [this]
theorem appK_ag {w bytes : Nat} {a x : AV} {K : Eff → Prop} (h : Ag a.ids s s') (h2 : Ag x.ids s s') : appK s' nid w bytes a x K = appK s nid w bytes a x K := by
  simp only [appK]
  rw [srcK_ag h2]
  refine srcK_congr fun more ws => ?_
  cases a with
  | tup ps => rfl
  | pk p => cases p with
    | agg xs => rfl
    | one y =>
      have h : Ag y.ids s s' := h.mono fun id hi => by simpa [AV.ids, AV.svs, Pk.svs] using hi
      cases y with
      | ref id w' off len => simp only [upd_ag (h id (by simp [SV.ids])).1 ws]
      | rin id i j q off len => simp only [upd_ag (h id (by simp [SV.ids])).1 ws]
      | _ => rfl
theorem okay_ag {p : Pk} (h : Ag (p.svs.flatMap SV.ids) s s') : p.okay s' = p.okay s := by
  cases p with
  | one x => exact solid_ag (h.mono fun id hi => by simpa [Pk.svs] using hi)
  | agg xs => rfl
/-- Operands that read the same, and what they name. -/
def AgOps (xs : List Operand) (s s' : St) : Prop := (∀ x ∈ xs, s'.ev x = s.ev x) ∧ Ag (xs.flatMap fun x => avFoot s (s.ev x)) s s'
theorem avFoot_ids {a : AV} {id : Nat} (h : id ∈ a.ids) : id ∈ avFoot s a := by
  simp only [AV.ids, List.mem_flatMap, avFoot] at h ⊢
  obtain ⟨x, h1, h2⟩ := h
  exact ⟨x, h1, List.mem_append_left _ h2⟩
theorem AgOps.ids {xs : List Operand} (h : AgOps xs s s') {x : Operand} (hx : x ∈ xs) : Ag (s.ev x).ids s s' := h.2.mono fun id hi => List.mem_flatMap.mpr ⟨x, hx, avFoot_ids hi⟩
theorem AgOps.foot {xs : List Operand} (h : AgOps xs s s') {x : Operand} (hx : x ∈ xs) : Ag (avFoot s (s.ev x)) s s' := h.2.mono fun id hi => List.mem_flatMap.mpr ⟨x, hx, hi⟩
theorem AgOps.sub {xs ys : List Operand} (h : AgOps xs s s') (hs : ∀ y ∈ ys, y ∈ xs) : AgOps ys s s' := ⟨fun y hy => h.1 y (hs y hy), h.2.mono fun id hi => by
  obtain ⟨y, h1, h2⟩ := List.mem_flatMap.mp hi
  exact List.mem_flatMap.mpr ⟨y, hs y h1, h2⟩⟩
theorem one_ids' {x : SV} : (AV.one x).ids = x.ids := by simp [AV.ids, AV.svs, Pk.svs]
theorem pk_ids {p : Pk} : (AV.pk p).ids = p.svs.flatMap SV.ids := rfl
theorem fillK_ag {places : List (Nat × Nat)} {K : List SV → Prop} : ∀ {parts : List (Nat × Operand)} {cs : List SV}, AgOps (parts.map (·.2)) s s' → fillK s' places cs parts K = fillK s places cs parts K
  | [], _, _ => rfl
  | (i, x) :: r, cs, h => by
    have hx := h.1 x (by simp)
    have hi := h.ids (x := x) (by simp)
    simp only [fillK, hx]
    rcases hn : nth places i with _ | ⟨off, n⟩
    · rfl
    · rcases hv : s.ev x with p | ps
      · rw [hv] at hi
        simp only
        rw [okay_ag hi, fillK_ag (h.sub (by simp +contextual))]
      · rfl
theorem avFoot_upd {a : AV} (ws : List (Nat × Option Obj')) : avFoot { s with objs := upd s.objs ws } a = avFoot s a := rfl
theorem agOps_upd {xs : List Operand} (h : AgOps xs s s') (ws : List (Nat × Option Obj')) : AgOps xs { s with objs := upd s.objs ws } { s' with objs := upd s'.objs ws } :=
  ⟨fun x hx => h.1 x hx, ag_upd h.2 ws⟩
theorem fillRowsK_ag {nid w : Nat} : ∀ {parts : List (Nat × Operand)} {s s' : St} {rows : Rows} {K : Rows → List (Nat × Option Obj') → Prop}, AgOps (parts.map (·.2)) s s' → fillRowsK nid w s' rows parts K = fillRowsK nid w s rows parts K
  | [], _, _, _, _, _ => rfl
  | (i, x) :: r, s, s', rows, K, h => by
    have hx := h.1 x (by simp)
    have hi := h.ids (x := x) (by simp)
    simp only [fillRowsK, hx]
    rcases hv : s.ev x with p | ps
    · rw [hv] at hi
      have hi : Ag (p.svs.flatMap SV.ids) s s' := hi
      simp only
      rw [solids_ag hi, cellsK_ag hi]
      congr 3
      congr 1
      funext cs ws
      exact fillRowsK_ag (agOps_upd (h.sub (by simp +contextual)) ws)
    · rfl
theorem varIds_ag : ∀ {xs : List Operand}, (∀ x ∈ xs, s'.ev x = s.ev x) → varIds xs s' = varIds xs s
  | [], _ => rfl
  | x :: r, h => by
    simp only [varIds]
    rw [h x (by simp), varIds_ag (fun y hy => h y (by simp [hy]))]
theorem idxA_ag {e : Nat} {x : SV} {k : Nat} {K : Eff → Prop} (h : Ag x.ids s s') : idxA s' e x k K = idxA s e x k K := by
  cases x with
  | ref id w off len => simp only [idxA, (h id (by simp [SV.ids])).1]
  | rin id i j q off len => simp only [idxA, (h id (by simp [SV.ids])).1]
  | _ => rfl
theorem fldA_ag {off : Nat} {x : SV} {K : Eff → Prop} (h : Ag x.ids s s') : fldA s' off x K = fldA s off x K := by
  cases x with
  | vad id j => simp only [fldA, (h id (by simp [SV.ids])).2]
  | oad id i j => simp only [fldA, (h id (by simp [SV.ids])).1]
  | _ => rfl
theorem nilK_ag {x : SV} {K : Eff → Prop} (h : Ag x.ids s s') : nilK s' x K = nilK s x K := by
  cases x with
  | vad id j => simp only [nilK, (h id (by simp [SV.ids])).2]
  | _ => rfl
theorem pksK_ag : ∀ {xs : List Operand} {K : List Pk → Prop}, (∀ x ∈ xs, s'.ev x = s.ev x) → pksK s' xs K = pksK s xs K
  | [], _, _ => rfl
  | x :: r, K, h => by
    simp only [pksK]
    rw [h x (by simp)]
    cases s.ev x with
    | pk p => simp only; exact pksK_ag (fun y hy => h y (by simp [hy]))
    | tup ps => rfl

/-! #### calls -/
theorem flds_ag {x : SV} {f : Fld} (h : Ag x.ids' s s') : SV.flds s' x f = SV.flds s x f := by
  cases x with
  | ref id w off len => cases f <;> simp only [SV.flds, St.rows, (h id (by simp [SV.ids'])).1]
  | rin id i j q off len => cases f <;> simp only [SV.flds, St.rows, (h id (by simp [SV.ids'])).1]
  | _ => cases f <;> rfl
theorem all2_flds_ag : ∀ {xs : List SV} {fs : List Fld}, Ag (xs.flatMap SV.ids') s s' → All2 (fun x f => SV.flds s' x f) xs fs = All2 (fun x f => SV.flds s x f) xs fs
  | [], [], _ => rfl
  | x :: xs, f :: fs, h => by
    simp only [All2]
    rw [flds_ag (h.mono (by simp +contextual)), all2_flds_ag (h.mono (fun id hi => by simp only [List.flatMap_cons, List.mem_append]; exact .inr hi))]
  | [], _ :: _, _ => rfl
  | _ :: _, [], _ => rfl
theorem fldsOf_ag {id : Nat} {fs : List Fld} (h : Ag (id :: varSVs s id) s s') : fldsOf s' id fs = fldsOf s id fs := by
  simp only [fldsOf, (h id (by simp)).2]
  rcases hv : s.vars id with _ | xs
  · rfl
  · simp only
    exact all2_flds_ag (h.mono fun q hq => by simp [varSVs, hv]; simp at hq; exact .inr hq)
theorem all2_fldsOf_ag : ∀ {ids : List Nat} {caps : List (List Fld)}, Ag (ids ++ ids.flatMap (varSVs s)) s s' → All2 (fun id fs => fldsOf s' id fs) ids caps = All2 (fun id fs => fldsOf s id fs) ids caps
  | [], [], _ => rfl
  | x :: xs, f :: fs, h => by
    simp only [All2]
    rw [fldsOf_ag (h.mono (by simp +contextual)), all2_fldsOf_ag (h.mono (fun id hi => by simp at hi ⊢; rcases hi with hi | hi <;> simp [hi]))]
  | [], _ :: _, _ => rfl
  | _ :: _, [], _ => rfl
theorem pass_ag {x : SV} {l : Leaf} (h : Ag (svFoot s x) s s') : pass s' x l = pass s x l := by
  have h1 : Ag x.ids s s' := h.mono fun id hi => List.mem_append_left _ hi
  cases x with
  | ref id w off len =>
    have e := (h1 id (by simp [SV.ids])).1
    cases l <;> simp only [pass, St.rows, e]
  | rin id i j q off len =>
    have e := (h1 id (by simp [SV.ids])).1
    cases l <;> simp only [pass, St.rows, e]
  | vad id j =>
    have e := (h1 id (by simp [SV.ids])).2
    cases j with
    | succ j => cases l <;> rfl
    | zero => cases l with
      | op fs => simp only [pass, e]
      | ip fs => simp only [pass]; exact fldsOf_ag (h.mono fun q hq => by simpa [svFoot, SV.ids, SV.vids] using hq)
      | _ => rfl
  | fnv f ids => cases l with
    | fn f' caps => simp only [pass]; rw [all2_fldsOf_ag (h.mono fun q hq => by simpa [svFoot, SV.ids, SV.vids] using hq)]
    | _ => rfl
  | ipt fs j => cases j <;> cases l <;> rfl
  | _ => cases l <;> rfl
theorem all2_pass_ag : ∀ {xs : List SV} {ls : List Leaf}, Ag (xs.flatMap (svFoot s)) s s' → All2 (pass s') xs ls = All2 (pass s) xs ls
  | [], [], _ => rfl
  | x :: xs, f :: fs, h => by
    simp only [All2]
    rw [pass_ag (h.mono (by simp +contextual)), all2_pass_ag (h.mono (fun id hi => by simp only [List.flatMap_cons, List.mem_append]; exact .inr hi))]
  | [], _ :: _, _ => rfl
  | _ :: _, [], _ => rfl
theorem passPk_ag {p : Pk} {l : LV} (h : Ag (p.svs.flatMap (svFoot s)) s s') : passPk s' p l = passPk s p l := by
  cases p with
  | one x => cases l with
    | one l => exact pass_ag (h.mono fun id hi => by simpa [Pk.svs] using hi)
    | agg ls => rfl
  | agg xs => cases l with
    | one l => rfl
    | agg ls => exact all2_pass_ag h
theorem all2_passPk_ag : ∀ {ps : List Pk} {ls : List LV}, Ag (ps.flatMap fun p => p.svs.flatMap (svFoot s)) s s' → All2 (passPk s') ps ls = All2 (passPk s) ps ls
  | [], [], _ => rfl
  | x :: xs, f :: fs, h => by
    simp only [All2]
    rw [passPk_ag (h.mono (by simp +contextual)), all2_passPk_ag (h.mono (fun id hi => by simp only [List.flatMap_cons, List.mem_append]; exact .inr hi))]
  | [], _ :: _, _ => rfl
  | _ :: _, [], _ => rfl
theorem varSVs_ag {id : Nat} (h : s'.vars id = s.vars id) : varSVs s' id = varSVs s id := by simp only [varSVs, h]
theorem lends_ag {x : SV} {l : Leaf} (h : Ag (svFoot s x) s s') : lends s' x l = lends s x l := by
  have h1 : Ag x.ids s s' := h.mono fun id hi => List.mem_append_left _ hi
  cases x with
  | vad id j =>
    have e := (h1 id (by simp [SV.ids])).2
    cases l <;> simp only [lends, varSVs_ag e]
  | fnv f ids =>
    cases l with
    | fn f' caps =>
      simp only [lends]
      congr 1
      have : ∀ q ∈ ids, varSVs s' q = varSVs s q := fun q hq => varSVs_ag (h1 q (by simpa [SV.ids] using hq)).2
      clear h h1
      induction ids with
      | nil => rfl
      | cons q ids ih => simp only [List.flatMap_cons]; rw [this q (by simp), ih (fun r hr => this r (by simp [hr]))]
    | _ => rfl
  | _ => cases l <;> rfl
theorem zip_lends_ag : ∀ {xs : List SV} {ls : List Leaf}, Ag (xs.flatMap (svFoot s)) s s' → List.zipWith (lends s') xs ls = List.zipWith (lends s) xs ls
  | [], _, _ => by simp
  | _ :: _, [], _ => by simp
  | x :: xs, l :: ls, h => by
    simp only [List.zipWith_cons_cons]
    rw [lends_ag (h.mono (by simp +contextual)), zip_lends_ag (h.mono (fun id hi => by simp only [List.flatMap_cons, List.mem_append]; exact .inr hi))]
theorem zip_lendsPk_ag : ∀ {ps : List Pk} {ls : List LV}, Ag (ps.flatMap fun p => p.svs.flatMap (svFoot s)) s s' → List.zipWith (lendsPk s') ps ls = List.zipWith (lendsPk s) ps ls
  | [], _, _ => by simp
  | _ :: _, [], _ => by simp
  | p :: ps, l :: ls, h => by
    simp only [List.zipWith_cons_cons]
    rw [zip_lendsPk_ag (h.mono (fun id hi => by simp only [List.flatMap_cons, List.mem_append]; exact .inr hi))]
    congr 1
    have h1 : Ag (p.svs.flatMap (svFoot s)) s s' := h.mono (by simp +contextual)
    cases p with
    | one x => cases l with
      | one l => exact lends_ag (h1.mono fun id hi => by simpa [Pk.svs] using hi)
      | agg ls => rfl
    | agg xs => cases l with
      | one l => rfl
      | agg ls =>
        have h1 : Ag (xs.flatMap (svFoot s)) s s' := h1
        simp only [lendsPk]; rw [zip_lends_ag h1]
theorem updLeafO_ag {x : SV} {l u : Leaf} (h : Ag x.ids s s') : updLeafO nid s' x l u = updLeafO nid s x l u := by
  cases x with
  | rin id i j q off len =>
    have e := (h id (by simp [SV.ids])).1
    cases l <;> cases u <;> simp only [updLeafO, e]
  | _ => cases l <;> cases u <;> rfl
theorem zip3_upd_ag : ∀ {xs : List SV} {ls us : List Leaf}, Ag (xs.flatMap SV.ids) s s' → zip3 (updLeafO nid s') xs ls us = zip3 (updLeafO nid s) xs ls us
  | [], _, _, _ => rfl
  | _ :: _, [], _, _ => rfl
  | _ :: _, _ :: _, [], _ => rfl
  | x :: xs, l :: ls, u :: us, h => by
    simp only [zip3]
    rw [updLeafO_ag (h.mono (by simp +contextual)), zip3_upd_ag (h.mono (fun id hi => by simp only [List.flatMap_cons, List.mem_append]; exact .inr hi))]
theorem zip3_updPk_ag : ∀ {ps : List Pk} {ls us : List LV}, Ag (ps.flatMap fun p => p.svs.flatMap (svFoot s)) s s' → zip3 (updPk (updLeafO nid s')) ps ls us = zip3 (updPk (updLeafO nid s)) ps ls us
  | [], _, _, _ => rfl
  | _ :: _, [], _, _ => rfl
  | _ :: _, _ :: _, [], _ => rfl
  | p :: ps, l :: ls, u :: us, h => by
    simp only [zip3]
    rw [zip3_updPk_ag (h.mono (fun id hi => by simp only [List.flatMap_cons, List.mem_append]; exact .inr hi))]
    congr 1
    have h1 : Ag (p.svs.flatMap SV.ids) s s' := h.mono fun id hi => by
      obtain ⟨x, m1, m2⟩ := List.mem_flatMap.mp hi
      simp only [List.flatMap_cons, List.mem_append, List.mem_flatMap]
      exact .inl ⟨x, m1, List.mem_append_left _ m2⟩
    cases p with
    | one x => cases l <;> cases u <;> first | rfl | exact updLeafO_ag (h1.mono fun id hi => by simpa [Pk.svs] using hi)
    | agg xs => cases l <;> cases u <;> first | rfl | exact zip3_upd_ag h1
theorem callK_ag {g : FuncId} {pks : List Pk} {K : Eff → Prop} (h : Ag (pks.flatMap fun p => p.svs.flatMap (svFoot s)) s s') : callK P s' nid g pks K = callK P s nid g pks K := by
  simp only [callK]
  congr 1; funext args; congr 1; funext res; congr 1; funext upd'
  rw [all2_passPk_ag h, zip_lendsPk_ag h, zip3_updPk_ag h]
end frame
end Go.Proofs.Ytkcbnbbbijlhcai.A
