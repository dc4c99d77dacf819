/- THE ABSTRACT SEMANTICS, orders (second part): an operation comes to one thing, and to the same wherever what it names is the same. Conditions: none. -/
import Derived.Test.YtkcbnbbbijlhcaiA35
namespace Go.Proofs.Ytkcbnbbbijlhcai.A
open Go
set_option linter.unusedSimpArgs false
set_option linter.unusedVariables false

section frame
variable {P : Program} {s s' : St} {nid : Nat}
theorem pksK_congr : ∀ {xs : List Operand} {K K' : List Pk → Prop}, (∀ ps, All2 (fun x p => s.ev x = .pk p) xs ps → K ps = K' ps) → pksK s xs K = pksK s xs K'
  | [], K, K', h => h [] trivial
  | x :: r, K, K', h => by
    simp only [pksK]
    rcases hx : s.ev x with p | ps
    · simp only
      exact pksK_congr fun ps hps => h (p :: ps) ⟨hx, hps⟩
    · rfl
theorem pks_foot : ∀ {xs : List Operand} {ps : List Pk}, All2 (fun x p => s.ev x = .pk p) xs ps → ∀ id, id ∈ (ps.flatMap fun p => p.svs.flatMap (svFoot s)) → id ∈ xs.flatMap fun x => avFoot s (s.ev x)
  | [], [], _, id, h => by simp at h
  | x :: xs, p :: ps, ⟨h1, h2⟩, id, h => by
    simp only [List.flatMap_cons, List.mem_append] at h ⊢
    rcases h with h | h
    · left; rw [h1]; exact h
    · exact .inr (pks_foot h2 id h)
  | [], _ :: _, h, _, _ => h.elim
  | _ :: _, [], h, _, _ => h.elim
theorem vads_foot (ids : List Nat) (id : Nat) (h : id ∈ ((ids.map fun i => Pk.one (.vad i 0)).flatMap fun p => p.svs.flatMap (svFoot s))) : id ∈ svFoot s (.fnv 0 ids) := by
  obtain ⟨p, h1, h2⟩ := List.mem_flatMap.mp h
  obtain ⟨i, h3, rfl⟩ := List.mem_map.mp h1
  simp only [Pk.svs, List.flatMap_cons, List.flatMap_nil, List.append_nil, svFoot, SV.ids, SV.vids, List.mem_append, List.mem_singleton, List.mem_flatMap] at h2 ⊢
  rcases h2 with rfl | h2
  · exact .inl h3
  · exact .inr ⟨i, h3, h2⟩
theorem valFnv_ag {xs : List Operand} {g : FuncId} {ids : List Nat} {K : Eff → Prop} (h : AgOps xs s s') (h2 : Ag (svFoot s (.fnv g ids)) s s') :
    (pksK s' xs fun ps => callK P s' nid g (ps ++ ids.map fun id => .one (.vad id 0)) K) = (pksK s xs fun ps => callK P s nid g (ps ++ ids.map fun id => .one (.vad id 0)) K) := by
  rw [pksK_ag h.1]
  refine pksK_congr fun ps hps => callK_ag fun id hi => ?_
  rw [List.flatMap_append, List.mem_append] at hi
  rcases hi with hi | hi
  · exact h.2 id (pks_foot hps id hi)
  · exact h2 id (vads_foot ids id hi)
theorem valFni_ag {xs : List Operand} {g : FuncId} {caps : List (List Fld)} {K : Eff → Prop} (h : AgOps xs s s') :
    (pksK s' xs fun ps => callK P s' nid g (ps ++ caps.map fun fs => .one (.ipt fs 0)) K) = (pksK s xs fun ps => callK P s nid g (ps ++ caps.map fun fs => .one (.ipt fs 0)) K) := by
  rw [pksK_ag h.1]
  refine pksK_congr fun ps hps => callK_ag fun id hi => ?_
  rw [List.flatMap_append, List.mem_append] at hi
  rcases hi with hi | hi
  · exact h.2 id (pks_foot hps id hi)
  · exfalso
    obtain ⟨p, h1, h2⟩ := List.mem_flatMap.mp hi
    obtain ⟨i, h3, rfl⟩ := List.mem_map.mp h1
    simp [Pk.svs, svFoot, SV.ids, SV.vids] at h2

theorem eff_ag {o : Oper} {K : Eff → Prop} (h : AgOps o.op.operands.toList s s') : effK P s' nid o K = effK P s nid o K := by
  obtain ⟨d, op, ty, pos, af, gd⟩ := o
  have hE : ∀ {x : Operand}, x ∈ op.operands.toList → s'.ev x = s.ev x := fun hx => h.1 _ hx
  have hI : ∀ {x : Operand} {y : SV}, x ∈ op.operands.toList → s.ev x = .one y → Ag y.ids s s' := fun hx e => by
    have := h.ids hx
    rw [e, one_ids'] at this
    exact this
  have hP : ∀ {x : Operand} {p : Pk}, x ∈ op.operands.toList → s.ev x = .pk p → Ag (p.svs.flatMap SV.ids) s s' := fun hx e => by
    have := h.ids hx
    rw [e] at this
    exact this
  unfold effK
  cases op with
  | move x => simp only; rw [hE (by simp [Op.operands])]
  | assign x => simp only; rw [hE (by simp [Op.operands])]
  | pick c x y => simp only; rw [hE (x := c) (by simp [Op.operands]), hE (x := x) (by simp [Op.operands]), hE (x := y) (by simp [Op.operands])]
  | alloc e => rfl
  | box e x =>
    simp only; rw [hE (x := x) (by simp [Op.operands])]
    rcases hx : s.ev x with (y | ys) | ps
    · simp only; rw [solid_ag (hI (x := x) (by simp [Op.operands]) hx)]
    · rfl
    · rfl
  | load t x =>
    simp only; rw [hE (x := x) (by simp [Op.operands])]
    rcases ht : aggOf P t with _ | n
    · rfl
    rcases hx : s.ev x with (y | ys) | ps
    · simp only; rw [loadK_ag (hI (x := x) (by simp [Op.operands]) hx)]
    · rfl
    · rfl
  | store t x y =>
    simp only; rw [hE (x := x) (by simp [Op.operands]), hE (x := y) (by simp [Op.operands])]
    rcases ht : aggOf P t with _ | n
    · rfl
    rcases hx : s.ev x with (a | ys) | ps
    · rcases hy : s.ev y with p | ps
      · simp only; rw [solids_ag (hP (x := y) (by simp [Op.operands]) hy), storeK_ag (hI (x := x) (by simp [Op.operands]) hx) (hP (x := y) (by simp [Op.operands]) hy)]
      · rfl
    · rfl
    · rfl
  | nilCheck x =>
    simp only; rw [hE (x := x) (by simp [Op.operands])]
    rcases hx : s.ev x with (y | ys) | ps
    · simp only; rw [nilK_ag (hI (x := x) (by simp [Op.operands]) hx)]
    · rfl
    · rfl
  | binOp op xT x y yT => simp only; rw [hE (x := x) (by simp [Op.operands]), hE (x := y) (by simp [Op.operands])]
  | unOp op t x => simp only; rw [hE (x := x) (by simp [Op.operands])]
  | convert a b x =>
    have hr : ∀ y, s.ev x = .one y → s'.rows y = s.rows y := fun y hx => rows_ag (hI (x := x) (by simp [Op.operands]) hx)
    simp only; rw [hE (x := x) (by simp [Op.operands])]
    revert hr
    generalize s.ev x = v
    intro hr
    split
    · rfl
    · rfl
    · rw [hr _ rfl]
    · rfl
  | field t x f => simp only; rw [hE (x := x) (by simp [Op.operands])]
  | fieldAddr t x f =>
    simp only; rw [hE (x := x) (by simp [Op.operands])]
    rcases ht : fieldOf P t f with _ | ⟨off, n⟩
    · rfl
    rcases hx : s.ev x with (y | ys) | ps
    · simp only; rw [fldA_ag (hI (x := x) (by simp [Op.operands]) hx)]
    · rfl
    · rfl
  | indexAddr t x i =>
    simp only; rw [hE (x := x) (by simp [Op.operands]), hE (x := i) (by simp [Op.operands])]
    rcases ht : elemOf' P t with _ | ⟨e, b, z⟩
    · rfl
    rcases hx : s.ev x with (y | ys) | ps
    · simp only
      congr 1
      funext k
      rw [idxA_ag (hI (x := x) (by simp [Op.operands]) hx)]
    · rfl
    · rfl
  | index t x i => simp only; rw [hE (x := x) (by simp [Op.operands]), hE (x := i) (by simp [Op.operands])]
  | build t parts =>
    simp only
    rcases hp : placesOf P t with _ | pl
    · rfl
    rcases hz : zeroOf P t with _ | z
    · rfl
    simp only
    exact fillK_ag (by simpa [Op.operands] using h)
  | buildSlice t len parts =>
    simp only
    rcases ht : elemOf' P t with _ | ⟨w, b, z⟩
    · rfl
    simp only
    congr 1
    exact fillRowsK_ag (by simpa [Op.operands] using h)
  | makeSlice t l c => simp only; rw [hE (x := l) (by simp [Op.operands]), hE (x := c) (by simp [Op.operands])]
  | slice t x lo hi mx =>
    cases mx with
    | some m => rfl
    | none =>
      simp only
      have h1 : ∀ y, lo = some y → s'.ev y = s.ev y := fun y hy => hE (by subst hy; simp [Op.operands])
      have h2 : ∀ y, hi = some y → s'.ev y = s.ev y := fun y hy => hE (by subst hy; simp [Op.operands])
      have hc : ∀ y w, s.ev x = .one y → cutK s' w y lo hi K = cutK s w y lo hi K := fun y w hx => cutK_ag (hI (x := x) (by simp [Op.operands]) hx) h1 h2
      rw [hE (x := x) (by simp [Op.operands])]
      revert hc
      generalize s.ev x = v
      intro hc
      split
      · simp only [asNat?_ag h1, asNat?_ag h2]
      · split
        · exact hc _ _ rfl
        · rfl
      · rfl
  | extract x k => simp only; rw [hE (x := x) (by simp [Op.operands])]
  | makeFunc f first captured =>
    cases f <;> try rfl
    simp only
    rw [varIds_ag fun x hx => hE (by simp [Op.operands]; right; simpa using hx)]
  | call c =>
    obtain ⟨callee, ⟨args⟩, ⟨tys⟩⟩ := c
    simp only
    cases callee with
    | invoke r m => rfl
    | value f =>
      have hf : f ∈ (Op.call ⟨.value f, ⟨args⟩, ⟨tys⟩⟩).operands.toList := by simp [Op.operands, Call.operands]
      have ha : AgOps args s s' := h.sub fun y hy => by simp [Op.operands, Call.operands, hy]
      have hft := h.foot hf
      simp only
      rw [hE hf]
      rcases hx : s.ev f with (y | ys) | ps
      · rw [hx] at hft
        have hft : Ag (svFoot s y) s s' := hft.mono fun id hi => by simpa [avFoot, AV.svs, Pk.svs] using hi
        cases y with
        | fnv g ids => exact valFnv_ag ha hft
        | fni g caps => exact valFni_ag ha
        | _ => rfl
      · rfl
      · rfl
    | builtin b =>
      have ha : AgOps args s s' := h.sub fun y hy => by simp [Op.operands, Call.operands, hy]
      cases b <;> try rfl
      case len =>
        match args, ha with
        | [], _ => rfl
        | _ :: _ :: _, _ => rfl
        | [x], ha =>
          simp only
          have hx1 := ha.1 x (by simp)
          have hx2 := ha.ids (x := x) (by simp)
          rw [hx1]
          rcases hx : s.ev x with (y | ys) | ps
          · rw [hx, one_ids'] at hx2
            have hr := rows_ag hx2
            cases y with
            | sc v => cases v <;> rfl
            | _ => first | rfl | simp only [hr]
          · rfl
          · rfl
      case append =>
        match args, tys, ha with
        | [], _, _ => rfl
        | [_], _, _ => rfl
        | [_, _], [], _ => rfl
        | [_, _], [_], _ => rfl
        | [_, _], _ :: _ :: _ :: _, _ => rfl
        | _ :: _ :: _ :: _, _, _ => rfl
        | [x, y], [t, t2], ha =>
          simp only
          rw [ha.1 x (by simp), ha.1 y (by simp)]
          rcases ht : elemOf' P t with _ | ⟨w, b, z⟩
          · rfl
          · simp only; rw [appK_ag (ha.ids (x := x) (by simp)) (ha.ids (x := y) (by simp))]
      case max =>
        match args, ha with
        | [], _ => rfl
        | [_], _ => rfl
        | _ :: _ :: _ :: _, _ => rfl
        | [x, y], ha => simp only; rw [ha.1 x (by simp), ha.1 y (by simp)]
      case min =>
        match args, ha with
        | [], _ => rfl
        | [_], _ => rfl
        | _ :: _ :: _ :: _, _ => rfl
        | [x, y], ha => simp only; rw [ha.1 x (by simp), ha.1 y (by simp)]
  | _ => rfl
end frame

/-! #### one thing alone -/
def Lin {α : Type} (f : (α → Prop) → Prop) : Prop := ∀ K, f K → ∃ e, K e ∧ ∀ K' : α → Prop, K' e → f K'
def Lin2 {α β : Type} (f : (α → β → Prop) → Prop) : Prop := ∀ K, f K → ∃ a b, K a b ∧ ∀ K' : α → β → Prop, K' a b → f K'
section lin
variable {P : Program} {s : St} {nid : Nat}
theorem Lin.bind {α β : Type} {f : (α → Prop) → Prop} {g : α → (β → Prop) → Prop} (hf : Lin f) (hg : ∀ a, Lin (g a)) : Lin fun K => f fun a => g a K := by
  intro K h
  obtain ⟨a, h1, h2⟩ := hf _ h
  obtain ⟨b, h3, h4⟩ := hg a _ h1
  exact ⟨b, h3, fun K' hk => h2 _ (h4 K' hk)⟩
theorem Lin.ret {α : Type} {e : α} : Lin fun K => K e := fun K h => ⟨e, h, fun K' hk => hk⟩
theorem Lin.fls {α : Type} : Lin fun _ : α → Prop => False := fun K h => h.elim
theorem Lin.and {α : Type} {p : Prop} {f : (α → Prop) → Prop} (hf : Lin f) : Lin fun K => p ∧ f K := fun K h => by
  obtain ⟨e, h1, h2⟩ := hf K h.2
  exact ⟨e, h1, fun K' hk => ⟨h.1, h2 K' hk⟩⟩
theorem Lin.ite {α : Type} {p : Prop} [Decidable p] {f g : (α → Prop) → Prop} (hf : Lin f) (hg : Lin g) : Lin fun K => if p then f K else g K := fun K h => by
  by_cases hp : p
  · simp only [if_pos hp] at h ⊢; exact hf K h
  · simp only [if_neg hp] at h ⊢; exact hg K h
theorem Lin.ex {α β : Type} {f : β → (α → Prop) → Prop} (hf : ∀ b, Lin (f b)) : Lin fun K => ∃ b, f b K := fun K ⟨b, h⟩ => by
  obtain ⟨e, h1, h2⟩ := hf b K h
  exact ⟨e, h1, fun K' hk => ⟨b, h2 K' hk⟩⟩
theorem Lin.and' {α : Type} {p : Prop} {f : (α → Prop) → Prop} (hf : Lin f) : Lin fun K => p ∧ f K := hf.and
theorem Lin.map {α β : Type} {f : (α → Prop) → Prop} (hf : Lin f) (g : α → β) : Lin fun K => f fun a => K (g a) := hf.bind fun _ => Lin.ret
theorem Lin2.bind {α β γ : Type} {f : (α → β → Prop) → Prop} {g : α → β → (γ → Prop) → Prop} (hf : Lin2 f) (hg : ∀ a b, Lin (g a b)) : Lin fun K => f fun a b => g a b K := by
  intro K h
  obtain ⟨a, b, h1, h2⟩ := hf _ h
  obtain ⟨c, h3, h4⟩ := hg a b _ h1
  exact ⟨c, h3, fun K' hk => h2 _ (h4 K' hk)⟩
theorem Lin2.bind2 {α β γ δ : Type} {f : (α → β → Prop) → Prop} {g : α → β → (γ → δ → Prop) → Prop} (hf : Lin2 f) (hg : ∀ a b, Lin2 (g a b)) : Lin2 fun K => f fun a b => g a b K := by
  intro K h
  obtain ⟨a, b, h1, h2⟩ := hf _ h
  obtain ⟨c, d, h3, h4⟩ := hg a b _ h1
  exact ⟨c, d, h3, fun K' hk => h2 _ (h4 K' hk)⟩
theorem Lin2.ret {α β : Type} {a : α} {b : β} : Lin2 fun K => K a b := fun K h => ⟨a, b, h, fun K' hk => hk⟩
theorem Lin2.fls {α β : Type} : Lin2 fun _ : α → β → Prop => False := fun K h => h.elim
theorem Lin2.and {α β : Type} {p : Prop} {f : (α → β → Prop) → Prop} (hf : Lin2 f) : Lin2 fun K => p ∧ f K := fun K h => by
  obtain ⟨a, b, h1, h2⟩ := hf K h.2
  exact ⟨a, b, h1, fun K' hk => ⟨h.1, h2 K' hk⟩⟩
theorem Lin2.ite {α β : Type} {p : Prop} [Decidable p] {f g : (α → β → Prop) → Prop} (hf : Lin2 f) (hg : Lin2 g) : Lin2 fun K => if p then f K else g K := fun K h => by
  by_cases hp : p
  · simp only [if_pos hp] at h ⊢; exact hf K h
  · simp only [if_neg hp] at h ⊢; exact hg K h
theorem Lin2.ex {α β γ : Type} {f : γ → (α → β → Prop) → Prop} (hf : ∀ b, Lin2 (f b)) : Lin2 fun K => ∃ b, f b K := fun K ⟨c, h⟩ => by
  obtain ⟨a, b, h1, h2⟩ := hf c K h
  exact ⟨a, b, h1, fun K' hk => ⟨c, h2 K' hk⟩⟩

theorem Lin.congr {α : Type} {f g : (α → Prop) → Prop} (h : ∀ K, f K = g K) (hg : Lin g) : Lin f := by
  have : f = g := funext h
  rw [this]; exact hg
theorem Lin2.congr {α β : Type} {f g : (α → β → Prop) → Prop} (h : ∀ K, f K = g K) (hg : Lin2 g) : Lin2 f := by
  have : f = g := funext h
  rw [this]; exact hg
theorem lin_asNat (a : AV) : Lin (asNat a) := by
  intro K h
  obtain ⟨ik, n, rfl, h0, hk⟩ := asNat_eq h
  exact ⟨_, hk, fun K' h' => ⟨h0, h'⟩⟩
theorem lin_asNat? (x : Option Operand) (d : Nat) : Lin (asNat? s x d) := by
  cases x with
  | none => exact Lin.ret
  | some x => exact lin_asNat _
theorem lin_load (x : SV) (n : Option Nat) : Lin (loadK s x n) := by
  cases x with
  | vad id j =>
    rcases hv : s.vars id with _ | fs
    · exact Lin.congr (fun K => by simp only [loadK, hv]; try rfl) Lin.fls
    · cases n with
      | none => exact Lin.congr (fun K => by simp only [loadK, hv]; try rfl) Lin.ret.and
      | some n => exact Lin.congr (fun K => by simp only [loadK, hv]; try rfl) Lin.ret.and
  | oad id i j =>
    rcases hv : s.objs id with _ | ⟨w, rows⟩
    · exact Lin.congr (fun K => by simp only [loadK, hv]; try rfl) Lin.fls
    · cases n with
      | none => exact Lin.congr (fun K => by simp only [loadK, hv]; try rfl) Lin.ret.and.and
      | some n => exact Lin.congr (fun K => by simp only [loadK, hv]; try rfl) Lin.ret.and.and
  | oin id i j q k =>
    rcases hv : s.objs id with _ | ⟨w, rows⟩
    · exact Lin.congr (fun K => by simp only [loadK, hv]; try rfl) Lin.fls
    · rcases hc : Rows.cell rows i j with _ | ⟨q', xs⟩ | _
      · exact Lin.congr (fun K => by simp only [loadK, hv, hc]; try rfl) Lin.fls
      · exact Lin.congr (fun K => by simp only [loadK, hv, hc]; try rfl) Lin.ret.and.and.and
      · exact Lin.congr (fun K => by simp only [loadK, hv, hc]; try rfl) Lin.fls
  | iad row j => cases n with
    | none => exact Lin.ret.and
    | some n => exact Lin.ret.and
  | ipt fs j => cases n with
    | none => exact Lin.ret.and
    | some n => exact Lin.ret.and
  | _ => exact Lin.fls
theorem lin_cell (n : Nat) (x : SV) : Lin2 (cellK s n x) := by
  cases x with
  | sc v => exact Lin2.ite Lin2.ret Lin2.ret
  | im w rows => exact Lin2.ex fun xs => Lin2.ret.and.and
  | ref id w off len =>
    rcases hv : s.objs id with _ | ⟨w', rows⟩
    · exact Lin2.congr (fun K => by simp only [cellK, hv]; try rfl) Lin2.fls
    · exact Lin2.congr (fun K => by simp only [cellK, hv]; try rfl) (Lin2.ex fun xs => Lin2.ret.and.and.and.and)
  | rin id i j q off len =>
    rcases hv : s.objs id with _ | ⟨w', rows⟩
    · exact Lin2.congr (fun K => by simp only [cellK, hv]; try rfl) Lin2.fls
    · rcases hc : Rows.cell rows i j with _ | ⟨q', xs⟩ | _
      · exact Lin2.congr (fun K => by simp only [cellK, hv, hc]; try rfl) Lin2.fls
      · exact Lin2.congr (fun K => by simp only [cellK, hv, hc]; try rfl) Lin2.ret.and.and.and
      · exact Lin2.congr (fun K => by simp only [cellK, hv, hc]; try rfl) Lin2.fls
  | _ => exact Lin2.fls
theorem lin_cells (n : Nat) : ∀ (xs : List SV) (s : St), Lin2 (cellsK n s xs)
  | [], s => Lin2.ret
  | x :: r, s => (lin_cell n x).bind2 fun c ws => (lin_cells n r _).bind2 fun cs ws' => Lin2.ret
theorem lin_store (a : SV) (n : Nat) (xs : List SV) : Lin (storeK s nid a n xs) := by
  refine Lin.and ?_
  cases a with
  | vad id j =>
    rcases hv : s.vars id with _ | fs
    · exact Lin.congr (fun K => by simp only [hv]; try rfl) Lin.fls
    · exact Lin.congr (fun K => by simp only [hv]; try rfl) Lin.ret.and
  | oad id i j =>
    refine (lin_cells nid xs s).bind fun cs ws => ?_
    rcases hv : upd s.objs ws id with _ | ⟨w, rows⟩
    · exact Lin.fls
    · exact Lin.ret.and.and
  | oin id i j q k =>
    rcases hv : s.objs id with _ | ⟨w, rows⟩
    · exact Lin.congr (fun K => by simp only [hv]; try rfl) Lin.fls
    · rcases hc : Rows.cell rows i j with _ | ⟨q', ys⟩ | _
      · exact Lin.congr (fun K => by simp only [hv, hc]; try rfl) Lin.fls
      · refine Lin.congr (fun K => by simp only [hv, hc]; try rfl) (Lin.and (Lin.and (Lin.and ?_)))
        rcases xs with _ | ⟨x, _ | ⟨y, xs⟩⟩
        · exact Lin.fls
        · cases x <;> first | exact Lin.ret.and | exact Lin.fls
        · cases x <;> exact Lin.fls
      · exact Lin.congr (fun K => by simp only [hv, hc]; try rfl) Lin.fls
  | _ => exact Lin.fls
theorem lin_cut (w : Nat) (x : SV) (lo hi : Option Operand) : Lin (cutK s w x lo hi) := by
  cases x <;> first
    | exact Lin.fls
    | exact Lin.and ((lin_asNat? _ _).bind fun _ => (lin_asNat? _ _).bind fun _ => Lin.ret.and.and)
    | exact (lin_asNat? _ _).bind fun _ => (lin_asNat? _ _).bind fun _ => Lin.ret.and.and.and
    | exact Lin.and ((lin_asNat? _ _).bind fun _ => (lin_asNat? _ _).bind fun _ => Lin.ret.and.and.and)
theorem lin_src (w : Nat) (x : AV) : Lin2 (srcK s w x) := by
  cases x with
  | tup ps => exact Lin2.fls
  | pk p => cases p with
    | agg xs => exact Lin2.fls
    | one x =>
      cases x with
      | sc v => cases v <;> exact Lin2.ret.and
      | im w' rows => exact Lin2.ret.and.and
      | ref id w' off len =>
        rcases hv : s.objs id with _ | ⟨w2, rows⟩
        · exact Lin2.congr (fun K => by simp only [srcK, hv]; try rfl) Lin2.fls
        · exact Lin2.congr (fun K => by simp only [srcK, hv]; try rfl) (Lin2.and (Lin2.ite Lin2.ret Lin2.ret.and.and))
      | rin id i j q off len =>
        rcases hv : s.rows (.rin id i j q off len) with _ | ⟨w2, rows⟩
        · exact Lin2.congr (fun K => by simp only [srcK, hv]; try rfl) Lin2.fls
        · exact Lin2.congr (fun K => by simp only [srcK, hv]; try rfl) Lin2.ret.and
      | _ => exact Lin2.fls
theorem lin_app (w bytes : Nat) (a x : AV) : Lin (appK s nid w bytes a x) := by
  unfold appK
  refine (lin_src w x).bind fun more ws => ?_
  cases a with
  | tup ps => exact Lin.fls
  | pk p => cases p with
    | agg xs => exact Lin.fls
    | one y =>
      cases y with
      | sc v => exact Lin.ret.and.and
      | ref id w' off len =>
        rcases hv : upd s.objs ws id with _ | ⟨w2, rows⟩
        · exact Lin.congr (fun K => by simp only [hv]; try rfl) Lin.fls
        · exact Lin.congr (fun K => by simp only [hv]; try rfl) Lin.ret.and.and.and.and
      | rin id i j q off len =>
        rcases hv : upd s.objs ws id with _ | ⟨w2, rows⟩
        · exact Lin.congr (fun K => by simp only [hv]; try rfl) Lin.fls
        · rcases hc : Rows.cell rows i j with _ | ⟨q', ys⟩ | _
          · exact Lin.congr (fun K => by simp only [hv, hc]; try rfl) Lin.fls
          · exact Lin.congr (fun K => by simp only [hv, hc]; try rfl) Lin.ret.and.and.and.and.and
          · exact Lin.congr (fun K => by simp only [hv, hc]; try rfl) Lin.fls
      | _ => exact Lin.fls
theorem lin_fill (places : List (Nat × Nat)) : ∀ (parts : List (Nat × Operand)) (cs : List SV), Lin (fillK s places cs parts)
  | [], cs => Lin.ret
  | (i, x) :: r, cs => by
    rcases hn : nth places i with _ | ⟨off, n⟩
    · exact Lin.congr (fun K => by simp only [fillK, hn]; try rfl) Lin.fls
    · rcases hx : s.ev x with p | ps
      · exact Lin.congr (fun K => by simp only [fillK, hn, hx]; try rfl) (lin_fill places r _).and.and.and
      · exact Lin.congr (fun K => by simp only [fillK, hn, hx]; try rfl) Lin.fls
theorem lin_fillRows (nid w : Nat) : ∀ (parts : List (Nat × Operand)) (s : St) (rows : Rows), Lin2 (fillRowsK nid w s rows parts)
  | [], s, rows => Lin2.ret
  | (i, x) :: r, s, rows => by
    rcases hx : s.ev x with p | ps
    · exact Lin2.congr (fun K => by simp only [fillRowsK, hx]; try rfl) <| Lin2.and (Lin2.and (Lin2.and ((lin_cells nid p.svs s).bind2 fun cs ws => (lin_fillRows nid w r _ _).bind2 fun rows' ws' => Lin2.ret)))
    · exact Lin2.congr (fun K => by simp only [fillRowsK, hx]; try rfl) Lin2.fls
theorem lin_idx (e : Nat) (x : SV) (k : Nat) : Lin (idxA s e x k) := by
  cases x with
  | im w rows => exact Lin.ret.and.and
  | ref id w off len => exact Lin.ret.and.and.and
  | rin id i j q off len =>
    rcases hv : s.objs id with _ | ⟨w, rows⟩
    · exact Lin.congr (fun K => by simp only [idxA, hv]; try rfl) Lin.fls
    · rcases hc : Rows.cell rows i j with _ | ⟨q', xs⟩ | _
      · exact Lin.congr (fun K => by simp only [idxA, hv, hc]; try rfl) Lin.fls
      · exact Lin.congr (fun K => by simp only [idxA, hv, hc]; try rfl) Lin.ret.and.and.and
      · exact Lin.congr (fun K => by simp only [idxA, hv, hc]; try rfl) Lin.fls
  | _ => exact Lin.fls
theorem lin_fld (off : Nat) (x : SV) : Lin (fldA s off x) := by
  cases x with
  | vad id j => exact Lin.ret.and
  | oad id i j =>
    rcases hv : s.objs id with _ | ⟨w, rows⟩
    · exact Lin.congr (fun K => by simp only [fldA, hv]; try rfl) Lin.fls
    · exact Lin.congr (fun K => by simp only [fldA, hv]; try rfl) Lin.ret.and
  | iad row j => exact Lin.ret
  | ipt fs j => exact Lin.ret
  | _ => exact Lin.fls
theorem lin_nil (x : SV) : Lin (nilK s x) := by
  cases x with
  | vad id j => exact Lin.ret.and
  | iad row j => exact Lin.ret
  | ipt fs j => exact Lin.ret
  | _ => exact Lin.fls
theorem lin_pks : ∀ (xs : List Operand), Lin (pksK s xs)
  | [] => Lin.ret
  | x :: r => by
    rcases hx : s.ev x with p | ps
    · exact Lin.congr (fun K => by simp only [pksK, hx]; try rfl) ((lin_pks r).map _)
    · exact Lin.congr (fun K => by simp only [pksK, hx]; try rfl) Lin.fls
theorem lin_call (g : FuncId) (pks : List Pk) : Lin (callK P s nid g pks) :=
  Lin.ex fun args => Lin.ex fun res => Lin.ex fun upd' => Lin.ret.and.and.and.and.and
theorem lin_int (k : IntKind) (a b : Int) (op : BinOp) : Lin fun K => intK k a b K op := by
  cases op <;> simp only [intK] <;> first | exact Lin.ret | exact Lin.ret.and | exact Lin.fls
theorem lin_bin (xT : TypeId) (op : BinOp) (x y : Value) : Lin (binK P xT op x y) := by
  unfold binK
  cases x <;> try exact Lin.fls
  case int k a =>
    cases y <;> try exact Lin.fls
    case int k' b =>
      simp only
      refine Lin.ite ?_ ?_
      · cases op <;> simp only [shiftK] <;> first | exact Lin.ret.and | exact Lin.fls
      · exact Lin.and (lin_int k a b op)
  case string a =>
    cases y <;> try exact Lin.fls
    case string b => cases op <;> simp only [strK] <;> first | exact Lin.ret | exact Lin.ret.and | exact Lin.fls
  case bool a =>
    cases y <;> try exact Lin.fls
    case bool b => cases op <;> simp only [boolK] <;> first | exact Lin.ret.and | exact Lin.fls
theorem lin_un (op : UnOp) (x : Value) : Lin (unK op x) := by
  unfold unK
  cases op <;> cases x <;> simp only <;> first | exact Lin.ret | exact Lin.fls

theorem lin_eff (o : Oper) : Lin (effK P s nid o) := by
  obtain ⟨d, op, ty, pos, af, gd⟩ := o
  unfold effK
  cases op with
  | move x => exact Lin.ret
  | assign x => exact Lin.ret
  | pick c x y =>
    simp only
    rcases s.ev c with (v | ys) | ps
    · cases v <;> try exact Lin.fls
      case sc v => cases v <;> first | exact Lin.ret | exact Lin.fls
    · exact Lin.fls
    · exact Lin.fls
  | alloc e =>
    simp only
    cases zeroOf P e with
    | none => exact Lin.fls
    | some z => exact Lin.ret
  | box e x =>
    simp only
    rcases s.ev x with (y | ys) | ps
    · exact Lin.ret.and
    · exact Lin.ret
    · exact Lin.fls
  | load t x =>
    simp only
    rcases aggOf P t with _ | n
    · exact Lin.fls
    rcases s.ev x with (y | ys) | ps
    · exact (lin_load y n).map _
    · exact Lin.fls
    · exact Lin.fls
  | store t x y =>
    simp only
    rcases aggOf P t with _ | n
    · exact Lin.fls
    rcases s.ev x with (a | ys) | ps
    · rcases s.ev y with p | ps
      · exact (lin_store a _ _).and
      · exact Lin.fls
    · exact Lin.fls
    · exact Lin.fls
  | nilCheck x =>
    simp only
    rcases s.ev x with (y | ys) | ps
    · exact lin_nil y
    · exact Lin.fls
    · exact Lin.fls
  | binOp op xT x y yT =>
    simp only
    rcases s.ev x with (a | ys) | ps
    · cases a <;> try exact Lin.fls
      case sc a =>
        rcases s.ev y with (b | ys) | ps
        · cases b <;> try exact Lin.fls
          case sc b => exact (lin_bin xT op a b).map _
        · exact Lin.fls
        · exact Lin.fls
    · exact Lin.fls
    · exact Lin.fls
  | unOp op t x =>
    simp only
    rcases s.ev x with (a | ys) | ps
    · cases a <;> try exact Lin.fls
      case sc a => exact (lin_un op a).map _
    · exact Lin.fls
    · exact Lin.fls
  | convert a b x =>
    intro K h
    simp only at h ⊢
    split at h
    · rename_i h1 h2 h3; exact ⟨_, h, fun K' hk => hk⟩
    · rename_i h1 h2 h3; exact ⟨_, h, fun K' hk => hk⟩
    · rename_i h1 h2 h3
      obtain ⟨g1, g2⟩ := h
      split at g2
      · rename_i w rows hr
        obtain ⟨bs, g3, g4, g5⟩ := g2
        exact ⟨_, g5, fun K' hk => ⟨g1, bs, g3, g4, hk⟩⟩
      · exact g2.elim
    · exact h.elim
  | field t x f =>
    simp only
    rcases fieldOf P t f with _ | ⟨off, n⟩
    · exact Lin.fls
    cases n with
    | none =>
      rcases s.ev x with (y | ys) | ps
      · exact Lin.fls
      · exact Lin.ret.and
      · exact Lin.fls
    | some n =>
      rcases s.ev x with (y | ys) | ps
      · exact Lin.fls
      · exact Lin.ret.and
      · exact Lin.fls
  | fieldAddr t x f =>
    simp only
    rcases fieldOf P t f with _ | ⟨off, n⟩
    · exact Lin.fls
    rcases s.ev x with (y | ys) | ps
    · exact lin_fld off y
    · exact Lin.fls
    · exact Lin.fls
  | indexAddr t x i =>
    simp only
    rcases elemOf' P t with _ | ⟨e, b, z⟩
    · exact Lin.fls
    rcases s.ev x with (y | ys) | ps
    · exact (lin_asNat _).bind fun k => lin_idx e y k
    · exact Lin.fls
    · exact Lin.fls
  | index t x i =>
    intro K h
    simp only at h ⊢
    split at h
    · rename_i h1 h2
      exact (lin_asNat (s.ev i)).bind (fun k => Lin.ret.and) K h
    · rename_i h1 h2
      exact (((lin_asNat (s.ev i)).bind (fun k => Lin.ret.and)).and.and) K h
    · exact h.elim
  | build t parts =>
    simp only
    rcases placesOf P t with _ | pl
    · exact Lin.fls
    rcases zeroOf P t with _ | z
    · exact Lin.fls
    exact (lin_fill _ _ _).map _
  | buildSlice t len parts =>
    simp only
    rcases elemOf' P t with _ | ⟨w, b, z⟩
    · exact Lin.fls
    exact Lin.and ((lin_fillRows _ _ _ _ _).bind fun rows ws => Lin.ret)
  | makeSlice t l c =>
    simp only
    rcases elemOf' P t with _ | ⟨w, b, z⟩
    · exact Lin.fls
    exact (lin_asNat _).bind fun n => (lin_asNat _).bind fun m => Lin.ret.and.and
  | slice t x lo hi mx =>
    cases mx with
    | some m => exact Lin.fls
    | none =>
      intro K h
      simp only at h ⊢
      split at h
      · rename_i h1 h2
        exact ((lin_asNat? lo _).bind fun l => (lin_asNat? hi _).bind fun hh => Lin.ret.and.and) K h
      · rename_i h1 h2
        split at h
        · rename_i h3
          exact lin_cut _ _ _ _ K h
        · exact h.elim
      · exact h.elim
  | extract x k =>
    simp only
    rcases s.ev x with p | ps
    · exact Lin.fls
    · simp only
      rcases ps[k]? with _ | p
      · exact Lin.fls
      · exact Lin.ret
  | makeFunc f first captured =>
    cases f <;> try exact Lin.fls
    simp only
    refine Lin.and ?_
    rcases varIds captured.toList s with _ | ids
    · exact Lin.fls
    · exact Lin.ret
  | call c =>
    obtain ⟨callee, ⟨args⟩, ⟨tys⟩⟩ := c
    simp only
    cases callee with
    | invoke r m => exact Lin.fls
    | value f =>
      simp only
      rcases s.ev f with (y | ys) | ps
      · cases y with
        | fnv g ids => exact (lin_pks args).bind fun ps => lin_call _ _
        | fni g caps => exact (lin_pks args).bind fun ps => lin_call _ _
        | _ => exact Lin.fls
      · exact Lin.fls
      · exact Lin.fls
    | builtin b =>
      cases b <;> try exact Lin.fls
      case len =>
        match args with
        | [] => exact Lin.fls
        | _ :: _ :: _ => exact Lin.fls
        | [x] =>
          simp only
          rcases s.ev x with (y | ys) | ps
          · cases y with
            | sc v => cases v <;> first | exact Lin.ret.and | exact Lin.ret.and.and
            | _ =>
              refine Lin.and ?_
              split
              · exact Lin.ret
              · exact Lin.fls
          · exact Lin.fls
          · exact Lin.fls
      case append =>
        match args, tys with
        | [], _ => exact Lin.fls
        | [_], _ => exact Lin.fls
        | [_, _], [] => exact Lin.fls
        | [_, _], [_] => exact Lin.fls
        | [_, _], _ :: _ :: _ :: _ => exact Lin.fls
        | _ :: _ :: _ :: _, _ => exact Lin.fls
        | [x, y], [t, t2] =>
          simp only
          rcases elemOf' P t with _ | ⟨w, b, z⟩
          · exact Lin.fls
          · exact (lin_app _ _ _ _).and
      case max =>
        match args with
        | [] => exact Lin.fls
        | [_] => exact Lin.fls
        | _ :: _ :: _ :: _ => exact Lin.fls
        | [x, y] =>
          intro K h
          simp only at h ⊢
          split at h
          · rename_i h1 h2; exact ⟨_, h, fun K' hk => hk⟩
          · exact h.elim
      case min =>
        match args with
        | [] => exact Lin.fls
        | [_] => exact Lin.fls
        | _ :: _ :: _ :: _ => exact Lin.fls
        | [x, y] =>
          intro K h
          simp only at h ⊢
          split at h
          · rename_i h1 h2; exact ⟨_, h, fun K' hk => hk⟩
          · exact h.elim
  | _ => exact Lin.fls
end lin
end Go.Proofs.Ytkcbnbbbijlhcai.A
