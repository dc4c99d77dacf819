/- SLICES BESIDE THE STATE: inner slices that two places name; their headers lie in cells as plain values. Conditions: none. -/
import Derived.Test.YtedciihjgbkjgacGreatDoorA44
namespace Go.Proofs.YtedciihjgbkjgacGreatDoor.A
open Go
set_option linter.unusedSimpArgs false
set_option linter.unusedVariables false

/-- A slice beside the state: its block is far, and what is far at the frame's entry does not meet it. -/
def Aloof (cx : Cx) (W : World) (lab : Nat → Lab) (h : Value) (xs : List Value) : Prop :=
  ∃ (b cap : Nat) (c : Array Value) (t : TypeId), h = .slice (some ⟨b, 0, none⟩) xs.length cap ∧ xs.length ≤ cap ∧ lab b = .far ∧ (b < cx.W0.heap.size → cx.lab0 b ≠ .imm ∧ cx.lab0 b ≠ .far) ∧
    W.heap[b]? = some (.cells c t (0, 0)) ∧ c.size = cap ∧ ∀ (k : Nat) (x : Value), xs[k]? = some x → x.oneCell' = true ∧ c[k]? = some x
def blkOf : Value → Nat
  | .slice (some a) _ _ => a.block
  | _ => 0
abbrev Side := List (Value × List Value)
def SideOk (cx : Cx) (W : World) (lab : Nat → Lab) (s : Side) : Prop := (∀ p ∈ s, Aloof cx W lab p.1 p.2) ∧ (s.map fun p => blkOf p.1).Nodup
def JInv (cx : Cx) (st : St) (s : Side) (a : Act) (W : World) : Prop := ∃ sh, InvS cx st sh a W (fun id => st.next ≤ id) ∧ SideOk cx W sh.lab s
def Jwp (P : Program) (n : Nat) (c : Code) (R : Exit → St → Side → Prop) (st : St) (s : Side) : Prop :=
  ∀ (cx : Cx) (a : Act) (W : World) (Q : Exit → Act → World → Prop), cx.n = n → (∀ q ∈ cx.pins, q.1 < 960) → JInv cx st s a W →
    (∀ e st' s' a' W', R e st' s' → JInv cx st' s' a' W' → Q e a' W') → c.wp P Q a W
def jgo (next : St → Side → Prop) (R : Exit → St → Side → Prop) : Exit → St → Side → Prop
  | .normal, st, s => next st s
  | e, st, s => R e st s
def jblk (id : Nat) (R : Exit → St → Side → Prop) : Exit → St → Side → Prop
  | .exit id', st, s => if id' = id then R .normal st s else R (.exit id') st s
  | e, st, s => R e st s

theorem ext_trans {W0 W W' : World} {l0 l l' : Nat → Lab} (h1 : Ext W0 l0 W l) (h2 : Ext W l W' l') : Ext W0 l0 W' l' := by
  refine ⟨by rw [h2.os, h1.os], by rw [h2.tape, h1.tape], by rw [h2.output, h1.output], Nat.le_trans h1.size h2.size, fun b hb hl => ?_, h2.dead⟩
  obtain ⟨g1, g2⟩ := h1.same b hb hl
  obtain ⟨g3, g4⟩ := h2.same b (Nat.lt_of_lt_of_le hb h1.size) (by rw [g1]; exact hl)
  exact ⟨by rw [g3, g1], by rw [g4, g2]⟩
def asideL (tid : Nat) : Lab → Lab
  | .own k => if k = tid then .far else .own k
  | L => L
section j
variable {P : Program} {cx : Cx} {st st' : St} {sh sh' : Sh} {a a' : Act} {W W' : World} {Fr Fr' : Nat → Prop} {s : Side} {n : Nat} {R : Exit → St → Side → Prop}
theorem InvS.rebase (h : InvS cx st sh a W Fr) : InvS ⟨W, sh.lab, cx.n, cx.pins⟩ st sh a W Fr :=
  ⟨h.defers, h.size, ⟨rfl, rfl, rfl, Nat.le_refl _, fun _ _ _ => ⟨rfl, rfl⟩, h.ext.dead⟩, h.slots, h.vars, h.objs, h.fresh, h.low, h.stamps, h.pinO, h.pinV⟩
theorem InvS.unbase {lab : Nat → Lab} (e : Ext cx.W0 cx.lab0 W lab) (h : InvS ⟨W, lab, cx.n, cx.pins⟩ st' sh' a' W' Fr) : InvS cx st' sh' a' W' Fr :=
  ⟨h.defers, h.size, ext_trans e h.ext, h.slots, h.vars, h.objs, h.fresh, h.low, h.stamps, h.pinO, h.pinV⟩
theorem sideOk_ext {lab lab' : Nat → Lab} (h : SideOk cx W lab s) (e : Ext W lab W' lab') : SideOk cx W' lab' s := by
  refine ⟨fun p hp => ?_, h.2⟩
  obtain ⟨b, cap, c, t, h1, h2, h3, h4, h5, h6, h7⟩ := h.1 p hp
  have hb : b < W.heap.size := (Array.getElem?_eq_some_iff.mp h5).1
  obtain ⟨g1, g2⟩ := e.same b hb (.inr h3)
  exact ⟨b, cap, c, t, h1, h2, by rw [g1, h3], h4, by rw [g2, h5], h6, h7⟩
theorem jwp_bwp {c : Code} (h : Bwp P n c (fun e st' => R e st' s) st) : Jwp P n c R st s := by
  rintro cx a W Q hn hp ⟨sh, hi, hs⟩ hQ
  refine h ⟨W, sh.lab, cx.n, cx.pins⟩ a W Q hn hp ⟨sh, hi.rebase⟩ ?_
  rintro e st' a' W' hR ⟨sh', hi'⟩
  exact hQ e st' s a' W' hR ⟨sh', hi'.unbase hi.ext, sideOk_ext hs hi'.ext⟩
theorem jgo_go {N : St → Side → Prop} : (fun e st' => jgo N R e st' s) = Exit.go (fun st' => N st' s) (fun e st' => R e st' s) := by
  funext e st'
  cases e <;> rfl
theorem jwp_awp (hm : P.follows .mixedOrders = true) {c : Code} (hok : okCode n c = true) (h : Awp P c (fun e st' => R e st' s) st) : Jwp P n c R st s := jwp_bwp (bwp_awp hm hok h)
theorem jwp_seqJ {x y : Code} (h : Jwp P n x (jgo (Jwp P n y R) R) st s) : Jwp P n (.seq x y) R st s := by
  intro cx a W Q hn hp hi hQ
  refine wp_seq (h cx a W _ hn hp hi fun e st' s' a' W' hR hi' => ?_)
  cases e with
  | normal => exact hR cx a' W' Q hn hp hi' hQ
  | _ => exact hQ _ _ _ _ _ hR hi'
theorem jwp_seq (hm : P.follows .mixedOrders = true) {x y : Code} (hok : okCode n x = true) (h : Awp P x (Exit.go (fun st' => Jwp P n y R st' s) (fun e st' => R e st' s)) st) : Jwp P n (.seq x y) R st s :=
  jwp_seqJ (jwp_bwp (by rw [jgo_go]; exact bwp_awp hm hok h))
theorem jwp_condK {c : Operand} {x y : Code} (h : match st.ev c with | .pk (.one (.sc (.bool t))) => (if t then Jwp P n x R st s else Jwp P n y R st s) | _ => False) : Jwp P n (.cond c x y) R st s := by
  intro cx a W Q hn hp hi hQ
  split at h
  · rename_i t hc
    obtain ⟨sh, hi, hs⟩ := hi
    have ec := hi.ev c
    rw [hc] at ec
    have ec : a.eval c = .bool t := ec
    refine wp_cond ec ?_
    cases t with
    | true => exact h cx a W Q hn hp ⟨sh, hi, hs⟩ hQ
    | false => exact h cx a W Q hn hp ⟨sh, hi, hs⟩ hQ
  · exact h.elim
theorem jwp_cond {c : Operand} {t : Bool} {x y : Code} (hc : st.ev c = .sc (.bool t)) (h1 : t = true → Jwp P n x R st s) (h2 : t = false → Jwp P n y R st s) : Jwp P n (.cond c x y) R st s := by
  refine jwp_condK ?_
  rw [hc]
  cases t
  · exact h2 rfl
  · exact h1 rfl
theorem jwp_block {id : Nat} {b : Code} (h : Jwp P n b (jblk id R) st s) : Jwp P n (.block id b) R st s := by
  intro cx a W Q hn hp hi hQ
  refine wp_block (h cx a W _ hn hp hi fun e st' s' a' W' hR hi' => ?_)
  cases e with
  | exit id' =>
    simp only [jblk] at hR
    unfold Exit.inBlock
    split at hR <;> rename_i e
    · subst e; simp; exact hQ _ _ _ _ _ hR hi'
    · simp [e]; exact hQ _ _ _ _ _ hR hi'
  | _ => exact hQ _ _ _ _ _ hR hi'
theorem JInv.le (hl : Le st st') (hp : ∀ q ∈ cx.pins, q.1 < 960) (h : JInv cx st s a W) : JInv cx st' s a W := by
  obtain ⟨sh, hi, hs⟩ := h
  obtain ⟨sh', hi'⟩ := hl ⟨W, sh.lab, cx.n, cx.pins⟩ a W hp ⟨sh, hi.rebase⟩
  exact ⟨sh', hi'.unbase hi.ext, sideOk_ext hs hi'.ext⟩
theorem jwp_loop {b : Code} (ι : Type) (S : ι → St) (D : ι → Side) (good : ι → Prop) (μ : ι → Nat) (i0 : ι) (hg0 : good i0) (hd0 : s = D i0) (hl0 : Le st (S i0))
    (hround : ∀ i, good i → Jwp P n b (jgo (fun st' s' => ∃ i', good i' ∧ μ i' < μ i ∧ s' = D i' ∧ Le st' (S i')) R) (S i) (D i)) : Jwp P n (.loop b) R st s := by
  intro cx a W Q hn hp hi hQ
  have key : ∀ (m : Nat) (i : ι) (a : Act) (W : World), μ i < m → good i → JInv cx (S i) (D i) a W → Code.rounds P b Q m a W := by
    intro m
    induction m with
    | zero => intro i a W hlt; omega
    | succ m ih =>
      intro i a W hlt hg hi
      refine hround i hg cx a W _ hn hp hi fun e st' s' a' W' hR hi' => ?_
      cases e with
      | normal =>
        obtain ⟨i', hg', hlt', hd', hle⟩ := hR
        subst hd'
        exact ih i' a' W' (by omega) hg' (hi'.le hle hp)
      | _ => exact hQ _ _ _ _ _ hR hi'
  subst hd0
  exact wp_loop_rounds (μ i0 + 1) (key _ i0 a W (by omega) hg0 (hi.le hl0 hp))
theorem jwp_le {c : Code} (hl : Le st st') (h : Jwp P n c R st' s) : Jwp P n c R st s :=
  fun cx a W Q hn hp hi hQ => h cx a W Q hn hp (hi.le hl hp) hQ
theorem jwp_none {c : Code} (h : Bwp P n c (fun e st' => R e st' []) st) : Jwp P n c R st s := by
  rintro cx a W Q hn hp ⟨sh, hi, hs⟩ hQ
  refine h cx a W Q hn hp ⟨sh, hi⟩ ?_
  rintro e st' a' W' hR ⟨sh', hi'⟩
  exact hQ e st' [] a' W' hR ⟨sh', hi', ⟨(by intro p hp; cases hp), List.Pairwise.nil⟩⟩

/-- Whether a slice has room. -/
def real : Value → Bool
  | .slice (some _) _ cap => decide (cap ≠ 0)
  | _ => false
def sideIf (hd : Value) (xs : List Value) : Side := if real hd then [(hd, xs)] else []
/-- A slice of one's own steps aside: its header stays where it lies, as a plain value. -/
theorem jwp_aside {c : Code} {t tid : Nat} {xs : List Value} (hslot : st.slots t = .one (.ref tid 1 0 xs.length)) (hobj : st.objs tid = some (1, lift xs))
    (h : ∀ hd : Value, (hd = .slice none 0 0 ∨ isNil hd = false) → hd.oneCell' = true → (real hd = false → xs = [] ∧ ∃ A, hd = .slice A 0 0) →
      Jwp P n c R ⟨fun u => if u = t then .sc hd else st.slots u, st.vars, fun k => if k = tid then none else st.objs k, st.next⟩ (s ++ sideIf hd xs)) : Jwp P n c R st s := by
  rintro cx a W Q hn hp ⟨sh, hi, hs⟩ hQ
  have hrep := hi.objs tid 1 (lift xs) hobj
  have hsl := hi.slots t
  rw [hslot] at hsl
  obtain ⟨-, -, hview⟩ := hsl 1 (lift xs) hobj
  have hll : (lift xs).length = xs.length := by simp [lift]
  have hr := hi.relab (fun q hq => by have := hp q hq; omega) (π := asideL tid) (objs' := fun k => if k = tid then none else st.objs k)
    ⟨rfl, rfl, fun _ => rfl, rfl⟩ (fun id w rows' ho => by
      by_cases e : id = tid
      · simp [e] at ho
      · simp only [e, if_false] at ho
        exact ⟨rows', ho, shrinks_refl _, by simp [asideL, e], fun i j s xs _ => rfl⟩)
  have hgo : ∀ hd : Value, a.tmps.getD t undef = hd → InvS cx ⟨fun u => if u = t then .sc hd else st.slots u, st.vars, fun k => if k = tid then none else st.objs k, st.next⟩ ⟨fun b => asideL tid (sh.lab b), sh.μ, sh.β⟩ a W (fun id => st.next ≤ id) := by
    intro hd hv
    refine ⟨hr.defers, hr.size, hr.ext, fun u => ?_, hr.vars, hr.objs, fun id hf => ?_, hr.low, hr.stamps, hr.pinO, hr.pinV⟩
    · by_cases e : u = t
      · subst e
        simp only [if_true]
        exact hv
      · simp only [e, if_false]
        exact hr.slots u
    · obtain ⟨g1, g2, g3, g4⟩ := hr.fresh id hf
      refine ⟨g1, g2, fun u => ?_, g4⟩
      by_cases e : u = t
      · simp [e, AV.ids, AV.svs, Pk.svs, SV.ids]
      · simp only [e, if_false]
        exact g3 u
  have hold : ∀ p ∈ s, Aloof cx W (fun b => asideL tid (sh.lab b)) p.1 p.2 := by
    intro p hp
    obtain ⟨b2, cap2, c2, t2, h1, h2, h3, h4⟩ := hs.1 p hp
    exact ⟨b2, cap2, c2, t2, h1, h2, by simp [asideL, h3], h4⟩
  have hweak : ∀ A, xs = [] → a.tmps.getD t undef = .slice A 0 0 → c.wp P Q a W := by
    intro A hx hv
    have hre : real (.slice A 0 0) = false := by cases A <;> rfl
    refine h (.slice A 0 0) (by
      cases A with
      | none => exact .inl rfl
      | some A => exact .inr rfl) rfl (fun _ => ⟨hx, A, rfl⟩) cx a W Q hn hp ⟨_, hgo _ hv, ?_⟩ hQ
    rw [sideIf, hre]
    simp only [Bool.false_eq_true, if_false, List.append_nil]
    exact ⟨hold, hs.2⟩
  rcases hview with hv | ⟨h0, A, hv⟩
  case inr => exact hweak A (List.length_eq_zero_iff.mp h0) hv
  obtain ⟨hw, hrow, ⟨A, he, hnil⟩ | ⟨b, cap, cc, ty, e1, e2, e3, e4, e5, e6⟩⟩ := hrep
  · have hx : xs = [] := by
      have := congrArg List.length hnil
      rw [hll] at this
      exact List.length_eq_zero_iff.mp this
    refine hweak A hx ?_
    rw [hv, he, hx]
    simp [viewOf]
  rw [hll] at e1 e2
  by_cases hc0 : cap = 0
  · subst hc0
    have hx : xs = [] := List.length_eq_zero_iff.mp (by omega)
    refine hweak (some ⟨b, 0, none⟩) hx ?_
    rw [hv, e1, hx]
    simp [viewOf]
  have hv' : a.tmps.getD t undef = .slice (some ⟨b, 0, none⟩) xs.length cap := by
    rw [hv, e1]
    simp only [viewOf]
    rw [if_neg (by omega)]
    simp [Addr.add]
  have hre : real (.slice (some ⟨b, 0, none⟩) xs.length cap) = true := by simp [real, hc0]
  refine h (.slice (some ⟨b, 0, none⟩) xs.length cap) (.inr (by unfold isNil; rfl)) rfl (fun e => by rw [hre] at e; cases e) cx a W Q hn hp ⟨_, hgo _ hv', ?_⟩ hQ
  rw [sideIf, hre]
  simp only [if_true]
  have hbs : b < W.heap.size := (Array.getElem?_eq_some_iff.mp e4).1
  refine ⟨fun p hp => ?_, ?_⟩
  · rcases List.mem_append.mp hp with hp | hp
    · exact hold p hp
    · rw [List.mem_singleton.mp hp]
      refine ⟨b, cap, cc, ty, rfl, e2, by simp [asideL, e3], fun hlt => ?_, e4, by rw [e5, Nat.mul_one], fun k x hk => ?_⟩
      · constructor
        · intro hl
          have := (hi.ext.same b hlt (.inl hl)).1
          rw [e3, hl] at this; cases this
        · intro hl
          have := (hi.ext.same b hlt (.inr hl)).1
          rw [e3, hl] at this; cases this
      · obtain ⟨v, g1, g2⟩ := e6 k 0 [Cell.sc x] (.sc x) (by simp [lift, hk]) rfl
        obtain ⟨rfl, g3⟩ := g2
        exact ⟨g3, by simpa using g1⟩
  · rw [List.map_append, List.nodup_append]
    refine ⟨hs.2, by simp, fun x hx y hy => ?_⟩
    obtain ⟨p, hp, rfl⟩ := List.mem_map.mp hx
    simp only [List.map_cons, List.map_nil, List.mem_singleton] at hy
    subst hy
    obtain ⟨b2, cap2, c2, t2, h1, h2, h3, h4⟩ := hs.1 p hp
    rw [h1]
    simp only [blkOf]
    rintro rfl
    rw [e3] at h3; cases h3
end j

/-! #### what stepped aside comes back -/
abbrev Tri := Value × Value × List Value
def rowOO (p : Tri) : List Cell := if isNil p.2.1 = true then [Cell.sc p.1, Cell.sl 999 []] else [Cell.sc p.1, Cell.sc p.2.1]
def rowTT (p : Tri) : List Cell := if isNil p.2.1 = true then [Cell.sc p.1, Cell.sl 999 []] else [Cell.sc p.1, Cell.sl 998 p.2.2]
def rowsO (L : List Tri) : Rows := L.map rowOO
def rowsT (L : List Tri) : Rows := L.map rowTT
def triSide (L : List Tri) : Side := (L.filter fun p => real p.2.1).map fun p => p.2
def okTri (L : List Tri) : Prop := ∀ p ∈ L, real p.2.1 = false → p.2.2 = [] ∧ ∃ A, p.2.1 = .slice A 0 0
theorem triSide_snoc (L : List Tri) (v hd : Value) (xs : List Value) : triSide (L ++ [(v, hd, xs)]) = triSide L ++ sideIf hd xs := by
  unfold triSide sideIf
  rw [List.filter_append, List.map_append]
  congr 1
  by_cases e : real hd = true
  · simp [e]
  · simp [e]
theorem rowsT_get {L : List Tri} {i : Nat} {r : List Cell} (h : (rowsT L)[i]? = some r) : ∃ p, L[i]? = some p ∧ r = rowTT p := by
  unfold rowsT at h
  rw [List.getElem?_map] at h
  rcases e : L[i]? with _ | p
  · rw [e] at h; cases h
  · rw [e] at h; cases h; exact ⟨p, rfl, rfl⟩
theorem rowsO_cell {L : List Tri} {i j : Nat} {p : Tri} (h : L[i]? = some p) : Rows.cell (rowsO L) i j = (rowOO p).getD j .gone := by
  have : (rowsO L).getD i [] = rowOO p := by
    unfold rowsO
    rw [List.getD_eq_getElem?_getD, List.getElem?_map, h]; rfl
  unfold Rows.cell
  rw [this]
theorem rowsT_cell {L : List Tri} {i j s : Nat} {xs : List Value} (h : Rows.cell (rowsT L) i j = .sl s xs) : s = 998 ∨ s = 999 ∧ Rows.cell (rowsO L) i j = .sl s xs := by
  obtain ⟨r, h1, h2⟩ := cell_get h (by simp)
  obtain ⟨p, h3, rfl⟩ := rowsT_get h1
  rw [rowsO_cell h3]
  by_cases e : isNil p.2.1 = true
  · rw [rowTT, if_pos e] at h2
    rw [rowOO, if_pos e]
    rcases j with _ | _ | j
    · cases h2
    · cases h2; exact .inr ⟨rfl, rfl⟩
    · cases h2
  · rw [rowTT, if_neg e] at h2
    rcases j with _ | _ | j
    · cases h2
    · cases h2; exact .inl rfl
    · cases h2
theorem j_thaw {cx : Cx} {st : St} {a : Act} {W : World} {id : Nat} {L : List Tri} (hok : okTri L) (ho : st.objs id = some (2, rowsO L)) (hids : ∀ t, 998 ∉ (st.slots t).ids) (hvids : ∀ k fs, st.vars k = some fs → ∀ x ∈ fs, 998 ∉ x.ids)
    (h : JInv cx st (triSide L) a W) : Inv cx ⟨st.slots, st.vars, fun k => if k = id then some (2, rowsT L) else st.objs k, st.next⟩ a W := by
  obtain ⟨sh, hi, hs1, hs2⟩ := h
  have hal : ∀ (i : Nat) (p : Tri), L[i]? = some p → real p.2.1 = true → Aloof cx W sh.lab p.2.1 p.2.2 := fun i p hp hx => hs1 p.2 (List.mem_map_of_mem (List.mem_filter.mpr ⟨List.mem_of_getElem? hp, hx⟩))
  have hfar : ∀ (i : Nat) (p : Tri), L[i]? = some p → real p.2.1 = true → sh.lab (blkOf p.2.1) = .far := by
    intro i p hp hx
    obtain ⟨b, cap, c, t, h1, h2, h3, -⟩ := hal i p hp hx
    rw [h1]; exact h3
  have huniq : ∀ (i j : Nat) (p q : Tri), L[i]? = some p → real p.2.1 = true → L[j]? = some q → real q.2.1 = true → blkOf p.2.1 = blkOf q.2.1 → i = j := by
    intro i j p q hp hpx hq hqx e
    have hn : L.Pairwise fun x y => real x.2.1 = true → real y.2.1 = true → blkOf x.2.1 ≠ blkOf y.2.1 := by
      have h0 := hs2
      unfold triSide at h0
      rw [List.map_map] at h0
      unfold List.Nodup at h0
      rw [List.pairwise_map, List.pairwise_filter] at h0
      exact h0
    obtain ⟨hil, ei⟩ := List.getElem?_eq_some_iff.mp hp
    obtain ⟨hjl, ej⟩ := List.getElem?_eq_some_iff.mp hq
    have hpw := List.pairwise_iff_getElem.mp hn
    rcases Nat.lt_trichotomy i j with hlt | hlt | hlt
    · exact absurd (by rw [ei, ej]; exact e) (hpw i j hil hjl hlt (by rw [ei]; exact hpx) (by rw [ej]; exact hqx))
    · exact hlt
    · exact absurd (by rw [ei, ej]; exact e.symm) (hpw j i hjl hil hlt (by rw [ej]; exact hqx) (by rw [ei]; exact hpx))
  have hch : ∀ b, ∃ K : Lab, (∀ (i : Nat) (p : Tri), L[i]? = some p → real p.2.1 = true → blkOf p.2.1 = b → K = .inn id i 1) ∧ ((∀ (i : Nat) (p : Tri), L[i]? = some p → real p.2.1 = true → blkOf p.2.1 ≠ b) → K = sh.lab b) := by
    intro b
    by_cases e : ∃ (i : Nat) (p : Tri), L[i]? = some p ∧ real p.2.1 = true ∧ blkOf p.2.1 = b
    · obtain ⟨i, p, h1, hx, h2⟩ := e
      refine ⟨.inn id i 1, fun j q hq hqx e => ?_, fun hn => absurd h2 (hn i p h1 hx)⟩
      rw [huniq j i q p hq hqx h1 hx (by rw [e, h2])]
    · exact ⟨sh.lab b, fun i p h1 hx h2 => absurd ⟨i, p, h1, hx, h2⟩ e, fun _ => rfl⟩
  obtain ⟨lab', hl⟩ := Classical.axiomOfChoice hch
  have hsame : ∀ b, sh.lab b ≠ .far → lab' b = sh.lab b := fun b hb => (hl b).2 fun i p hp hx e => hb (by rw [← e]; exact hfar i p hp hx)
  have ag : Agree W sh.lab W lab' (· ≠ .far) := fun b hb => ⟨hsame b hb, rfl⟩
  have k : Keeps st W sh ⟨st.slots, st.vars, fun k => if k = id then some (2, rowsT L) else st.objs k, st.next⟩ W ⟨lab', sh.μ, sh.β⟩ (· = 998) := by
    refine ⟨fun b hb => ⟨hsame b (by rw [hb]; simp), rfl⟩, fun q _ hv => ⟨hv, rfl⟩, fun q w rows' _ hq => ?_⟩
    by_cases e : q = id
    · subst e
      simp only [if_true] at hq
      cases hq
      refine ⟨rfl, rowsO L, ho, by simp [rowsO, rowsT], fun i j s xs' hns _ hc => ?_⟩
      rcases rowsT_cell hc with e | ⟨-, e⟩
      · exact absurd e hns
      · refine ⟨xs', e, rfl, ?_⟩
        rfl
    · simp only [e, if_false] at hq
      exact ⟨rfl, rows', hq, rfl, fun i j s xs' _ _ hc => ⟨xs', hc, rfl, rfl⟩⟩
  refine ⟨⟨lab', sh.μ, sh.β⟩, ⟨hi.defers, hi.size, ?_, fun t => avRep_keeps k (fun q hq e => hids t (e ▸ hq)) (hi.slots t), fun q fs hf => ?_, fun q w rows hq => ?_, fun q hf => ?_, hi.low, fun q w rows i j s xs hq hc => ?_, fun q v hm hne => ?_, hi.pinV⟩⟩
  · obtain ⟨h1, h2, h3, h4, h5, h6⟩ := hi.ext
    refine ⟨h1, h2, h3, h4, fun b hb hlb => ?_, fun b hb => (hsame b (by rw [h6 b hb]; simp)).trans (h6 b hb)⟩
    obtain ⟨g1, g2⟩ := h5 b hb hlb
    refine ⟨?_, g2⟩
    rw [← g1]
    refine (hl b).2 fun i p hp hx e => ?_
    obtain ⟨b2, cap, c, t, k1, k2, k3, k4, -⟩ := hal i p hp hx
    rw [k1] at e
    simp only [blkOf] at e
    subst e
    rcases hlb with hlb | hlb
    · exact (k4 hb).1 hlb
    · exact (k4 hb).2 hlb
  · obtain ⟨g1, c, t, g2, g3⟩ := hi.vars q fs hf
    exact ⟨by show lab' (sh.β q) = _; rw [hsame _ (by rw [g1]; simp)]; exact g1, c, t, g2, all2_mono (fun s u m g => svRep_keeps k (fun i hi e => hvids q fs hf s m (e ▸ hi)) g) g3⟩
  · by_cases e : q = id
    · subst e
      simp only [if_true] at hq
      cases hq
      obtain ⟨hw, hr, hc⟩ := hi.objs q 2 (rowsO L) ho
      refine ⟨hw, fun r hr => ?_, ?_⟩
      · obtain ⟨p, -, rfl⟩ := List.mem_map.mp hr; unfold rowTT; split <;> rfl
      rcases hc with ⟨A, e, hn⟩ | ⟨b, cap, c, t, e1, e2, e3, e4, e5, e6⟩
      · refine .inl ⟨A, e, ?_⟩
        have : L = [] := by simpa [rowsO] using hn
        rw [this]; rfl
      · have hll : (rowsT L).length = (rowsO L).length := by simp [rowsO, rowsT]
        refine .inr ⟨b, cap, c, t, by rw [hll]; exact e1, by rw [hll]; exact e2, by show lab' b = _; rw [hsame _ (by rw [e3]; simp)]; exact e3, e4, e5, fun i j r x hir hjx => ?_⟩
        obtain ⟨p, hp, rfl⟩ := rowsT_get hir
        have hro : (rowsO L)[i]? = some (rowOO p) := by simp [rowsO, hp]
        by_cases hx : isNil p.2.1 = true
        · rw [rowOO, if_pos hx] at hro
          rw [rowTT, if_pos hx] at hjx
          obtain ⟨v, g1, g2⟩ := e6 i j _ x hro hjx
          exact ⟨v, g1, ownCell_agree ag (by simp) (by simp) g2⟩
        rw [rowOO, if_neg hx] at hro
        rw [rowTT, if_neg hx] at hjx
        rcases j with _ | _ | j
        · cases hjx
          obtain ⟨v, g1, g2⟩ := e6 i 0 _ (.sc p.1) hro rfl
          exact ⟨v, g1, g2⟩
        · cases hjx
          obtain ⟨v, g1, g2⟩ := e6 i 1 _ (.sc p.2.1) hro rfl
          obtain ⟨rfl, g3⟩ := g2
          by_cases hre : real p.2.1 = true
          case neg =>
            obtain ⟨q1, q2⟩ := hok p (List.mem_of_getElem? hp) (by simpa using hre)
            exact ⟨_, g1, .inl (by obtain ⟨A, q2⟩ := q2; exact ⟨A, q2, q1⟩)⟩
          obtain ⟨b2, cap2, c2, t2, k1, k2, k3, k4, k5, k6, k7⟩ := hal i p hp hre
          exact ⟨_, g1, .inr ⟨b2, cap2, c2, t2, k1, k2, (hl b2).1 i p hp hre (by rw [k1]; rfl), k5, k6, k7⟩⟩
        · cases hjx
    · simp only [e, if_false] at hq
      exact ownRep_agree ag (by simp) (by simp) (by simp) (hi.objs q w rows hq)
  · obtain ⟨g1, g2, g3, g4⟩ := hi.fresh q hf
    refine ⟨g1, ?_, g3, g4⟩
    have : q ≠ id := by rintro rfl; rw [ho] at g2; cases g2
    simp only [this, if_false]
    exact g2
  · by_cases e : q = id
    · subst e
      simp only [if_true] at hq
      cases hq
      intro hf
      have h1 := hi.low s hf
      have h2 := rowsT_cell hc
      omega
    · simp only [e, if_false] at hq
      exact hi.stamps q w rows i j s xs hq hc
  · refine hi.pinO q v hm ?_
    by_cases e : q = id
    · subst e; rw [ho]; simp
    · simp only [e, if_false] at hne; exact hne
theorem jwp_thaw {P : Program} {n : Nat} {c : Code} {R : Exit → St → Side → Prop} {st : St} {id : Nat} {L : List Tri} (hok : okTri L) (ho : st.objs id = some (2, rowsO L)) (hids : ∀ t, 998 ∉ (st.slots t).ids) (hvids : ∀ k fs, st.vars k = some fs → ∀ x ∈ fs, 998 ∉ x.ids)
    (h : Bwp P n c (fun e st' => R e st' []) ⟨st.slots, st.vars, fun k => if k = id then some (2, rowsT L) else st.objs k, st.next⟩) : Jwp P n c R st (triSide L) := by
  intro cx a W Q hn hp hi hQ
  refine h cx a W Q hn hp (j_thaw hok ho hids hvids hi) ?_
  rintro e st' a' W' hR ⟨sh', hi'⟩
  exact hQ e st' [] a' W' hR ⟨sh', hi', ⟨(by intro p hp; cases hp), List.Pairwise.nil⟩⟩
/-- A FUNCTION'S CONTRACT FROM ITS CODE, where slices step aside. -/
theorem sat_of_bodyJ {P : Program} {f : FuncId} {fn : Func} {c : Code} {args res upd' : List LV} (hf : P.funcs[f]? = some fn) (hb : fn.body = some c)
    (hn : (fn.name == "runtime.NumGoroutine") = false) {rs : List ResultVar} (hr : fn.results.toList = rs) (hargs : (LVok args 60 && decide (args.length ≤ fn.ntmps)) = true) (hres : LVokR res = true)
    (h : Jwp P fn.ntmps c (fun e st' _ => endQ P rs args res upd' e st') (startOf args) []) : Sat P f args res upd' := by
  refine sat_of_bodyB hf hb hn hr hargs hres ?_
  rintro cx a W Q hn hp ⟨sh, hi⟩ hQ
  refine h cx a W Q hn hp ⟨sh, hi, ⟨(by intro p hp; cases hp), List.Pairwise.nil⟩⟩ ?_
  rintro e st' s' a' W' hR ⟨sh', hi', -⟩
  exact hQ e st' a' W' hR ⟨sh', hi'⟩
end Go.Proofs.YtedciihjgbkjgacGreatDoor.A
