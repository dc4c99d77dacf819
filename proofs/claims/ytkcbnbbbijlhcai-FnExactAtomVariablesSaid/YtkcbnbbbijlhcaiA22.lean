/- THE ABSTRACT SEMANTICS IS SOUND, eighteenth part: a call's labels. Conditions: none. -/
import Derived.Test.YtkcbnbbbijlhcaiA21
namespace Go.Proofs.Ytkcbnbbbijlhcai.A
open Go
set_option linter.unusedSimpArgs false
set_option linter.unusedVariables false

/-- A leaf that is handed over takes a label with it. -/
def Cov (st : St) (W : World) (sh : Sh) (r : CRow) (L L' : Lab) : Prop :=
  match r.s, r.l with
  | .ref id _ _ _, .ow _ _ => r.v = sh.μ id ∧ ((L = .own id ∧ L' = .own r.k) ∨ ∃ i j, L = .inn id i j ∧ L' = .inn r.k i j)
  | .rin id i j _ _ _, .ow _ _ => (∃ w rows, st.objs id = some (w, rows) ∧ headAt W (sh.μ id) w i j = some r.v) ∧ L = .inn id i j ∧ L' = .own r.k
  | .vad id _, .op _ => L = .var id ∧ L' = .var r.k
  | _, _ => False
def baseL (lent : Bool) : Lab → Lab
  | .imm => .imm
  | .dead => .dead
  | .far => .far
  | _ => if lent then .imm else .far
def nextL (nid : Nat) : Lab → Lab
  | .own k => .own (nid + (k - 4096))
  | .inn k i j => .inn (nid + (k - 4096)) i j
  | .var k => .var (nid + (k - 4096))
  | .far => .imm
  | L => L
open Classical in
noncomputable def trL (st : St) (W : World) (sh : Sh) (R : List CRow) (lent : Bool) (L : Lab) : Lab :=
  if h : ∃ L', ∃ r ∈ R, Cov st W sh r L L' then Classical.choose h else baseL lent L
open Classical in
noncomputable def bkL (st : St) (W : World) (sh : Sh) (R : List CRow) (nid : Nat) (L' : Lab) : Lab :=
  if h : ∃ L, ∃ r ∈ R, Cov st W sh r L L' then Classical.choose h else nextL nid L'

section labs
variable {st : St} {W : World} {sh : Sh} {R : List CRow} {lent : Bool} {nid : Nat}

def ofId (L : Lab) (id : Nat) : Prop := L = .own id ∨ (∃ i j, L = .inn id i j) ∨ L = .var id
theorem cov_id {r : CRow} {L L' : Lab} (h : Cov st W sh r L L') : ∃ id, id ∈ handLeaf r.s r.l ∧ ofId L id ∧ ofId L' r.k := by
  unfold Cov at h
  split at h
  · rename_i id _ _ _ _ _ e1 e2
    refine ⟨id, by simp [e1, e2, handLeaf], ?_⟩
    rcases h with ⟨_, ⟨h1, h2⟩ | ⟨i, j, h1, h2⟩⟩
    · exact ⟨.inl h1, .inl h2⟩
    · exact ⟨.inr (.inl ⟨i, j, h1⟩), .inr (.inl ⟨i, j, h2⟩)⟩
  · rename_i id i j _ _ _ _ _ e1 e2
    exact ⟨id, by simp [e1, e2, handLeaf], .inr (.inl ⟨i, j, h.2.1⟩), .inl h.2.2⟩
  · rename_i id _ _ e1 e2
    exact ⟨id, by simp [e1, e2, handLeaf], .inr (.inr h.1), .inr (.inr h.2)⟩
  · exact h.elim
theorem ofId_inj {L : Lab} {a b : Nat} (h : ofId L a) (h' : ofId L b) : a = b := by
  rcases h with rfl | ⟨i, j, rfl⟩ | rfl <;> rcases h' with e | ⟨i', j', e⟩ | e <;> cases e <;> rfl
theorem ofId_real {L : Lab} {a : Nat} (h : ofId L a) : L ≠ .imm ∧ L ≠ .dead ∧ L ≠ .far := by
  rcases h with rfl | ⟨i, j, rfl⟩ | rfl <;> simp
theorem cov_same {r : CRow} {L L1 L2 : Lab} (h : Cov st W sh r L L1) (h' : Cov st W sh r L L2) : L1 = L2 := by
  unfold Cov at h h'
  split at h
  · rename_i e1 e2
    simp only [e1, e2] at h'
    rcases h with ⟨_, ⟨rfl, rfl⟩ | ⟨i, j, rfl, rfl⟩⟩ <;> rcases h' with ⟨_, ⟨e, e'⟩ | ⟨i', j', e, e'⟩⟩ <;> cases e <;> exact e'.symm
  · rename_i e1 e2
    simp only [e1, e2] at h'
    rw [h.2.2, h'.2.2]
  · rename_i e1 e2
    simp only [e1, e2] at h'
    rw [h.2, h'.2]
  · exact h.elim
theorem cov_back {r : CRow} {L1 L2 L' : Lab} (h : Cov st W sh r L1 L') (h' : Cov st W sh r L2 L') : L1 = L2 := by
  unfold Cov at h h'
  split at h
  · rename_i e1 e2
    simp only [e1, e2] at h'
    rcases h with ⟨_, ⟨rfl, rfl⟩ | ⟨i, j, rfl, rfl⟩⟩ <;> rcases h' with ⟨_, ⟨e, e'⟩ | ⟨i', j', e, e'⟩⟩ <;> cases e' <;> exact e.symm
  · rename_i e1 e2
    simp only [e1, e2] at h'
    rw [h.2.1, h'.2.1]
  · rename_i e1 e2
    simp only [e1, e2] at h'
    rw [h.1, h'.1]
  · exact h.elim

/-- What is known of the leaves. -/
structure Leaf0 (st : St) (W : World) (sh : Sh) (R : List CRow) : Prop where
  rep : ∀ r ∈ R, SVRep st W sh r.s r.v ∧ pass st r.s r.l ∧ fitLeaf r.s r.l r.u
  keys : (R.map (·.k)).Nodup
  hand : (R.flatMap fun r => handLeaf r.s r.l).Nodup
structure Leafs (st : St) (W : World) (sh : Sh) (R : List CRow) : Prop extends Leaf0 st W sh R where
  low : ∀ r ∈ R, r.k < 960
variable (hR : Leaf0 st W sh R)
include hR
theorem Leaf0.uni {r r' : CRow} (hr : r ∈ R) (hr' : r' ∈ R) {L L1 L2 : Lab} (h : Cov st W sh r L L1) (h' : Cov st W sh r' L L2) : L1 = L2 := by
  obtain ⟨id, h1, h2, _⟩ := cov_id h
  obtain ⟨id', h1', h2', _⟩ := cov_id h'
  have := ofId_inj h2 h2'
  subst this
  have := nodup_flatMap hR.hand r hr r' hr' id h1 h1'
  subst this
  exact cov_same h h'
theorem Leaf0.inj {r r' : CRow} (hr : r ∈ R) (hr' : r' ∈ R) {L1 L2 L' : Lab} (h : Cov st W sh r L1 L') (h' : Cov st W sh r' L2 L') : L1 = L2 := by
  obtain ⟨id, _, _, h2⟩ := cov_id h
  obtain ⟨id', _, _, h2'⟩ := cov_id h'
  have := nodup_map hR.keys r hr r' hr' (ofId_inj h2 h2')
  subst this
  exact cov_back h h'
theorem Leaf0.tr_cov {r : CRow} (hr : r ∈ R) {L L' : Lab} (h : Cov st W sh r L L') : trL st W sh R lent L = L' := by
  have hex : ∃ L', ∃ r ∈ R, Cov st W sh r L L' := ⟨L', r, hr, h⟩
  unfold trL
  rw [dif_pos hex]
  obtain ⟨r', hr', h'⟩ := Classical.choose_spec hex
  exact hR.uni hr' hr h' h
theorem Leaf0.bk_cov {r : CRow} (hr : r ∈ R) {L L' : Lab} (h : Cov st W sh r L L') : bkL st W sh R nid L' = L := by
  have hex : ∃ L, ∃ r ∈ R, Cov st W sh r L L' := ⟨L, r, hr, h⟩
  unfold bkL
  rw [dif_pos hex]
  obtain ⟨r', hr', h'⟩ := Classical.choose_spec hex
  exact hR.inj hr' hr h' h
omit hR in
theorem tr_base {L : Lab} (h : ∀ r ∈ R, ∀ L', ¬ Cov st W sh r L L') : trL st W sh R lent L = baseL lent L := by
  unfold trL
  rw [dif_neg]
  rintro ⟨L', r, hr, h'⟩
  exact h r hr L' h'
omit hR in
theorem bk_next {L' : Lab} (h : ∀ r ∈ R, ∀ L, ¬ Cov st W sh r L L') : bkL st W sh R nid L' = nextL nid L' := by
  unfold bkL
  rw [dif_neg]
  rintro ⟨L, r, hr, h'⟩
  exact h r hr L h'
omit hR in
theorem no_cov_of {L : Lab} (h : L = .imm ∨ L = .dead ∨ L = .far) : ∀ r ∈ R, ∀ L', ¬ Cov st W sh r L L' := by
  intro r _ L' hc
  obtain ⟨id, _, h2, _⟩ := cov_id hc
  obtain ⟨a1, a2, a3⟩ := ofId_real h2
  rcases h with h | h | h
  · exact a1 h
  · exact a2 h
  · exact a3 h
omit hR in
theorem no_cov_id {L : Lab} {id : Nat} (h : ofId L id) (hn : id ∉ R.flatMap fun r => handLeaf r.s r.l) : ∀ r ∈ R, ∀ L', ¬ Cov st W sh r L L' := by
  intro r hr L' hc
  obtain ⟨id', h1, h2, _⟩ := cov_id hc
  have := ofId_inj h h2
  subst this
  exact hn (List.mem_flatMap.mpr ⟨r, hr, h1⟩)
omit hR in
theorem Leafs.no_cov_key (hR : Leafs st W sh R) {L' : Lab} {k : Nat} (h : ofId L' k) (hk : 960 ≤ k) : ∀ r ∈ R, ∀ L, ¬ Cov st W sh r L L' := by
  intro r hr L hc
  obtain ⟨_, _, _, h2⟩ := cov_id hc
  have := ofId_inj h h2
  have := hR.low r hr
  omega
omit hR in
theorem tr_imm : trL st W sh R lent .imm = .imm := tr_base (no_cov_of (.inl rfl))
omit hR in
theorem tr_dead : trL st W sh R lent .dead = .dead := tr_base (no_cov_of (.inr (.inl rfl)))
omit hR in
theorem tr_far : trL st W sh R lent .far = .far := tr_base (no_cov_of (.inr (.inr rfl)))
omit hR in
theorem tr_rest {L : Lab} {id : Nat} (h : ofId L id) (hn : ∀ r ∈ R, ∀ L', ¬ Cov st W sh r L L') : trL st W sh R lent L = if lent then .imm else .far := by
  rw [tr_base hn]
  rcases h with rfl | ⟨i, j, rfl⟩ | rfl <;> rfl
omit hR in
theorem tr_real {L : Lab} (h : trL st W sh R lent L = .dead) : L = .dead := by
  by_cases hc : ∃ r ∈ R, ∃ L', Cov st W sh r L L'
  · unfold trL at h
    have hex : ∃ L', ∃ r ∈ R, Cov st W sh r L L' := by obtain ⟨r, hr, L', h'⟩ := hc; exact ⟨L', r, hr, h'⟩
    rw [dif_pos hex] at h
    obtain ⟨r, hr, h'⟩ := Classical.choose_spec hex
    rw [h] at h'
    obtain ⟨_, _, _, h2⟩ := cov_id h'
    exact absurd rfl (ofId_real h2).2.1
  · rw [tr_base (fun r hr L' h' => hc ⟨r, hr, L', h'⟩)] at h
    cases L <;> simp only [baseL] at h <;> first | rfl | cases h | (split at h <;> cases h)
/-- Where nothing is lent, what is read only for the call is so for the caller. -/
theorem Leaf0.tr_imm_of {L : Lab} (hl : lent = false) (h : trL st W sh R lent L = .imm) : L = .imm := by
  by_cases hc : ∃ r ∈ R, ∃ L', Cov st W sh r L L'
  · obtain ⟨r, hr, L', h'⟩ := hc
    rw [hR.tr_cov hr h'] at h
    obtain ⟨_, _, _, h2⟩ := cov_id h'
    exact absurd h (ofId_real h2).1
  · rw [tr_base (fun r hr L' h' => hc ⟨r, hr, L', h'⟩)] at h
    subst hl
    cases L <;> simp_all [baseL]
end labs

/-- The call's labels, and the labels behind it. -/
noncomputable def lcOf (st : St) (W : World) (sh : Sh) (R : List CRow) (lent : Bool) : Nat → Lab := fun b => trL st W sh R lent (sh.lab b)
open Classical in
noncomputable def labOf (st : St) (W : World) (sh : Sh) (R : List CRow) (lent : Bool) (nid : Nat) (lab' : Nat → Lab) : Nat → Lab := fun b =>
  if b < W.heap.size ∧ (lcOf st W sh R lent b = .imm ∨ lcOf st W sh R lent b = .far) then sh.lab b else bkL st W sh R nid (lab' b)

section pre
variable {cx : Cx} {st : St} {sh : Sh} {a : Act} {W : World} {Fr : Nat → Prop} {R : List CRow} {lent : Bool}

theorem imRep_nil {lab : Nat → Lab} {w : Nat} {A : Option Addr} : ImRep W lab w [] (.slice A 0 0) := ⟨A, 0, rfl, by simp, by simp, fun h => absurd rfl h⟩
theorem frz_lift (xs : List Value) : frz (lift xs) = lift xs := by
  unfold frz lift
  rw [List.map_map]
  rfl
theorem frz_length (rows : Rows) : (frz rows).length = rows.length := by simp [frz]
theorem imCell_frz {lab : Nat → Lab} {c : Cell} {v : Value} (h : ImCell W lab c v) : ImCell W lab c.frz v := by
  cases c <;> exact h
theorem imRow_frz {lab : Nat → Lab} {row : List Cell} {b o : Nat} (h : ImRow W lab row b o) : ImRow W lab (row.map Cell.frz) b o := by
  intro j c hj
  simp only [List.getElem?_map, Option.map_eq_some_iff] at hj
  obtain ⟨c0, h0, rfl⟩ := hj
  obtain ⟨v, h1, h2⟩ := h j c0 h0
  exact ⟨v, h1, imCell_frz h2⟩
theorem imRep_frz {lab : Nat → Lab} {w : Nat} {rows : Rows} {v : Value} (h : ImRep W lab w rows v) : ImRep W lab w (frz rows) v := by
  obtain ⟨A, cap, h1, h2, h3, h4⟩ := h
  refine ⟨A, cap, by rw [frz_length]; exact h1, by rw [frz_length]; exact h2, fun r hr => ?_, fun hne => ?_⟩
  · simp only [frz, List.mem_map] at hr
    obtain ⟨r0, hr0, rfl⟩ := hr
    rw [List.length_map]; exact h3 r0 hr0
  · obtain ⟨hw, b, o, e1, e2, e3⟩ := h4 (by rintro rfl; exact hne rfl)
    refine ⟨hw, b, o, e1, e2, fun i r hi => ?_⟩
    simp only [frz, List.getElem?_map, Option.map_eq_some_iff] at hi
    obtain ⟨r0, h0, rfl⟩ := hi
    exact imRow_frz (e3 i r0 h0)
/-- One's own cell, lent. -/
theorem ownCell_lent {lab lc : Nat → Lab} {L : Lab} {c : Cell} {v : Value} (himm : ∀ b, lab b = .imm → lc b = .imm) (hL : ∀ s xs, c = .sl (s + 1) xs → ∀ b, lab b = L → lc b = .imm) (h : OwnCell W lab L c v) : ImCell W lc c.frz v := by
  cases c with
  | sc x => exact h
  | gone => exact h
  | sl s xs => cases s with
    | zero => exact imSl_agree (S := (· = .imm)) (fun b hb => ⟨by rw [himm b hb, hb], rfl⟩) rfl h
    | succ s =>
      rcases h with ⟨A, e, hn⟩ | ⟨b, cap, c, t, e1, e2, e3, e4, e5, e6⟩
      · exact ⟨A, 0, by rw [hn]; exact e, by rw [hn]; simp, fun hne => absurd hn hne⟩
      · refine ⟨_, cap, e1, e2, fun hne => ⟨b, 0, rfl, hL s xs rfl b e3, fun k x hk => ?_⟩⟩
        obtain ⟨z1, z2⟩ := e6 k x hk
        exact ⟨z1, by rw [cell_cells e4, Nat.zero_add]; exact z2⟩
/-- What is read, lent. -/
theorem InvS.lendRows (h : InvS cx st sh a W Fr) {s : SV} {v : Value} (hv : SVRep st W sh s v) {w : Nat} {rows : Rows} (hr : st.rows s = some (w, rows)) {lc : Nat → Lab} (himm : ∀ b, sh.lab b = .imm → lc b = .imm) (hids : ∀ id ∈ s.ids', ∀ b, ofId (sh.lab b) id → lc b = .imm) : ImRep W lc w (frz rows) v := by
  have hag : Agree W sh.lab W lc (· = .imm) := fun b hb => ⟨by rw [himm b hb, hb], rfl⟩
  obtain ⟨A0, cap0, e0, hcap0, hrl, _⟩ := h.rows_read hv hr
  unfold St.rows at hr
  split at hr
  · simp only [Option.some.injEq, Prod.mk.injEq] at hr
    obtain ⟨rfl, rfl⟩ := hr
    exact imRep_frz (imRep_agree hag rfl hv)
  · rename_i id w' off len
    split at hr
    · rename_i w2 rows2 hob
      simp only [Option.some.injEq, Prod.mk.injEq] at hr
      obtain ⟨rfl, rfl⟩ := hr
      obtain ⟨rfl, g2, g3⟩ := hv w2 rows2 hob
      have hlen : ((rows2.drop off).take len).length = len := by simp; omega
      obtain ⟨hw0, hrl2, hc⟩ := h.objs id w2 rows2 hob
      refine ⟨A0, cap0, by rw [frz_length]; exact e0, by rw [frz_length]; exact hcap0, fun r hr => ?_, fun hne => ?_⟩
      · simp only [frz, List.mem_map] at hr
        obtain ⟨r0, hr0, rfl⟩ := hr
        rw [List.length_map]; exact hrl r0 hr0
      · have hlt : 0 < len := by
          rcases Nat.eq_zero_or_pos len with e | e
          · exact absurd (List.length_eq_zero_iff.mp (by rw [frz_length, hlen]; exact e)) hne
          · exact e
        rcases hc with ⟨A, _, hn⟩ | ⟨b, cap, c', t', e1, e2, e3, e4, e5, e6⟩
        · subst hn; simp at g2; omega
        · rcases g3 with g3 | ⟨g3, _⟩
          case inr => omega
          simp only [e1, viewOf, if_neg (show ¬ cap = off by omega), Option.map_some, add_mk] at g3
          rw [e0] at g3
          simp only [Value.slice.injEq] at g3
          refine ⟨hw0, b, 0 + off * w2, g3.1, hids id (by simp [SV.ids']) b (.inl e3), fun i r hi j c hj => ?_⟩
          simp only [frz, List.getElem?_map, Option.map_eq_some_iff] at hi
          obtain ⟨r0, hi, rfl⟩ := hi
          simp only [List.getElem?_map, Option.map_eq_some_iff] at hj
          obtain ⟨c0, hj, rfl⟩ := hj
          have hi' : rows2[off + i]? = some r0 := by
            rw [List.getElem?_take] at hi
            split at hi
            · rwa [List.getElem?_drop] at hi
            · cases hi
          obtain ⟨u, k1, k2⟩ := e6 (off + i) j r0 c0 hi' hj
          refine ⟨u, ?_, ownCell_lent himm (fun s xs _ b' hb' => hids id (by simp [SV.ids']) b' (.inr (.inl ⟨_, _, hb'⟩))) k2⟩
          rw [cell_cells e4, show 0 + off * w2 + i * w2 + j = (off + i) * w2 + j by rw [Nat.add_mul]; omega]; exact k1
    · cases hr
  · rename_i id i0 j0 s0 off len
    split at hr
    · rename_i w2 rows2 hob
      split at hr
      · rename_i s' xs hcell
        split at hr
        · rename_i es
          subst es
          simp only [Option.some.injEq, Prod.mk.injEq] at hr
          obtain ⟨rfl, rfl⟩ := hr
          obtain ⟨g0, g1, hd, g2, g3⟩ := hv.2 w2 rows2 xs hob hcell
          have hlen : (lift ((xs.drop off).take len)).length = len := by rw [lift_length]; simp; omega
          have hfl := frz_lift ((xs.drop off).take len)
          rw [hfl]
          refine ⟨A0, cap0, e0, hcap0, hrl, fun hne => ?_⟩
          have hlt : 0 < len := by
            rcases Nat.eq_zero_or_pos len with e | e
            · exact absurd (List.length_eq_zero_iff.mp (by rw [hlen]; exact e)) hne
            · exact e
          obtain ⟨v', k1, k2⟩ := h.own_head hob hcell g0
          rw [g2] at k1; cases k1
          rcases k2 with ⟨A, _, hn⟩ | ⟨b, cap, c', t', e1, e2, e3, e4, e5, e6⟩
          · subst hn; simp at g1; omega
          · rcases g3 with g3 | ⟨g3, _⟩
            case inr => omega
            simp only [e1, viewOf, if_neg (show ¬ cap = off by omega), Option.map_some, add_mk] at g3
            rw [e0] at g3
            simp only [Value.slice.injEq] at g3
            refine ⟨by omega, b, 0 + off * 1, g3.1, hids id (by simp [SV.ids']) b (.inr (.inl ⟨_, _, e3⟩)), fun i r hi j c hj => ?_⟩
            simp only [lift, List.getElem?_map, Option.map_eq_some_iff] at hi
            obtain ⟨x, hx, rfl⟩ := hi
            have hx' : xs[off + i]? = some x := by
              rw [List.getElem?_take] at hx
              split at hx
              · rwa [List.getElem?_drop] at hx
              · cases hx
            cases j with
            | zero =>
              simp at hj; subst hj
              obtain ⟨z1, z2⟩ := e6 _ x hx'
              refine ⟨x, ?_, rfl, z1⟩
              rw [cell_cells e4, show 0 + off * 1 + i * 1 + 0 = off + i by omega]; exact z2
            | succ j => simp at hj
        · cases hr
      · cases hr
    · cases hr
  · cases hr
end pre
end Go.Proofs.Ytkcbnbbbijlhcai.A
