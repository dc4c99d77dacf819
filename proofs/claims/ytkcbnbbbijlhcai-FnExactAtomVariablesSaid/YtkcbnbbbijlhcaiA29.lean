/- THE ABSTRACT SEMANTICS IS SOUND, twenty-fifth part: regions in the text's order. Conditions: none. -/
import Derived.Test.YtkcbnbbbijlhcaiA28
import Derived.Orders
namespace Go.Proofs.Ytkcbnbbbijlhcai.A
open Go
set_option linter.unusedSimpArgs false
set_option linter.unusedVariables false

section run
variable {P : Program} {cx : Cx} {st : St} {sh : Sh} {a : Act} {W : World} {Fr : Nat → Prop} {Q : Exit → Act → World → Prop}

theorem InvS.next (h : InvS cx st sh a W Fr) (hpins : ∀ q ∈ cx.pins, q.1 < 1000) (n : Nat) : InvS cx { st with next := n } sh a W Fr :=
  h.move (vars' := st.vars) (objs' := st.objs) (n' := n) (new := fun _ => False) (Fr' := Fr) (Keeps.same rfl rfl) (fun _ h => h.elim) (fun _ h => h) h.ext
    (fun id fs hf => by
      obtain ⟨h1, c, t, h2, h3⟩ := h.vars id fs hf
      exact ⟨⟨h1, c, t, h2, all2_mono (fun s u m g => svRep_keeps (st := st) (Keeps.same rfl rfl) (fun _ _ h => h) g) h3⟩, fun id' hf' s m => (h.fresh id' hf').2.2.2 id fs hf s m⟩)
    h.objs (fun id hf => ⟨(h.fresh id hf).1, (h.fresh id hf).2.1⟩) h.stamps (fun id _ hs => ⟨hs, rfl⟩) (fun id _ hv => ⟨hv, rfl⟩) hpins

theorem boolOf_some {x : AV} {b : Bool} (h : boolOf x = some b) : x = .sc (.bool b) := by
  unfold boolOf at h
  split at h
  · simp only [Option.some.injEq] at h; rw [h]
  · cases h

/-- What a guard asks of. -/
theorem InvS.yielded (h : InvS cx st sh a W Fr) {ops : Array Oper} {g : Nat} {b : Bool} (hy : yieldOf st (nth (ops.toList.map (·.dst)) g) = some b) : yielded ops a.tmps g = some b := by
  rw [nth_eq] at hy
  unfold yieldOf at hy
  split at hy
  · rename_i t ht
    have hx := boolOf_some hy
    have hs := h.slots t
    rw [hx] at hs
    have hs : a.tmps.getD t undef = .bool b := hs
    rw [List.getElem?_map, Array.getElem?_toList] at ht
    simp only [Option.map_eq_some_iff] at ht
    obtain ⟨o, ho, hd⟩ := ht
    have htm : a.tmps[t]? = some (.bool b) := by
      rw [Array.getD_eq_getD_getElem?] at hs
      rcases hq : a.tmps[t]? with _ | v
      · rw [hq] at hs; simp [undef] at hs
      · rw [hq] at hs; simp at hs; rw [hs]
    simp [Go.yielded, ho, hd, htm]
  · cases hy

/-- The operations of a region, one after another. -/
theorem run_sound (hpins : ∀ q ∈ cx.pins, q.1 < 1000) {ops : Array Oper} {base : Nat} (hbound : ∀ o ∈ ops.toList, ∀ d', o.dst = some d' → d' < cx.n) {K : St → Prop} :
    ∀ (rest : List Oper) (i : Nat) {st : St} {sh : Sh} {a : Act} {W : World}, ops.toList.drop i = rest → i + rest.length = ops.size → InvS cx st sh a W (fun id => base + 64 * i ≤ id) → runK P (ops.toList.map (·.dst)) base i rest st K →
      (∀ st' sh' a' W', K st' → InvS cx st' sh' a' W' (fun id => base + 64 * ops.size ≤ id) → Q .normal a' W') → wpOps P ops Q (List.range' i rest.length) a W
  | [], i, st, sh, a, W, hd, hsz, h, hK, hQ => by
    simp only [List.length_nil, List.range'_zero, wpOps]
    refine hQ st sh a W hK (h.less fun id hid => ?_)
    have e : i = ops.size := by simpa using hsz
    subst e
    exact hid
  | o :: r, i, st, sh, a, W, hd, hsz, h, hK, hQ => by
    have hi : i < ops.toList.length := by
      rcases Nat.lt_or_ge i ops.toList.length with g | g
      · exact g
      · rw [List.drop_eq_nil_of_le g] at hd; cases hd
    rw [List.drop_eq_getElem_cons hi] at hd
    simp only [List.cons.injEq] at hd
    obtain ⟨ho, hr⟩ := hd
    have hget : ops[i]? = some o := by
      rw [← Array.getElem?_toList, List.getElem?_eq_getElem hi, ho]
    have hmem : o ∈ ops.toList := by rw [← ho]; exact List.getElem_mem hi
    have hdst := hbound o hmem
    simp only [List.length_cons, List.range'_succ, wpOps, hget]
    have step : effK P st (base + 64 * i) o (fun e => runK P (ops.toList.map (·.dst)) base (i + 1) r (st.app o.dst e) K) → o.wp P a W (wpOps P ops Q (List.range' (i + 1) r.length)) Q := by
      intro hE
      have hg := eff_sound (Q := Q) h hdst (fun k hk => by show base + 64 * i ≤ base + 64 * i + k; omega) hpins hE
      unfold Good at hg
      refine Oper.wp_mono (fun a' W' hx => ?_) hg
      obtain ⟨e, sh', hK', hi'⟩ := hx
      refine run_sound hpins hbound r (i + 1) hr (by simp only [List.length_cons] at hsz; omega) (hi'.less fun id hid => ⟨by omega, by omega⟩) hK' hQ
    unfold runK at hK
    split at hK
    · rename_i hgd
      have hw : Region.wanted o (yielded ops a.tmps) = true := by simp [Region.wanted, hgd]
      rw [if_pos hw]
      exact .inl (step hK)
    · rename_i g want hgd
      split at hK
      · rename_i b hy
        have hyy := h.yielded hy
        split at hK
        · rename_i e
          have hw : Region.wanted o (yielded ops a.tmps) = true := by simp [Region.wanted, hgd, hyy, e]
          rw [if_pos hw]
          exact .inl (step hK)
        · rename_i e
          have hw : Region.wanted o (yielded ops a.tmps) = false := by simp [Region.wanted, hgd, hyy, e]
          rw [hw]
          simp only [Bool.false_eq_true, if_false]
          have h' := InvS.put h hdst (av := .un) (v := undef) trivial (fun id _ hm => by simp [AV.ids, AV.svs, Pk.svs, SV.ids] at hm)
          refine run_sound hpins hbound r (i + 1) hr (by simp only [List.length_cons] at hsz; omega) (h'.less fun id hid => by omega) ?_ hQ
          exact hK
      · exact hK.elim
end run
end Go.Proofs.Ytkcbnbbbijlhcai.A
