/- THE ABSTRACT SEMANTICS IS SOUND, fourteenth part: append as it is stated; stores into slices of one's own. Conditions: none. -/
import Derived.Test.YtkcbnbbbijlhcaiA17
namespace Go.Proofs.Ytkcbnbbbijlhcai.A
open Go
set_option linter.unusedSimpArgs false
set_option linter.unusedVariables false

section app
variable {P : Program} {cx : Cx} {st : St} {sh : Sh} {a : Act} {W : World} {Fr : Nat → Prop} {nid : Nat} {o : Oper} {K : Eff → Prop} {Q : Exit → Act → World → Prop}

theorem good_append (h : InvS cx st sh a W Fr) (hd : ∀ d', o.dst = some d' → d' < cx.n) (hnid : ∀ k, k < 64 → Fr (nid + k)) (hpins : ∀ q ∈ cx.pins, q.1 < 1000) {s x : Operand} {t t2 : TypeId} (ho : o.op = .call ⟨.builtin .append, #[s, x], #[t, t2]⟩)
    {w bytes : Nat} {z : List Value} (ht : elemOf' P t = some (w, bytes, z)) (ht2 : appT P t2 = true) (hK : appK st nid w bytes (st.ev s) (st.ev x) K) : Good P cx st Fr nid o a W K Q := by
  have hF0 : Fr nid := by simpa using hnid 0 (by omega)
  have hn0 := (h.fresh nid hF0).2.1
  obtain ⟨_, _, _, _, _, _, _, _, hw0, _, _⟩ := elemOf_some ht
  have es := h.ev s
  have ex := h.ev x
  unfold appK at hK
  rcases hs : st.ev s with (sv | _) | _
  · rw [hs] at es hK
    have es : SVRep st W sh sv (a.eval s) := es
    cases sv with
    | sc v =>
      obtain ⟨more, ws, π, cells, hK, g, hl, hsrc, hat, hst⟩ := src_rep (P := P) h hpins hn0 ex hw0 0 hK
      obtain ⟨hn, hbig, hK⟩ := hK
      have es : a.eval s = v := es
      rw [isNil_eq hn] at es
      refine good_appJoin h hd hnid hpins ho ht ht2 g (old := []) (A := none) (cap := 0) ⟨by rw [es]; rfl, by simp, by simp, .inl ⟨rfl, rfl⟩⟩ hl hsrc hat (by simpa using hbig) (by simpa using hst) (by simpa using hK)
    | ref id w' off len =>
      rcases hob0 : st.objs id with _ | ⟨w0, rows0⟩
      · obtain ⟨more, ws, π, cells, hK, g, _⟩ := src_rep (P := P) h hpins hn0 ex hw0 0 hK
        simp only [g.none id hob0] at hK
      obtain ⟨more, ws, π, cells, hK, g, hl, hsrc, hat, hst⟩ := src_rep (P := P) h hpins hn0 ex hw0 rows0.length hK
      rcases hob : upd st.objs ws id with _ | ⟨w2, rows⟩
      · simp only [hob] at hK
      · simp only [hob] at hK
        obtain ⟨rfl, rfl, hlen, hbig, hK⟩ := hK
        obtain ⟨_, rows00, k1, k2, _⟩ := g.keep.objs id w2 rows (fun h => h) hob
        rw [hob0] at k1; cases k1
        have es' := svRep_keeps g.keep (fun _ _ h => h) es
        obtain ⟨hw2, π', A, cap, g', hdst⟩ := dst_ref g.inv hpins (g.none nid hn0) es' hob hlen
        have hat' := atRep_relab g'.good g'.mine hat
        rw [k2] at hat'
        refine good_appJoin h hd hnid hpins ho ht ht2 (grafted_comp g g') hdst hl hsrc hat' hbig (fun r hr q xs hq => ?_) hK
        rcases List.mem_append.mp hr with hr | hr
        · obtain ⟨i, hi⟩ := List.getElem?_of_mem hr
          obtain ⟨j, hj⟩ := List.getElem?_of_mem hq
          exact .inr (g.inv.stamps id _ rows i j q xs hob (by simp [Rows.cell, List.getD_eq_getElem?_getD, hi, hj]))
        · exact hst r hr q xs hq
    | rin id i j s0 off len =>
      rcases hob0 : st.objs id with _ | ⟨w0, rows0⟩
      · obtain ⟨more, ws, π, cells, hK, g, _⟩ := src_rep (P := P) h hpins hn0 ex hw0 0 hK
        simp only [g.none id hob0] at hK
      have hL : ∃ L, ∀ xs, Rows.cell rows0 i j = .sl s0 xs → xs.length = L := by
        rcases hc : Rows.cell rows0 i j with _ | ⟨s', xs⟩ | _
        · exact ⟨0, fun xs e => by cases e⟩
        · exact ⟨xs.length, fun xs' e => by cases e; rfl⟩
        · exact ⟨0, fun xs e => by cases e⟩
      obtain ⟨L, hL⟩ := hL
      obtain ⟨more, ws, π, cells, hK, g, hl, hsrc, hat, hst⟩ := src_rep (P := P) h hpins hn0 ex hw0 L hK
      rcases hob : upd st.objs ws id with _ | ⟨wo, rows⟩
      · simp only [hob] at hK
      · simp only [hob] at hK
        rcases hc : Rows.cell rows i j with _ | ⟨s', xs⟩ | _
        · rw [hc] at hK; exact hK.elim
        · rw [hc] at hK
          obtain ⟨rfl, rfl, rfl, hlen, hbig, hK⟩ := hK
          obtain ⟨_, rows00, k1, k2, k3⟩ := g.keep.objs id wo rows (fun h => h) hob
          rw [hob0] at k1; cases k1
          obtain ⟨xs0, c1, c2, _⟩ := k3 i j _ xs (fun h => h) es.1 hc
          have hxl : xs.length = L := by rw [← c2]; exact hL xs0 c1
          have es' := svRep_keeps g.keep (fun _ _ h => h) es
          obtain ⟨π', A, cap, g', hdst⟩ := dst_rin g.inv hpins (g.none nid hn0) es' hob hc hlen
          have hat' := atRep_relab g'.good g'.mine hat
          rw [← hxl] at hat'
          refine good_appJoin h hd hnid hpins ho ht ht2 (grafted_comp g g') hdst hl hsrc (by rw [lift_length]; exact hat') (by rw [lift_length]; exact hbig) (fun r hr q xs' hq => ?_) (by rw [lift_length]; exact hK)
          rcases List.mem_append.mp hr with hr | hr
          · exact .inl (flat_stamps (lift_flatB xs) hr hq)
          · exact hst r hr q xs' hq
        · rw [hc] at hK; exact hK.elim
    | _ =>
      obtain ⟨more, ws, π, cells, hK, g, _⟩ := src_rep (P := P) h hpins hn0 ex hw0 0 hK
      exact hK.elim
  · rw [hs] at hK
    obtain ⟨more, ws, π, cells, hK, g, _⟩ := src_rep (P := P) h hpins hn0 ex hw0 0 hK
    exact hK.elim
  · rw [hs] at hK
    obtain ⟨more, ws, π, cells, hK, g, _⟩ := src_rep (P := P) h hpins hn0 ex hw0 0 hK
    exact hK.elim
end app
end Go.Proofs.Ytkcbnbbbijlhcai.A
