/- THE ABSTRACT SEMANTICS IS SOUND, twenty-fourth part: every operation. Conditions: none. -/
import Derived.Test.YtkcbnbbbijlhcaiA27
namespace Go.Proofs.Ytkcbnbbbijlhcai.A
open Go
set_option linter.unusedSimpArgs false
set_option linter.unusedVariables false

section eff
variable {P : Program} {cx : Cx} {st : St} {sh : Sh} {a : Act} {W : World} {Fr : Nat → Prop} {nid : Nat} {o : Oper} {K : Eff → Prop} {Q : Exit → Act → World → Prop}

theorem pks_rep (h : InvS cx st sh a W Fr) : ∀ (xs : List Operand) {K : List Pk → Prop}, pksK st xs K → ∃ ps, K ps ∧ All2 (PkRep st W sh) ps (xs.map a.eval) ∧ ∀ p ∈ ps, ∀ s ∈ p.svs, ∀ q ∈ s.ids, ¬ Fr q
  | [], K, hK => ⟨[], hK, trivial, by simp⟩
  | x :: r, K, hK => by
    unfold pksK at hK
    split at hK
    · rename_i p hx
      obtain ⟨ps, h1, h2, h3⟩ := pks_rep h r hK
      have ex := h.ev x
      rw [hx] at ex
      refine ⟨p :: ps, h1, ⟨ex, h2⟩, fun p' hp' s hs q hq hf => ?_⟩
      rcases List.mem_cons.mp hp' with rfl | hp'
      · have := h.ev_ids x hf
        rw [hx] at this
        exact this (by simp only [AV.ids, AV.svs, List.mem_flatMap]; exact ⟨s, hs, hq⟩)
      · exact h3 p' hp' s hs q hq hf
    · exact hK.elim
theorem good_call_fnv (h : InvS cx st sh a W Fr) (hd : ∀ d', o.dst = some d' → d' < cx.n) (hnid : ∀ k, k < 64 → Fr (nid + k)) (hpins : ∀ q ∈ cx.pins, q.1 < 1000) {f : Operand} {xs : Array Operand} {tys : Array TypeId} (ho : o.op = .call ⟨.value f, xs, tys⟩) {g : FuncId} {ids : List Nat} (hf : st.ev f = .one (.fnv g ids))
    (hK : pksK st xs.toList fun ps => callK P st nid g (ps ++ ids.map fun id => .one (.vad id 0)) K) : Good P cx st Fr nid o a W K Q := by
  have ef := h.ev f
  have hfi := fun id (hid : Fr id) => h.ev_ids f hid
  rw [hf] at ef hfi
  obtain ⟨cs, e, hcs⟩ := ef
  obtain ⟨ps, h1, h2, h3⟩ := pks_rep h _ hK
  refine good_callK h hd hnid hpins (vs := xs.toList.map a.eval ++ cs.toList) (all2_append h2 ?_) (fun p hp s hs q hq hfr => ?_) ?_ h1
  · refine all2_of_get (by rw [List.length_map]; exact all2_length hcs) fun k p v hk hv => ?_
    simp only [List.getElem?_map, Option.map_eq_some_iff] at hk
    obtain ⟨id, hid, rfl⟩ := hk
    obtain ⟨v', g1, g2⟩ := all2_get hcs hid
    rw [hv] at g1; cases g1
    exact fun fs hfs => g2 fs hfs
  · rcases List.mem_append.mp hp with hp | hp
    · exact h3 p hp s hs q hq hfr
    · obtain ⟨id, hid, rfl⟩ := List.mem_map.mp hp
      simp only [Pk.svs, List.mem_singleton] at hs
      subst hs
      simp only [SV.ids, List.mem_singleton] at hq
      subst hq
      exact hfi q hfr (by simpa [AV.ids, AV.svs, Pk.svs, SV.ids] using hid)
  · simp only [execOp, ho, resolve, Deferred.ofValue, e, Sem.run_bind, Sem.run_pure, Result.andThen, invoke]
    congr 2
    simp
theorem good_call_fni (h : InvS cx st sh a W Fr) (hd : ∀ d', o.dst = some d' → d' < cx.n) (hnid : ∀ k, k < 64 → Fr (nid + k)) (hpins : ∀ q ∈ cx.pins, q.1 < 1000) {f : Operand} {xs : Array Operand} {tys : Array TypeId} (ho : o.op = .call ⟨.value f, xs, tys⟩) {g : FuncId} {caps : List (List Fld)} (hf : st.ev f = .one (.fni g caps))
    (hK : pksK st xs.toList fun ps => callK P st nid g (ps ++ caps.map fun fs => .one (.ipt fs 0)) K) : Good P cx st Fr nid o a W K Q := by
  have ef := h.ev f
  rw [hf] at ef
  obtain ⟨cs, e, hcs⟩ := ef
  obtain ⟨ps, h1, h2, h3⟩ := pks_rep h _ hK
  refine good_callK h hd hnid hpins (vs := xs.toList.map a.eval ++ cs.toList) (all2_append h2 ?_) (fun p hp s hs q hq hfr => ?_) ?_ h1
  · refine all2_of_get (by rw [List.length_map]; exact all2_length hcs) fun k p v hk hv => ?_
    simp only [List.getElem?_map, Option.map_eq_some_iff] at hk
    obtain ⟨id, hid, rfl⟩ := hk
    obtain ⟨v', g1, g2⟩ := all2_get hcs hid
    rw [hv] at g1; cases g1
    exact g2
  · rcases List.mem_append.mp hp with hp | hp
    · exact h3 p hp s hs q hq hfr
    · obtain ⟨id, hid, rfl⟩ := List.mem_map.mp hp
      simp only [Pk.svs, List.mem_singleton] at hs
      subst hs
      simp [SV.ids] at hq
  · simp only [execOp, ho, resolve, Deferred.ofValue, e, Sem.run_bind, Sem.run_pure, Result.andThen, invoke]
    congr 2
    simp

theorem eff_call (h : InvS cx st sh a W Fr) (hd : ∀ d', o.dst = some d' → d' < cx.n) (hnid : ∀ k, k < 64 → Fr (nid + k)) (hpins : ∀ q ∈ cx.pins, q.1 < 1000) {c : Call} (ho : o.op = .call c) (hK : effK P st nid o K) : Good P cx st Fr nid o a W K Q := by
  unfold effK at hK
  rw [ho] at hK
  obtain ⟨callee, ⟨args⟩, ⟨tys⟩⟩ := c
  simp only at hK
  split at hK
  · rename_i x
    split at hK
    · rename_i s hx
      exact good_len_str h hd ho hx hK.1 hK.2
    · rename_i v hv hx
      exact good_len_nil h hd ho hx hK.1 hK.2.1 hK.2.2
    · rename_i s hs hx
      obtain ⟨h1, hK⟩ := hK
      split at hK
      · rename_i w rows hr
        exact good_len_rows h hd ho hx hr h1 hK
      · exact hK.elim
    · exact hK.elim
  · rename_i s x t t2
    split at hK
    · rename_i w bytes z ht
      exact good_append h hd hnid hpins ho ht hK.1 hK.2
    · exact hK.elim
  · rename_i x y
    split at hK
    · rename_i k m k' n hx hy
      exact good_minmax h hd ho hx hy (.inl ⟨rfl, rfl⟩) hK
    · exact hK.elim
  · rename_i x y
    split at hK
    · rename_i k m k' n hx hy
      exact good_minmax h hd ho hx hy (.inr ⟨rfl, rfl⟩) hK
    · exact hK.elim
  · rename_i f
    split at hK
    · rename_i g ids hf
      exact good_call_fnv h hd hnid hpins ho hf hK
    · rename_i g caps hf
      exact good_call_fni h hd hnid hpins ho hf hK
    · exact hK.elim
  · exact hK.elim

/-- Every operation comes to what the state says. -/
theorem eff_sound (h : InvS cx st sh a W Fr) (hd : ∀ d', o.dst = some d' → d' < cx.n) (hnid : ∀ k, k < 64 → Fr (nid + k)) (hpins : ∀ q ∈ cx.pins, q.1 < 1000) (hK : effK P st nid o K) : Good P cx st Fr nid o a W K Q := by
  have hK0 := hK
  unfold effK at hK
  split at hK
  · rename_i x ho
    exact good_move h hd (.inl ho) hK
  · rename_i x ho
    exact good_move h hd (.inr ho) hK
  · rename_i c x y ho
    split at hK
    · rename_i t hc
      exact good_pick h hd ho hc hK
    · exact hK.elim
  · rename_i e ho
    split at hK
    · rename_i z hz
      exact good_alloc h hd hnid hpins ho hz hK
    · exact hK.elim
  · rename_i e x ho
    split at hK
    · rename_i s hx
      exact good_box h hd hnid hpins ho hx (by rintro s' e; cases e; exact hK.1) hK.2
    · rename_i xs hx
      exact good_box h hd hnid hpins ho hx (by rintro s' e; cases e) hK
    · exact hK.elim
  · rename_i t x ho
    split at hK
    · rename_i n s ht hx
      exact good_load h hd ho ht hx hK
    · exact hK.elim
  · rename_i t x y ho
    split at hK
    · rename_i n s p ht hx hy
      exact good_store h hd hnid hpins ho ht hx hy hK.1 hK.2
    · exact hK.elim
  · rename_i x ho
    split at hK
    · rename_i s hx
      exact good_nilCheck h hd ho hx hK
    · exact hK.elim
  · rename_i op xT x y yT ho
    split at hK
    · rename_i u v hx hy
      exact good_bin h hd ho hx hy hK
    · exact hK.elim
  · rename_i op t x ho
    split at hK
    · rename_i u hx
      exact good_un h hd ho hx hK
    · exact hK.elim
  · rename_i s d x ho
    split at hK
    · rename_i k1 k ik n hs hdd hx
      exact good_convert_int h hd ho hs hdd hx hK
    · rename_i b hs hdd hx
      exact good_convert_str h hd ho hs hdd hx hK
    · rename_i e sv hs hdd hx
      obtain ⟨he, hK⟩ := hK
      split at hK
      · rename_i w rows hr
        obtain ⟨bs, rfl, rfl, hK⟩ := hK
        exact good_convert_bytes h hd ho hs he hdd hx hr hK
      · exact hK.elim
    · exact hK.elim
  · rename_i t x f ho
    split at hK
    · rename_i off xs ht hx
      exact good_field h hd ho ht hx hK
    · rename_i off n xs ht hx
      exact good_field h hd ho ht hx hK
    · exact hK.elim
  · rename_i t x f ho
    split at hK
    · rename_i off n s ht hx
      exact good_fieldAddr h hd ho ht hx hK
    · exact hK.elim
  · rename_i t x i ho
    split at hK
    · rename_i e bytes z s ht hx
      exact good_indexAddr h hd ho ht hx hK
    · exact hK.elim
  · rename_i t x i ho
    split at hK
    · rename_i s hu hx
      exact good_index_str h hd ho hu hx hK
    · rename_i n e xs hu hx
      exact good_index_arr h hd ho hu hx hK.1 hK.2.1 hK.2.2
    · exact hK.elim
  · rename_i t parts ho
    split at hK
    · rename_i places z hp hz
      exact good_build h hd ho hp hz hK
    · exact hK.elim
  · rename_i t len parts ho
    split at hK
    · rename_i w bytes z ht
      exact good_buildSlice h hd hnid hpins ho ht hK.1 hK.2
    · exact hK.elim
  · rename_i t l c ho
    split at hK
    · rename_i w bytes z ht
      exact good_makeSlice h hd hnid hpins ho ht hK
    · exact hK.elim
  · rename_i t x lo hi ho
    split at hK
    · rename_i s hu hx
      exact good_cut_str h hd ho hu hx hK
    · rename_i e sv hu hx
      split at hK
      · rename_i w bytes z ht
        exact good_cut h hd ho ht hx hK
      · exact hK.elim
    · exact hK.elim
  · rename_i x k ho
    split at hK
    · rename_i ps hx
      split at hK
      · rename_i p hp
        exact good_extract h hd ho hx hp hK
      · exact hK.elim
    · exact hK.elim
  · rename_i f first captured ho
    obtain ⟨rfl, hK⟩ := hK
    split at hK
    · rename_i ids hx
      exact good_makeFunc h hd ho hx hK
    · exact hK.elim
  · rename_i c ho
    exact eff_call h hd hnid hpins ho hK0
  · exact hK.elim
end eff
end Go.Proofs.Ytkcbnbbbijlhcai.A
