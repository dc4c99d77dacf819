/- THE ABSTRACT SEMANTICS IS SOUND, fifth part: addresses, cuts and the like. Conditions: none. -/
import Derived.Test.YtkcbnbbbijlhcaiA8
namespace Go.Proofs.Ytkcbnbbbijlhcai.A
open Go
set_option linter.unusedSimpArgs false
set_option linter.unusedVariables false

section addr
variable {P : Program} {cx : Cx} {st : St} {sh : Sh} {a : Act} {W : World} {Fr : Nat → Prop} {nid : Nat} {o : Oper} {K : Eff → Prop} {Q : Exit → Act → World → Prop}

theorem run_fieldAt {t : TypeId} {f off : Nat} {n : Option Nat} (h : fieldOf P t f = some (off, n)) (b o : Nat) :
    (Instr.fieldAt t (.pointer (some ⟨b, o, none⟩)) f).run P W = .ok (.pointer (some ⟨b, o + off, none⟩)) W := by
  unfold fieldOf at h
  split at h
  · rename_i fs hu
    split at h
    · rename_i fl hf
      split at h
      · rename_i n' ha
        split at h
        · cases h
        · rename_i hn
          simp only [Option.some.injEq, Prod.mk.injEq] at h
          obtain ⟨rfl, rfl⟩ := h
          have hs := (aggOf_some (W := W) ha).2
          have hz : ¬ n'.getD 1 = 0 := by
            cases n' with
            | none => simp
            | some m => simp; rintro rfl; exact hn rfl
          simp [Instr.fieldAt, Sem.run_bind, run_under hu, Result.andThen, hf, Instr.sureAddr, fieldPlace, hs, hz, add_mk, Sem.run]
      · cases h
    · cases h
  · cases h

theorem good_fieldAddr (h : InvS cx st sh a W Fr) (hd : ∀ d', o.dst = some d' → d' < cx.n) {t : TypeId} {x : Operand} {f : Nat} (ho : o.op = .fieldAddr t x f) {off : Nat} {n : Option Nat} (ht : fieldOf P t f = some (off, n))
    {s : SV} (hx : st.ev x = .one s) (hK : fldA st off s K) : Good P cx st Fr nid o a W K Q := by
  have ex := h.ev x
  rw [hx] at ex
  have ex : SVRep st W sh s (a.eval x) := ex
  have ids : ∀ id, Fr id → id ∉ s.ids := fun id hf => by have := h.ev_ids x hf; rwa [hx, one_ids] at this
  have key : ∃ v s', K ⟨.one s', [], []⟩ ∧ (Instr.fieldAt t (a.eval x) f).run P W = .ok v W ∧ SVRep st W sh s' v ∧ s'.ids = s.ids := by
    cases s with
    | vad id j =>
      obtain ⟨h1, hK⟩ := hK
      obtain ⟨fs, hf⟩ := Option.ne_none_iff_exists'.mp h1
      refine ⟨_, _, hK, by rw [ex fs hf]; exact run_fieldAt ht _ _, fun fs' hf' => rfl, rfl⟩
    | oad id i j =>
      simp only [fldA] at hK
      rcases hf : st.objs id with _ | ⟨w, rows⟩
      · rw [hf] at hK; exact hK.elim
      · rw [hf] at hK
        obtain ⟨h1, hK⟩ := hK
        obtain ⟨b, nn, cap, e1, e2⟩ := ex w rows hf h1
        refine ⟨_, _, hK, by rw [e2]; exact run_fieldAt ht _ _, fun w' rows' ho' hi' => ?_, rfl⟩
        rw [hf] at ho'; cases ho'
        exact ⟨b, nn, cap, e1, by rw [Nat.add_assoc]⟩
    | iad row j =>
      obtain ⟨b, off', e, hl, hr⟩ := ex
      exact ⟨_, _, hK, by rw [e]; exact run_fieldAt ht _ _, ⟨b, off', by rw [Nat.add_assoc], hl, hr⟩, rfl⟩
    | ipt fs j =>
      obtain ⟨b, off', e, hl, hr⟩ := ex
      exact ⟨_, _, hK, by rw [e]; exact run_fieldAt ht _ _, ⟨b, off', by rw [Nat.add_assoc], hl, hr⟩, rfl⟩
    | _ => exact hK.elim
  obtain ⟨v, s', h0, h1, h2, h3⟩ := key
  exact good_v h hd (s := Instr.fieldAt t (a.eval x) f) (by simp [execOp, ho]) h1 (av := .one s') h2 (fun id hf => by rw [one_ids, h3]; exact ids id hf) h0

theorem run_indexAt {t e : TypeId} {i : TypeInfo} {w : Nat} (hu : P.underlying t = some (.slice e)) (hi : P.info? e = some i) (hw : i.size = w) {b o len cap : Nat} {ik : IntKind} {n : Int} (h0 : 0 ≤ n) (h1 : n.toNat < len) :
    (Instr.indexAt t (.slice (some ⟨b, o, none⟩) len cap) (.int ik n)).run P W = .ok (.pointer (some ⟨b, o + n.toNat * w, none⟩)) W := by
  have hc : 0 ≤ n ∧ n < (len : Int) := ⟨h0, by omega⟩
  simp [Instr.indexAt, Sem.run_bind, asIntOf, run_under hu, Result.andThen, run_size hi, hc, hw, add_mk, Sem.run]

theorem asNat_eq {x : AV} {K : Nat → Prop} (h : asNat x K) : ∃ ik n, x = .sc (.int ik n) ∧ 0 ≤ n ∧ K n.toNat := by
  unfold asNat at h
  split at h
  · rename_i ik n
    exact ⟨ik, n, rfl, h.1, h.2⟩
  · exact h.elim

theorem good_indexAddr (h : InvS cx st sh a W Fr) (hd : ∀ d', o.dst = some d' → d' < cx.n) {t : TypeId} {x i : Operand} (ho : o.op = .indexAddr t x i) {e bytes : Nat} {z : List Value} (ht : elemOf' P t = some (e, bytes, z)) {s : SV} (hx : st.ev x = .one s)
    (hK : asNat (st.ev i) fun k => idxA st e s k K) : Good P cx st Fr nid o a W K Q := by
  have ex := h.ev x
  rw [hx] at ex
  have ex : SVRep st W sh s (a.eval x) := ex
  have ids : ∀ id, Fr id → id ∉ s.ids := fun id hf => by have := h.ev_ids x hf; rwa [hx, one_ids] at this
  obtain ⟨el, info, hu, hin, hsz, _, _, _, _, _, _⟩ := elemOf_some ht
  obtain ⟨ik, n, ei, h0, hQ⟩ := asNat_eq hK
  clear hK
  have ev := h.ev i
  rw [ei] at ev
  have ev : a.eval i = .int ik n := ev
  have key : ∃ v s', K ⟨.one s', [], []⟩ ∧ (Instr.indexAt t (a.eval x) (a.eval i)).run P W = .ok v W ∧ SVRep st W sh s' v ∧ ∀ id ∈ s'.ids, id ∈ s.ids := by
    rw [ev]
    cases s with
    | im w rows =>
      obtain ⟨rfl, hk, hQ⟩ := hQ
      obtain ⟨A, cap, e1, e2, e3, e4⟩ := ex
      obtain ⟨_, b, off, eA, hl, hr⟩ := e4 (by rintro rfl; simp at hk)
      subst eA
      refine ⟨_, _, hQ, by rw [e1]; exact run_indexAt hu hin hsz h0 hk, ⟨b, off + n.toNat * w, rfl, hl, ?_⟩, by simp [SV.ids]⟩
      rw [List.getD_eq_getElem?_getD, List.getElem?_eq_getElem hk]
      exact hr _ _ (List.getElem?_eq_getElem hk)
    | ref id w off len =>
      obtain ⟨hne, rfl, hk, hQ⟩ := hQ
      obtain ⟨⟨w', rows⟩, hob⟩ := Option.ne_none_iff_exists'.mp hne
      obtain ⟨rfl, g2, g3⟩ := ex w' rows hob
      rcases g3 with g3 | ⟨g3, _⟩
      case inr => omega
      obtain ⟨_, _, hc⟩ := h.objs id w' rows hob
      rcases hc with ⟨A, _, hn⟩ | ⟨b, cap, c', t', e1, e2, _⟩
      · subst hn; simp at g2; omega
      · have hcap : cap ≠ off := by omega
        simp only [e1, viewOf, if_neg hcap, Option.map_some, add_mk] at g3
        refine ⟨_, _, hQ, by rw [g3]; exact run_indexAt hu hin hsz h0 hk, fun w2 rows2 ho2 hi2 => ?_, by simp [SV.ids]⟩
        rw [hob] at ho2; cases ho2
        refine ⟨b, _, cap, e1, ?_⟩
        rw [Nat.add_mul]; simp
    | rin id i' j s off len =>
      simp only [idxA] at hQ
      rcases hob : st.objs id with _ | ⟨w, rows⟩
      · rw [hob] at hQ; exact hQ.elim
      · rw [hob] at hQ
        simp only at hQ
        rcases hc : Rows.cell rows i' j with _ | ⟨s', xs⟩ | _
        · rw [hc] at hQ; exact hQ.elim
        · rw [hc] at hQ
          obtain ⟨rfl, rfl, hk, hQ⟩ := hQ
          obtain ⟨g0, g1, hd', g2, g3⟩ := ex.2 w rows xs hob hc
          rcases g3 with g3 | ⟨g3, _⟩
          case inr => omega
          obtain ⟨v', k1, k2⟩ := h.own_head hob hc g0
          rw [g2] at k1; cases k1
          rcases k2 with ⟨A, _, hn⟩ | ⟨b, cap, c', t', e1, e2, _⟩
          · subst hn; simp at g1; omega
          · have hcap : cap ≠ off := by omega
            subst e1
            simp only [viewOf, if_neg hcap, Option.map_some, add_mk, Nat.mul_one, Nat.zero_add] at g3
            refine ⟨_, _, hQ, by rw [g3]; exact run_indexAt hu hin hsz h0 hk, ⟨g0, fun w2 rows2 xs2 ho2 hc2 hq => ?_⟩, by simp [SV.ids]⟩
            rw [hob] at ho2; cases ho2
            rw [hc] at hc2; cases hc2
            exact ⟨g0, b, _, cap, g2, by rw [Nat.mul_one]⟩
        · rw [hc] at hQ; exact hQ.elim
    | _ => exact hQ.elim
  obtain ⟨v, s', h1, h2, h3, h4⟩ := key
  exact good_v h hd (s := Instr.indexAt t (a.eval x) (a.eval i)) (by simp [execOp, ho]) h2 (av := .one s') h3 (fun id hf hm => ids id hf (h4 id (one_ids.mp hm))) h1

theorem bytes_get (s : ByteArray) (k : Nat) (h : k < s.size) : s[k]? = some (s.data.toList.getD k 0) := by
  rw [List.getD_eq_getElem?_getD]
  have hk : k < s.data.toList.length := by rw [Array.length_toList]; exact h
  rw [List.getElem?_eq_getElem hk]
  rw [getElem?_pos s k h]
  rfl
theorem good_index_str (h : InvS cx st sh a W Fr) (hd : ∀ d', o.dst = some d' → d' < cx.n) {t : TypeId} {x i : Operand} (ho : o.op = .index t x i) (hu : P.underlying t = some .string) {s : ByteArray} (hx : st.ev x = .sc (.string s))
    (hK : asNat (st.ev i) fun k => k < s.size ∧ K ⟨.sc (.int .u8 (s.data.toList.getD k 0).toNat), [], []⟩) : Good P cx st Fr nid o a W K Q := by
  have ex := h.ev x
  rw [hx] at ex
  have ex : a.eval x = .string s := ex
  obtain ⟨ik, n, ei, h0, hk, hK⟩ := asNat_eq hK
  have ev := h.ev i
  rw [ei] at ev
  have ev : a.eval i = .int ik n := ev
  refine good_v h hd (s := Instr.index t (a.eval x) (a.eval i)) (by simp [execOp, ho]) (v := .int .u8 (s.data.toList.getD n.toNat 0).toNat) ?_ (av := .sc (.int .u8 (s.data.toList.getD n.toNat 0).toNat)) rfl (fun id _ => sc_ids _ id) hK
  have e := bytes_get s _ hk
  rw [ex, ev]
  simp only [Instr.index, Sem.run_bind, asIntOf, Sem.run_pure, Result.andThen, run_under hu]
  rw [if_pos h0, e]
  rfl

theorem good_index_arr (h : InvS cx st sh a W Fr) (hd : ∀ d', o.dst = some d' → d' < cx.n) {t : TypeId} {x i : Operand} (ho : o.op = .index t x i) {n : Nat} {e : TypeId} (hu : P.underlying t = some (.array n e)) {xs : List SV} (hx : st.ev x = .agg xs)
    (he : aggOf P e = some none) (hl : xs.length = n) (hK : asNat (st.ev i) fun k => k < n ∧ K ⟨.one (xs.getD k .un), [], []⟩) : Good P cx st Fr nid o a W K Q := by
  have ex := h.ev x
  rw [hx] at ex
  obtain ⟨cs, ec, h2⟩ := ex
  obtain ⟨ik, m, ei, h0, hk, hK⟩ := asNat_eq hK
  have ev := h.ev i
  rw [ei] at ev
  have ev : a.eval i = .int ik m := ev
  have hk' : m.toNat < xs.length := by omega
  obtain ⟨v, g1, g2⟩ := all2_get h2 (List.getElem?_eq_getElem hk')
  have g1 : cs[m.toNat]? = some v := by simpa using g1
  obtain ⟨a1, a2⟩ := aggOf_some (W := W) he
  refine good_v h hd (s := Instr.index t (a.eval x) (a.eval i)) (by simp [execOp, ho]) (v := v) ?_ (av := .one (xs.getD m.toNat .un)) ?_ (fun id hf => ?_) hK
  · rw [ec, ev]
    have hc : 0 ≤ m ∧ m < (n : Int) := ⟨h0, by omega⟩
    simp [Instr.index, Sem.run_bind, asIntOf, Sem.run_pure, Result.andThen, run_under hu, hc, a2, part, a1, g1]
  · rw [List.getD_eq_getElem?_getD, List.getElem?_eq_getElem hk']; exact g2
  · rw [one_ids, List.getD_eq_getElem?_getD, List.getElem?_eq_getElem hk']
    intro hm
    have := h.ev_ids x hf
    rw [hx] at this
    exact this (by simp only [AV.ids, AV.svs, Pk.svs, List.mem_flatMap]; exact ⟨_, List.getElem_mem hk', hm⟩)

theorem good_extract (h : InvS cx st sh a W Fr) (hd : ∀ d', o.dst = some d' → d' < cx.n) {x : Operand} {k : Nat} (ho : o.op = .extract x k) {ps : List Pk} {p : Pk} (hx : st.ev x = .tup ps) (hp : ps[k]? = some p) (hK : K ⟨.pk p, [], []⟩) :
    Good P cx st Fr nid o a W K Q := by
  have ex := h.ev x
  rw [hx] at ex
  obtain ⟨vs, e, h2⟩ := ex
  obtain ⟨v, g1, g2⟩ := all2_get h2 hp
  have g1 : vs[k]? = some v := by simpa using g1
  refine good_v h hd (s := Instr.extract (a.eval x) k) (by simp [execOp, ho]) (v := v) ?_ (av := .pk p) g2 (fun id hf hm => ?_) hK
  · rw [e]; simp [Instr.extract, g1, Sem.run_pure]
  · have := h.ev_ids x hf
    rw [hx] at this
    refine this ?_
    simp only [AV.ids, AV.svs, List.mem_flatMap] at hm ⊢
    obtain ⟨s, m1, m2⟩ := hm
    exact ⟨s, ⟨p, List.mem_of_getElem? hp, m1⟩, m2⟩

theorem good_field (h : InvS cx st sh a W Fr) (hd : ∀ d', o.dst = some d' → d' < cx.n) {t : TypeId} {x : Operand} {f : Nat} (ho : o.op = .field t x f) {off : Nat} {n : Option Nat} (ht : fieldOf P t f = some (off, n)) {xs : List SV} (hx : st.ev x = .agg xs)
    (hK : match n with
      | none => off < xs.length ∧ K ⟨.one (xs.getD off .un), [], []⟩
      | some n => off + n ≤ xs.length ∧ K ⟨.agg ((xs.drop off).take n), [], []⟩) : Good P cx st Fr nid o a W K Q := by
  have ex := h.ev x
  rw [hx] at ex
  obtain ⟨cs, ec, h2⟩ := ex
  have ids : ∀ id, Fr id → ∀ s ∈ xs, id ∉ s.ids := fun id hf s hs hm => by
    have := h.ev_ids x hf
    rw [hx] at this
    exact this (by simp only [AV.ids, AV.svs, Pk.svs, List.mem_flatMap]; exact ⟨s, hs, hm⟩)
  have hlen := all2_length h2
  unfold fieldOf at ht
  split at ht
  · rename_i fs hu
    split at ht
    · rename_i fl hf
      split at ht
      · rename_i n' ha
        split at ht
        · cases ht
        · simp only [Option.some.injEq, Prod.mk.injEq] at ht
          obtain ⟨rfl, rfl⟩ := ht
          obtain ⟨a1, a2⟩ := aggOf_some (W := W) ha
          cases n' with
          | none =>
            obtain ⟨v, g1, g2⟩ := all2_get h2 (List.getElem?_eq_getElem hK.1)
            have g1 : cs[fl.offset]? = some v := by simpa using g1
            refine good_v h hd (s := Instr.field t (a.eval x) f) (by simp [execOp, ho]) (v := v) ?_ (av := .one (xs.getD fl.offset .un)) ?_ (fun id hf' => ?_) hK.2
            · rw [ec]; simp [Instr.field, Sem.run_bind, run_under hu, Result.andThen, hf, asAgg, part, a1, g1, Sem.run_pure]
            · rw [List.getD_eq_getElem?_getD, List.getElem?_eq_getElem hK.1]; exact g2
            · rw [one_ids, List.getD_eq_getElem?_getD, List.getElem?_eq_getElem hK.1]; exact ids id hf' _ (by simp)
          | some m =>
            refine good_v h hd (s := Instr.field t (a.eval x) f) (by simp [execOp, ho]) (v := .agg (cs.extract fl.offset (fl.offset + m))) ?_ (av := .agg ((xs.drop fl.offset).take m)) ⟨_, rfl, ?_⟩ (fun id hf' hm => ?_) hK.2
            · rw [ec]; simp [Instr.field, Sem.run_bind, run_under hu, Result.andThen, hf, asAgg, part, a1, a2, Sem.run_pure]
            · have e : (cs.extract fl.offset (fl.offset + m)).toList = (cs.toList.drop fl.offset).take m := by
                simp [Array.toList_extract, List.extract_eq_take_drop]
              rw [e]; exact all2_take m (all2_drop _ h2)
            · obtain ⟨s', m1, m2⟩ := agg_ids hm
              exact ids id hf' s' (List.mem_of_mem_drop (List.mem_of_mem_take m1)) m2
      · cases ht
    · cases ht
  · cases ht

theorem good_nilCheck (h : InvS cx st sh a W Fr) (hd : ∀ d', o.dst = some d' → d' < cx.n) {x : Operand} (ho : o.op = .nilCheck x) {s : SV} (hx : st.ev x = .one s)
    (hK : nilK st s K) : Good P cx st Fr nid o a W K Q := by
  have ex := h.ev x
  rw [hx] at ex
  have ex : SVRep st W sh s (a.eval x) := ex
  have hp : K ⟨.one s, [], []⟩ ∧ ∃ ad, a.eval x = .pointer (some ad) := by
    cases s with
    | vad id j =>
      obtain ⟨fs, hf⟩ := Option.ne_none_iff_exists'.mp hK.1
      exact ⟨hK.2, _, ex fs hf⟩
    | iad row j => obtain ⟨b, off, e, _⟩ := ex; exact ⟨hK, _, e⟩
    | ipt fs j => obtain ⟨b, off, e, _⟩ := ex; exact ⟨hK, _, e⟩
    | _ => exact hK.elim
  obtain ⟨hK, ad, e⟩ := hp
  refine good_value h hd (v := a.eval x) ?_ (av := .one s) ex (fun id hf => by rw [← hx]; exact h.ev_ids x hf) hK
  simp [execOp, ho, e, Sem.run_pure]
end addr
end Go.Proofs.Ytkcbnbbbijlhcai.A
