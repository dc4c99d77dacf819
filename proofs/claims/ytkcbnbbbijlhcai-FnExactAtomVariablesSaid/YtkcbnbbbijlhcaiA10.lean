/- THE ABSTRACT SEMANTICS IS SOUND, sixth part: cuts, conversions, variables. Conditions: none. -/
import Derived.Test.YtkcbnbbbijlhcaiA9
namespace Go.Proofs.Ytkcbnbbbijlhcai.A
open Go
set_option linter.unusedSimpArgs false
set_option linter.unusedVariables false

section cuts
variable {P : Program} {cx : Cx} {st : St} {sh : Sh} {a : Act} {W : World} {Fr : Nat → Prop} {nid : Nat} {o : Oper} {K : Eff → Prop} {Q : Exit → Act → World → Prop}

theorem isNil_eq {v : Value} (h : isNil v = true) : v = .slice none 0 0 := by
  unfold isNil at h
  split at h
  · rfl
  · cases h

theorem asNat?_eq (h : InvS cx st sh a W Fr) {x : Option Operand} {d : Nat} {K : Nat → Prop} (hx : asNat? st x d K) :
    ∃ n, K n ∧ ((x = none ∧ n = d) ∨ ∃ y ik m, x = some y ∧ a.eval y = .int ik m ∧ 0 ≤ m ∧ m.toNat = n) := by
  cases x with
  | none => exact ⟨d, hx, .inl ⟨rfl, rfl⟩⟩
  | some y =>
    obtain ⟨ik, m, e, h0, hK⟩ := asNat_eq hx
    have ev := h.ev y
    rw [e] at ev
    exact ⟨m.toNat, hK, .inr ⟨y, ik, m, rfl, ev, h0, rfl⟩⟩
theorem run_bound {ik : IntKind} {m : Int} {y : Nat} {code : BoundsCode} (h0 : 0 ≤ m) (h1 : m.toNat ≤ y) : (Instr.sliceBound (.int ik m) y code).run P W = .ok m.toNat W := by
  have hc : 0 ≤ m ∧ m ≤ (y : Int) := ⟨h0, by omega⟩
  simp [Instr.sliceBound, asIntOf, Sem.run_bind, Sem.run_pure, Result.andThen, hc]
theorem run_bounds {isS : Bool} {len cap : Nat} {lo hi : Option Operand} {l hh : Nat}
    (hl : (lo = none ∧ l = 0) ∨ ∃ y ik m, lo = some y ∧ a.eval y = .int ik m ∧ 0 ≤ m ∧ m.toNat = l)
    (hr : (hi = none ∧ hh = len) ∨ ∃ y ik m, hi = some y ∧ a.eval y = .int ik m ∧ 0 ≤ m ∧ m.toNat = hh) (h1 : l ≤ hh) (h2 : hh ≤ cap) :
    (Instr.sliceBounds isS len cap (lo.map a.eval) (hi.map a.eval) none).run P W = .ok (l, hh, cap) W := by
  rcases hl with ⟨rfl, rfl⟩ | ⟨y, ik, m, rfl, e, h0, rfl⟩
  · rcases hr with ⟨rfl, rfl⟩ | ⟨y', ik', m', rfl, e', h0', rfl⟩
    · simp [Instr.sliceBounds, Sem.run_bind, Sem.run_pure, Result.andThen]
    · simp [Instr.sliceBounds, Sem.run_bind, Sem.run_pure, Result.andThen, e', run_bound h0' h2]
  · rcases hr with ⟨rfl, rfl⟩ | ⟨y', ik', m', rfl, e', h0', rfl⟩
    · simp [Instr.sliceBounds, Sem.run_bind, Sem.run_pure, Result.andThen, e, run_bound h0 h1]
    · simp [Instr.sliceBounds, Sem.run_bind, Sem.run_pure, Result.andThen, e', run_bound h0' h2, e, run_bound h0 h1]
theorem run_sliceAt {t e : TypeId} {i : TypeInfo} {w : Nat} (hu : P.underlying t = some (.slice e)) (hi : P.info? e = some i) (hw : i.size = w) {A : Option Addr} {len cap : Nat} {lo hi' : Option Operand} {l hh : Nat}
    (hl : (lo = none ∧ l = 0) ∨ ∃ y ik m, lo = some y ∧ a.eval y = .int ik m ∧ 0 ≤ m ∧ m.toNat = l)
    (hr : (hi' = none ∧ hh = len) ∨ ∃ y ik m, hi' = some y ∧ a.eval y = .int ik m ∧ 0 ≤ m ∧ m.toNat = hh) (h1 : l ≤ hh) (h2 : hh ≤ cap) :
    (Instr.sliceAt t (.slice A len cap) (lo.map a.eval) (hi'.map a.eval) none).run P W = .ok (.slice (if cap = l then A else A.map (·.add (l * w))) (hh - l) (cap - l)) W := by
  simp [Instr.sliceAt, Instr.slice, Sem.run_bind, run_under hu, Result.andThen, run_bounds hl hr h1 h2, run_size hi, hw, Sem.run_pure]
theorem view_view {h : Value} {w off len l n : Nat} {v : Value} (hv : ViewIs h w off len v) {A : Option Addr} {m cap : Nat} (e : h = .slice A m cap) (hA : cap = 0 ∨ ∀ a, A = some a → a.spot = none) (hc : off + len ≤ cap) (hl : l + n ≤ len) :
    ∃ A' c', v = .slice A' len c' ∧ len ≤ c' ∧ ViewIs h w (off + l) n (.slice (if c' = l then A' else A'.map (·.add (l * w))) n (c' - l)) := by
  rcases hv with hv | ⟨h0, A', hv⟩
  · subst e
    refine ⟨_, _, hv, by omega, ?_⟩
    by_cases h2 : cap - off = l
    · have : n = 0 := by omega
      subst this
      right
      exact ⟨rfl, _, by rw [show cap - off - l = 0 by omega]⟩
    · left
      have h1 : ¬ cap = off := by omega
      have h3 : ¬ cap = off + l := by omega
      simp only [viewOf, if_neg h1, if_neg h2, if_neg h3]
      congr 1
      · cases A with
        | none => rfl
        | some a =>
          obtain ⟨b, o, s⟩ := a
          have := (hA.resolve_left (by omega)) _ rfl
          simp only at this
          subst this
          simp only [Option.map_some, add_mk, Nat.add_mul, Nat.add_assoc]
      · omega
  · have : n = 0 := by omega
    subst this
    have : l = 0 := by omega
    subst this
    refine ⟨A', 0, by rw [h0]; exact hv, by omega, .inr ⟨rfl, _, by simp; rfl⟩⟩
theorem own_shape (h : InvS cx st sh a W Fr) {id w : Nat} {rows : Rows} (ho : st.objs id = some (w, rows)) : ∃ A cap, sh.μ id = .slice A rows.length cap ∧ rows.length ≤ cap ∧ (cap = 0 ∨ ∀ a, A = some a → a.spot = none) := by
  obtain ⟨_, _, hc⟩ := h.objs id w rows ho
  rcases hc with ⟨A, e, hn⟩ | ⟨b, cap, c', t', e1, e2, _⟩
  · subst hn; exact ⟨A, 0, e, by simp, .inl rfl⟩
  · exact ⟨_, cap, e1, e2, .inr fun a ha => by cases ha; rfl⟩
theorem ownSl_shape {L : Lab} {xs : List Value} {v : Value} (h : OwnSl W sh.lab L xs v) : ∃ A cap, v = .slice A xs.length cap ∧ xs.length ≤ cap ∧ (cap = 0 ∨ ∀ a, A = some a → a.spot = none) := by
  rcases h with ⟨A, e, hn⟩ | ⟨b, cap, c', t', e1, e2, _⟩
  · subst hn; exact ⟨A, 0, e, by simp, .inl rfl⟩
  · exact ⟨_, cap, e1, e2, .inr fun a ha => by cases ha; rfl⟩

theorem good_cut (h : InvS cx st sh a W Fr) (hd : ∀ d', o.dst = some d' → d' < cx.n) {t : TypeId} {x : Operand} {lo hi : Option Operand} (ho : o.op = .slice t x lo hi none) {w bytes : Nat} {z : List Value} (ht : elemOf' P t = some (w, bytes, z)) {s : SV}
    (hx : st.ev x = .one s) (hK : cutK st w s lo hi K) : Good P cx st Fr nid o a W K Q := by
  have ex := h.ev x
  rw [hx] at ex
  have ex : SVRep st W sh s (a.eval x) := ex
  have ids : ∀ id, Fr id → id ∉ s.ids := fun id hf => by have := h.ev_ids x hf; rwa [hx, one_ids] at this
  obtain ⟨el, info, hu, hin, hsz, _⟩ := elemOf_some ht
  have key : ∃ v s', K ⟨.one s', [], []⟩ ∧ (Instr.sliceAt t (a.eval x) (lo.map a.eval) (hi.map a.eval) none).run P W = .ok v W ∧ SVRep st W sh s' v ∧ ∀ id ∈ s'.ids, id ∈ s.ids := by
    cases s with
    | sc u =>
      obtain ⟨hn, hK⟩ := hK
      have hu' := isNil_eq hn
      subst hu'
      have ex : a.eval x = .slice none 0 0 := ex
      obtain ⟨l, hK, hl⟩ := asNat?_eq h hK
      obtain ⟨hh, hK, hr⟩ := asNat?_eq h hK
      obtain ⟨rfl, rfl, hK⟩ := hK
      refine ⟨_, .sc (.slice none 0 0), hK, by rw [ex]; exact run_sliceAt hu hin hsz hl hr (by omega) (by omega), ?_, fun id hm => hm⟩
      simp [SVRep]
    | im w' rows =>
      obtain ⟨l, hK, hl⟩ := asNat?_eq h hK
      obtain ⟨hh, hK, hr⟩ := asNat?_eq h hK
      obtain ⟨rfl, h1, h2, hK⟩ := hK
      obtain ⟨A, cap, e1, e2, e3, e4⟩ := ex
      refine ⟨_, _, hK, by rw [e1]; exact run_sliceAt hu hin hsz hl hr h1 (by omega), ?_, by simp [SV.ids]⟩
      have hlen : ((rows.take hh).drop l).length = hh - l := by simp; omega
      refine ⟨_, _, by rw [hlen], by rw [hlen]; omega, fun r hm => e3 r (List.mem_of_mem_take (List.mem_of_mem_drop hm)), fun hne => ?_⟩
      have hlt : l < hh := by
        rcases Nat.lt_or_ge l hh with g | g
        · exact g
        · exact absurd (List.length_eq_zero_iff.mp (by rw [hlen]; omega)) hne
      obtain ⟨hw, b, off, eA, hb, hrr⟩ := e4 (by rintro rfl; simp at h2; omega)
      refine ⟨hw, b, off + l * w', ?_, hb, fun i r hi' => ?_⟩
      · rw [if_neg (by omega), eA]; simp [add_mk]
      · rw [List.getElem?_drop] at hi'
        have hi'' : rows[l + i]? = some r := by
          rw [List.getElem?_take] at hi'
          split at hi'
          · exact hi'
          · cases hi'
        have := hrr (l + i) r hi''
        rw [show off + l * w' + i * w' = off + (l + i) * w' by rw [Nat.add_mul]; omega]
        exact this
    | ref id w' off len =>
      obtain ⟨hrs, hK⟩ := hK
      obtain ⟨l, hK, hl⟩ := asNat?_eq h hK
      obtain ⟨hh, hK, hr⟩ := asNat?_eq h hK
      obtain ⟨rfl, h1, h2, hK⟩ := hK
      rcases hob : st.objs id with _ | ⟨w2, rows⟩
      · simp only [St.rows, hob] at hrs; exact absurd rfl hrs
      · obtain ⟨rfl, g2, g3⟩ := ex w2 rows hob
        obtain ⟨A, cap, e, hcap, hA⟩ := own_shape h hob
        obtain ⟨A', c', k1, k2, k3⟩ := view_view (n := hh - l) (l := l) g3 e hA (by omega) (by omega)
        refine ⟨_, _, hK, by rw [k1]; exact run_sliceAt hu hin hsz hl hr h1 (by omega), fun w3 rows3 ho3 => ?_, by simp [SV.ids]⟩
        rw [hob] at ho3; cases ho3
        exact ⟨rfl, by omega, k3⟩
    | rin id i j s' off len =>
      obtain ⟨hrs, hK⟩ := hK
      obtain ⟨l, hK, hl⟩ := asNat?_eq h hK
      obtain ⟨hh, hK, hr⟩ := asNat?_eq h hK
      obtain ⟨rfl, h1, h2, hK⟩ := hK
      rcases hob : st.objs id with _ | ⟨w2, rows⟩
      · simp only [St.rows, hob] at hrs; exact absurd rfl hrs
      · simp only [St.rows, hob] at hrs
        rcases hc : Rows.cell rows i j with _ | ⟨s2, xs⟩ | _
        · rw [hc] at hrs; exact absurd rfl hrs
        · rw [hc] at hrs
          by_cases es : s2 = s'
          · subst es
            obtain ⟨g0, g2, hd2, g3, g4⟩ := ex.2 w2 rows xs hob hc
            obtain ⟨v', m1, m2⟩ := h.own_head hob hc g0
            rw [g3] at m1; cases m1
            obtain ⟨A, cap, e, hcap, hA⟩ := ownSl_shape m2
            obtain ⟨A', c', k1, k2, k3⟩ := view_view (n := hh - l) (l := l) g4 e hA (by omega) (by omega)
            refine ⟨_, _, hK, by rw [k1]; exact run_sliceAt hu hin hsz hl hr h1 (by omega), ⟨g0, fun w3 rows3 xs3 ho3 hc3 => ?_⟩, by simp [SV.ids]⟩
            rw [hob] at ho3; cases ho3
            rw [hc] at hc3; cases hc3
            exact ⟨g0, by omega, hd2, g3, k3⟩
          · simp only [if_neg es] at hrs; exact absurd rfl hrs
        · rw [hc] at hrs; exact absurd rfl hrs
    | _ => exact hK.elim
  obtain ⟨v, s', h1, h2, h3, h4⟩ := key
  exact good_v h hd (s := Instr.sliceAt t (a.eval x) (lo.map a.eval) (hi.map a.eval) none) (by simp [execOp, ho]) h2 (av := .one s') h3 (fun id hf hm => ids id hf (h4 id (one_ids.mp hm))) h1

theorem good_cut_str (h : InvS cx st sh a W Fr) (hd : ∀ d', o.dst = some d' → d' < cx.n) {t : TypeId} {x : Operand} {lo hi : Option Operand} (ho : o.op = .slice t x lo hi none) (hu : P.underlying t = some .string) {s : ByteArray}
    (hx : st.ev x = .sc (.string s)) (hK : asNat? st lo 0 fun l => asNat? st hi s.size fun h => l ≤ h ∧ h ≤ s.size ∧ K ⟨.sc (.string (s.extract l h)), [], []⟩) : Good P cx st Fr nid o a W K Q := by
  have ex := h.ev x
  rw [hx] at ex
  have ex : a.eval x = .string s := ex
  obtain ⟨l, hK, hl⟩ := asNat?_eq h hK
  obtain ⟨hh, hK, hr⟩ := asNat?_eq h hK
  obtain ⟨h1, h2, hK⟩ := hK
  refine good_v h hd (s := Instr.sliceAt t (a.eval x) (lo.map a.eval) (hi.map a.eval) none) (by simp [execOp, ho]) (v := .string (s.extract l hh)) ?_ (av := .sc (.string (s.extract l hh))) rfl (fun id _ => sc_ids _ id) hK
  rw [ex]
  simp [Instr.sliceAt, Instr.slice, Sem.run_bind, run_under hu, Result.andThen, run_bounds hl hr h1 h2, Sem.run_pure]

theorem good_convert_int (h : InvS cx st sh a W Fr) (hd : ∀ d', o.dst = some d' → d' < cx.n) {s d : TypeId} {x : Operand} (ho : o.op = .convert s d x) {k1 k : IntKind} (hs : P.underlying s = some (.int k1)) (hdd : P.underlying d = some (.int k)) {ik : IntKind} {n : Int}
    (hx : st.ev x = .sc (.int ik n)) (hK : K ⟨.sc (.int k (k.wrap n)), [], []⟩) : Good P cx st Fr nid o a W K Q := by
  have ex := h.ev x
  rw [hx] at ex
  have ex : a.eval x = .int ik n := ex
  refine good_v h hd (s := convert s d (a.eval x)) (by simp [execOp, ho]) (v := .int k (k.wrap n)) ?_ (av := .sc (.int k (k.wrap n))) rfl (fun id _ => sc_ids _ id) hK
  rw [ex]
  simp [convert, Sem.run_bind, run_under hs, run_under hdd, Result.andThen, Conv.intToInt, Sem.run_pure]
theorem good_convert_str (h : InvS cx st sh a W Fr) (hd : ∀ d', o.dst = some d' → d' < cx.n) {s d : TypeId} {x : Operand} (ho : o.op = .convert s d x) (hs : P.underlying s = some .string) (hdd : P.underlying d = some .string) {b : ByteArray}
    (hx : st.ev x = .sc (.string b)) (hK : K ⟨.sc (.string b), [], []⟩) : Good P cx st Fr nid o a W K Q := by
  have ex := h.ev x
  rw [hx] at ex
  have ex : a.eval x = .string b := ex
  refine good_v h hd (s := convert s d (a.eval x)) (by simp [execOp, ho]) (v := .string b) ?_ (av := .sc (.string b)) rfl (fun id _ => sc_ids _ id) hK
  rw [ex]
  simp [convert, Sem.run_bind, run_under hs, run_under hdd, Result.andThen, Sem.run_pure]

theorem good_minmax (h : InvS cx st sh a W Fr) (hd : ∀ d', o.dst = some d' → d' < cx.n) {b : Builtin} {x y : Operand} {tys : Array TypeId} (ho : o.op = .call ⟨.builtin b, #[x, y], tys⟩) {k k' : IntKind} {m n : Int} (hx : st.ev x = .sc (.int k m)) (hy : st.ev y = .sc (.int k' n))
    {r : Int} (hb : (b = .max ∧ r = if n > m then n else m) ∨ (b = .min ∧ r = if n < m then n else m)) (hK : K ⟨.sc (.int k r), [], []⟩) : Good P cx st Fr nid o a W K Q := by
  have ex := h.ev x
  rw [hx] at ex
  have ex : a.eval x = .int k m := ex
  have ey := h.ev y
  rw [hy] at ey
  have ey : a.eval y = .int k' n := ey
  refine good_builtin h hd ho (v := .int k r) ?_ (av := .sc (.int k r)) rfl (fun id _ => sc_ids _ id) hK
  rcases hb with ⟨rfl, rfl⟩ | ⟨rfl, rfl⟩
  · simp [builtin, Builtin.max_, ex, ey, Builtin.max2, Sem.run_bind, Result.andThen, Sem.run_pure]
  · simp [builtin, Builtin.min_, ex, ey, Builtin.min2, Sem.run_bind, Result.andThen, Sem.run_pure]

theorem varIds_rep (h : InvS cx st sh a W Fr) : ∀ (xs : List Operand) (ids : List Nat), varIds xs st = some ids →
    All2 (fun (id : Nat) (u : Value) => ∀ fs, st.vars id = some fs → u = .pointer (some ⟨sh.β id, 0, none⟩)) ids (xs.map a.eval) ∧ ∀ id ∈ ids, ¬ Fr id
  | [], ids, e => by simp [varIds] at e; subst e; exact ⟨trivial, by simp⟩
  | x :: r, ids, e => by
    unfold varIds at e
    split at e
    · rename_i id ids' hx hr
      simp only [Option.some.injEq] at e; subst e
      obtain ⟨h1, h2⟩ := varIds_rep h r ids' hr
      have ex := h.ev x
      rw [hx] at ex
      refine ⟨⟨fun fs hf => ex fs hf, h1⟩, fun id' hm hf => ?_⟩
      rcases List.mem_cons.mp hm with rfl | hm
      · have := h.ev_ids x hf
        rw [hx] at this
        exact this (by simp [AV.ids, AV.svs, Pk.svs, SV.ids])
      · exact h2 id' hm hf
    · cases e
theorem good_makeFunc (h : InvS cx st sh a W Fr) (hd : ∀ d', o.dst = some d' → d' < cx.n) {f : FuncId} {captured : Array Operand} (ho : o.op = .makeFunc (.func f) #[] captured) {ids : List Nat} (hx : varIds captured.toList st = some ids) (hK : K ⟨.one (.fnv f ids), [], []⟩) :
    Good P cx st Fr nid o a W K Q := by
  obtain ⟨h1, h2⟩ := varIds_rep h _ _ hx
  refine good_v h hd (s := Instr.makeFunc (.func f) #[] (captured.map a.eval)) (by simp [execOp, ho]) (v := .func (.func f) #[] (captured.map a.eval)) (by simp [Instr.makeFunc, Sem.run_pure]) (av := .one (.fnv f ids)) ⟨_, rfl, by simpa using h1⟩ (fun id hf hm => h2 id (by simpa [AV.ids, AV.svs, Pk.svs, SV.ids] using hm) hf) hK
end cuts
end Go.Proofs.Ytkcbnbbbijlhcai.A
