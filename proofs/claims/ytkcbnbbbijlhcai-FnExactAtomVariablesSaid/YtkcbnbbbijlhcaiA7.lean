/- THE ABSTRACT SEMANTICS IS SOUND, third part: operations that leave memory alone. Conditions: none. -/
import Derived.Test.YtkcbnbbbijlhcaiA6
import Derived.Laws.Cells
import Derived.Laws.CopyRow
namespace Go.Proofs.Ytkcbnbbbijlhcai.A
open Go
set_option linter.unusedSimpArgs false

section runs
variable {P : Program} {W : World}
theorem run_under {t : TypeId} {d : TypeDesc} (h : P.underlying t = some d) : (underlying t).run P W = .ok d W := by
  simp [underlying, program, Sem.run_bind, Sem.run, h, Result.andThen]
theorem run_info {t : TypeId} {i : TypeInfo} (h : P.info? t = some i) : (typeInfo t).run P W = .ok i W := by
  simp [typeInfo, program, Sem.run_bind, Sem.run, h, Result.andThen]
theorem run_size {t : TypeId} {i : TypeInfo} (h : P.info? t = some i) : (sizeOf t).run P W = .ok i.size W := by
  simp [sizeOf, Sem.run_bind, run_info h, Result.andThen]
theorem aggOf_some {t : TypeId} {n : Option Nat} (h : aggOf P t = some n) : (isAgg t).run P W = .ok n.isSome W ∧ (sizeOf t).run P W = .ok (n.getD 1) W := by
  unfold aggOf at h
  split at h
  · rename_i fs i h1 h2
    simp only [Option.some.injEq] at h; subst h
    exact ⟨by simp [isAgg, Sem.run_bind, run_under h1, Result.andThen], by rw [run_size h2]; rfl⟩
  · rename_i n e i h1 h2
    simp only [Option.some.injEq] at h; subst h
    exact ⟨by simp [isAgg, Sem.run_bind, run_under h1, Result.andThen], by rw [run_size h2]; rfl⟩
  · rename_i d i h1 h2 h3 h4
    split at h
    · rename_i hs
      simp only [Option.some.injEq] at h; subst h
      refine ⟨?_, by rw [run_size h4]; simp [hs]⟩
      simp only [isAgg, Sem.run_bind, run_under h3, Result.andThen]
      cases d <;> simp_all
    · cases h
  · cases h
  · cases h
theorem add_mk (b o j : Nat) : (⟨b, o, none⟩ : Addr).add j = ⟨b, o + j, none⟩ := by
  unfold Addr.add; split <;> simp_all
theorem run_load1 {t : TypeId} (h : aggOf P t = some none) {a : Addr} {v : Value} (hc : W.cell? a = some v) : (loadVar t a).run P W = .ok v W := by
  simp [loadVar, Sem.run_bind, (aggOf_some (W := W) h).1, Result.andThen, load, Sem.run, hc]
theorem run_loadn {t : TypeId} {n : Nat} (h : aggOf P t = some (some n)) {b o : Nat} {cs : List Value} (hl : cs.length = n) (hc : ∀ (j : Nat) (v : Value), cs[j]? = some v → W.cell? ⟨b, o + j, none⟩ = some v) :
    (loadVar t ⟨b, o, none⟩).run P W = .ok (.agg cs.toArray) W := by
  subst hl
  have := run_loadCells_list (P := P) W ⟨b, o, none⟩ cs (fun j v hj => by rw [add_mk]; exact hc j v hj)
  simp [loadVar, Sem.run_bind, (aggOf_some (W := W) h).1, (aggOf_some (W := W) h).2, Result.andThen, this]
end runs

/-- What an operation must come to. -/
def Good (P : Program) (cx : Cx) (st : St) (Fr : Nat → Prop) (nid : Nat) (o : Oper) (a : Act) (W : World) (K : Eff → Prop) (Q : Exit → Act → World → Prop) : Prop :=
  o.wp P a W (fun a' W' => ∃ e sh', K e ∧ InvS cx (st.app o.dst e) sh' a' W' (fun id => Fr id ∧ ¬ (nid ≤ id ∧ id < nid + 64))) Q

section pure
variable {P : Program} {cx : Cx} {st : St} {sh : Sh} {a : Act} {W : World} {Fr : Nat → Prop} {nid : Nat} {o : Oper} {K : Eff → Prop} {Q : Exit → Act → World → Prop}
theorem InvS.ev (h : InvS cx st sh a W Fr) (x : Operand) : AVRep st W sh (st.ev x) (a.eval x) := by
  cases x with
  | tmp t => exact h.slots t
  | const v => exact rfl
  | func f => exact ⟨#[], rfl, trivial⟩
  | global g => exact trivial
theorem InvS.ev_ids (h : InvS cx st sh a W Fr) (x : Operand) {id : Nat} (hid : Fr id) : id ∉ (st.ev x).ids := by
  cases x with
  | tmp t => exact (h.fresh id hid).2.2.1 t
  | const v => simp [St.ev, AV.ids, AV.svs, Pk.svs, SV.ids]
  | func f => simp [St.ev, AV.ids, AV.svs, Pk.svs, SV.ids]
  | global g => simp [St.ev, AV.ids, AV.svs, Pk.svs, SV.ids]

theorem good_value (h : InvS cx st sh a W Fr) (hd : ∀ d', o.dst = some d' → d' < cx.n) {v : Value} (hr : (execOp a.eval o).run P W = .ok (.value v) W) {av : AV} (hv : AVRep st W sh av v)
    (hid : ∀ id, Fr id → id ∉ av.ids) (hK : K ⟨av, [], []⟩) : Good P cx st Fr nid o a W K Q := by
  unfold Good Oper.wp
  rw [hr]
  exact ⟨_, sh, hK, (h.put hd hv hid).less fun id hf => hf.1⟩
theorem good_v (h : InvS cx st sh a W Fr) (hd : ∀ d', o.dst = some d' → d' < cx.n) {s : Sem Value} (he : execOp a.eval o = (do pure (.value (← s)))) {v : Value} (hr : s.run P W = .ok v W) {av : AV} (hv : AVRep st W sh av v)
    (hid : ∀ id, Fr id → id ∉ av.ids) (hK : K ⟨av, [], []⟩) : Good P cx st Fr nid o a W K Q :=
  good_value h hd (by rw [he]; simp [Sem.run_bind, hr, Result.andThen]) hv hid hK

theorem sc_ids (v : Value) (id : Nat) : id ∉ (AV.sc v).ids := by simp [AV.ids, AV.svs, Pk.svs, SV.ids]

theorem good_move (h : InvS cx st sh a W Fr) (hd : ∀ d', o.dst = some d' → d' < cx.n) {x : Operand} (ho : o.op = .move x ∨ o.op = .assign x) (hK : K ⟨st.ev x, [], []⟩) : Good P cx st Fr nid o a W K Q := by
  refine good_value h hd (v := a.eval x) ?_ (h.ev x) (fun id hf => h.ev_ids x hf) hK
  rcases ho with ho | ho <;> simp [execOp, ho, Sem.run]

theorem good_pick (h : InvS cx st sh a W Fr) (hd : ∀ d', o.dst = some d' → d' < cx.n) {c x y : Operand} (ho : o.op = .pick c x y) {t : Bool} (hc : st.ev c = .sc (.bool t))
    (hK : K ⟨if t then st.ev x else st.ev y, [], []⟩) : Good P cx st Fr nid o a W K Q := by
  have e := h.ev c
  rw [hc] at e
  have e' : a.eval c = .bool t := e
  refine good_value h hd (v := if t then a.eval x else a.eval y) ?_ ?_ ?_ hK
  · simp [execOp, ho, Sem.run_bind, e', asBool, Sem.run, Result.andThen]
  · cases t
    · exact h.ev y
    · exact h.ev x
  · intro id hf
    cases t
    · exact h.ev_ids y hf
    · exact h.ev_ids x hf

theorem run_eqBool {xT : TypeId} (h : P.underlying xT = some .bool) (a b : Bool) : (Op.equal xT (.bool a) (.bool b)).run P W = .ok (a == b) W := by
  have e : Op.maxDepth = 9999 + 1 := rfl
  rw [Op.equal, e, Op.equalIn]
  simp only [Sem.run_bind, run_under h, Result.andThen]
  rfl
theorem run_binOp {xT : TypeId} {op : BinOp} {x y : Value} {K : Value → Prop} (h : binK P xT op x y K) : ∃ v, K v ∧ ((do eqGuard op xT (.tmp 0) (.tmp 0) x y; binOp op xT x y) : Sem Value).run P W = .ok v W ∧
    ∀ ox oy, ((do eqGuard op xT ox oy x y; binOp op xT x y) : Sem Value).run P W = .ok v W := by
  have key : ∃ v, K v ∧ (binOp op xT x y).run P W = .ok v W ∧ ∀ ox oy, (eqGuard op xT ox oy x y).run P W = .ok () W := by
    unfold binK at h
    split at h
    · rename_i k a k' b
      have hg : ∀ ox oy, (eqGuard op xT ox oy (.int k a) (.int k' b)).run P W = .ok () W := by
        intro ox oy; unfold eqGuard; cases op <;> simp [Sem.run]
      split at h
      · rename_i hs
        cases op <;> simp [isShift] at hs <;> simp only [shiftK] at h <;> refine ⟨_, h.2, ?_, hg⟩ <;> simp [binOp, Op.shift, Sem.run, show ¬ b < 0 by omega]
      · rename_i hs
        obtain ⟨hk, h⟩ := h
        subst hk
        cases op <;> simp [isShift] at hs <;> simp only [intK] at h <;> first
          | exact h.elim
          | exact ⟨_, h, by simp [binOp, Op.intArith, Op.intBits, Op.intCmp, Sem.run], hg⟩
          | exact ⟨_, h.2, by simp [binOp, Op.intDiv, Sem.run, h.1], hg⟩
    · rename_i a b
      have hg : ∀ ox oy, (eqGuard op xT ox oy (.string a) (.string b)).run P W = .ok () W := by
        intro ox oy; unfold eqGuard; cases op <;> simp [Sem.run]
      cases op <;> simp only [strK] at h <;> first
        | exact h.elim
        | exact ⟨_, h, by simp [binOp, Op.stringOp, Sem.run], hg⟩
        | (refine ⟨_, h.2, ?_, hg⟩
           have hh : ¬ (((a.size + b.size : Nat) : Int) > IntKind.i64.max) := by
             have : IntKind.i64.max = 9223372036854775807 := by decide
             rw [this]; omega
           simp only [binOp, Op.stringOp, if_neg hh]; rfl)
    · rename_i a b
      have hg : ∀ ox oy, (eqGuard op xT ox oy (.bool a) (.bool b)).run P W = .ok () W := by
        intro ox oy; unfold eqGuard; cases op <;> simp [Sem.run]
      cases op <;> simp only [boolK] at h <;> first
        | exact h.elim
        | (refine ⟨_, h.2, ?_, hg⟩
           simp only [binOp, Sem.run_bind, run_eqBool h.1, Result.andThen]; rfl)
    · exact h.elim
  obtain ⟨v, h1, h2, h3⟩ := key
  refine ⟨v, h1, ?_, fun ox oy => ?_⟩ <;> simp [Sem.run_bind, h3, h2, Result.andThen]

theorem good_bin (h : InvS cx st sh a W Fr) (hd : ∀ d', o.dst = some d' → d' < cx.n) {op : BinOp} {xT yT : TypeId} {x y : Operand} (ho : o.op = .binOp op xT x y yT) {u v : Value} (hx : st.ev x = .sc u) (hy : st.ev y = .sc v)
    (hK : binK P xT op u v fun r => K ⟨.sc r, [], []⟩) : Good P cx st Fr nid o a W K Q := by
  have ex := h.ev x
  rw [hx] at ex
  have ey := h.ev y
  rw [hy] at ey
  obtain ⟨r, h1, _, h2⟩ := run_binOp (P := P) (W := W) hK
  refine good_v h hd (s := do eqGuard op xT x y (a.eval x) (a.eval y); binOp op xT (a.eval x) (a.eval y)) (by simp [execOp, ho]) (v := r) ?_ (av := .sc r) rfl (fun id _ => sc_ids r id) h1
  rw [show a.eval x = u from ex, show a.eval y = v from ey]
  exact h2 x y
theorem good_un (h : InvS cx st sh a W Fr) (hd : ∀ d', o.dst = some d' → d' < cx.n) {op : UnOp} {t : TypeId} {x : Operand} (ho : o.op = .unOp op t x) {u : Value} (hx : st.ev x = .sc u)
    (hK : unK op u fun r => K ⟨.sc r, [], []⟩) : Good P cx st Fr nid o a W K Q := by
  have ex := h.ev x
  rw [hx] at ex
  have ex : a.eval x = u := ex
  cases op with
  | neg => cases u with
    | int k n => exact good_v h hd (s := Op.unary .neg (a.eval x)) (by simp [execOp, ho]) (v := .int k (k.wrap (0 - n))) (by rw [ex]; rfl) (av := .sc (.int k (k.wrap (0 - n)))) rfl (fun id _ => sc_ids _ id) hK
    | _ => exact hK.elim
  | not => cases u with
    | bool b => exact good_v h hd (s := Op.unary .not (a.eval x)) (by simp [execOp, ho]) (v := .bool (!b)) (by rw [ex]; rfl) (av := .sc (.bool (!b))) rfl (fun id _ => sc_ids _ id) hK
    | _ => exact hK.elim
  | _ => exact hK.elim
end pure

section slices
variable {P : Program} {cx : Cx} {st : St} {sh : Sh} {a : Act} {W : World} {Fr : Nat → Prop} {nid : Nat} {o : Oper} {K : Eff → Prop} {Q : Exit → Act → World → Prop}

theorem cell_get {rows : Rows} {i j : Nat} {c : Cell} (h : Rows.cell rows i j = c) (hc : c ≠ .gone) : ∃ r, rows[i]? = some r ∧ r[j]? = some c := by
  unfold Rows.cell at h
  rcases hr : rows[i]? with _ | r
  · rw [List.getD_eq_getElem?_getD, List.getD_eq_getElem?_getD, hr] at h
    simp at h; exact absurd h.symm hc
  · refine ⟨r, rfl, ?_⟩
    rw [List.getD_eq_getElem?_getD, List.getD_eq_getElem?_getD, hr] at h
    simp only [Option.getD_some] at h
    rcases hj : r[j]? with _ | c'
    · rw [hj] at h; simp at h; exact absurd h.symm hc
    · rw [hj] at h; simp at h; rw [h]
/-- What an outer slice's cell holds. -/
theorem InvS.obj_cell (h : InvS cx st sh a W Fr) {id w : Nat} {rows : Rows} (ho : st.objs id = some (w, rows)) {i j : Nat} {r : List Cell} {c : Cell} (hi : rows[i]? = some r) (hj : r[j]? = some c) :
    ∃ (b n cap : Nat) (v : Value), sh.μ id = .slice (some ⟨b, 0, none⟩) n cap ∧ sh.lab b = .own id ∧ W.cell? ⟨b, i * w + j, none⟩ = some v ∧ OwnCell W sh.lab (.inn id i j) c v := by
  obtain ⟨_, _, hc⟩ := h.objs id w rows ho
  rcases hc with ⟨A, _, hn⟩ | ⟨b, cap, c', t, e1, _, e3, e4, _, e6⟩
  · rw [hn] at hi; simp at hi
  · obtain ⟨v, g1, g2⟩ := e6 i j r c hi hj
    exact ⟨b, _, cap, v, e1, e3, by rw [cell_cells e4]; exact g1, g2⟩
theorem InvS.own_head (h : InvS cx st sh a W Fr) {id w : Nat} {rows : Rows} (ho : st.objs id = some (w, rows)) {i j s : Nat} {xs : List Value} (hc : Rows.cell rows i j = .sl s xs) (hs : 0 < s) :
    ∃ v, headAt W (sh.μ id) w i j = some v ∧ OwnSl W sh.lab (.inn id i j) xs v := by
  obtain ⟨r, hi, hj⟩ := cell_get hc (by simp)
  obtain ⟨b, n, cap, v, e1, _, e3, e4⟩ := h.obj_cell ho hi hj
  refine ⟨v, by simp only [headAt, e1]; exact e3, ?_⟩
  cases s with
  | zero => omega
  | succ s => exact e4
theorem viewOf_len {h : Value} {A : Option Addr} {n cap w off len : Nat} (e : h = .slice A n cap) : ∃ A', viewOf h w off len = .slice A' len (cap - off) := by
  subst e; simp only [viewOf]; exact ⟨_, rfl⟩
theorem lift_length (xs : List Value) : (lift xs).length = xs.length := by simp [lift]
theorem InvS.rows_len (h : InvS cx st sh a W Fr) {s : SV} {v : Value} (hv : SVRep st W sh s v) {w : Nat} {rows : Rows} (hr : st.rows s = some (w, rows)) :
    ∃ A cap, v = .slice A rows.length cap ∧ rows.length ≤ cap := by
  unfold St.rows at hr
  split at hr
  · simp only [Option.some.injEq, Prod.mk.injEq] at hr
    obtain ⟨_, rfl⟩ := hr
    obtain ⟨A, cap, e, hl, _⟩ := hv
    exact ⟨A, cap, e, hl⟩
  · rename_i id w' off len
    split at hr
    · rename_i w'' rows' ho
      simp only [Option.some.injEq, Prod.mk.injEq] at hr
      obtain ⟨_, rfl⟩ := hr
      obtain ⟨_, g2, g3⟩ := hv w'' rows' ho
      have hlen : ((rows'.drop off).take len).length = len := by simp; omega
      rcases g3 with g3 | ⟨g3, A, g4⟩
      case inr => exact ⟨A, 0, by rw [hlen, g3]; exact g4, by rw [hlen, g3]; omega⟩
      obtain ⟨_, _, hc⟩ := h.objs id w'' rows' ho
      rcases hc with ⟨A, e, hn⟩ | ⟨b, cap, c', t, e, hcap, _⟩
      · obtain ⟨A', e'⟩ := viewOf_len (w := w') (off := off) (len := len) e
        rw [hn] at g2 hlen
        refine ⟨A', 0 - off, by rw [g3, e', hn, hlen], ?_⟩
        rw [hn, hlen]; simp at g2; omega
      · obtain ⟨A', e'⟩ := viewOf_len (w := w') (off := off) (len := len) e
        exact ⟨A', cap - off, by rw [g3, e', hlen], by rw [hlen]; omega⟩
    · cases hr
  · rename_i id i j s off len
    split at hr
    · rename_i w'' rows' ho
      split at hr
      · rename_i s' xs hc
        split at hr
        · rename_i es
          subst es
          simp only [Option.some.injEq, Prod.mk.injEq] at hr
          obtain ⟨_, rfl⟩ := hr
          obtain ⟨g0, g1, hd, g2, g3⟩ := hv.2 w'' rows' xs ho hc
          have hlen : (lift ((xs.drop off).take len)).length = len := by rw [lift_length]; simp; omega
          rcases g3 with g3 | ⟨g3, A, g4⟩
          case inr => exact ⟨A, 0, by rw [hlen, g3]; exact g4, by rw [hlen, g3]; omega⟩
          obtain ⟨v', k1, k2⟩ := h.own_head ho hc g0
          rw [g2] at k1; cases k1
          rcases k2 with ⟨A, e, hn⟩ | ⟨b, cap, c', t, e, hcap, _⟩
          · obtain ⟨A', e'⟩ := viewOf_len (w := 1) (off := off) (len := len) e
            rw [hn] at g1 hlen
            refine ⟨A', 0 - off, by rw [g3, e', hn, hlen], ?_⟩
            rw [hn, hlen]; simp at g1; omega
          · obtain ⟨A', e'⟩ := viewOf_len (w := 1) (off := off) (len := len) e
            exact ⟨A', cap - off, by rw [g3, e', hlen], by rw [hlen]; omega⟩
        · cases hr
      · cases hr
    · cases hr
  · cases hr

theorem elemOf_some {t w bytes : Nat} {z : List Value} (h : elemOf' P t = some (w, bytes, z)) : ∃ e i, P.underlying t = some (.slice e) ∧ P.info? e = some i ∧ i.size = w ∧ i.bytes = bytes ∧
    zeroOf P e = some z ∧ z.length = w ∧ 0 < w ∧ 0 < bytes ∧ bytes ≤ 4096 := by
  unfold elemOf' at h
  split at h
  · rename_i e he
    split at h
    · rename_i i z' hi hz
      split at h
      · rename_i hc
        simp only [Option.some.injEq, Prod.mk.injEq] at h
        obtain ⟨rfl, rfl, rfl⟩ := h
        exact ⟨e, i, he, hi, rfl, rfl, hz, hc.1, hc.2.1, hc.2.2.1, hc.2.2.2.1⟩
      · cases h
    · cases h
  · cases h
theorem elemOf_zero {t w bytes : Nat} {z : List Value} (h : elemOf' P t = some (w, bytes, z)) : ∀ v ∈ z, v.oneCell' = true := by
  unfold elemOf' at h
  split at h
  · split at h
    · split at h
      · rename_i hc
        simp only [Option.some.injEq, Prod.mk.injEq] at h
        obtain ⟨rfl, rfl, rfl⟩ := h
        exact fun v hv => List.all_eq_true.mp hc.2.2.2.2 v hv
      · cases h
    · cases h
  · cases h
theorem ownCell_one {lab : Nat → Lab} {L : Lab} {c : Cell} {v : Value} (h : OwnCell W lab L c v) : v.oneCell' = true := by
  cases c with
  | sc x => obtain ⟨rfl, h⟩ := h; exact h
  | gone => exact h
  | sl s xs => cases s with
    | zero => obtain ⟨A, cap, e, _⟩ := h; rw [e]; rfl
    | succ s => rcases h with ⟨A, e, _⟩ | ⟨b, cap, c, t, e, _⟩ <;> rw [e] <;> rfl
theorem imCell_one {lab : Nat → Lab} {c : Cell} {v : Value} (h : ImCell W lab c v) : v.oneCell' = true := by
  cases c with
  | sc x => obtain ⟨rfl, h⟩ := h; exact h
  | gone => exact h
  | sl s xs => obtain ⟨A, cap, e, _⟩ := h; rw [e]; rfl

theorem good_builtin (h : InvS cx st sh a W Fr) (hd : ∀ d', o.dst = some d' → d' < cx.n) {b : Builtin} {args : Array Operand} {tys : Array TypeId} (ho : o.op = .call ⟨.builtin b, args, tys⟩) {v : Value}
    (hr : (builtin b tys o.type (args.map fun | .const _ => true | _ => false) (args.map a.eval)).run P W = .ok (.value v) W) {av : AV} (hv : AVRep st W sh av v) (hid : ∀ id, Fr id → id ∉ av.ids) (hK : K ⟨av, [], []⟩) :
    Good P cx st Fr nid o a W K Q := by
  refine good_value h hd ?_ hv hid hK
  simp only [execOp, ho, resolve, invoke, Sem.run_bind]
  exact hr

theorem good_len_rows (h : InvS cx st sh a W Fr) (hd : ∀ d', o.dst = some d' → d' < cx.n) {x : Operand} {tys : Array TypeId} (ho : o.op = .call ⟨.builtin .len, #[x], tys⟩) {s : SV} (hx : st.ev x = .one s) {w : Nat} {rows : Rows}
    (hr : st.rows s = some (w, rows)) (ht : ((tys[0]?).bind (elemOf' P)).isSome = true) (hK : K ⟨.sc (.int .i64 rows.length), [], []⟩) : Good P cx st Fr nid o a W K Q := by
  have ex := h.ev x
  rw [hx] at ex
  obtain ⟨A, cap, e, _⟩ := h.rows_len ex hr
  rcases ht0 : tys[0]? with _ | t
  · rw [ht0] at ht; simp at ht
  · rw [ht0] at ht
    simp only [Option.bind_some] at ht
    obtain ⟨⟨w', bytes, z⟩, hz⟩ := Option.isSome_iff_exists.mp ht
    obtain ⟨el, i, hu, _⟩ := elemOf_some hz
    refine good_builtin h hd ho (v := .int .i64 rows.length) ?_ (av := .sc (.int .i64 rows.length)) rfl (fun id _ => sc_ids _ id) hK
    simp [builtin, Builtin.len_, ht0, e, Sem.run_bind, run_under hu, Result.andThen, goInt, Sem.run]
theorem good_len_nil (h : InvS cx st sh a W Fr) (hd : ∀ d', o.dst = some d' → d' < cx.n) {x : Operand} {tys : Array TypeId} (ho : o.op = .call ⟨.builtin .len, #[x], tys⟩) {v : Value} (hx : st.ev x = .sc v) (hn : isNil v = true)
    (ht : ((tys[0]?).bind (elemOf' P)).isSome = true) (hK : K ⟨.sc (.int .i64 0), [], []⟩) : Good P cx st Fr nid o a W K Q := by
  have ex := h.ev x
  rw [hx] at ex
  have ex : a.eval x = v := ex
  have ev : v = .slice none 0 0 := by unfold isNil at hn; split at hn <;> simp_all
  rcases ht0 : tys[0]? with _ | t
  · rw [ht0] at ht; simp at ht
  · rw [ht0] at ht
    simp only [Option.bind_some] at ht
    obtain ⟨⟨w', bytes, z⟩, hz⟩ := Option.isSome_iff_exists.mp ht
    obtain ⟨el, i, hu, _⟩ := elemOf_some hz
    refine good_builtin h hd ho (v := .int .i64 0) ?_ (av := .sc (.int .i64 0)) rfl (fun id _ => sc_ids _ id) hK
    simp [builtin, Builtin.len_, ht0, ex, ev, Sem.run_bind, run_under hu, Result.andThen, goInt, Sem.run]
theorem good_len_str (h : InvS cx st sh a W Fr) (hd : ∀ d', o.dst = some d' → d' < cx.n) {x : Operand} {tys : Array TypeId} (ho : o.op = .call ⟨.builtin .len, #[x], tys⟩) {s : ByteArray} (hx : st.ev x = .sc (.string s))
    (ht : (tys[0]?).bind P.underlying = some .string) (hK : K ⟨.sc (.int .i64 s.size), [], []⟩) : Good P cx st Fr nid o a W K Q := by
  have ex := h.ev x
  rw [hx] at ex
  have ex : a.eval x = .string s := ex
  rcases ht0 : tys[0]? with _ | t
  · rw [ht0] at ht; simp at ht
  · rw [ht0] at ht
    simp only [Option.bind_some] at ht
    refine good_builtin h hd ho (v := .int .i64 s.size) ?_ (av := .sc (.int .i64 s.size)) rfl (fun id _ => sc_ids _ id) hK
    simp [builtin, Builtin.len_, ht0, ex, Sem.run_bind, run_under ht, Result.andThen, goInt, Sem.run]
end slices

end Go.Proofs.Ytkcbnbbbijlhcai.A
