/- THE ABSTRACT SEMANTICS, HOW IT RUNS: one equation for each step, collected in the simp set 'go_sem'. Conditions: none. -/
import Derived.Test.YtkcbnbbbijlhcaiA3
namespace Go.Proofs.Ytkcbnbbbijlhcai.A
open Go
set_option linter.unusedSimpArgs false
set_option linter.unusedVariables false

/-! What follows is always a name that is given its last argument late: simp has nothing to do in it before. -/
def ap (P : Program) (ds : List (Option Tmp)) (base i : Nat) (r : List Oper) (st : St) (d : Option Tmp) (K : St → Prop) (e : Eff) : Prop := runK P ds base (i + 1) r (st.app d e) K
def stepK (K : St → Prop) (n : Nat) (st : St) : Prop := K { st with next := n }

section run
variable {P : Program} {ds : List (Option Tmp)} {base i : Nat} {r : List Oper} {st : St} {K : St → Prop} {d : Option Tmp} {ty : TypeId} {pos : String} {after : Array Edge}
theorem ap_eq {e : Eff} : ap P ds base i r st d K e = runK P ds base (i + 1) r (st.app d e) K := rfl
theorem runK_nil : runK P ds base i [] st K = K st := rfl
theorem runK_cons {op : Op} : runK P ds base i (⟨d, op, ty, pos, after, none⟩ :: r) st K = effK P st (base + 64 * i) ⟨d, op, ty, pos, after, none⟩ (ap P ds base i r st d K) := rfl
def guardK (P : Program) (ds : List (Option Tmp)) (base i : Nat) (o : Oper) (r : List Oper) (st : St) (K : St → Prop) (x : Option Bool) (want : Bool) : Prop :=
  match x with
  | some b => if b = want then effK P st (base + 64 * i) o (ap P ds base i r st o.dst K) else runK P ds base (i + 1) r (st.put o.dst .un) K
  | none => False
theorem runK_guard {op : Op} {g : Nat} {want : Bool} : runK P ds base i (⟨d, op, ty, pos, after, some (g, want)⟩ :: r) st K =
    guardK P ds base i ⟨d, op, ty, pos, after, some (g, want)⟩ r st K (yieldOf st (nth ds g)) want := rfl
theorem guard_tt {o : Oper} : guardK P ds base i o r st K (some true) true = effK P st (base + 64 * i) o (ap P ds base i r st o.dst K) := rfl
theorem guard_ff {o : Oper} : guardK P ds base i o r st K (some false) false = effK P st (base + 64 * i) o (ap P ds base i r st o.dst K) := rfl
theorem guard_tf {o : Oper} : guardK P ds base i o r st K (some true) false = runK P ds base (i + 1) r (st.put o.dst .un) K := rfl
theorem guard_ft {o : Oper} : guardK P ds base i o r st K (some false) true = runK P ds base (i + 1) r (st.put o.dst .un) K := rfl
theorem yieldOf_some (st : St) (t : Nat) : yieldOf st (some (some t)) = boolOf (st.slots t) := rfl
theorem boolOf_eq (b : Bool) : boolOf (.sc (.bool b)) = some b := rfl
theorem nth_cons {α : Type} (a : α) (l : List α) (k : Nat) : nth (a :: l) k = if k = 0 then some a else nth l (k - 1) := rfl
theorem stepK_eq {n : Nat} : stepK K n st = K { st with next := n } := rfl
end run

theorem app_slots (st : St) (d : Tmp) (e : Eff) (t : Nat) : (st.app (some d) e).slots t = if t = d then e.v else st.slots t := by
  simp only [St.app, Option.some.injEq]
theorem app_slots_none (st : St) (e : Eff) (t : Nat) : (st.app none e).slots t = st.slots t := by
  simp [St.app]
theorem app_vars (st : St) (d : Option Tmp) (e : Eff) : (st.app d e).vars = upd st.vars e.vw := rfl
theorem app_objs (st : St) (d : Option Tmp) (e : Eff) : (st.app d e).objs = upd st.objs e.ow := rfl
theorem app_next (st : St) (d : Option Tmp) (e : Eff) : (st.app d e).next = st.next := rfl
theorem put_slots (st : St) (d : Tmp) (v : AV) (t : Nat) : (st.put (some d) v).slots t = if t = d then v else st.slots t := by
  simp only [St.put, Option.some.injEq]
theorem put_vars (st : St) (d : Option Tmp) (v : AV) : (st.put d v).vars = st.vars := rfl
theorem put_objs (st : St) (d : Option Tmp) (v : AV) : (st.put d v).objs = st.objs := rfl
theorem put_next (st : St) (d : Option Tmp) (v : AV) : (st.put d v).next = st.next := rfl
def St.step (st : St) (n : Nat) : St := { st with next := n }
theorem step_fold (st : St) (n : Nat) : ({ st with next := n } : St) = st.step n := rfl
theorem step_slots (st : St) (n : Nat) : (st.step n).slots = st.slots := rfl
theorem step_vars (st : St) (n : Nat) : (st.step n).vars = st.vars := rfl
theorem step_objs (st : St) (n : Nat) : (st.step n).objs = st.objs := rfl
theorem step_next (st : St) (n : Nat) : (st.step n).next = n := rfl
theorem stepK_step {K : St → Prop} {n : Nat} {st : St} : stepK K n st = K (st.step n) := rfl
theorem rg_still {P : Program} {ops : Array Oper} {st : St} {K : St → Prop} : Rg P ops false st K = runK P (ops.toList.map (·.dst)) st.next 0 ops.toList st (stepK K (st.next + 64 * ops.size)) := rfl
def stepD (ops : List Oper) (K : St → Prop) (n : Nat) (st : St) (tr : List Tr) : Prop := trOk ops tr = true ∧ K { st with next := n }
theorem rg_draw {P : Program} {ops : Array Oper} {st : St} {K : St → Prop} : Rg P ops true st K = runD P (ops.toList.map (·.dst)) st.next 0 ops.toList st [] (stepD ops.toList K (st.next + 64 * ops.size)) := rfl
theorem upd_nil {α : Type} (f : Nat → Option α) : upd f [] = f := rfl
theorem upd_cons {α : Type} (f : Nat → Option α) (i : Nat) (x : Option α) (r : List (Nat × Option α)) (k : Nat) : upd f ((i, x) :: r) k = if k = i then x else upd f r k := rfl
theorem ev_tmp (st : St) (t : Nat) : st.ev (.tmp t) = st.slots t := rfl
theorem ev_const (st : St) (v : Value) : st.ev (.const v) = .sc v := rfl
theorem ev_func (st : St) (f : FuncId) : st.ev (.func f) = .one (.fnv f []) := rfl

section eff
variable {P : Program} {st : St} {nid : Nat} {K : Eff → Prop} {d : Option Tmp} {ty : TypeId} {pos : String} {after : Array Edge} {g : Option (Nat × Bool)}
theorem eff_move {x : Operand} : effK P st nid ⟨d, .move x, ty, pos, after, g⟩ K = K ⟨st.ev x, [], []⟩ := rfl
theorem eff_assign {x : Operand} : effK P st nid ⟨d, .assign x, ty, pos, after, g⟩ K = K ⟨st.ev x, [], []⟩ := rfl
def pickK (c a b : AV) (K : Eff → Prop) : Prop := match c with
  | .pk (.one (.sc (.bool t))) => K ⟨if t then a else b, [], []⟩
  | _ => False
theorem eff_pick {c x y : Operand} : effK P st nid ⟨d, .pick c x y, ty, pos, after, g⟩ K = pickK (st.ev c) (st.ev x) (st.ev y) K := rfl
theorem pick_t {a b : AV} : pickK (.sc (.bool true)) a b K = K ⟨a, [], []⟩ := rfl
theorem pick_f {a b : AV} : pickK (.sc (.bool false)) a b K = K ⟨b, [], []⟩ := rfl
def allocK (z : Option (List Value)) (nid : Nat) (K : Eff → Prop) : Prop := match z with
  | some z => K ⟨.one (.vad nid 0), [], [(nid, some (z.map .sc))]⟩
  | none => False
theorem eff_alloc {e : TypeId} : effK P st nid ⟨d, .alloc e, ty, pos, after, g⟩ K = allocK (zeroOf P e) nid K := rfl
theorem allocK_eq {z : List Value} : allocK (some z) nid K = K ⟨.one (.vad nid 0), [], [(nid, some (z.map .sc))]⟩ := rfl
def boxK (st : St) (nid : Nat) (x : AV) (K : Eff → Prop) : Prop := match x with
  | .pk (.one s) => s.solid st ∧ K ⟨.one (.vad nid 0), [], [(nid, some [s])]⟩
  | .pk (.agg xs) => K ⟨.one (.vad nid 0), [], [(nid, some xs)]⟩
  | .tup _ => False
theorem eff_box {e : TypeId} {x : Operand} : effK P st nid ⟨d, .box e x, ty, pos, after, g⟩ K = boxK st nid (st.ev x) K := rfl
theorem boxK_one {s : SV} : boxK st nid (.one s) K = (s.solid st ∧ K ⟨.one (.vad nid 0), [], [(nid, some [s])]⟩) := rfl
theorem boxK_agg {s : List SV} : boxK st nid (.agg s) K = K ⟨.one (.vad nid 0), [], [(nid, some s)]⟩ := rfl
theorem solid_int {k : IntKind} {n : Int} : SV.solid st (.sc (.int k n)) = True := by simp [SV.solid, Value.oneCell']
theorem solid_bool {b : Bool} : SV.solid st (.sc (.bool b)) = True := by simp [SV.solid, Value.oneCell']
theorem solid_str {b : ByteArray} : SV.solid st (.sc (.string b)) = True := by simp [SV.solid, Value.oneCell']
theorem solid_nil : SV.solid st (.sc (.slice none 0 0)) = True := by simp [SV.solid, Value.oneCell']
theorem solid_im {w : Nat} {rows : Rows} : SV.solid st (.im w rows) = True := rfl
theorem solids_cons {s : SV} {r : List SV} : solids st (s :: r) = (s.solid st ∧ solids st r) := rfl
theorem solids_nil : solids st [] = True := rfl
attribute [go_sem] solid_int solid_bool solid_str solid_nil solid_im solids_cons solids_nil
def ldK (st : St) (n : Option (Option Nat)) (x : AV) (K : Eff → Prop) : Prop := match n, x with
  | some n, .pk (.one s) => loadK st s n fun v => K ⟨v, [], []⟩
  | _, _ => False
theorem eff_load {t : TypeId} {x : Operand} : effK P st nid ⟨d, .load t x, ty, pos, after, g⟩ K = ldK st (aggOf P t) (st.ev x) K := rfl
theorem ld_iad1 {row : List Cell} {j : Nat} : ldK st (some none) (.one (.iad row j)) K = (j < row.length ∧ K ⟨.one ((row.getD j .gone).isv), [], []⟩) := rfl
theorem ld_iadn {row : List Cell} {j n : Nat} : ldK st (some (some n)) (.one (.iad row j)) K = (j + n ≤ row.length ∧ K ⟨.agg (((row.map Cell.isv).drop j).take n), [], []⟩) := rfl
theorem ld_ipt1 {fs : List Fld} {j : Nat} : ldK st (some none) (.one (.ipt fs j)) K = (j < fs.length ∧ K ⟨.one ((fs.map Fld.sv).getD j .un), [], []⟩) := rfl
theorem ld_iptn {fs : List Fld} {j n : Nat} : ldK st (some (some n)) (.one (.ipt fs j)) K = (j + n ≤ fs.length ∧ K ⟨.agg (((fs.map Fld.sv).drop j).take n), [], []⟩) := rfl
def ldV (fs : Option (List SV)) (j : Nat) (n : Option Nat) (K : Eff → Prop) : Prop := match fs with
  | some fs => (match n with
    | some n => j + n ≤ fs.length ∧ K ⟨.agg ((fs.drop j).take n), [], []⟩
    | none => j < fs.length ∧ K ⟨.one (fs.getD j .un), [], []⟩)
  | none => False
theorem ld_vad {id j : Nat} {n : Option Nat} : ldK st (some n) (.one (.vad id j)) K = ldV (st.vars id) j n K := by
  simp only [ldK, loadK, ldV]
  rfl
theorem ldV_1 {fs : List SV} {j : Nat} : ldV (some fs) j none K = (j < fs.length ∧ K ⟨.one (fs.getD j .un), [], []⟩) := rfl
theorem ldV_n {fs : List SV} {j n : Nat} : ldV (some fs) j (some n) K = (j + n ≤ fs.length ∧ K ⟨.agg ((fs.drop j).take n), [], []⟩) := rfl
def ldO (o : Option Obj') (id i j : Nat) (n : Option Nat) (K : Eff → Prop) : Prop := match o with
  | some (_, rows) => (match n with
    | some n => i < rows.length ∧ j + n ≤ (rows.getD i []).length ∧ K ⟨.agg (((svs id i 0 (rows.getD i [])).drop j).take n), [], []⟩
    | none => i < rows.length ∧ j < (rows.getD i []).length ∧ K ⟨.one (((rows.getD i []).getD j .gone).sv id i j), [], []⟩)
  | none => False
theorem ld_oad {id i j : Nat} {n : Option Nat} : ldK st (some n) (.one (.oad id i j)) K = ldO (st.objs id) id i j n K := by
  simp only [ldK, loadK, ldO]
  rfl
theorem ldO_1 {w : Nat} {rows : Rows} {id i j : Nat} : ldO (some (w, rows)) id i j none K = (i < rows.length ∧ j < (rows.getD i []).length ∧ K ⟨.one (((rows.getD i []).getD j .gone).sv id i j), [], []⟩) := rfl
theorem ldO_n {w : Nat} {rows : Rows} {id i j n : Nat} : ldO (some (w, rows)) id i j (some n) K = (i < rows.length ∧ j + n ≤ (rows.getD i []).length ∧ K ⟨.agg (((svs id i 0 (rows.getD i [])).drop j).take n), [], []⟩) := rfl
def ldI (o : Option Obj') (i j s k : Nat) (n : Option Nat) (K : Eff → Prop) : Prop := match o with
    | some (_, rows) => match Rows.cell rows i j with
      | .sl s' xs => s' = s ∧ n = none ∧ k < xs.length ∧ K ⟨.sc (xs.getD k default), [], []⟩
      | _ => False
    | none => False
theorem ld_oin {id i j s k : Nat} {n : Option Nat} : ldK st (some n) (.one (.oin id i j s k)) K = ldI (st.objs id) i j s k n K := by
  simp only [ldK, loadK, ldI]
  rfl
def ldC (c : Cell) (s k : Nat) (K : Eff → Prop) : Prop := match c with
  | .sl s' xs => s' = s ∧ k < xs.length ∧ K ⟨.sc (xs.getD k default), [], []⟩
  | _ => False
theorem ldI_1 {w : Nat} {rows : Rows} {i j s k : Nat} : ldI (some (w, rows)) i j s k none K = ldC ((rows.getD i []).getD j .gone) s k K := by
  simp only [ldI, Rows.cell, ldC]
  split <;> simp_all
theorem ldC_sl {s s' k : Nat} {xs : List Value} : ldC (.sl s' xs) s k K = (s' = s ∧ k < xs.length ∧ K ⟨.sc (xs.getD k default), [], []⟩) := rfl
def stK (st : St) (nid : Nat) (n : Option (Option Nat)) (a x : AV) (K : Eff → Prop) : Prop := match n, a, x with
  | some n, .pk (.one s), .pk p => solids st p.svs ∧ storeK st nid s (n.getD 1) p.svs K
  | _, _, _ => False
theorem eff_store {t : TypeId} {x y : Operand} : effK P st nid ⟨d, .store t x y, ty, pos, after, g⟩ K = stK st nid (aggOf P t) (st.ev x) (st.ev y) K := rfl
def stV (fs : Option (List SV)) (id j n : Nat) (xs : List SV) (K : Eff → Prop) : Prop := xs.length = n ∧ match fs with
  | some fs => j + n ≤ fs.length ∧ K ⟨.un, [], [(id, some (setRange fs j xs))]⟩
  | none => False
theorem st_vad1 {id j : Nat} {n : Option Nat} {x : SV} : stK st nid (some n) (.one (.vad id j)) (.one x) K = (solids st [x] ∧ stV (st.vars id) id j (n.getD 1) [x] K) := rfl
theorem st_vadn {id j : Nat} {n : Option Nat} {xs : List SV} : stK st nid (some n) (.one (.vad id j)) (.agg xs) K = (solids st xs ∧ stV (st.vars id) id j (n.getD 1) xs K) := rfl
theorem stV_eq {fs : List SV} {id j n : Nat} {xs : List SV} : stV (some fs) id j n xs K = (xs.length = n ∧ j + n ≤ fs.length ∧ K ⟨.un, [], [(id, some (setRange fs j xs))]⟩) := rfl
def bopK (P : Program) (xT : TypeId) (op : BinOp) (x y : AV) (K : Eff → Prop) : Prop := match x, y with
  | .pk (.one (.sc a)), .pk (.one (.sc b)) => binK P xT op a b fun v => K ⟨.sc v, [], []⟩
  | _, _ => False
theorem eff_bin {op : BinOp} {xT yT : TypeId} {x y : Operand} : effK P st nid ⟨d, .binOp op xT x y yT, ty, pos, after, g⟩ K = bopK P xT op (st.ev x) (st.ev y) K := rfl
section
variable {xT : TypeId} {k k' : IntKind} {a b : Int} {s t : ByteArray} {p q : Bool}
theorem bop_add : bopK P xT .add (.sc (.int k a)) (.sc (.int k b)) K = K ⟨.sc (.int k (k.wrap (a + b))), [], []⟩ := by simp [bopK, binK, isShift, intK]
theorem bop_sub : bopK P xT .sub (.sc (.int k a)) (.sc (.int k b)) K = K ⟨.sc (.int k (k.wrap (a - b))), [], []⟩ := by simp [bopK, binK, isShift, intK]
theorem bop_mul : bopK P xT .mul (.sc (.int k a)) (.sc (.int k b)) K = K ⟨.sc (.int k (k.wrap (a * b))), [], []⟩ := by simp [bopK, binK, isShift, intK]
theorem bop_quo : bopK P xT .quo (.sc (.int k a)) (.sc (.int k b)) K = (b ≠ 0 ∧ K ⟨.sc (.int k (k.wrap (a.tdiv b))), [], []⟩) := by simp [bopK, binK, isShift, intK]
theorem bop_rem : bopK P xT .rem (.sc (.int k a)) (.sc (.int k b)) K = (b ≠ 0 ∧ K ⟨.sc (.int k (a.tmod b)), [], []⟩) := by simp [bopK, binK, isShift, intK]
theorem bop_shr : bopK P xT .shr (.sc (.int k a)) (.sc (.int k' b)) K = (0 ≤ b ∧ K ⟨.sc (.int k (a.fdiv (2 ^ (min b.toNat k.bits)))), [], []⟩) := by simp [bopK, binK, isShift, shiftK]
theorem bop_shl : bopK P xT .shl (.sc (.int k a)) (.sc (.int k' b)) K = (0 ≤ b ∧ K ⟨.sc (.int k (k.wrap (a * 2 ^ (min b.toNat k.bits)))), [], []⟩) := by simp [bopK, binK, isShift, shiftK]
theorem bop_and : bopK P xT .and (.sc (.int k a)) (.sc (.int k b)) K = K ⟨.sc (.int k (k.wrap (BitVec.ofInt k.bits a &&& BitVec.ofInt k.bits b).toNat)), [], []⟩ := by simp [bopK, binK, isShift, intK]
theorem bop_xor : bopK P xT .xor (.sc (.int k a)) (.sc (.int k b)) K = K ⟨.sc (.int k (k.wrap (BitVec.ofInt k.bits a ^^^ BitVec.ofInt k.bits b).toNat)), [], []⟩ := by simp [bopK, binK, isShift, intK]
theorem bop_eql : bopK P xT .eql (.sc (.int k a)) (.sc (.int k b)) K = K ⟨.sc (.bool (a == b)), [], []⟩ := by simp [bopK, binK, isShift, intK]
theorem bop_neq : bopK P xT .neq (.sc (.int k a)) (.sc (.int k b)) K = K ⟨.sc (.bool (a != b)), [], []⟩ := by simp [bopK, binK, isShift, intK]
theorem bop_lss : bopK P xT .lss (.sc (.int k a)) (.sc (.int k b)) K = K ⟨.sc (.bool (decide (a < b))), [], []⟩ := by simp [bopK, binK, isShift, intK]
theorem bop_leq : bopK P xT .leq (.sc (.int k a)) (.sc (.int k b)) K = K ⟨.sc (.bool (decide (a ≤ b))), [], []⟩ := by simp [bopK, binK, isShift, intK]
theorem bop_gtr : bopK P xT .gtr (.sc (.int k a)) (.sc (.int k b)) K = K ⟨.sc (.bool (decide (b < a))), [], []⟩ := by simp [bopK, binK, isShift, intK]
theorem bop_geq : bopK P xT .geq (.sc (.int k a)) (.sc (.int k b)) K = K ⟨.sc (.bool (decide (b ≤ a))), [], []⟩ := by simp [bopK, binK, isShift, intK]
theorem bops_add : bopK P xT .add (.sc (.string s)) (.sc (.string t)) K = (s.size + t.size ≤ 9223372036854775807 ∧ K ⟨.sc (.string (s ++ t)), [], []⟩) := rfl
theorem bops_eql : bopK P xT .eql (.sc (.string s)) (.sc (.string t)) K = K ⟨.sc (.bool (s.toList == t.toList)), [], []⟩ := rfl
theorem bops_neq : bopK P xT .neq (.sc (.string s)) (.sc (.string t)) K = K ⟨.sc (.bool (!(s.toList == t.toList))), [], []⟩ := rfl
theorem bops_geq : bopK P xT .geq (.sc (.string s)) (.sc (.string t)) K = K ⟨.sc (.bool (!(Op.bytesLess s.toList t.toList))), [], []⟩ := rfl
theorem bopb_eql : bopK P xT .eql (.sc (.bool p)) (.sc (.bool q)) K = (P.underlying xT = some .bool ∧ K ⟨.sc (.bool (p == q)), [], []⟩) := rfl
theorem bopb_neq : bopK P xT .neq (.sc (.bool p)) (.sc (.bool q)) K = (P.underlying xT = some .bool ∧ K ⟨.sc (.bool (!(p == q))), [], []⟩) := rfl
end
def uopK (op : UnOp) (x : AV) (K : Eff → Prop) : Prop := match x with
  | .pk (.one (.sc a)) => unK op a fun v => K ⟨.sc v, [], []⟩
  | _ => False
theorem eff_un {op : UnOp} {t : TypeId} {x : Operand} : effK P st nid ⟨d, .unOp op t x, ty, pos, after, g⟩ K = uopK op (st.ev x) K := rfl
theorem uop_not {b : Bool} : uopK .not (.sc (.bool b)) K = K ⟨.sc (.bool (!b)), [], []⟩ := rfl
theorem uop_neg {k : IntKind} {n : Int} : uopK .neg (.sc (.int k n)) K = K ⟨.sc (.int k (k.wrap (0 - n))), [], []⟩ := rfl
def faK (st : St) (fo : Option (Nat × Option Nat)) (x : AV) (K : Eff → Prop) : Prop := match fo, x with
    | some (off, _), .pk (.one s) => fldA st off s K
    | _, _ => False
theorem eff_fieldAddr {t : TypeId} {x : Operand} {f : Nat} : effK P st nid ⟨d, .fieldAddr t x f, ty, pos, after, g⟩ K = faK st (fieldOf P t f) (st.ev x) K := rfl
def some' {α : Type} : Option α → Prop
  | some _ => True
  | none => False
theorem some'_some {α : Type} (x : α) : some' (some x) = True := rfl
theorem fa_vad {off : Nat} {n : Option Nat} {id j : Nat} : faK st (some (off, n)) (.one (.vad id j)) K = (some' (st.vars id) ∧ K ⟨.one (.vad id (j + off)), [], []⟩) := by
  simp only [faK, fldA]; cases st.vars id <;> simp [some']
def faO (o : Option Obj') (i : Nat) (K : Prop) : Prop := match o with | some (_, rows) => i < rows.length ∧ K | none => False
theorem fa_oad {off : Nat} {n : Option Nat} {id i j : Nat} : faK st (some (off, n)) (.one (.oad id i j)) K = faO (st.objs id) i (K ⟨.one (.oad id i (j + off)), [], []⟩) := rfl
theorem faO_eq {w i : Nat} {rows : Rows} {K : Prop} : faO (some (w, rows)) i K = (i < rows.length ∧ K) := rfl
theorem fa_iad {off : Nat} {n : Option Nat} {row : List Cell} {j : Nat} : faK st (some (off, n)) (.one (.iad row j)) K = K ⟨.one (.iad row (j + off)), [], []⟩ := rfl
theorem fa_ipt {off : Nat} {n : Option Nat} {fs : List Fld} {j : Nat} : faK st (some (off, n)) (.one (.ipt fs j)) K = K ⟨.one (.ipt fs (j + off)), [], []⟩ := rfl
def iaK (st : St) (e : Option (Nat × Nat × List Value)) (x i : AV) (K : Eff → Prop) : Prop := match e, x with
    | some (e, _, _), .pk (.one s) => asNat i fun k => idxA st e s k K
    | _, _ => False
theorem eff_indexAddr {t : TypeId} {x i : Operand} : effK P st nid ⟨d, .indexAddr t x i, ty, pos, after, g⟩ K = iaK st (elemOf' P t) (st.ev x) (st.ev i) K := rfl
section
variable {e b w : Nat} {z : List Value} {rows : Rows} {ik : IntKind} {n : Nat} {i : Int}
theorem ia_im_n : iaK st (some (e, b, z)) (.one (.im w rows)) (.sc (.int ik (n : Int))) K = (w = e ∧ n < rows.length ∧ K ⟨.one (.iad (rows.getD n []) 0), [], []⟩) := by
  simp [iaK, idxA, asNat]
theorem ia_im_l : iaK st (some (e, b, z)) (.one (.im w rows)) (.sc (.int ik (OfNat.ofNat n))) K = (w = e ∧ n < rows.length ∧ K ⟨.one (.iad (rows.getD n []) 0), [], []⟩) := by
  rw [show (OfNat.ofNat n : Int) = (n : Int) from rfl, ia_im_n]
theorem ia_im_i : iaK st (some (e, b, z)) (.one (.im w rows)) (.sc (.int ik i)) K = (0 ≤ i ∧ w = e ∧ i.toNat < rows.length ∧ K ⟨.one (.iad (rows.getD i.toNat []) 0), [], []⟩) := rfl
def iaR (o : Option Obj') (P Q : Prop) : Prop := match o with | some _ => P ∧ Q | none => False
theorem ia_ref_n {id off len : Nat} : iaK st (some (e, b, z)) (.one (.ref id w off len)) (.sc (.int ik (n : Int))) K = (some' (st.objs id) ∧ w = e ∧ n < len ∧ K ⟨.one (.oad id (off + n) 0), [], []⟩) := by
  simp only [iaK, idxA, asNat, Int.natCast_nonneg, true_and, Int.toNat_natCast]
  cases st.objs id <;> simp [some']
theorem ia_ref_l {id off len : Nat} : iaK st (some (e, b, z)) (.one (.ref id w off len)) (.sc (.int ik (OfNat.ofNat n))) K = (some' (st.objs id) ∧ w = e ∧ n < len ∧ K ⟨.one (.oad id (off + n) 0), [], []⟩) := by
  rw [show (OfNat.ofNat n : Int) = (n : Int) from rfl, ia_ref_n]
theorem ia_ref_i {id off len : Nat} : iaK st (some (e, b, z)) (.one (.ref id w off len)) (.sc (.int ik i)) K = (0 ≤ i ∧ some' (st.objs id) ∧ w = e ∧ i.toNat < len ∧ K ⟨.one (.oad id (off + i.toNat) 0), [], []⟩) := by
  simp only [iaK, idxA, asNat]
  cases st.objs id <;> simp [some']
end
def lenK (P : Program) (st : St) (t : Option TypeId) (x : AV) (K : Eff → Prop) : Prop := match x with
      | .pk (.one (.sc (.string s))) => (t.bind P.underlying = some .string ∧ K ⟨.sc (.int .i64 s.size), [], []⟩)
      | .pk (.one (.sc v)) => isNil v = true ∧ (t.bind (elemOf' P)).isSome = true ∧ K ⟨.sc (.int .i64 0), [], []⟩
      | .pk (.one s) => (t.bind (elemOf' P)).isSome = true ∧ (match st.rows s with
        | some (_, rows) => K ⟨.sc (.int .i64 rows.length), [], []⟩
        | none => False)
      | _ => False
theorem eff_len {x : Operand} {t : TypeId} : effK P st nid ⟨d, .call ⟨.builtin .len, #[x], #[t]⟩, ty, pos, after, g⟩ K = lenK P st (some t) (st.ev x) K := rfl
theorem len_im {t : TypeId} {w : Nat} {rows : Rows} : lenK P st (some t) (.one (.im w rows)) K = ((elemOf' P t).isSome = true ∧ K ⟨.sc (.int .i64 rows.length), [], []⟩) := rfl
theorem len_str {t : TypeId} {s : ByteArray} : lenK P st (some t) (.sc (.string s)) K = (P.underlying t = some .string ∧ K ⟨.sc (.int .i64 s.size), [], []⟩) := rfl
theorem len_nil {t : TypeId} : lenK P st (some t) (.sc (.slice none 0 0)) K = ((elemOf' P t).isSome = true ∧ K ⟨.sc (.int .i64 0), [], []⟩) := by
  simp [lenK, isNil]
def lenR (o : Option Obj') (off len : Nat) (K : Eff → Prop) : Prop := match o with
  | some (_, rows) => K ⟨.sc (.int .i64 ((rows.drop off).take len).length), [], []⟩
  | none => False
theorem len_ref {t : TypeId} {id w off len : Nat} : lenK P st (some t) (.one (.ref id w off len)) K = ((elemOf' P t).isSome = true ∧ lenR (st.objs id) off len K) := by
  simp only [lenK, St.rows, lenR, Option.bind_some]
  cases st.objs id <;> rfl
theorem lenR_eq {w : Nat} {rows : Rows} {len : Nat} : lenR (some (w, rows)) 0 len K = K ⟨.sc (.int .i64 (rows.take len).length), [], []⟩ := rfl
def idxK (P : Program) (u : Option TypeDesc) (x i : AV) (K : Eff → Prop) : Prop := match u, x with
    | some .string, .pk (.one (.sc (.string s))) => asNat i fun k => k < s.size ∧ K ⟨.sc (.int .u8 (s.data.toList.getD k 0).toNat), [], []⟩
    | some (.array n e), .pk (.agg xs) => aggOf P e = some none ∧ xs.length = n ∧ asNat i fun k => k < n ∧ K ⟨.one (xs.getD k .un), [], []⟩
    | _, _ => False
theorem eff_index {t : TypeId} {x i : Operand} : effK P st nid ⟨d, .index t x i, ty, pos, after, g⟩ K = idxK P (P.underlying t) (st.ev x) (st.ev i) K := rfl
theorem idx_n {s : ByteArray} {ik : IntKind} {n : Nat} : idxK P (some .string) (.sc (.string s)) (.sc (.int ik (n : Int))) K = (n < s.size ∧ K ⟨.sc (.int .u8 (s.data.toList.getD n 0).toNat), [], []⟩) := by
  simp [idxK, asNat]
theorem idx_l {s : ByteArray} {ik : IntKind} {n : Nat} : idxK P (some .string) (.sc (.string s)) (.sc (.int ik (OfNat.ofNat n))) K = (n < s.size ∧ K ⟨.sc (.int .u8 (s.data.toList.getD n 0).toNat), [], []⟩) := by
  rw [show (OfNat.ofNat n : Int) = (n : Int) from rfl, idx_n]
def exK (x : AV) (k : Nat) (K : Eff → Prop) : Prop := match x with
    | .tup ps => (match ps[k]? with
      | some p => K ⟨.pk p, [], []⟩
      | none => False)
    | _ => False
theorem eff_extract {x : Operand} {k : Nat} : effK P st nid ⟨d, .extract x k, ty, pos, after, g⟩ K = exK (st.ev x) k K := rfl
def exP (p : Option Pk) (K : Eff → Prop) : Prop := match p with
  | some p => K ⟨.pk p, [], []⟩
  | none => False
theorem nth_eq {α : Type} : ∀ (l : List α) (k : Nat), nth l k = l[k]?
  | [], _ => rfl
  | a :: l, 0 => rfl
  | a :: l, k + 1 => by simp [nth, nth_eq l k]
theorem ex_tup {ps : List Pk} {k : Nat} : exK (.tup ps) k K = exP (nth ps k) K := by
  simp only [exK]
  rw [nth_eq]
  cases h : ps[k]? <;> simp [exP, h]
theorem exP_some {p : Pk} : exP (some p) K = K ⟨.pk p, [], []⟩ := rfl
def valK (P : Program) (st : St) (nid : Nat) (f : AV) (xs : List Operand) (K : Eff → Prop) : Prop := match f with
      | .pk (.one (.fnv g ids)) => pksK st xs fun ps => callK P st nid g (ps ++ ids.map fun id => .one (.vad id 0)) K
      | .pk (.one (.fni g caps)) => pksK st xs fun ps => callK P st nid g (ps ++ caps.map fun fs => .one (.ipt fs 0)) K
      | _ => False
end eff

section code
variable {P : Program} {Q : Exit → St → Prop} {st : St}
def condK (P : Program) (c : AV) (a b : Code) (Q : Exit → St → Prop) (st : St) : Prop := match c with
  | .pk (.one (.sc (.bool t))) => if t then Awp P a Q st else Awp P b Q st
  | _ => False
theorem awp_cond {c : Operand} {a b : Code} : Awp P (.cond c a b) Q st = condK P (st.ev c) a b Q st := rfl
theorem cond_true {a b : Code} : condK P (.sc (.bool true)) a b Q st = Awp P a Q st := rfl
theorem cond_false {a b : Code} : condK P (.sc (.bool false)) a b Q st = Awp P b Q st := rfl
theorem cond_split {t : Bool} {a b : Code} (h1 : t = true → Awp P a Q st) (h2 : t = false → Awp P b Q st) : condK P (.sc (.bool t)) a b Q st := by
  cases t
  · exact h2 rfl
  · exact h1 rfl
theorem awp_seq {a b : Code} : Awp P (.seq a b) Q st = Awp P a (Exit.go (Awp P b Q) Q) st := rfl
theorem awp_skip : Awp P .skip Q st = Q .normal st := rfl
theorem awp_region {id : Nat} {ops : Array Oper} {draw : Bool} : Awp P (.region id ops draw) Q st = Rg P ops draw st (Q .normal) := rfl
theorem awp_block {id : Nat} {b : Code} : Awp P (.block id b) Q st = Awp P b (Exit.blk id Q) st := rfl
theorem awp_exit {id : Nat} : Awp P (.exit id) Q st = Q (.exit id) st := rfl
theorem awp_ret : Awp P .ret Q st = Q .ret st := rfl
theorem awp_loop {b : Code} (ι : Type) (S : ι → St) (good : ι → Prop) (μ : ι → Nat) (i : ι) (hi : good i) (hle : Le st (S i))
    (h : ∀ i, good i → Awp P b (Exit.go (fun st' => ∃ i', good i' ∧ μ i' < μ i ∧ Le st' (S i')) Q) (S i)) : Awp P (.loop b) Q st :=
  ⟨ι, S, good, μ, ⟨i, hi, hle⟩, h⟩
theorem endQ_ret {rs : List ResultVar} {args res upd : List LV} : endQ P rs args res upd .ret = endsK P rs args res upd := rfl
theorem endQ_normal {rs : List ResultVar} {args res upd : List LV} : endQ P rs args res upd .normal = endsK P rs args res upd := rfl
theorem go_normal {n : St → Prop} : Exit.go n Q .normal = n := rfl
theorem go_exit {n : St → Prop} {id : Nat} : Exit.go n Q (.exit id) = Q (.exit id) := rfl
theorem go_ret {n : St → Prop} : Exit.go n Q .ret = Q .ret := rfl
theorem blk_normal {id : Nat} : Exit.blk id Q .normal = Q .normal := rfl
theorem blk_ret {id : Nat} : Exit.blk id Q .ret = Q .ret := rfl
theorem blk_exit {id id' : Nat} : Exit.blk id Q (.exit id') = if id' = id then Q .normal else Q (.exit id') := by
  funext st; simp only [Exit.blk]; split <;> rfl
end code
theorem mk_slots (s : List (Nat × AV)) (v : List (Nat × List SV)) (o : List (Nat × Obj')) (n : Nat) : (mkSt s v o n).slots = look .un s := rfl
theorem mk_vars (s : List (Nat × AV)) (v : List (Nat × List SV)) (o : List (Nat × Obj')) (n : Nat) : (mkSt s v o n).vars = look none (v.map fun p => (p.1, some p.2)) := rfl
theorem mk_objs (s : List (Nat × AV)) (v : List (Nat × List SV)) (o : List (Nat × Obj')) (n : Nat) : (mkSt s v o n).objs = look none (o.map fun p => (p.1, some p.2)) := rfl
theorem mk_next (s : List (Nat × AV)) (v : List (Nat × List SV)) (o : List (Nat × Obj')) (n : Nat) : (mkSt s v o n).next = n := rfl
theorem look_nil {α : Type} (d : α) (k : Nat) : look d [] k = d := rfl
theorem look_cons {α : Type} (d : α) (i : Nat) (x : α) (r : List (Nat × α)) (k : Nat) : look d ((i, x) :: r) k = if k = i then x else look d r k := rfl
attribute [go_sem] mk_slots mk_vars mk_objs mk_next look_nil look_cons yieldOf_some boolOf_eq nth_cons Option.isSome_some eq_self decide_true decide_false Bool.false_eq_true Int.ofNat_lt Int.ofNat_le
attribute [go_sem] reduceIte Nat.reduceEqDiff Nat.reduceAdd Nat.reduceMul Nat.reduceLT Nat.reduceLeDiff Nat.reduceSub
attribute [go_sem] List.map_cons List.map_nil List.drop_zero List.drop_succ_cons List.take_zero List.take_succ_cons List.getD_cons_zero List.getD_cons_succ List.length_cons List.length_nil Option.bind_some List.getElem?_toArray Cell.isv Fld.sv Option.getD_some Option.getD_none
attribute [go_sem ↓] ap_eq stepK_step awp_cond endQ_ret endQ_normal runK_nil runK_cons runK_guard rg_still rg_draw awp_seq awp_skip awp_region awp_block awp_exit awp_ret go_normal go_exit go_ret blk_normal blk_ret blk_exit
attribute [go_sem ↓] eff_move eff_assign eff_pick eff_alloc eff_box eff_load eff_store eff_bin eff_un eff_fieldAddr eff_indexAddr eff_len eff_index eff_extract
attribute [go_sem] app_slots app_slots_none app_vars app_objs app_next put_slots put_vars put_objs put_next step_slots step_vars step_objs step_next upd_nil upd_cons ev_tmp ev_const ev_func guard_tt guard_ff guard_tf guard_ft
attribute [go_sem] pick_t pick_f allocK_eq boxK_one boxK_agg ld_iad1 ld_iadn ld_ipt1 ld_iptn ld_vad ldV_1 ldV_n ld_oad ldO_1 ldO_n ld_oin ldI_1 ldC_sl st_vad1 st_vadn stV_eq bop_add bop_sub bop_mul bop_quo bop_rem bop_shr bop_shl bop_and bop_xor bop_eql bop_neq bop_lss bop_leq bop_gtr bop_geq bops_add bops_eql bops_neq bops_geq bopb_eql bopb_neq uop_not uop_neg
attribute [go_sem low] ia_im_i ia_ref_i
attribute [go_sem] List.size_toArray some'_some fa_vad fa_oad faO_eq fa_iad fa_ipt ia_im_n ia_im_l ia_ref_n ia_ref_l len_im len_str len_nil len_ref lenR_eq idx_n idx_l ex_tup exP_some
section ends
variable {P : Program} {st : St}
def endC (st : St) (args res upd : List LV) (pks : List Pk) : Prop := All2 (passPk st) pks res ∧ leftK st 0 args upd ∧ endOk (List.zipWith handPk pks res).flatten (resEff leftId 0 upd) (List.zipWith (lendsPk st) pks res).flatten = true
theorem endC_eq {args res upd : List LV} {pks : List Pk} : endC st args res upd pks = (All2 (passPk st) pks res ∧ leftK st 0 args upd ∧ endOk (List.zipWith handPk pks res).flatten (resEff leftId 0 upd) (List.zipWith (lendsPk st) pks res).flatten = true) := rfl
def resC (P : Program) (st : St) (rs : List ResultVar) (acc : List Pk) (K : List Pk → Prop) : Prop := resultPks P st rs fun ps => K (acc ++ ps)
theorem endsK_eq {rs : List ResultVar} {args res upd : List LV} : endsK P rs args res upd st = resC P st rs [] (endC st args res upd) := by
  simp only [endsK, resC, List.nil_append]; rfl
def resS (P : Program) (st : St) (a : AV) (rs : List ResultVar) (acc : List Pk) (K : List Pk → Prop) : Prop := match a with
  | .pk p => resC P st rs (acc ++ [p]) K
  | .tup _ => False
def resV (P : Program) (st : St) (rs : List ResultVar) (acc : List Pk) (K : List Pk → Prop) (e : Eff) : Prop := match e.v with
  | .pk p => resC P st rs (acc ++ [p]) K
  | .tup _ => False
theorem resK_nil {acc : List Pk} {K : List Pk → Prop} : resC P st [] acc K = K acc := by simp [resC, resultPks]
theorem resK_tmp {t : Tmp} {rs : List ResultVar} {acc : List Pk} {K : List Pk → Prop} : resC P st (.tmp t :: rs) acc K = resS P st (st.slots t) rs acc K := by
  simp only [resC, resultPks, resultPk, resS]
  cases st.slots t with
  | pk p => simp
  | tup ps => rfl
def resA (P : Program) (st : St) (n : Option (Option Nat)) (a : AV) (rs : List ResultVar) (acc : List Pk) (K : List Pk → Prop) : Prop := match n, a with
  | some n, .pk (.one (.vad id j)) => ldV (st.vars id) j n (resV P st rs acc K)
  | _, _ => False
theorem resK_cell {a : Tmp} {t : TypeId} {rs : List ResultVar} {acc : List Pk} {K : List Pk → Prop} : resC P st (.cell a t :: rs) acc K = resA P st (aggOf P t) (st.slots a) rs acc K := by
  simp only [resC, resultPks, resultPk, resA]
  rcases aggOf P t with _ | n
  · rfl
  · rcases st.slots a with (x | xs) | ps
    · cases x <;> try rfl
      case vad id j =>
        simp only [loadK, ldV, resV]
        rcases st.vars id with _ | fs
        · rfl
        · cases n <;> simp [resC]
    · rfl
    · rfl
theorem resC_eq {n : Option Nat} {id j : Nat} {rs : List ResultVar} {acc : List Pk} {K : List Pk → Prop} : resA P st (some n) (.one (.vad id j)) rs acc K = ldV (st.vars id) j n (resV P st rs acc K) := rfl
theorem resS_pk {p : Pk} {rs : List ResultVar} {acc : List Pk} {K : List Pk → Prop} : resS P st (.pk p) rs acc K = resC P st rs (acc ++ [p]) K := rfl
theorem resV_pk {p : Pk} {rs : List ResultVar} {acc : List Pk} {K : List Pk → Prop} {o : List (Nat × Option Obj')} {v : List (Nat × Option (List SV))} : resV P st rs acc K ⟨.pk p, o, v⟩ = resC P st rs (acc ++ [p]) K := rfl
theorem endOk_nil : endOk [] [] [] = true := rfl
end ends
attribute [go_sem] cond_true cond_false endsK_eq resK_nil resK_tmp resK_cell resC_eq resS_pk resV_pk endC_eq endOk_nil All2 leftK leftLV leftLeaf leftLeaves leftId passPk handPk handLeaf lendsPk lends resEff leavesEff LV.leaves List.zipWith_nil_left List.zipWith_cons_cons List.flatten_nil List.flatten_cons List.append_nil List.nil_append List.nodup_nil
attribute [go_sem] startOf argSlots argPk argSV argLeaves true_and and_true

end Go.Proofs.Ytkcbnbbbijlhcai.A
