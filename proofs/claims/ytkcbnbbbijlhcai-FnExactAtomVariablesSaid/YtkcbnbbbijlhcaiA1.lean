/- THE ABSTRACT SEMANTICS (definitions): slots hold pure data, the memory of a frame is a set of variables and of slices of its own. Conditions: none; definitions alone. -/
import Derived.Calls
import Derived.Below
import Derived.KernelRfl
import Derived.Laws.Cells
import Derived.Laws.CopyRow
import Derived.IntWalk
namespace Go.Proofs.Ytkcbnbbbijlhcai.A
open Go

/-- A cell of a row of an outer slice: a scalar; an inner slice of scalars (stamp 0: read only; else own); gone. -/
inductive Cell where
  | sc (v : Value)
  | sl (s : Nat) (xs : List Value)
  | gone

abbrev Rows := List (List Cell)

def All2 {α β : Type} (R : α → β → Prop) : List α → List β → Prop
  | [], [] => True
  | a :: as, b :: bs => R a b ∧ All2 R as bs
  | _, _ => False

/-- A row of scalars, one cell each. -/
def lift (xs : List Value) : Rows := xs.map fun v => [Cell.sc v]

/-- All inner slices read only. -/
def Cell.frz : Cell → Cell
  | .sc v => .sc v
  | .sl _ xs => .sl 0 xs
  | .gone => .gone
def frz (rows : Rows) : Rows := rows.map fun r => r.map Cell.frz
/-- All stamps of one's own inner slices are 1. -/
def Cell.rst : Cell → Cell
  | .sc v => .sc v
  | .sl 0 xs => .sl 0 xs
  | .sl (_ + 1) xs => .sl 1 xs
  | .gone => .gone
def rst (rows : Rows) : Rows := rows.map fun r => r.map Cell.rst
/-- One's own inner slices get a stamp. -/
def Cell.stm (n : Nat) : Cell → Cell
  | .sl (_ + 1) xs => .sl n xs
  | c => c
def stm (n : Nat) (rows : Rows) : Rows := rows.map fun r => r.map (Cell.stm n)
def Cell.flat : Cell → Prop
  | .sc _ => True
  | .sl s _ => s = 0
  | .gone => True

/-- A field of a variable that is only read. -/
inductive Fld where
  | sc (v : Value)
  | im (w : Nat) (rows : Rows)

/-- A simple abstract value. -/
inductive SV where
  | un
  | sc (v : Value)
  | im (w : Nat) (rows : Rows)
  | ref (id w off len : Nat)
  | rin (id i j s off len : Nat)
  | vad (id j : Nat)
  | oad (id i j : Nat)
  | oin (id i j s k : Nat)
  | iad (row : List Cell) (j : Nat)
  | ipt (fs : List Fld) (j : Nat)
  | fnv (f : FuncId) (ids : List Nat)
  | fni (f : FuncId) (caps : List (List Fld))

inductive Pk where
  | one (s : SV)
  | agg (xs : List SV)

inductive AV where
  | pk (p : Pk)
  | tup (ps : List Pk)

abbrev AV.one (s : SV) : AV := .pk (.one s)
abbrev AV.agg (xs : List SV) : AV := .pk (.agg xs)
abbrev AV.sc (v : Value) : AV := .pk (.one (.sc v))
abbrev AV.un : AV := .pk (.one .un)

abbrev Obj' := Nat × Rows

structure St where
  slots : Nat → AV
  vars : Nat → Option (List SV)
  objs : Nat → Option Obj'
  next : Nat

def St.ev (st : St) : Operand → AV
  | .tmp t => st.slots t
  | .const v => .sc v
  | .func f => .one (.fnv f [])
  | .global _ => .un

def St.put (st : St) (d : Option Tmp) (v : AV) : St :=
  { st with slots := fun t => if some t = d then v else st.slots t }

/-- What an operation hands back, and what it writes besides slots. -/
structure Eff where
  v : AV
  ow : List (Nat × Option Obj') := []
  vw : List (Nat × Option (List SV)) := []

def upd {α : Type} (f : Nat → Option α) : List (Nat × Option α) → Nat → Option α
  | [] => f
  | (i, x) :: r => fun k => if k = i then x else upd f r k

def St.app (st : St) (d : Option Tmp) (e : Eff) : St :=
  { slots := fun t => if some t = d then e.v else st.slots t, vars := upd st.vars e.vw, objs := upd st.objs e.ow, next := st.next }

/-! #### what is asked of a type -/
def aggOf (P : Program) (t : TypeId) : Option (Option Nat) :=
  match P.underlying t, P.info? t with
  | some (.struct _), some i => some (some i.size)
  | some (.array _ _), some i => some (some i.size)
  | some _, some i => if i.size = 1 then some none else none
  | none, _ => none
  | some _, none => none

def zeroOf (P : Program) (t : TypeId) : Option (List Value) :=
  match P.info? t with
  | some i => i.zero.map fun v => v.cells.toList
  | none => none

/-- Of a struct's field: where it lies, how many cells, is it a struct or an array. -/
def fieldOf (P : Program) (t : TypeId) (f : Nat) : Option (Nat × Option Nat) :=
  match P.underlying t with
  | some (.struct fs) =>
    match fs[f]? with
    | some fl => match aggOf P fl.type with
      | some n => if n = some 0 then none else some (fl.offset, n)
      | none => none
    | none => none
  | _ => none

/-- Of a slice type: its elements' cells, bytes and zero. -/
def elemOf' (P : Program) (t : TypeId) : Option (Nat × Nat × List Value) :=
  match P.underlying t with
  | some (.slice e) => match P.info? e, zeroOf P e with
    | some i, some z => if z.length = i.size ∧ 0 < i.size ∧ 0 < i.bytes ∧ i.bytes ≤ 4096 ∧ z.all Value.oneCell' = true then some (i.size, i.bytes, z) else none
    | _, _ => none
  | _ => none

/-! #### what the operations come to -/
def Cell.sv (id i j : Nat) : Cell → SV
  | .sc v => .sc v
  | .sl 0 xs => .im 1 (lift xs)
  | .sl (s + 1) xs => .rin id i j (s + 1) 0 xs.length
  | .gone => .un
def Cell.isv : Cell → SV
  | .sc v => .sc v
  | .sl _ xs => .im 1 (lift xs)
  | .gone => .un
def Fld.sv : Fld → SV
  | .sc v => .sc v
  | .im w rows => .im w rows
def svs (id i : Nat) : Nat → List Cell → List SV
  | _, [] => []
  | j, c :: r => c.sv id i j :: svs id i (j + 1) r

def Rows.cell (rows : Rows) (i j : Nat) : Cell := (rows.getD i []).getD j .gone
def Rows.setCell (rows : Rows) (i j : Nat) (c : Cell) : Rows := rows.set i ((rows.getD i []).set j c)

/-- A slice, as it reads. -/
def St.rows (st : St) : SV → Option (Nat × Rows)
  | .im w rows => some (w, rows)
  | .ref id w off len => match st.objs id with
    | some (_, rows) => some (w, (rows.drop off).take len)
    | none => none
  | .rin id i j s off len => match st.objs id with
    | some (_, rows) => match Rows.cell rows i j with
      | .sl s' xs => if s' = s then some (1, lift ((xs.drop off).take len)) else none
      | _ => none
    | none => none
  | _ => none

/-- A value of one cell, of which enough is known. -/
def SV.solid (st : St) : SV → Prop
  | .sc v => v.oneCell' = true
  | .im _ _ => True
  | .ref id w off len => st.rows (.ref id w off len) ≠ none
  | .rin id i j s off len => st.rows (.rin id i j s off len) ≠ none
  | .vad id _ => st.vars id ≠ none
  | .iad _ _ => True
  | .ipt _ _ => True
  | .fnv _ _ => True
  | .fni _ _ => True
  | _ => False
def solids (st : St) : List SV → Prop
  | [] => True
  | s :: r => s.solid st ∧ solids st r

def isNil : Value → Bool
  | .slice none 0 0 => true
  | _ => false

def intK (k : IntKind) (a b : Int) (K : Value → Prop) : BinOp → Prop
  | .add => K (.int k (k.wrap (a + b)))
  | .sub => K (.int k (k.wrap (a - b)))
  | .mul => K (.int k (k.wrap (a * b)))
  | .quo => b ≠ 0 ∧ K (.int k (k.wrap (a.tdiv b)))
  | .rem => b ≠ 0 ∧ K (.int k (a.tmod b))
  | .and => K (.int k (k.wrap (BitVec.ofInt k.bits a &&& BitVec.ofInt k.bits b).toNat))
  | .or => K (.int k (k.wrap (BitVec.ofInt k.bits a ||| BitVec.ofInt k.bits b).toNat))
  | .xor => K (.int k (k.wrap (BitVec.ofInt k.bits a ^^^ BitVec.ofInt k.bits b).toNat))
  | .eql => K (.bool (a == b))
  | .neq => K (.bool (a != b))
  | .lss => K (.bool (a < b))
  | .leq => K (.bool (a ≤ b))
  | .gtr => K (.bool (a > b))
  | .geq => K (.bool (a ≥ b))
  | _ => False
def strK (a b : ByteArray) (K : Value → Prop) : BinOp → Prop
  | .add => a.size + b.size ≤ 9223372036854775807 ∧ K (.string (a ++ b))
  | .eql => K (.bool (a.toList == b.toList))
  | .neq => K (.bool (!(a.toList == b.toList)))
  | .lss => K (.bool (Op.bytesLess a.toList b.toList))
  | .leq => K (.bool (Op.bytesLess a.toList b.toList || a.toList == b.toList))
  | .gtr => K (.bool (!(Op.bytesLess a.toList b.toList || a.toList == b.toList)))
  | .geq => K (.bool (!(Op.bytesLess a.toList b.toList)))
  | _ => False
def boolK (P : Program) (xT : TypeId) (a b : Bool) (K : Value → Prop) : BinOp → Prop
  | .eql => P.underlying xT = some .bool ∧ K (.bool (a == b))
  | .neq => P.underlying xT = some .bool ∧ K (.bool (!(a == b)))
  | _ => False
def shiftK (k : IntKind) (a b : Int) (K : Value → Prop) : BinOp → Prop
  | .shl => 0 ≤ b ∧ K (.int k (k.wrap (a * 2 ^ (min b.toNat k.bits))))
  | .shr => 0 ≤ b ∧ K (.int k (a.fdiv (2 ^ (min b.toNat k.bits))))
  | _ => False
def isShift : BinOp → Bool
  | .shl | .shr => true
  | _ => false

def binK (P : Program) (xT : TypeId) (op : BinOp) (x y : Value) (K : Value → Prop) : Prop :=
  match x, y with
  | .int k a, .int k' b => if isShift op then shiftK k a b K op else k = k' ∧ intK k a b K op
  | .string a, .string b => strK a b K op
  | .bool a, .bool b => boolK P xT a b K op
  | _, _ => False

def unK (op : UnOp) (x : Value) (K : Value → Prop) : Prop :=
  match op, x with
  | .neg, .int k n => K (.int k (k.wrap (0 - n)))
  | .not, .bool b => K (.bool (!b))
  | _, _ => False

/-- A load of one cell ('none') or of a struct's n cells. -/
def loadK (st : St) (a : SV) (n : Option Nat) (K : AV → Prop) : Prop :=
  match a with
  | .vad id j => match st.vars id with
    | some fs => match n with
      | some n => j + n ≤ fs.length ∧ K (.agg ((fs.drop j).take n))
      | none => j < fs.length ∧ K (.one (fs.getD j .un))
    | none => False
  | .oad id i j => match st.objs id with
    | some (_, rows) => match n with
      | some n => i < rows.length ∧ j + n ≤ (rows.getD i []).length ∧ K (.agg (((svs id i 0 (rows.getD i [])).drop j).take n))
      | none => i < rows.length ∧ j < (rows.getD i []).length ∧ K (.one ((Rows.cell rows i j).sv id i j))
    | none => False
  | .oin id i j s k => match st.objs id with
    | some (_, rows) => match Rows.cell rows i j with
      | .sl s' xs => s' = s ∧ n = none ∧ k < xs.length ∧ K (.sc (xs.getD k default))
      | _ => False
    | none => False
  | .iad row j => match n with
    | some n => j + n ≤ row.length ∧ K (.agg (((row.map Cell.isv).drop j).take n))
    | none => j < row.length ∧ K (.one ((row.getD j .gone).isv))
  | .ipt fs j => match n with
    | some n => j + n ≤ fs.length ∧ K (.agg (((fs.map Fld.sv).drop j).take n))
    | none => j < fs.length ∧ K (.one ((fs.map Fld.sv).getD j .un))
  | _ => False

def Pk.svs : Pk → List SV
  | .one s => [s]
  | .agg xs => xs
def AV.svs : AV → List SV
  | .pk p => p.svs
  | .tup ps => ps.flatMap Pk.svs

def setRange {α : Type} (l : List α) (j : Nat) (xs : List α) : List α := l.take j ++ xs ++ l.drop (j + xs.length)

/-- A simple value put into a cell of a slice of one's own (s: the stamp): what the cell holds, and what falls away by that. -/
def cellK (st : St) (s : Nat) (x : SV) (K : Cell → List (Nat × Option Obj') → Prop) : Prop :=
  match x with
  | .sc v => if isNil v then K (.sl s []) [] else K (.sc v) []
  | .im w rows => ∃ xs, w = 1 ∧ rows = lift xs ∧ K (.sl 0 xs) []
  | .ref id w off len => match st.objs id with
    | some (_, rows) => ∃ xs, w = 1 ∧ off = 0 ∧ len = rows.length ∧ rows = lift xs ∧ K (.sl s xs) [(id, none)]
    | none => False
  | .rin id i j s' off len => match st.objs id with
    | some (w, rows) => match Rows.cell rows i j with
      | .sl s'' xs => s'' = s' ∧ off = 0 ∧ len = xs.length ∧ K (.sl s xs) [(id, some (w, Rows.setCell rows i j .gone))]
      | _ => False
    | none => False
  | _ => False

/-- Several of them, from left to right. -/
def cellsK (s : Nat) : St → List SV → (List Cell → List (Nat × Option Obj') → Prop) → Prop
  | _, [], K => K [] []
  | st, x :: r, K => cellK st s x fun c ws => cellsK s { st with objs := upd st.objs ws } r fun cs ws' => K (c :: cs) (ws' ++ ws)

def storeK (st : St) (nid : Nat) (a : SV) (n : Nat) (xs : List SV) (K : Eff → Prop) : Prop :=
  xs.length = n ∧
  match a with
  | .vad id j => match st.vars id with
    | some fs => j + n ≤ fs.length ∧ K ⟨.un, [], [(id, some (setRange fs j xs))]⟩
    | none => False
  | .oad id i j => cellsK nid st xs fun cs ws => match upd st.objs ws id with
    | some (w, rows) => i < rows.length ∧ j + n ≤ (rows.getD i []).length ∧
        K ⟨.un, (id, some (w, rows.set i (setRange (rows.getD i []) j cs))) :: ws, []⟩
    | none => False
  | .oin id i j s k => match st.objs id with
    | some (w, rows) => match Rows.cell rows i j with
      | .sl s' ys => s' = s ∧ 0 < s ∧ k < ys.length ∧
          (match xs with | [.sc v] => isNil v = false ∧ K ⟨.un, [(id, some (w, Rows.setCell rows i j (.sl s (ys.set k v))))], []⟩ | _ => False)
      | _ => False
    | none => False
  | _ => False

def asNat (a : AV) (K : Nat → Prop) : Prop :=
  match a with
  | .pk (.one (.sc (.int _ n))) => 0 ≤ n ∧ K n.toNat
  | _ => False
def asNat? (st : St) (x : Option Operand) (d : Nat) (K : Nat → Prop) : Prop :=
  match x with
  | some x => asNat (st.ev x) K
  | none => K d

/-- A cut of a slice (w: the cells of an element). -/
def cutK (st : St) (w : Nat) (x : SV) (lo hi : Option Operand) (K : Eff → Prop) : Prop :=
  match x with
  | .sc v => isNil v = true ∧ asNat? st lo 0 fun l => asNat? st hi 0 fun h => l = 0 ∧ h = 0 ∧ K ⟨.sc v, [], []⟩
  | .im w' rows => asNat? st lo 0 fun l => asNat? st hi rows.length fun h => w' = w ∧ l ≤ h ∧ h ≤ rows.length ∧ K ⟨.one (.im w ((rows.take h).drop l)), [], []⟩
  | .ref id w' off len => st.rows (.ref id w' off len) ≠ none ∧ asNat? st lo 0 fun l => asNat? st hi len fun h => w' = w ∧ l ≤ h ∧ h ≤ len ∧ K ⟨.one (.ref id w (off + l) (h - l)), [], []⟩
  | .rin id i j s off len => st.rows (.rin id i j s off len) ≠ none ∧ asNat? st lo 0 fun l => asNat? st hi len fun h => 1 = w ∧ l ≤ h ∧ h ≤ len ∧ K ⟨.one (.rin id i j s (off + l) (h - l)), [], []⟩
  | _ => False

def Cell.flatB : Cell → Bool
  | .sc _ => true
  | .sl s _ => s == 0
  | .gone => true
def flatB (rows : Rows) : Bool := rows.all fun r => r.all Cell.flatB
/-- What is appended: its rows, and what falls away by that. -/
def srcK (st : St) (w : Nat) (x : AV) (K : Rows → List (Nat × Option Obj') → Prop) : Prop :=
  match x with
  | .pk (.one (.sc (.string s))) => w = 1 ∧ K (lift (s.data.toList.map fun b => .int .u8 b.toNat)) []
  | .pk (.one (.sc v)) => isNil v = true ∧ K [] []
  | .pk (.one (.im w' rows)) => w' = w ∧ flatB rows = true ∧ K rows []
  | .pk (.one (.ref id w' off len)) => match st.objs id with
    | some (_, rows) => w' = w ∧ if flatB ((rows.drop off).take len) then K ((rows.drop off).take len) [] else off = 0 ∧ len = rows.length ∧ K rows [(id, none)]
    | none => False
  | .pk (.one (.rin id i j s off len)) => match st.rows (.rin id i j s off len) with
    | some (w', rows) => w' = w ∧ K rows []
    | none => False
  | _ => False

/-- An append. -/
def appK (st : St) (nid w bytes : Nat) (s x : AV) (K : Eff → Prop) : Prop :=
  srcK st w x fun more ws =>
    match s with
    | .pk (.one (.sc v)) => isNil v = true ∧ (more.length + 1) * bytes ≤ 70368744177664 ∧ K ⟨.one (.ref nid w 0 more.length), (nid, some (w, more)) :: ws, []⟩
    | .pk (.one (.ref id w' off len)) => match upd st.objs ws id with
      | some (_, rows) => w' = w ∧ off = 0 ∧ len = rows.length ∧ (rows.length + more.length + 1) * bytes ≤ 70368744177664 ∧
          K ⟨.one (.ref nid w 0 (rows.length + more.length)), (nid, some (w, rows ++ more)) :: (id, none) :: ws, []⟩
      | none => False
    | .pk (.one (.rin id i j s off len)) => match upd st.objs ws id with
      | some (wo, rows) => match Rows.cell rows i j with
        | .sl s' xs => s' = s ∧ w = 1 ∧ off = 0 ∧ len = xs.length ∧ (xs.length + more.length + 1) * bytes ≤ 70368744177664 ∧
            K ⟨.one (.ref nid w 0 (xs.length + more.length)), (nid, some (w, lift xs ++ more)) :: (id, some (wo, Rows.setCell rows i j .gone)) :: ws, []⟩
        | _ => False
      | none => False
    | _ => False

/-! #### what a call is handed and what it hands back -/
inductive Leaf where
  | sc (v : Value)
  | im (w : Nat) (rows : Rows)
  | ow (w : Nat) (rows : Rows)
  | gone
  | ip (fs : List Fld)
  | op (fs : List Fld)
  | fn (f : FuncId) (caps : List (List Fld))

inductive LV where
  | one (l : Leaf)
  | agg (ls : List Leaf)

def LV.leaves : LV → List Leaf
  | .one l => [l]
  | .agg ls => ls

/-! #### the concrete side: what a block of memory is to the frame -/
inductive Lab where
  | dead
  | imm
  | own (id : Nat)
  | inn (id i j : Nat)
  | var (id : Nat)
  | far

structure Sh where
  lab : Nat → Lab
  μ : Nat → Value
  β : Nat → Nat

def ImSl (W : World) (lab : Nat → Lab) (xs : List Value) (v : Value) : Prop :=
  ∃ A cap, v = .slice A xs.length cap ∧ xs.length ≤ cap ∧
    (xs ≠ [] → ∃ b o, A = some ⟨b, o, none⟩ ∧ lab b = .imm ∧ ∀ (k : Nat) (x : Value), xs[k]? = some x → x.oneCell' = true ∧ W.cell? ⟨b, o + k, none⟩ = some x)
def ImCell (W : World) (lab : Nat → Lab) : Cell → Value → Prop
  | .sc x, v => v = x ∧ x.oneCell' = true
  | .sl _ xs, v => ImSl W lab xs v
  | .gone, v => v.oneCell' = true
def ImRow (W : World) (lab : Nat → Lab) (row : List Cell) (b o : Nat) : Prop :=
  ∀ (j : Nat) (c : Cell), row[j]? = some c → ∃ v, W.cell? ⟨b, o + j, none⟩ = some v ∧ ImCell W lab c v
def ImRep (W : World) (lab : Nat → Lab) (w : Nat) (rows : Rows) (v : Value) : Prop :=
  ∃ A cap, v = .slice A rows.length cap ∧ rows.length ≤ cap ∧ (∀ r ∈ rows, r.length = w) ∧
    (rows ≠ [] → 0 < w ∧ ∃ b o, A = some ⟨b, o, none⟩ ∧ lab b = .imm ∧ ∀ (i : Nat) (r : List Cell), rows[i]? = some r → ImRow W lab r b (o + i * w))
def FldRep (W : World) (lab : Nat → Lab) : Fld → Value → Prop
  | .sc x, v => v = x
  | .im w rows, v => ImRep W lab w rows v
def IpRep (W : World) (lab : Nat → Lab) (fs : List Fld) (j : Nat) (v : Value) : Prop :=
  ∃ b o : Nat, v = .pointer (some ⟨b, o + j, none⟩) ∧ lab b = .imm ∧ ∀ (k : Nat) (f : Fld), fs[k]? = some f → ∃ u, W.cell? ⟨b, o + k, none⟩ = some u ∧ FldRep W lab f u

def OwnSl (W : World) (lab : Nat → Lab) (L : Lab) (xs : List Value) (v : Value) : Prop :=
  (∃ A, v = .slice A 0 0 ∧ xs = []) ∨
  ∃ (b cap : Nat) (c : Array Value) (t : TypeId), v = .slice (some ⟨b, 0, none⟩) xs.length cap ∧ xs.length ≤ cap ∧ lab b = L ∧ W.heap[b]? = some (.cells c t (0, 0)) ∧ c.size = cap ∧
    ∀ (k : Nat) (x : Value), xs[k]? = some x → x.oneCell' = true ∧ c[k]? = some x
def OwnCell (W : World) (lab : Nat → Lab) (L : Lab) : Cell → Value → Prop
  | .sc x, v => v = x ∧ x.oneCell' = true
  | .sl 0 xs, v => ImSl W lab xs v
  | .sl (_ + 1) xs, v => OwnSl W lab L xs v
  | .gone, v => v.oneCell' = true
def OwnRep (W : World) (lab : Nat → Lab) (id w : Nat) (rows : Rows) (h : Value) : Prop :=
  0 < w ∧ (∀ r ∈ rows, r.length = w) ∧
  ((∃ A, h = .slice A 0 0 ∧ rows = []) ∨
   ∃ (b cap : Nat) (c : Array Value) (t : TypeId), h = .slice (some ⟨b, 0, none⟩) rows.length cap ∧ rows.length ≤ cap ∧ lab b = .own id ∧ W.heap[b]? = some (.cells c t (0, 0)) ∧ c.size = cap * w ∧
     ∀ (i j : Nat) (r : List Cell) (x : Cell), rows[i]? = some r → r[j]? = some x → ∃ v, c[i * w + j]? = some v ∧ OwnCell W lab (.inn id i j) x v)

/-- The header of a cut. -/
def viewOf (h : Value) (w off len : Nat) : Value :=
  match h with
  | .slice A _ cap => .slice (if cap = off then A else A.map (·.add (off * w))) len (cap - off)
  | v => v

/-- The header that lies in a cell of an outer slice. -/
def headAt (W : World) (h : Value) (w i j : Nat) : Option Value :=
  match h with
  | .slice (some ⟨b, 0, none⟩) _ _ => W.cell? ⟨b, i * w + j, none⟩
  | _ => none

/-- An empty cut without room may lie anywhere. -/
def ViewIs (h : Value) (w off len : Nat) (v : Value) : Prop := v = viewOf h w off len ∨ (len = 0 ∧ ∃ A, v = .slice A 0 0)

def SVRep (st : St) (W : World) (sh : Sh) : SV → Value → Prop
  | .un, _ => True
  | .sc x, v => v = x
  | .im w rows, v => ImRep W sh.lab w rows v
  | .ref id w off len, v => ∀ w' rows, st.objs id = some (w', rows) → w' = w ∧ off + len ≤ rows.length ∧ ViewIs (sh.μ id) w off len v
  | .rin id i j s off len, v => 0 < s ∧ ∀ w rows xs, st.objs id = some (w, rows) → Rows.cell rows i j = .sl s xs → 0 < s ∧ off + len ≤ xs.length ∧
      ∃ h, headAt W (sh.μ id) w i j = some h ∧ ViewIs h 1 off len v
  | .vad id j, v => ∀ fs, st.vars id = some fs → v = .pointer (some ⟨sh.β id, j, none⟩)
  | .oad id i j, v => ∀ w rows, st.objs id = some (w, rows) → i < rows.length → ∃ (b n cap : Nat), sh.μ id = .slice (some ⟨b, 0, none⟩) n cap ∧ v = .pointer (some ⟨b, i * w + j, none⟩)
  | .oin id i j s k, v => 0 < s ∧ ∀ w rows xs, st.objs id = some (w, rows) → Rows.cell rows i j = .sl s xs → k < xs.length → 0 < s ∧
      ∃ (b n cap : Nat), headAt W (sh.μ id) w i j = some (.slice (some ⟨b, 0, none⟩) n cap) ∧ v = .pointer (some ⟨b, k, none⟩)
  | .iad row j, v => ∃ b o : Nat, v = .pointer (some ⟨b, o + j, none⟩) ∧ sh.lab b = .imm ∧ ImRow W sh.lab row b o
  | .ipt fs j, v => IpRep W sh.lab fs j v
  | .fnv f ids, v => ∃ cs : Array Value, v = .func (.func f) #[] cs ∧ All2 (fun (id : Nat) (u : Value) => ∀ fs, st.vars id = some fs → u = .pointer (some ⟨sh.β id, 0, none⟩)) ids cs.toList
  | .fni f caps, v => ∃ cs : Array Value, v = .func (.func f) #[] cs ∧ All2 (fun fs u => IpRep W sh.lab fs 0 u) caps cs.toList

def PkRep (st : St) (W : World) (sh : Sh) : Pk → Value → Prop
  | .one s, v => SVRep st W sh s v
  | .agg xs, v => ∃ cs : Array Value, v = .agg cs ∧ All2 (SVRep st W sh) xs cs.toList
def AVRep (st : St) (W : World) (sh : Sh) : AV → Value → Prop
  | .pk p, v => PkRep st W sh p v
  | .tup ps, v => ∃ vs : Array Value, v = .tuple vs ∧ All2 (PkRep st W sh) ps vs.toList

/-- Leaves of a call (k: the number that names a leaf of the call's own). -/
def LeafRep (W : World) (lab : Nat → Lab) (k : Nat) : Leaf → Value → Prop
  | .sc x, v => v = x
  | .im w rows, v => ImRep W lab w rows v
  | .ow w rows, v => OwnRep W lab k w rows v ∧ rst rows = rows
  | .gone, _ => True
  | .ip fs, v => IpRep W lab fs 0 v
  | .op fs, v => ∃ (b : Nat) (c : Array Value) (t : TypeId), v = .pointer (some ⟨b, 0, none⟩) ∧ lab b = .var k ∧ W.heap[b]? = some (.cells c t (0, 0)) ∧ c.size = fs.length ∧
      ∀ (j : Nat) (f : Fld), fs[j]? = some f → ∃ u, c[j]? = some u ∧ FldRep W lab f u
  | .fn f caps, v => ∃ cs : Array Value, v = .func (.func f) #[] cs ∧ All2 (fun fs u => IpRep W lab fs 0 u) caps cs.toList
def LeavesRep (W : World) (lab : Nat → Lab) : Nat → List Leaf → List Value → Prop
  | _, [], [] => True
  | k, l :: ls, v :: vs => LeafRep W lab k l v ∧ LeavesRep W lab (k + 1) ls vs
  | _, _, _ => False
def LVRep (W : World) (lab : Nat → Lab) (k : Nat) : LV → Value → Prop
  | .one l, v => LeafRep W lab k l v
  | .agg ls, v => ∃ cs : Array Value, v = .agg cs ∧ LeavesRep W lab k ls cs.toList
def LVsRep (W : World) (lab : Nat → Lab) : Nat → List LV → List Value → Prop
  | _, [], [] => True
  | k, l :: ls, v :: vs => LVRep W lab k l v ∧ LVsRep W lab (k + 16) ls vs
  | _, _, _ => False
def ResRep (W : World) (lab : Nat → Lab) (lvs : List LV) (v : Value) : Prop :=
  match lvs with
  | [lv] => LVRep W lab 4096 lv v
  | lvs => ∃ vs : Array Value, v = .tuple vs ∧ LVsRep W lab 4096 lvs vs.toList

/-- What was read only is as it was. -/
structure Ext (W : World) (lab : Nat → Lab) (W' : World) (lab' : Nat → Lab) : Prop where
  os : W'.os = W.os
  tape : W'.tape = W.tape
  output : W'.output = W.output
  size : W.heap.size ≤ W'.heap.size
  same : ∀ b, b < W.heap.size → (lab b = .imm ∨ lab b = .far) → lab' b = lab b ∧ W'.heap[b]? = W.heap[b]?
  dead : ∀ b, W'.heap.size ≤ b → lab' b = .dead

def CallF (P : Program) (f : FuncId) (vs : Array Value) (W : World) (R : Value → World → Prop) : Prop :=
  match (callFunc f vs).run P W with
  | .ok (.enter g as) W' => Calls P g as W' fun e W'' => ∃ v, e = .returned v ∧ R v W''
  | .ok (.value v) W' => R v W'
  | _ => False

/-- THE CONTRACT: called with what reads as 'args', the function hands back what reads as 'res', and what it was handed reads as 'upd'. -/
def LVok (l : List LV) (n : Nat) : Bool := decide (l.length ≤ n) && l.all fun v => decide (v.leaves.length ≤ 16)
def Sat (P : Program) (f : FuncId) (args res upd : List LV) : Prop :=
  LVok args 60 = true ∧ LVok res 3 = true ∧ ∀ (W : World) (lab : Nat → Lab) (vs : List Value), (∀ b, W.heap.size ≤ b → lab b = .dead) → LVsRep W lab 0 args vs →
    CallF P f vs.toArray W fun v W' => ∃ lab', ResRep W' lab' res v ∧ LVsRep W' lab' 0 upd vs ∧ Ext W lab W' lab'

/-! #### a call, seen from the caller -/
def SV.flds (st : St) : SV → Fld → Prop
  | .sc v, f => f = .sc v ∨ (isNil v = true ∧ ∃ w, f = .im w [])
  | s, .im w rows => ∃ rows', st.rows s = some (w, rows') ∧ rows = frz rows'
  | _, _ => False
def fldsOf (st : St) (id : Nat) (fs : List Fld) : Prop :=
  match st.vars id with
  | some xs => All2 (fun x f => SV.flds st x f) xs fs
  | none => False

/-- What a value is passed as. -/
def pass (st : St) : SV → Leaf → Prop
  | .sc v, .sc v' => v' = v
  | .sc v, .im _ rows => isNil v = true ∧ rows = []
  | .sc v, .ow w rows => isNil v = true ∧ 0 < w ∧ rows = []
  | s, .im w rows => ∃ rows', st.rows s = some (w, rows') ∧ rows = frz rows'
  | .ref id w off len, .ow w' rows => match st.objs id with
    | some (w'', rows') => w'' = w' ∧ w' = w ∧ off = 0 ∧ len = rows'.length ∧ rows = rst rows'
    | none => False
  | .rin id i j s off len, .ow w' rows => match st.objs id with
    | some (_, rows') => match Rows.cell rows' i j with
      | .sl s' xs => s' = s ∧ 0 < s ∧ w' = 1 ∧ off = 0 ∧ len = xs.length ∧ rows = lift xs
      | _ => False
    | none => False
  | .vad id 0, .op fs => st.vars id = some (fs.map Fld.sv)
  | .vad id 0, .ip fs => fldsOf st id fs
  | .ipt fs 0, .ip fs' => fs' = fs
  | .fnv f ids, .fn f' caps => f' = f ∧ All2 (fun id fs => fldsOf st id fs) ids caps
  | .fni f caps, .fn f' caps' => f' = f ∧ caps' = caps
  | _, _ => False
def passPk (st : St) : Pk → LV → Prop
  | .one s, .one l => pass st s l
  | .agg xs, .agg ls => All2 (pass st) xs ls
  | _, _ => False

end Go.Proofs.Ytkcbnbbbijlhcai.A
