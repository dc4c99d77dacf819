/- THE ABSTRACT SEMANTICS (definitions): slots hold pure data, the memory of a frame is a set of variables and of slices of its own. Conditions: none; definitions alone. -/
import Derived.Calls
import Derived.Below
import Derived.KernelRfl
import Derived.Laws.Cells
import Derived.Laws.CopyRow
import Derived.IntWalk
namespace Go.Proofs.YtedciihjgbkjgacGreatDoor.A
open Go

/-- A cell of a row of an outer slice: a scalar; an inner slice of scalars (stamp 0: read only; else own); gone. -/
inductive Cell where
  | sc (v : Value)
  | sl (s : Nat) (xs : List Value)
  | gone

abbrev Rows := List (List Cell)

def All2 {α β : Type} (R : α → β → Prop) : List α → List β → Prop
  | [], [] => True
  | a :: as, b :: bs => R a b ∧ All2 R as bs
  | _, _ => False

/-- A row of scalars, one cell each. -/
def lift (xs : List Value) : Rows := xs.map fun v => [Cell.sc v]

/-- All inner slices read only. -/
def Cell.frz : Cell → Cell
  | .sc v => .sc v
  | .sl _ xs => .sl 0 xs
  | .gone => .gone
def frz (rows : Rows) : Rows := rows.map fun r => r.map Cell.frz
/-- All stamps of one's own inner slices are 1. -/
def Cell.rst : Cell → Cell
  | .sc v => .sc v
  | .sl 0 xs => .sl 0 xs
  | .sl (_ + 1) xs => .sl 1 xs
  | .gone => .gone
def rst (rows : Rows) : Rows := rows.map fun r => r.map Cell.rst
/-- One's own inner slices get a stamp. -/
def Cell.stm (n : Nat) : Cell → Cell
  | .sl (_ + 1) xs => .sl n xs
  | c => c
def stm (n : Nat) (rows : Rows) : Rows := rows.map fun r => r.map (Cell.stm n)
def Cell.flat : Cell → Prop
  | .sc _ => True
  | .sl s _ => s = 0
  | .gone => True

/-- A field of a variable that is only read. -/
inductive Fld where
  | sc (v : Value)
  | im (w : Nat) (rows : Rows)

/-- A simple abstract value. -/
inductive SV where
  | un
  | sc (v : Value)
  | im (w : Nat) (rows : Rows)
  | ref (id w off len : Nat)
  | rin (id i j s off len : Nat)
  | vad (id j : Nat)
  | oad (id i j : Nat)
  | oin (id i j s k : Nat)
  | iad (row : List Cell) (j : Nat)
  | ipt (fs : List Fld) (j : Nat)
  | fnv (f : FuncId) (ids : List Nat)
  | fni (f : FuncId) (caps : List (List Fld))

inductive Pk where
  | one (s : SV)
  | agg (xs : List SV)

inductive AV where
  | pk (p : Pk)
  | tup (ps : List Pk)

abbrev AV.one (s : SV) : AV := .pk (.one s)
abbrev AV.agg (xs : List SV) : AV := .pk (.agg xs)
abbrev AV.sc (v : Value) : AV := .pk (.one (.sc v))
abbrev AV.un : AV := .pk (.one .un)

abbrev Obj' := Nat × Rows

structure St where
  slots : Nat → AV
  vars : Nat → Option (List SV)
  objs : Nat → Option Obj'
  next : Nat

def St.ev (st : St) : Operand → AV
  | .tmp t => st.slots t
  | .const v => .sc v
  | .func f => .one (.fnv f [])
  | .global _ => .un

def St.put (st : St) (d : Option Tmp) (v : AV) : St :=
  { st with slots := fun t => if some t = d then v else st.slots t }

/-- What an operation hands back, and what it writes besides slots. -/
structure Eff where
  v : AV
  ow : List (Nat × Option Obj') := []
  vw : List (Nat × Option (List SV)) := []

def upd {α : Type} (f : Nat → Option α) : List (Nat × Option α) → Nat → Option α
  | [] => f
  | (i, x) :: r => fun k => if k = i then x else upd f r k

def St.app (st : St) (d : Option Tmp) (e : Eff) : St :=
  { slots := fun t => if some t = d then e.v else st.slots t, vars := upd st.vars e.vw, objs := upd st.objs e.ow, next := st.next }

/-! #### what is asked of a type -/
def aggOf (P : Program) (t : TypeId) : Option (Option Nat) :=
  match P.underlying t, P.info? t with
  | some (.struct _), some i => some (some i.size)
  | some (.array _ _), some i => some (some i.size)
  | some _, some i => if i.size = 1 then some none else none
  | none, _ => none
  | some _, none => none

def zeroOf (P : Program) (t : TypeId) : Option (List Value) :=
  match P.info? t with
  | some i => i.zero.map fun v => v.cells.toList
  | none => none

/-- Of a struct's field: where it lies, how many cells, is it a struct or an array. -/
def fieldOf (P : Program) (t : TypeId) (f : Nat) : Option (Nat × Option Nat) :=
  match P.underlying t with
  | some (.struct fs) =>
    match fs[f]? with
    | some fl => match aggOf P fl.type with
      | some n => if n = some 0 then none else some (fl.offset, n)
      | none => none
    | none => none
  | _ => none

/-- Of a slice type: its elements' cells, bytes and zero. -/
def elemOf' (P : Program) (t : TypeId) : Option (Nat × Nat × List Value) :=
  match P.underlying t with
  | some (.slice e) => match P.info? e, zeroOf P e with
    | some i, some z => if z.length = i.size ∧ 0 < i.size ∧ 0 < i.bytes ∧ i.bytes ≤ 4096 ∧ z.all Value.oneCell' = true then some (i.size, i.bytes, z) else none
    | _, _ => none
  | _ => none

/-! #### what the operations come to -/
def Cell.sv (id i j : Nat) : Cell → SV
  | .sc v => .sc v
  | .sl 0 xs => .im 1 (lift xs)
  | .sl (s + 1) xs => .rin id i j (s + 1) 0 xs.length
  | .gone => .un
def Cell.isv : Cell → SV
  | .sc v => .sc v
  | .sl _ xs => .im 1 (lift xs)
  | .gone => .un
def Fld.sv : Fld → SV
  | .sc v => .sc v
  | .im w rows => .im w rows
def svs (id i : Nat) : Nat → List Cell → List SV
  | _, [] => []
  | j, c :: r => c.sv id i j :: svs id i (j + 1) r

def Rows.cell (rows : Rows) (i j : Nat) : Cell := (rows.getD i []).getD j .gone
def Rows.setCell (rows : Rows) (i j : Nat) (c : Cell) : Rows := rows.set i ((rows.getD i []).set j c)

/-- A slice, as it reads. -/
def St.rows (st : St) : SV → Option (Nat × Rows)
  | .im w rows => some (w, rows)
  | .ref id w off len => match st.objs id with
    | some (_, rows) => some (w, (rows.drop off).take len)
    | none => none
  | .rin id i j s off len => match st.objs id with
    | some (_, rows) => match Rows.cell rows i j with
      | .sl s' xs => if s' = s then some (1, lift ((xs.drop off).take len)) else none
      | _ => none
    | none => none
  | _ => none

/-- A value of one cell, of which enough is known. -/
def SV.solid (st : St) : SV → Prop
  | .sc v => v.oneCell' = true
  | .im _ _ => True
  | .ref id w off len => st.rows (.ref id w off len) ≠ none
  | .rin id i j s off len => st.rows (.rin id i j s off len) ≠ none
  | .vad id _ => st.vars id ≠ none
  | .iad _ _ => True
  | .ipt _ _ => True
  | .fnv _ _ => True
  | .fni _ _ => True
  | _ => False
def solids (st : St) : List SV → Prop
  | [] => True
  | s :: r => s.solid st ∧ solids st r

def isNil : Value → Bool
  | .slice none 0 0 => true
  | _ => false

def intK (k : IntKind) (a b : Int) (K : Value → Prop) : BinOp → Prop
  | .add => K (.int k (k.wrap (a + b)))
  | .sub => K (.int k (k.wrap (a - b)))
  | .mul => K (.int k (k.wrap (a * b)))
  | .quo => b ≠ 0 ∧ K (.int k (k.wrap (a.tdiv b)))
  | .rem => b ≠ 0 ∧ K (.int k (a.tmod b))
  | .and => K (.int k (k.wrap (BitVec.ofInt k.bits a &&& BitVec.ofInt k.bits b).toNat))
  | .or => K (.int k (k.wrap (BitVec.ofInt k.bits a ||| BitVec.ofInt k.bits b).toNat))
  | .xor => K (.int k (k.wrap (BitVec.ofInt k.bits a ^^^ BitVec.ofInt k.bits b).toNat))
  | .eql => K (.bool (a == b))
  | .neq => K (.bool (a != b))
  | .lss => K (.bool (a < b))
  | .leq => K (.bool (a ≤ b))
  | .gtr => K (.bool (a > b))
  | .geq => K (.bool (a ≥ b))
  | _ => False
def strK (a b : ByteArray) (K : Value → Prop) : BinOp → Prop
  | .add => a.size + b.size ≤ 9223372036854775807 ∧ K (.string (a ++ b))
  | .eql => K (.bool (a.toList == b.toList))
  | .neq => K (.bool (!(a.toList == b.toList)))
  | .lss => K (.bool (Op.bytesLess a.toList b.toList))
  | .leq => K (.bool (Op.bytesLess a.toList b.toList || a.toList == b.toList))
  | .gtr => K (.bool (!(Op.bytesLess a.toList b.toList || a.toList == b.toList)))
  | .geq => K (.bool (!(Op.bytesLess a.toList b.toList)))
  | _ => False
def boolK (P : Program) (xT : TypeId) (a b : Bool) (K : Value → Prop) : BinOp → Prop
  | .eql => P.underlying xT = some .bool ∧ K (.bool (a == b))
  | .neq => P.underlying xT = some .bool ∧ K (.bool (!(a == b)))
  | _ => False
def shiftK (k : IntKind) (a b : Int) (K : Value → Prop) : BinOp → Prop
  | .shl => 0 ≤ b ∧ K (.int k (k.wrap (a * 2 ^ (min b.toNat k.bits))))
  | .shr => 0 ≤ b ∧ K (.int k (a.fdiv (2 ^ (min b.toNat k.bits))))
  | _ => False
def isShift : BinOp → Bool
  | .shl | .shr => true
  | _ => false

def binK (P : Program) (xT : TypeId) (op : BinOp) (x y : Value) (K : Value → Prop) : Prop :=
  match x, y with
  | .int k a, .int k' b => if isShift op then shiftK k a b K op else k = k' ∧ intK k a b K op
  | .string a, .string b => strK a b K op
  | .bool a, .bool b => boolK P xT a b K op
  | _, _ => False

/-- A struct of two whole numbers, that can be compared. -/
def i64T (P : Program) (t : TypeId) : Bool := match P.underlying t with
  | some (.int .i64) => true
  | _ => false
def pairT (P : Program) (t : TypeId) : Bool := match P.underlying t with
  | some (.struct fs) => (match fs.toList with
    | [f, g] => f.name != "_" && (g.name != "_" && (f.offset == 0 && (g.offset == 1 && (i64T P f.type && (i64T P g.type && (!P.stoodInHeld t && !P.eqGuardType P.depth t))))))
    | _ => false)
  | _ => false
def pairK (P : Program) (xT : TypeId) (op : BinOp) (xs ys : List SV) (K : Value → Prop) : Prop :=
  match xs, ys with
  | [.sc (.int .i64 a), .sc (.int .i64 b)], [.sc (.int .i64 c), .sc (.int .i64 d)] => pairT P xT = true ∧ (match op with
    | .eql => K (.bool (a == c && b == d))
    | .neq => K (.bool (!(a == c && b == d)))
    | _ => False)
  | _, _ => False

def unK (op : UnOp) (x : Value) (K : Value → Prop) : Prop :=
  match op, x with
  | .neg, .int k n => K (.int k (k.wrap (0 - n)))
  | .not, .bool b => K (.bool (!b))
  | _, _ => False

/-- A load of one cell ('none') or of a struct's n cells. -/
def loadK (st : St) (a : SV) (n : Option Nat) (K : AV → Prop) : Prop :=
  match a with
  | .vad id j => match st.vars id with
    | some fs => match n with
      | some n => j + n ≤ fs.length ∧ K (.agg ((fs.drop j).take n))
      | none => j < fs.length ∧ K (.one (fs.getD j .un))
    | none => False
  | .oad id i j => match st.objs id with
    | some (_, rows) => match n with
      | some n => i < rows.length ∧ j + n ≤ (rows.getD i []).length ∧ K (.agg (((svs id i 0 (rows.getD i [])).drop j).take n))
      | none => i < rows.length ∧ j < (rows.getD i []).length ∧ K (.one ((Rows.cell rows i j).sv id i j))
    | none => False
  | .oin id i j s k => match st.objs id with
    | some (_, rows) => match Rows.cell rows i j with
      | .sl s' xs => s' = s ∧ n = none ∧ k < xs.length ∧ K (.sc (xs.getD k default))
      | _ => False
    | none => False
  | .iad row j => match n with
    | some n => j + n ≤ row.length ∧ K (.agg (((row.map Cell.isv).drop j).take n))
    | none => j < row.length ∧ K (.one ((row.getD j .gone).isv))
  | .ipt fs j => match n with
    | some n => j + n ≤ fs.length ∧ K (.agg (((fs.map Fld.sv).drop j).take n))
    | none => j < fs.length ∧ K (.one ((fs.map Fld.sv).getD j .un))
  | _ => False

def Pk.svs : Pk → List SV
  | .one s => [s]
  | .agg xs => xs
def AV.svs : AV → List SV
  | .pk p => p.svs
  | .tup ps => ps.flatMap Pk.svs

def setRange {α : Type} (l : List α) (j : Nat) (xs : List α) : List α := l.take j ++ xs ++ l.drop (j + xs.length)

/-- A simple value put into a cell of a slice of one's own (s: the stamp): what the cell holds, and what falls away by that. -/
def cellK (st : St) (s : Nat) (x : SV) (K : Cell → List (Nat × Option Obj') → Prop) : Prop :=
  match x with
  | .sc v => if isNil v then K (.sl s []) [] else K (.sc v) []
  | .im w rows => ∃ xs, w = 1 ∧ rows = lift xs ∧ K (.sl 0 xs) []
  | .ref id w off len => match st.objs id with
    | some (_, rows) => ∃ xs, w = 1 ∧ off = 0 ∧ len = rows.length ∧ rows = lift xs ∧ K (.sl s xs) [(id, none)]
    | none => False
  | .rin id i j s' off len => match st.objs id with
    | some (w, rows) => match Rows.cell rows i j with
      | .sl s'' xs => s'' = s' ∧ off = 0 ∧ len = xs.length ∧ K (.sl s xs) [(id, some (w, Rows.setCell rows i j .gone))]
      | _ => False
    | none => False
  | _ => False

/-- Several of them, from left to right. -/
def cellsK (s : Nat) : St → List SV → (List Cell → List (Nat × Option Obj') → Prop) → Prop
  | _, [], K => K [] []
  | st, x :: r, K => cellK st s x fun c ws => cellsK s { st with objs := upd st.objs ws } r fun cs ws' => K (c :: cs) (ws' ++ ws)

def storeK (st : St) (nid : Nat) (a : SV) (n : Nat) (xs : List SV) (K : Eff → Prop) : Prop :=
  xs.length = n ∧
  match a with
  | .vad id j => match st.vars id with
    | some fs => j + n ≤ fs.length ∧ K ⟨.un, [], [(id, some (setRange fs j xs))]⟩
    | none => False
  | .oad id i j => cellsK nid st xs fun cs ws => match upd st.objs ws id with
    | some (w, rows) => i < rows.length ∧ j + n ≤ (rows.getD i []).length ∧
        K ⟨.un, (id, some (w, rows.set i (setRange (rows.getD i []) j cs))) :: ws, []⟩
    | none => False
  | .oin id i j s k => match st.objs id with
    | some (w, rows) => match Rows.cell rows i j with
      | .sl s' ys => s' = s ∧ 0 < s ∧ k < ys.length ∧
          (match xs with | [.sc v] => isNil v = false ∧ K ⟨.un, [(id, some (w, Rows.setCell rows i j (.sl s (ys.set k v))))], []⟩ | _ => False)
      | _ => False
    | none => False
  | _ => False

def asNat (a : AV) (K : Nat → Prop) : Prop :=
  match a with
  | .pk (.one (.sc (.int _ n))) => 0 ≤ n ∧ K n.toNat
  | _ => False
def asNat? (st : St) (x : Option Operand) (d : Nat) (K : Nat → Prop) : Prop :=
  match x with
  | some x => asNat (st.ev x) K
  | none => K d

/-- A cut of a slice (w: the cells of an element). -/
def cutK (st : St) (w : Nat) (x : SV) (lo hi : Option Operand) (K : Eff → Prop) : Prop :=
  match x with
  | .sc v => isNil v = true ∧ asNat? st lo 0 fun l => asNat? st hi 0 fun h => l = 0 ∧ h = 0 ∧ K ⟨.sc v, [], []⟩
  | .im w' rows => asNat? st lo 0 fun l => asNat? st hi rows.length fun h => w' = w ∧ l ≤ h ∧ h ≤ rows.length ∧ K ⟨.one (.im w ((rows.take h).drop l)), [], []⟩
  | .ref id w' off len => st.rows (.ref id w' off len) ≠ none ∧ asNat? st lo 0 fun l => asNat? st hi len fun h => w' = w ∧ l ≤ h ∧ h ≤ len ∧ K ⟨.one (.ref id w (off + l) (h - l)), [], []⟩
  | .rin id i j s off len => st.rows (.rin id i j s off len) ≠ none ∧ asNat? st lo 0 fun l => asNat? st hi len fun h => 1 = w ∧ l ≤ h ∧ h ≤ len ∧ K ⟨.one (.rin id i j s (off + l) (h - l)), [], []⟩
  | _ => False

def Cell.flatB : Cell → Bool
  | .sc _ => true
  | .sl s _ => s == 0
  | .gone => true
def flatB (rows : Rows) : Bool := rows.all fun r => r.all Cell.flatB
/-- A row whose inner slices are gone. -/
def Cell.goneC : Cell → Cell
  | .sl _ _ => .gone
  | c => c
def goneR (rows : Rows) (off len : Nat) : Rows := rows.take off ++ (((rows.drop off).take len).map fun r => r.map Cell.goneC) ++ (rows.drop off).drop len
/-- What is appended: its rows, and what falls away by that. -/
def srcK (st : St) (w : Nat) (x : AV) (K : Rows → List (Nat × Option Obj') → Prop) : Prop :=
  match x with
  | .pk (.one (.sc (.string s))) => w = 1 ∧ K (lift (s.data.toList.map fun b => .int .u8 b.toNat)) []
  | .pk (.one (.sc v)) => isNil v = true ∧ K [] []
  | .pk (.one (.im w' rows)) => w' = w ∧ flatB rows = true ∧ K rows []
  | .pk (.one (.ref id w' off len)) => match st.objs id with
    | some (_, rows) => w' = w ∧ if flatB ((rows.drop off).take len) then K ((rows.drop off).take len) [] else if off = 0 ∧ len = rows.length then K rows [(id, some (w', goneR rows off len))] else K ((rows.drop off).take len) [(id, some (w', goneR rows off len))]
    | none => False
  | .pk (.one (.rin id i j s off len)) => match st.rows (.rin id i j s off len) with
    | some (w', rows) => w' = w ∧ K rows []
    | none => False
  | _ => False

/-- An append. -/
def appK (st : St) (nid w bytes : Nat) (s x : AV) (K : Eff → Prop) : Prop :=
  srcK st w x fun more ws =>
    match s with
    | .pk (.one (.sc v)) => isNil v = true ∧ (more.length + 1) * bytes ≤ 70368744177664 ∧ K ⟨.one (.ref nid w 0 more.length), (nid, some (w, more)) :: ws, []⟩
    | .pk (.one (.ref id w' off len)) => match upd st.objs ws id with
      | some (_, rows) => w' = w ∧ off = 0 ∧ len = rows.length ∧ (rows.length + more.length + 1) * bytes ≤ 70368744177664 ∧
          K ⟨.one (.ref nid w 0 (rows.length + more.length)), (nid, some (w, rows ++ more)) :: (id, none) :: ws, []⟩
      | none => False
    | .pk (.one (.rin id i j s off len)) => match upd st.objs ws id with
      | some (wo, rows) => match Rows.cell rows i j with
        | .sl s' xs => s' = s ∧ w = 1 ∧ off = 0 ∧ len = xs.length ∧ (xs.length + more.length + 1) * bytes ≤ 70368744177664 ∧
            K ⟨.one (.ref nid w 0 (xs.length + more.length)), (nid, some (w, lift xs ++ more)) :: (id, some (wo, Rows.setCell rows i j .gone)) :: ws, []⟩
        | _ => False
      | none => False
    | _ => False

/-! #### what a call is handed and what it hands back -/
inductive Leaf where
  | sc (v : Value)
  | im (w : Nat) (rows : Rows)
  | ow (w : Nat) (rows : Rows)
  | gone
  | ip (fs : List Fld)
  | op (fs : List Fld)
  | fn (f : FuncId) (caps : List (List Fld))

inductive LV where
  | one (l : Leaf)
  | agg (ls : List Leaf)

def LV.leaves : LV → List Leaf
  | .one l => [l]
  | .agg ls => ls

/-! #### the concrete side: what a block of memory is to the frame -/
inductive Lab where
  | dead
  | imm
  | own (id : Nat)
  | inn (id i j : Nat)
  | var (id : Nat)
  | far

structure Sh where
  lab : Nat → Lab
  μ : Nat → Value
  β : Nat → Nat

def ImSl (W : World) (lab : Nat → Lab) (xs : List Value) (v : Value) : Prop :=
  ∃ A cap, v = .slice A xs.length cap ∧ xs.length ≤ cap ∧
    (xs ≠ [] → ∃ b o, A = some ⟨b, o, none⟩ ∧ lab b = .imm ∧ ∀ (k : Nat) (x : Value), xs[k]? = some x → x.oneCell' = true ∧ W.cell? ⟨b, o + k, none⟩ = some x)
def ImCell (W : World) (lab : Nat → Lab) : Cell → Value → Prop
  | .sc x, v => v = x ∧ x.oneCell' = true
  | .sl _ xs, v => ImSl W lab xs v
  | .gone, v => v.oneCell' = true
def ImRow (W : World) (lab : Nat → Lab) (row : List Cell) (b o : Nat) : Prop :=
  ∀ (j : Nat) (c : Cell), row[j]? = some c → ∃ v, W.cell? ⟨b, o + j, none⟩ = some v ∧ ImCell W lab c v
def ImRep (W : World) (lab : Nat → Lab) (w : Nat) (rows : Rows) (v : Value) : Prop :=
  ∃ A cap, v = .slice A rows.length cap ∧ rows.length ≤ cap ∧ (∀ r ∈ rows, r.length = w) ∧
    (rows ≠ [] → 0 < w ∧ ∃ b o, A = some ⟨b, o, none⟩ ∧ lab b = .imm ∧ ∀ (i : Nat) (r : List Cell), rows[i]? = some r → ImRow W lab r b (o + i * w))
def FldRep (W : World) (lab : Nat → Lab) : Fld → Value → Prop
  | .sc x, v => v = x
  | .im w rows, v => ImRep W lab w rows v
def IpRep (W : World) (lab : Nat → Lab) (fs : List Fld) (j : Nat) (v : Value) : Prop :=
  ∃ b o : Nat, v = .pointer (some ⟨b, o + j, none⟩) ∧ lab b = .imm ∧ ∀ (k : Nat) (f : Fld), fs[k]? = some f → ∃ u, W.cell? ⟨b, o + k, none⟩ = some u ∧ FldRep W lab f u

def OwnSl (W : World) (lab : Nat → Lab) (L : Lab) (xs : List Value) (v : Value) : Prop :=
  (∃ A, v = .slice A 0 0 ∧ xs = []) ∨
  ∃ (b cap : Nat) (c : Array Value) (t : TypeId), v = .slice (some ⟨b, 0, none⟩) xs.length cap ∧ xs.length ≤ cap ∧ lab b = L ∧ W.heap[b]? = some (.cells c t (0, 0)) ∧ c.size = cap ∧
    ∀ (k : Nat) (x : Value), xs[k]? = some x → x.oneCell' = true ∧ c[k]? = some x
def OwnCell (W : World) (lab : Nat → Lab) (L : Lab) : Cell → Value → Prop
  | .sc x, v => v = x ∧ x.oneCell' = true
  | .sl 0 xs, v => ImSl W lab xs v
  | .sl (_ + 1) xs, v => OwnSl W lab L xs v
  | .gone, v => v.oneCell' = true
def OwnRep (W : World) (lab : Nat → Lab) (id w : Nat) (rows : Rows) (h : Value) : Prop :=
  0 < w ∧ (∀ r ∈ rows, r.length = w) ∧
  ((∃ A, h = .slice A 0 0 ∧ rows = []) ∨
   ∃ (b cap : Nat) (c : Array Value) (t : TypeId), h = .slice (some ⟨b, 0, none⟩) rows.length cap ∧ rows.length ≤ cap ∧ lab b = .own id ∧ W.heap[b]? = some (.cells c t (0, 0)) ∧ c.size = cap * w ∧
     ∀ (i j : Nat) (r : List Cell) (x : Cell), rows[i]? = some r → r[j]? = some x → ∃ v, c[i * w + j]? = some v ∧ OwnCell W lab (.inn id i j) x v)

/-- The header of a cut. -/
def viewOf (h : Value) (w off len : Nat) : Value :=
  match h with
  | .slice A _ cap => .slice (if cap = off then A else A.map (·.add (off * w))) len (cap - off)
  | v => v

/-- The header that lies in a cell of an outer slice. -/
def headAt (W : World) (h : Value) (w i j : Nat) : Option Value :=
  match h with
  | .slice (some ⟨b, 0, none⟩) _ _ => W.cell? ⟨b, i * w + j, none⟩
  | _ => none

/-- An empty cut without room may lie anywhere. -/
def ViewIs (h : Value) (w off len : Nat) (v : Value) : Prop := v = viewOf h w off len ∨ (len = 0 ∧ ∃ A, v = .slice A 0 0)

def SVRep (st : St) (W : World) (sh : Sh) : SV → Value → Prop
  | .un, _ => True
  | .sc x, v => v = x
  | .im w rows, v => ImRep W sh.lab w rows v
  | .ref id w off len, v => ∀ w' rows, st.objs id = some (w', rows) → w' = w ∧ off + len ≤ rows.length ∧ ViewIs (sh.μ id) w off len v
  | .rin id i j s off len, v => 0 < s ∧ ∀ w rows xs, st.objs id = some (w, rows) → Rows.cell rows i j = .sl s xs → 0 < s ∧ off + len ≤ xs.length ∧
      ∃ h, headAt W (sh.μ id) w i j = some h ∧ ViewIs h 1 off len v
  | .vad id j, v => ∀ fs, st.vars id = some fs → v = .pointer (some ⟨sh.β id, j, none⟩)
  | .oad id i j, v => ∀ w rows, st.objs id = some (w, rows) → i < rows.length → ∃ (b n cap : Nat), sh.μ id = .slice (some ⟨b, 0, none⟩) n cap ∧ v = .pointer (some ⟨b, i * w + j, none⟩)
  | .oin id i j s k, v => 0 < s ∧ ∀ w rows xs, st.objs id = some (w, rows) → Rows.cell rows i j = .sl s xs → k < xs.length → 0 < s ∧
      ∃ (b n cap : Nat), headAt W (sh.μ id) w i j = some (.slice (some ⟨b, 0, none⟩) n cap) ∧ v = .pointer (some ⟨b, k, none⟩)
  | .iad row j, v => ∃ b o : Nat, v = .pointer (some ⟨b, o + j, none⟩) ∧ sh.lab b = .imm ∧ ImRow W sh.lab row b o
  | .ipt fs j, v => IpRep W sh.lab fs j v
  | .fnv f ids, v => ∃ cs : Array Value, v = .func (.func f) #[] cs ∧ All2 (fun (id : Nat) (u : Value) => ∀ fs, st.vars id = some fs → u = .pointer (some ⟨sh.β id, 0, none⟩)) ids cs.toList
  | .fni f caps, v => ∃ cs : Array Value, v = .func (.func f) #[] cs ∧ All2 (fun fs u => IpRep W sh.lab fs 0 u) caps cs.toList

def PkRep (st : St) (W : World) (sh : Sh) : Pk → Value → Prop
  | .one s, v => SVRep st W sh s v
  | .agg xs, v => ∃ cs : Array Value, v = .agg cs ∧ All2 (SVRep st W sh) xs cs.toList
def AVRep (st : St) (W : World) (sh : Sh) : AV → Value → Prop
  | .pk p, v => PkRep st W sh p v
  | .tup ps, v => ∃ vs : Array Value, v = .tuple vs ∧ All2 (PkRep st W sh) ps vs.toList

/-- Leaves of a call (k: the number that names a leaf of the call's own). -/
def LeafRep (W : World) (lab : Nat → Lab) (k : Nat) : Leaf → Value → Prop
  | .sc x, v => v = x
  | .im w rows, v => ImRep W lab w rows v
  | .ow w rows, v => OwnRep W lab k w rows v ∧ rst rows = rows
  | .gone, _ => True
  | .ip fs, v => IpRep W lab fs 0 v
  | .op fs, v => ∃ (b : Nat) (c : Array Value) (t : TypeId), v = .pointer (some ⟨b, 0, none⟩) ∧ lab b = .var k ∧ W.heap[b]? = some (.cells c t (0, 0)) ∧ c.size = fs.length ∧
      ∀ (j : Nat) (f : Fld), fs[j]? = some f → ∃ u, c[j]? = some u ∧ FldRep W lab f u
  | .fn f caps, v => ∃ cs : Array Value, v = .func (.func f) #[] cs ∧ All2 (fun fs u => IpRep W lab fs 0 u) caps cs.toList
def LeavesRep (W : World) (lab : Nat → Lab) : Nat → List Leaf → List Value → Prop
  | _, [], [] => True
  | k, l :: ls, v :: vs => LeafRep W lab k l v ∧ LeavesRep W lab (k + 1) ls vs
  | _, _, _ => False
def LVRep (W : World) (lab : Nat → Lab) (k : Nat) : LV → Value → Prop
  | .one l, v => LeafRep W lab k l v
  | .agg ls, v => ∃ cs : Array Value, v = .agg cs ∧ LeavesRep W lab k ls cs.toList
def LVsRep (W : World) (lab : Nat → Lab) : Nat → List LV → List Value → Prop
  | _, [], [] => True
  | k, l :: ls, v :: vs => LVRep W lab k l v ∧ LVsRep W lab (k + 16) ls vs
  | _, _, _ => False
def ResRep (W : World) (lab : Nat → Lab) (lvs : List LV) (v : Value) : Prop :=
  match lvs with
  | [lv] => LVRep W lab 4096 lv v
  | lvs => ∃ vs : Array Value, v = .tuple vs ∧ LVsRep W lab 4096 lvs vs.toList

/-- What was read only is as it was. -/
structure Ext (W : World) (lab : Nat → Lab) (W' : World) (lab' : Nat → Lab) : Prop where
  os : W'.os = W.os
  tape : W'.tape = W.tape
  output : W'.output = W.output
  size : W.heap.size ≤ W'.heap.size
  same : ∀ b, b < W.heap.size → (lab b = .imm ∨ lab b = .far) → lab' b = lab b ∧ W'.heap[b]? = W.heap[b]?
  dead : ∀ b, W'.heap.size ≤ b → lab' b = .dead

def CallF (P : Program) (f : FuncId) (vs : Array Value) (W : World) (R : Value → World → Prop) : Prop :=
  match (callFunc f vs).run P W with
  | .ok (.enter g as) W' => Calls P g as W' fun e W'' => ∃ v, e = .returned v ∧ R v W''
  | .ok (.value v) W' => R v W'
  | _ => False

/-- THE CONTRACT: called with what reads as 'args', the function hands back what reads as 'res', and what it was handed reads as 'upd'. -/
def LVok (l : List LV) (n : Nat) : Bool := decide (l.length ≤ n) && l.all fun v => decide (v.leaves.length ≤ 16)
/-- What comes back: four values at most (the sixteenth name of each stays free). -/
def LVokR (l : List LV) : Bool := decide (l.length ≤ 4) && l.all fun v => decide (v.leaves.length ≤ 15)
def Sat (P : Program) (f : FuncId) (args res upd : List LV) : Prop :=
  LVok args 60 = true ∧ LVokR res = true ∧ ∀ (W : World) (lab : Nat → Lab) (vs : List Value), (∀ b, W.heap.size ≤ b → lab b = .dead) → LVsRep W lab 0 args vs →
    CallF P f vs.toArray W fun v W' => ∃ lab', ResRep W' lab' res v ∧ LVsRep W' lab' 0 upd vs ∧ Ext W lab W' lab'

/-! #### a call, seen from the caller -/
def SV.flds (st : St) : SV → Fld → Prop
  | .sc v, f => f = .sc v ∨ (isNil v = true ∧ ∃ w, f = .im w [])
  | s, .im w rows => ∃ rows', st.rows s = some (w, rows') ∧ rows = frz rows'
  | _, _ => False
def fldsOf (st : St) (id : Nat) (fs : List Fld) : Prop :=
  match st.vars id with
  | some xs => All2 (fun x f => SV.flds st x f) xs fs
  | none => False

/-- What a value is passed as. -/
def pass (st : St) : SV → Leaf → Prop
  | .sc v, .sc v' => v' = v
  | .sc v, .im _ rows => isNil v = true ∧ rows = []
  | .sc v, .ow w rows => isNil v = true ∧ 0 < w ∧ rows = []
  | s, .im w rows => ∃ rows', st.rows s = some (w, rows') ∧ rows = frz rows'
  | .ref id w off len, .ow w' rows => match st.objs id with
    | some (w'', rows') => w'' = w' ∧ w' = w ∧ off = 0 ∧ len = rows'.length ∧ rows = rst rows'
    | none => False
  | .rin id i j s off len, .ow w' rows => match st.objs id with
    | some (_, rows') => match Rows.cell rows' i j with
      | .sl s' xs => s' = s ∧ 0 < s ∧ w' = 1 ∧ off = 0 ∧ len = xs.length ∧ rows = lift xs
      | _ => False
    | none => False
  | .vad id 0, .op fs => st.vars id = some (fs.map Fld.sv)
  | .vad id 0, .ip fs => fldsOf st id fs
  | .ipt fs 0, .ip fs' => fs' = fs
  | .fnv f ids, .fn f' caps => f' = f ∧ All2 (fun id fs => fldsOf st id fs) ids caps
  | .fni f caps, .fn f' caps' => f' = f ∧ caps' = caps
  | _, _ => False
def passPk (st : St) : Pk → LV → Prop
  | .one s, .one l => pass st s l
  | .agg xs, .agg ls => All2 (pass st) xs ls
  | _, _ => False

end Go.Proofs.YtedciihjgbkjgacGreatDoor.A

/-! THE ABSTRACT SEMANTICS (definitions, second part): operations, regions, code; what it means that a frame is as a state says. Conditions: none; definitions alone. -/
namespace Go.Proofs.YtedciihjgbkjgacGreatDoor.A
open Go

/-- The slices and variables that a value names. -/
def SV.ids' : SV → List Nat
  | .ref id _ _ _ => [id]
  | .rin id _ _ _ _ _ => [id]
  | .vad id _ => [id]
  | .fnv _ ids => ids
  | _ => []
def handLeaf : SV → Leaf → List Nat
  | .ref id _ _ _, .ow _ _ => [id]
  | .rin id _ _ _ _ _, .ow _ _ => [id]
  | .vad id _, .op _ => [id]
  | _, _ => []
def handPk : Pk → LV → List Nat
  | .one s, .one l => handLeaf s l
  | .agg xs, .agg ls => (List.zipWith handLeaf xs ls).flatten
  | _, _ => []

def unlift (rows : Rows) : List Value := rows.map fun r => match r with | [.sc v] => v | _ => default

/-- What a call leaves in what it was handed. -/
def updLeafO (nid : Nat) (st : St) : SV → Leaf → Leaf → List (Nat × Option Obj')
  | .ref id _ _ _, .ow _ _, .ow w rows => [(id, some (w, stm nid rows))]
  | .ref id _ _ _, .ow _ _, _ => [(id, none)]
  | .rin id i j s _ _, .ow _ _, .ow _ rows => match st.objs id with
    | some (w, old) => [(id, some (w, Rows.setCell old i j (.sl s (unlift rows))))]
    | none => []
  | .rin id i j _ _ _, .ow _ _, _ => match st.objs id with
    | some (w, old) => [(id, some (w, Rows.setCell old i j .gone))]
    | none => []
  | _, _, _ => []
def updLeafV : SV → Leaf → Leaf → List (Nat × Option (List SV))
  | .vad id _, .op _, .op fs => [(id, some (fs.map Fld.sv))]
  | .vad id _, .op _, _ => [(id, none)]
  | _, _, _ => []
def zip3 {α β γ δ : Type} (f : α → β → γ → List δ) : List α → List β → List γ → List δ
  | a :: as, b :: bs, c :: cs => f a b c ++ zip3 f as bs cs
  | _, _, _ => []
def updPk {δ : Type} (f : SV → Leaf → Leaf → List δ) : Pk → LV → LV → List δ
  | .one s, .one l, .one u => f s l u
  | .agg xs, .agg ls, .agg us => zip3 f xs ls us
  | _, _, _ => []

/-- A result's leaf as a value of the caller's, and what it brings with it. -/
def resLeaf (id : Nat) : Leaf → SV
  | .sc v => .sc v
  | .im w rows => .im w rows
  | .ow w rows => .ref id w 0 rows.length
  | .gone => .un
  | .ip fs => .ipt fs 0
  | .op _ => .vad id 0
  | .fn f caps => .fni f caps
def resLeafO (id : Nat) : Leaf → List (Nat × Option Obj')
  | .ow w rows => [(id, some (w, rows))]
  | _ => []
def resLeafV (id : Nat) : Leaf → List (Nat × Option (List SV))
  | .op fs => [(id, some (fs.map Fld.sv))]
  | _ => []
def resLeaves (id : Nat) : List Leaf → List SV
  | [] => []
  | l :: ls => resLeaf id l :: resLeaves (id + 1) ls
def leavesEff {δ : Type} (f : Nat → Leaf → List δ) (id : Nat) : List Leaf → List δ
  | [] => []
  | l :: ls => f id l ++ leavesEff f (id + 1) ls
def resPk (id : Nat) : LV → Pk
  | .one l => .one (resLeaf id l)
  | .agg ls => .agg (resLeaves id ls)
def resPks (id : Nat) : List LV → List Pk
  | [] => []
  | l :: ls => resPk id l :: resPks (id + 16) ls
def resEff {δ : Type} (f : Nat → Leaf → List δ) (id : Nat) : List LV → List δ
  | [] => []
  | l :: ls => leavesEff f id l.leaves ++ resEff f (id + 16) ls
def resAV (id : Nat) (res : List LV) : AV :=
  match res with
  | [r] => .pk (resPk id r)
  | rs => .tup (resPks id rs)

/-- Does what comes back fit what was handed over. -/
def fitLeaf : SV → Leaf → Leaf → Prop
  | .rin _ _ _ _ _ _, .ow w _, .ow w' rows => w = w' ∧ lift (unlift rows) = rows
  | _, .ow w _, .ow w' _ => w = w'
  | _, .op _, .op _ => True
  | _, _, .gone => True
  | _, _, _ => False
def fitLeaves : List SV → List Leaf → List Leaf → Prop
  | [], [], [] => True
  | s :: ss, l :: ls, u :: us => fitLeaf s l u ∧ fitLeaves ss ls us
  | _, _, _ => False
def fitPk : Pk → LV → LV → Prop
  | .one s, .one l, .one u => fitLeaf s l u
  | .agg xs, .agg ls, .agg us => fitLeaves xs ls us
  | _, _, _ => False
def fits : List Pk → List LV → List LV → Prop
  | [], [], [] => True
  | p :: ps, l :: ls, u :: us => fitPk p l u ∧ fits ps ls us
  | _, _, _ => False
/-- What of one's own is lent to the call. -/
def varSVs (st : St) (id : Nat) : List Nat :=
  match st.vars id with
  | some xs => xs.flatMap SV.ids'
  | none => []
def lends (st : St) : SV → Leaf → List Nat
  | .ref id _ _ _, .im _ _ => [id]
  | .rin id _ _ _ _ _, .im _ _ => [id]
  | .vad id _, .ip _ => id :: varSVs st id
  | .fnv _ ids, .fn _ _ => ids ++ ids.flatMap (varSVs st)
  | _, _ => []
def lendsPk (st : St) : Pk → LV → List Nat
  | .one s, .one l => lends st s l
  | .agg xs, .agg ls => (List.zipWith (lends st) xs ls).flatten
  | _, _ => []
/-- Does a leaf lead to nothing that is only read. -/
def Cell.still : Cell → Bool
  | .sl 0 xs => xs.isEmpty
  | _ => true
def stillRows (rows : Rows) : Bool := rows.all fun r => r.all Cell.still
def Fld.still : Fld → Bool
  | .sc _ => true
  | .im _ rows => rows.isEmpty
def Leaf.still : Leaf → Bool
  | .sc _ => true
  | .im _ rows => rows.isEmpty
  | .ow _ rows => stillRows rows
  | .gone => true
  | .ip _ => false
  | .op fs => fs.all Fld.still
  | .fn _ caps => caps.isEmpty
def LV.still (l : LV) : Bool := l.leaves.all Leaf.still

/-- What is lent is not handed over; and where something is lent nothing that is only read comes back. -/
def callOk (handed lent : List Nat) (res upd : List LV) : Bool :=
  lent.all (fun i => !handed.contains i) && (lent.isEmpty || (res.all LV.still && upd.all LV.still))

def callK (P : Program) (st : St) (nid : Nat) (f : FuncId) (pks : List Pk) (K : Eff → Prop) : Prop :=
  ∃ args res upd : List LV, Sat P f args res upd ∧ All2 (passPk st) pks args ∧ callOk (List.zipWith handPk pks args).flatten (List.zipWith (lendsPk st) pks args).flatten res upd = true ∧ (List.zipWith handPk pks args).flatten.Nodup ∧ fits pks args upd ∧
    K ⟨resAV nid res, resEff resLeafO nid res ++ zip3 (updPk (updLeafO (nid + 63) st)) pks args upd, resEff resLeafV nid res ++ zip3 (updPk updLeafV) pks args upd⟩

def pksK (st : St) : List Operand → (List Pk → Prop) → Prop
  | [], K => K []
  | x :: r, K => match st.ev x with
    | .pk p => pksK st r fun ps => K (p :: ps)
    | .tup _ => False

def zeroCell (nid : Nat) (v : Value) : Cell := if isNil v then .sl nid [] else .sc v

def nth {α : Type} : List α → Nat → Option α
  | [], _ => none
  | a :: l, k => if k = 0 then some a else nth l (k - 1)
def Pk.okay (st : St) : Pk → Prop
  | .one s => s.solid st
  | .agg _ => True
/-- Where the parts of a struct or an array lie. -/
def placesOf (P : Program) (t : TypeId) : Option (List (Nat × Nat)) :=
  match P.underlying t with
  | some (.struct fields) => fields.toList.mapM fun f => (P.info? f.type).map fun i => (f.offset, i.size)
  | some (.array n e) => (P.info? e).map fun i => (List.range n).map fun k => (k * i.size, i.size)
  | _ => none
/-- The parts of a struct or an array that is built. -/
def fillK (st : St) (places : List (Nat × Nat)) : List SV → List (Nat × Operand) → (List SV → Prop) → Prop
  | cs, [], K => K cs
  | cs, (i, x) :: r, K => match nth places i, st.ev x with
    | some (off, n), .pk p => p.okay st ∧ p.svs.length = n ∧ off + n ≤ cs.length ∧ fillK st places (setRange cs off p.svs) r K
    | _, _ => False
/-- The elements of a slice that is built. -/
def fillRowsK (nid w : Nat) : St → Rows → List (Nat × Operand) → (Rows → List (Nat × Option Obj') → Prop) → Prop
  | _, rows, [], K => K rows []
  | st, rows, (i, x) :: r, K => match st.ev x with
    | .pk p => solids st p.svs ∧ p.svs.length = w ∧ i < rows.length ∧ cellsK nid st p.svs fun cs ws =>
        fillRowsK nid w { st with objs := upd st.objs ws } (rows.set i cs) r fun rows' ws' => K rows' (ws' ++ ws)
    | .tup _ => False

def varIds : List Operand → St → Option (List Nat)
  | [], _ => some []
  | x :: r, st => match st.ev x, varIds r st with
    | .pk (.one (.vad id 0)), some ids => some (id :: ids)
    | _, _ => none

/-- The address of an element. -/
def idxA (st : St) (e : Nat) (s : SV) (k : Nat) (K : Eff → Prop) : Prop :=
  match s with
  | .im w rows => w = e ∧ k < rows.length ∧ K ⟨.one (.iad (rows.getD k []) 0), [], []⟩
  | .ref id w off len => st.objs id ≠ none ∧ w = e ∧ k < len ∧ K ⟨.one (.oad id (off + k) 0), [], []⟩
  | .rin id i j s off len => (match st.objs id with
    | some (_, rows) => (match Rows.cell rows i j with | .sl s' _ => s' = s ∧ 1 = e ∧ k < len ∧ K ⟨.one (.oin id i j s (off + k)), [], []⟩ | _ => False)
    | none => False)
  | _ => False
/-- The address of a field. -/
def fldA (st : St) (off : Nat) (s : SV) (K : Eff → Prop) : Prop :=
  match s with
  | .vad id j => st.vars id ≠ none ∧ K ⟨.one (.vad id (j + off)), [], []⟩
  | .oad id i j => (match st.objs id with | some (_, rows) => i < rows.length ∧ K ⟨.one (.oad id i (j + off)), [], []⟩ | none => False)
  | .iad row j => K ⟨.one (.iad row (j + off)), [], []⟩
  | .ipt fs j => K ⟨.one (.ipt fs (j + off)), [], []⟩
  | _ => False
def nilK (st : St) (s : SV) (K : Eff → Prop) : Prop :=
  match s with
  | .vad id j => st.vars id ≠ none ∧ K ⟨.one (.vad id j), [], []⟩
  | .iad row j => K ⟨.one (.iad row j), [], []⟩
  | .ipt fs j => K ⟨.one (.ipt fs j), [], []⟩
  | _ => False

def appT (P : Program) (t : TypeId) : Bool :=
  match P.underlying t with
  | some (.int _) => false
  | some _ => true
  | none => false

/-- Rows of one scalar each. -/
def allSc (rows : Rows) : Bool := rows.all fun r => match r with | [.sc _] => true | _ => false
/-- A copy of scalars into a slice of one's own. -/
def cpyK (st : St) (w : Nat) (d s : AV) (K : Eff → Prop) : Prop :=
  match d, s with
  | .pk (.one (.ref id w' off len)), .pk (.one y) => match st.objs id, st.rows y with
    | some (_, rows), some (w2, more) => w = 1 ∧ w' = 1 ∧ w2 = 1 ∧ off + len ≤ rows.length ∧ allSc rows = true ∧ allSc more = true ∧
        K ⟨.sc (.int .i64 (min more.length len : Nat)), [(id, some (1, setRange rows off (more.take len)))], []⟩
    | _, _ => False
  | _, _ => False

def effK (P : Program) (st : St) (nid : Nat) (o : Oper) (K : Eff → Prop) : Prop :=
  match o.op with
  | .move x => K ⟨st.ev x, [], []⟩
  | .assign x => K ⟨st.ev x, [], []⟩
  | .pick c a b => match st.ev c with
    | .pk (.one (.sc (.bool t))) => K ⟨if t then st.ev a else st.ev b, [], []⟩
    | _ => False
  | .alloc e => match zeroOf P e with
    | some z => K ⟨.one (.vad nid 0), [], [(nid, some (z.map .sc))]⟩
    | none => False
  | .box _ x => match st.ev x with
    | .pk (.one s) => s.solid st ∧ K ⟨.one (.vad nid 0), [], [(nid, some [s])]⟩
    | .pk (.agg xs) => K ⟨.one (.vad nid 0), [], [(nid, some xs)]⟩
    | .tup _ => False
  | .load t a => match aggOf P t, st.ev a with
    | some n, .pk (.one s) => loadK st s n fun v => K ⟨v, [], []⟩
    | _, _ => False
  | .store t a x => match aggOf P t, st.ev a, st.ev x with
    | some n, .pk (.one s), .pk p => solids st p.svs ∧ storeK st nid s (n.getD 1) p.svs K
    | _, _, _ => False
  | .nilCheck x => match st.ev x with
    | .pk (.one s) => nilK st s K
    | _ => False
  | .binOp op xT x y _ => match st.ev x, st.ev y with
    | .pk (.one (.sc a)), .pk (.one (.sc b)) => binK P xT op a b fun v => K ⟨.sc v, [], []⟩
    | .pk (.agg xs), .pk (.agg ys) => pairK P xT op xs ys fun v => K ⟨.sc v, [], []⟩
    | _, _ => False
  | .unOp op _ x => match st.ev x with
    | .pk (.one (.sc a)) => unK op a fun v => K ⟨.sc v, [], []⟩
    | _ => False
  | .convert s d x => match P.underlying s, P.underlying d, st.ev x with
    | some (.int _), some (.int k), .pk (.one (.sc (.int _ n))) => K ⟨.sc (.int k (k.wrap n)), [], []⟩
    | some .string, some .string, .pk (.one (.sc (.string b))) => K ⟨.sc (.string b), [], []⟩
    | some (.slice e), some .string, .pk (.one sv) => P.underlying e = some (.int .u8) ∧ match st.rows sv with
      | some (w, rows) => ∃ bs : List UInt8, w = 1 ∧ rows = lift (bs.map fun b => .int .u8 b.toNat) ∧ K ⟨.sc (.string ⟨bs.toArray⟩), [], []⟩
      | none => False
    | _, _, _ => False
  | .field t x f => match fieldOf P t f, st.ev x with
    | some (off, none), .pk (.agg xs) => off < xs.length ∧ K ⟨.one (xs.getD off .un), [], []⟩
    | some (off, some n), .pk (.agg xs) => off + n ≤ xs.length ∧ K ⟨.agg ((xs.drop off).take n), [], []⟩
    | _, _ => False
  | .fieldAddr t x f => match fieldOf P t f, st.ev x with
    | some (off, _), .pk (.one s) => fldA st off s K
    | _, _ => False
  | .indexAddr t x i => match elemOf' P t, st.ev x with
    | some (e, _, _), .pk (.one s) => asNat (st.ev i) fun k => idxA st e s k K
    | _, _ => False
  | .index t x i => match P.underlying t, st.ev x with
    | some .string, .pk (.one (.sc (.string s))) => asNat (st.ev i) fun k => k < s.size ∧ K ⟨.sc (.int .u8 (s.data.toList.getD k 0).toNat), [], []⟩
    | some (.array n e), .pk (.agg xs) => aggOf P e = some none ∧ xs.length = n ∧ asNat (st.ev i) fun k => k < n ∧ K ⟨.one (xs.getD k .un), [], []⟩
    | _, _ => False
  | .build t parts => match placesOf P t, zeroOf P t with
    | some places, some z => fillK st places (z.map .sc) parts.toList fun cs => K ⟨.agg cs, [], []⟩
    | _, _ => False
  | .buildSlice t len parts => match elemOf' P t with
    | some (w, _, z) => len * w ≤ 16777216 ∧ fillRowsK nid w st (List.replicate len (z.map (zeroCell nid))) parts.toList fun rows ws => K ⟨.one (.ref nid w 0 len), (nid, some (w, rows)) :: ws, []⟩
    | none => False
  | .makeSlice t l c => match elemOf' P t with
    | some (w, bytes, z) => asNat (st.ev l) fun n => asNat (st.ev c) fun m => n ≤ m ∧ m * bytes ≤ 140737488355328 ∧ K ⟨.one (.ref nid w 0 n), [(nid, some (w, List.replicate n (z.map (zeroCell nid))))], []⟩
    | none => False
  | .slice t x lo hi none => match P.underlying t, st.ev x with
    | some .string, .pk (.one (.sc (.string s))) => asNat? st lo 0 fun l => asNat? st hi s.size fun h => l ≤ h ∧ h ≤ s.size ∧ K ⟨.sc (.string (s.extract l h)), [], []⟩
    | some (.slice _), .pk (.one sv) => match elemOf' P t with
      | some (w, _, _) => cutK st w sv lo hi K
      | none => False
    | _, _ => False
  | .extract x k => match st.ev x with
    | .tup ps => match ps[k]? with
      | some p => K ⟨.pk p, [], []⟩
      | none => False
    | _ => False
  | .makeFunc (.func f) first captured => first = #[] ∧ match varIds captured.toList st with
    | some ids => K ⟨.one (.fnv f ids), [], []⟩
    | none => False
  | .call c => match c.callee, c.args.toList, c.argTypes.toList with
    | .builtin .len, [x], _ => match st.ev x with
      | .pk (.one (.sc (.string s))) => ((c.argTypes[0]?).bind P.underlying = some .string ∧ K ⟨.sc (.int .i64 s.size), [], []⟩)
      | .pk (.one (.sc v)) => isNil v = true ∧ ((c.argTypes[0]?).bind (elemOf' P)).isSome = true ∧ K ⟨.sc (.int .i64 0), [], []⟩
      | .pk (.one s) => ((c.argTypes[0]?).bind (elemOf' P)).isSome = true ∧ (match st.rows s with
        | some (_, rows) => K ⟨.sc (.int .i64 rows.length), [], []⟩
        | none => False)
      | _ => False
    | .builtin .append, [s, x], [t, t2] => match elemOf' P t with
      | some (w, bytes, _) => appT P t2 = true ∧ appK st nid w bytes (st.ev s) (st.ev x) K
      | none => False
    | .builtin .copy, [d, s], [t, _] => match elemOf' P t with
      | some (w, _, _) => cpyK st w (st.ev d) (st.ev s) K
      | none => False
    | .builtin .max, [x, y], _ => match st.ev x, st.ev y with
      | .pk (.one (.sc (.int k a))), .pk (.one (.sc (.int _ b))) => K ⟨.sc (.int k (if b > a then b else a)), [], []⟩
      | _, _ => False
    | .builtin .min, [x, y], _ => match st.ev x, st.ev y with
      | .pk (.one (.sc (.int k a))), .pk (.one (.sc (.int _ b))) => K ⟨.sc (.int k (if b < a then b else a)), [], []⟩
      | _, _ => False
    | .value f, xs, _ => match st.ev f with
      | .pk (.one (.fnv g ids)) => pksK st xs fun ps => callK P st nid g (ps ++ ids.map fun id => .one (.vad id 0)) K
      | .pk (.one (.fni g caps)) => pksK st xs fun ps => callK P st nid g (ps ++ caps.map fun fs => .one (.ipt fs 0)) K
      | _ => False
    | _, _, _ => False
  | _ => False

/-! #### regions -/
def boolOf : AV → Option Bool
  | .pk (.one (.sc (.bool b))) => some b
  | _ => none
def yieldOf (st : St) : Option (Option Tmp) → Option Bool
  | some (some t) => boolOf (st.slots t)
  | _ => none

/-- The slot of an operation that did not run. -/
def unRun : AV → Bool
  | .tup [] => true
  | _ => false
def skipOf (st : St) : Option (Option Tmp) → Bool
  | some (some t) => unRun (st.slots t)
  | _ => false
/-- 'ds': the operations' own slots. -/
def runK (P : Program) (ds : List (Option Tmp)) (base : Nat) : Nat → List Oper → St → (St → Prop) → Prop
  | _, [], st, K => K st
  | i, o :: r, st, K => match o.guard with
    | none => effK P st (base + 64 * i) o fun e => runK P ds base (i + 1) r (st.app o.dst e) K
    | some (g, want) => match yieldOf st (nth ds g) with
      | some b => if b = want then effK P st (base + 64 * i) o fun e => runK P ds base (i + 1) r (st.app o.dst e) K
        else runK P ds base (i + 1) r (st.put o.dst (.tup [])) K
      | none => skipOf st (nth ds g) = true ∧ runK P ds base (i + 1) r (st.put o.dst (.tup [])) K

end Go.Proofs.YtedciihjgbkjgacGreatDoor.A

/-! THE ABSTRACT SEMANTICS (definitions, third part): a frame that is as a state says; code. Conditions: none; definitions alone. -/
namespace Go.Proofs.YtedciihjgbkjgacGreatDoor.A
open Go

def SV.ids : SV → List Nat
  | .ref id _ _ _ => [id]
  | .rin id _ _ s _ _ => [id, s]
  | .vad id _ => [id]
  | .oad id _ _ => [id]
  | .oin id _ _ s _ => [id, s]
  | .fnv _ ids => ids
  | _ => []
def AV.ids (a : AV) : List Nat := a.svs.flatMap SV.ids

structure Cx where
  W0 : World
  lab0 : Nat → Lab
  n : Nat
  pins : List (Nat × Value)

structure InvS (cx : Cx) (st : St) (sh : Sh) (a : Act) (W : World) (Fr : Nat → Prop) : Prop where
  defers : a.defers = []
  size : a.tmps.size = cx.n
  ext : Ext cx.W0 cx.lab0 W sh.lab
  slots : ∀ t, AVRep st W sh (st.slots t) (a.tmps.getD t undef)
  vars : ∀ id fs, st.vars id = some fs → sh.lab (sh.β id) = .var id ∧ ∃ (c : Array Value) (t : TypeId), W.heap[sh.β id]? = some (.cells c t (0, 0)) ∧ All2 (SVRep st W sh) fs c.toList
  objs : ∀ id w rows, st.objs id = some (w, rows) → OwnRep W sh.lab id w rows (sh.μ id)
  fresh : ∀ id, Fr id → st.vars id = none ∧ st.objs id = none ∧ (∀ t, id ∉ (st.slots t).ids) ∧ ∀ k fs, st.vars k = some fs → ∀ s ∈ fs, id ∉ s.ids
  low : ∀ id, Fr id → 1000 ≤ id
  stamps : ∀ id w rows i j s xs, st.objs id = some (w, rows) → Rows.cell rows i j = .sl s xs → ¬ Fr s
  pinO : ∀ k h, (k, h) ∈ cx.pins → st.objs k ≠ none → sh.μ k = h
  pinV : ∀ k h, (k, h) ∈ cx.pins → st.vars k ≠ none → h = .pointer (some ⟨sh.β k, 0, none⟩)

def Inv (cx : Cx) (st : St) (a : Act) (W : World) : Prop := ∃ sh, InvS cx st sh a W (fun id => st.next ≤ id)

/-- A state that says no more than another one. -/
def Le (st st' : St) : Prop := ∀ cx a W, (∀ q ∈ cx.pins, q.1 < 960) → Inv cx st a W → Inv cx st' a W

/-! #### regions whose order is drawn -/
/-- The variables that a value names. -/
def SV.vids : SV → List Nat
  | .vad id _ => [id]
  | .fnv _ ids => ids
  | _ => []
def svFoot (st : St) (s : SV) : List Nat := s.ids ++ s.vids.flatMap (varSVs st)
def avFoot (st : St) (a : AV) : List Nat := a.svs.flatMap (svFoot st)
/-- What an operation looks at. -/
def lookOps : Op → List Operand
  | .move _ => []
  | .assign _ => []
  | op => op.operands.toList
def footOf (st : St) (o : Oper) : List Nat := (lookOps o.op).flatMap fun x => avFoot st (st.ev x)
def wrOf (e : Eff) : List Nat := e.ow.map (·.1) ++ e.vw.map (·.1)
structure Tr where
  i : Nat
  foot : List Nat
  wr : List Nat
def runD (P : Program) (ds : List (Option Tmp)) (base : Nat) : Nat → List Oper → St → List Tr → (St → List Tr → Prop) → Prop
  | _, [], st, tr, K => K st tr
  | i, o :: r, st, tr, K => match o.guard with
    | none => effK P st (base + 64 * i) o fun e => runD P ds base (i + 1) r (st.app o.dst e) (⟨i, footOf st o, wrOf e⟩ :: tr) K
    | some (g, want) => match yieldOf st (nth ds g) with
      | some b => if b = want then effK P st (base + 64 * i) o fun e => runD P ds base (i + 1) r (st.app o.dst e) (⟨i, footOf st o, wrOf e⟩ :: tr) K
        else runD P ds base (i + 1) r (st.put o.dst (.tup [])) tr K
      | none => skipOf st (nth ds g) = true ∧ runD P ds base (i + 1) r (st.put o.dst (.tup [])) tr K
/-- Which operations come before one (bits), by its edges. -/
def edgeMask (acc : List Nat) (o : Oper) : Nat := (o.after.toList.filter fun e => match e.ground with | .textOnly _ => false | .gcOnly _ => false | _ => true).foldr (fun e m => ((1 <<< e.on) ||| acc.getD e.on 0) ||| m) 0
def masks (l : List Oper) : List Nat := l.foldl (fun acc o => acc ++ [edgeMask acc o]) []
def ordM (ms : List Nat) (i j : Nat) : Bool := (ms.getD j 0).testBit i || (ms.getD i 0).testBit j
def looks (ops : List Oper) (o : Oper) : List Tmp :=
  (o.op.operands.toList.filterMap fun | .tmp t => some t | _ => none) ++
  (match o.guard with
   | some (g, _) => (((nth ops g).map (·.dst)).getD none).toList
   | none => [])
def apartS (ops : List Oper) (x y : Oper) : Bool := match x.dst with
  | some d => !(looks ops y).contains d && y.dst != some d
  | none => true
/-- Operations that no edge orders meet in no slot. -/
def stOk (ops : List Oper) : Bool :=
  let ms := masks ops
  (List.range ops.length).all fun i => match nth ops i with
    | some o => (o.after.toList.all fun e => match e.ground with | .textOnly _ => true | .gcOnly _ => true | _ => decide (e.on < i)) &&
        (List.range ops.length).all fun j => i == j || ordM ms i j || match nth ops j with
          | some o' => apartS ops o o'
          | none => true
    | none => true
def meets (l m : List Nat) : Bool := l.any fun x => m.contains x
/-- Nor in memory. -/
def trOk (ops : List Oper) (tr : List Tr) : Bool :=
  let ms := masks ops
  tr.all fun x => tr.all fun y => x.wr.isEmpty || (!meets x.wr y.foot && !meets x.wr y.wr) || x.i == y.i || ordM ms x.i y.i

def Rg (P : Program) (ops : Array Oper) (draw : Bool) (st : St) (K : St → Prop) : Prop :=
  match draw with
  | true => runD P (ops.toList.map (·.dst)) st.next 0 ops.toList st [] fun st' tr => trOk ops.toList tr = true ∧ K { st' with next := st.next + 64 * ops.size }
  | false => runK P (ops.toList.map (·.dst)) st.next 0 ops.toList st fun st' => K { st' with next := st.next + 64 * ops.size }

def Exit.go (next : St → Prop) (Q : Exit → St → Prop) : Exit → St → Prop
  | .normal, st => next st
  | e, st => Q e st
def Exit.blk (id : Nat) (Q : Exit → St → Prop) : Exit → St → Prop
  | .exit id', st => if id' = id then Q .normal st else Q (.exit id') st
  | e, st => Q e st

def Awp (P : Program) : Code → (Exit → St → Prop) → St → Prop
  | .skip, Q, st => Q .normal st
  | .region _ ops draw, Q, st => Rg P ops draw st (Q .normal)
  | .seq a b, Q, st => Awp P a (Exit.go (Awp P b Q) Q) st
  | .cond c a b, Q, st => match st.ev c with
    | .pk (.one (.sc (.bool t))) => if t then Awp P a Q st else Awp P b Q st
    | _ => False
  | .block id b, Q, st => Awp P b (Exit.blk id Q) st
  | .loop b, Q, st => ∃ (ι : Type) (S : ι → St) (good : ι → Prop) (μ : ι → Nat), (∃ i, good i ∧ Le st (S i)) ∧
      ∀ i, good i → Awp P b (Exit.go (fun st' => ∃ i', good i' ∧ μ i' < μ i ∧ Le st' (S i')) Q) (S i)
  | .exit id, Q, st => Q (.exit id) st
  | .ret, Q, st => Q .ret st
  | _, _, _ => False

/-! #### the function's entry and its end -/
def argSV (id : Nat) : Leaf → SV
  | .sc v => .sc v
  | .im w rows => .im w rows
  | .ow w rows => .ref id w 0 rows.length
  | .gone => .un
  | .ip fs => .ipt fs 0
  | .op _ => .vad id 0
  | .fn f caps => .fni f caps
def argLeaves (id : Nat) : List Leaf → List SV
  | [] => []
  | l :: ls => argSV id l :: argLeaves (id + 1) ls
def argPk (id : Nat) : LV → Pk
  | .one l => .one (argSV id l)
  | .agg ls => .agg (argLeaves id ls)
def argSlots : Nat → Nat → List LV → Nat → AV
  | _, _, [] => fun _ => .un
  | t, id, l :: ls => fun t' => if t' = t then .pk (argPk id l) else argSlots (t + 1) (id + 16) ls t'
def startOf (args : List LV) : St :=
  { slots := argSlots 0 0 args, vars := upd (fun _ => none) (resEff resLeafV 0 args), objs := upd (fun _ => none) (resEff resLeafO 0 args), next := 1000 }

def resultPk (P : Program) (st : St) (r : ResultVar) (K : Pk → Prop) : Prop :=
  match r with
  | .tmp t => match st.slots t with
    | .pk p => K p
    | .tup _ => False
  | .cell a t => match aggOf P t, st.slots a with
    | some n, .pk (.one (.vad id j)) => loadK st (.vad id j) n fun v => match v with | .pk p => K p | .tup _ => False
    | _, _ => False
def resultPks (P : Program) (st : St) : List ResultVar → (List Pk → Prop) → Prop
  | [], K => K []
  | r :: rs, K => resultPk P st r fun p => resultPks P st rs fun ps => K (p :: ps)

/-- What is left of what was handed over (id: the leaf's number). -/
def leftLeaf (st : St) (id : Nat) (a u : Leaf) : Prop :=
  match a, u with
  | .ow w _, .ow w' rows => match st.objs id with
    | some (w'', rows') => w'' = w' ∧ w = w' ∧ rows = rst rows'
    | none => False
  | .op _, .op fs => st.vars id = some (fs.map Fld.sv)
  | _, .gone => True
  | _, _ => False
def leftLeaves (st : St) : Nat → List Leaf → List Leaf → Prop
  | _, [], [] => True
  | id, a :: as, u :: us => leftLeaf st id a u ∧ leftLeaves st (id + 1) as us
  | _, _, _ => False
def leftLV (st : St) (id : Nat) : LV → LV → Prop
  | .one a, .one u => leftLeaf st id a u
  | .agg as, .agg us => leftLeaves st id as us
  | _, _ => False
def leftK (st : St) : Nat → List LV → List LV → Prop
  | _, [], [] => True
  | id, a :: as, u :: us => leftLV st id a u ∧ leftK st (id + 16) as us
  | _, _, _ => False
def leftId (id : Nat) (u : Leaf) : List Nat :=
  match u with
  | .ow _ _ => [id]
  | .op _ => [id]
  | _ => []
def endOk (handed left lent : List Nat) : Bool := decide (handed ++ left).Nodup && lent.all fun i => !(handed ++ left).contains i

def endsK (P : Program) (rs : List ResultVar) (args res upd : List LV) (st : St) : Prop :=
  resultPks P st rs fun pks => All2 (passPk st) pks res ∧ leftK st 0 args upd ∧ endOk (List.zipWith handPk pks res).flatten (resEff leftId 0 upd) (List.zipWith (lendsPk st) pks res).flatten = true

/-- A function's code comes to this. -/
def endQ (P : Program) (rs : List ResultVar) (args res upd : List LV) : Exit → St → Prop
  | .normal, st => endsK P rs args res upd st
  | .ret, st => endsK P rs args res upd st
  | _, _ => False
def Body (P : Program) (fn : Func) (c : Code) (args res upd : List LV) : Prop :=
  Awp P c (endQ P fn.results.toList args res upd) (startOf args)

/-- A state, written out. -/
def look {α : Type} (d : α) : List (Nat × α) → Nat → α
  | [] => fun _ => d
  | (i, x) :: r => fun k => if k = i then x else look d r k
def mkSt (slots : List (Nat × AV)) (vars : List (Nat × List SV)) (objs : List (Nat × Obj')) (next : Nat) : St :=
  { slots := look .un slots, vars := look none (vars.map fun p => (p.1, some p.2)), objs := look none (objs.map fun p => (p.1, some p.2)), next := next }

end Go.Proofs.YtedciihjgbkjgacGreatDoor.A

/-! THE ABSTRACT SEMANTICS, HOW IT RUNS: one equation for each step, collected in the simp set 'go_sem'. Conditions: none. -/
namespace Go.Proofs.YtedciihjgbkjgacGreatDoor.A
open Go
set_option linter.unusedSimpArgs false
set_option linter.unusedVariables false

/-! What follows is always a name that is given its last argument late: simp has nothing to do in it before. -/
def ap (P : Program) (ds : List (Option Tmp)) (base i : Nat) (r : List Oper) (st : St) (d : Option Tmp) (K : St → Prop) (e : Eff) : Prop := runK P ds base (i + 1) r (st.app d e) K
def stepK (K : St → Prop) (n : Nat) (st : St) : Prop := K { st with next := n }

section run
variable {P : Program} {ds : List (Option Tmp)} {base i : Nat} {r : List Oper} {st : St} {K : St → Prop} {d : Option Tmp} {ty : TypeId} {pos : String} {after : Array Edge}
theorem ap_eq {e : Eff} : ap P ds base i r st d K e = runK P ds base (i + 1) r (st.app d e) K := rfl
theorem runK_nil : runK P ds base i [] st K = K st := rfl
theorem runK_cons {op : Op} : runK P ds base i (⟨d, op, ty, pos, after, none⟩ :: r) st K = effK P st (base + 64 * i) ⟨d, op, ty, pos, after, none⟩ (ap P ds base i r st d K) := rfl
def guardK (P : Program) (ds : List (Option Tmp)) (base i : Nat) (o : Oper) (r : List Oper) (st : St) (K : St → Prop) (g : Nat) (x : Option Bool) (want : Bool) : Prop :=
  match x with
  | some b => if b = want then effK P st (base + 64 * i) o (ap P ds base i r st o.dst K) else runK P ds base (i + 1) r (st.put o.dst (.tup [])) K
  | none => skipOf st (nth ds g) = true ∧ runK P ds base (i + 1) r (st.put o.dst (.tup [])) K
theorem runK_guard {op : Op} {g : Nat} {want : Bool} : runK P ds base i (⟨d, op, ty, pos, after, some (g, want)⟩ :: r) st K =
    guardK P ds base i ⟨d, op, ty, pos, after, some (g, want)⟩ r st K g (yieldOf st (nth ds g)) want := rfl
theorem guard_tt {o : Oper} {g : Nat} : guardK P ds base i o r st K g (some true) true = effK P st (base + 64 * i) o (ap P ds base i r st o.dst K) := rfl
theorem guard_ff {o : Oper} {g : Nat} : guardK P ds base i o r st K g (some false) false = effK P st (base + 64 * i) o (ap P ds base i r st o.dst K) := rfl
theorem guard_tf {o : Oper} {g : Nat} : guardK P ds base i o r st K g (some true) false = runK P ds base (i + 1) r (st.put o.dst (.tup [])) K := rfl
theorem guard_ft {o : Oper} {g : Nat} : guardK P ds base i o r st K g (some false) true = runK P ds base (i + 1) r (st.put o.dst (.tup [])) K := rfl
theorem guard_n {o : Oper} {g : Nat} {want : Bool} : guardK P ds base i o r st K g none want = (skipOf st (nth ds g) = true ∧ runK P ds base (i + 1) r (st.put o.dst (.tup [])) K) := rfl
theorem skipOf_some (st : St) (t : Nat) : skipOf st (some (some t)) = unRun (st.slots t) := rfl
theorem unRun_tup : unRun (.tup []) = true := rfl
theorem boolOf_tup : boolOf (.tup []) = none := rfl
attribute [go_sem] guard_n skipOf_some unRun_tup boolOf_tup
theorem yieldOf_some (st : St) (t : Nat) : yieldOf st (some (some t)) = boolOf (st.slots t) := rfl
theorem boolOf_eq (b : Bool) : boolOf (.sc (.bool b)) = some b := rfl
theorem nth_cons {α : Type} (a : α) (l : List α) (k : Nat) : nth (a :: l) k = if k = 0 then some a else nth l (k - 1) := rfl
theorem stepK_eq {n : Nat} : stepK K n st = K { st with next := n } := rfl
end run

theorem app_slots (st : St) (d : Tmp) (e : Eff) (t : Nat) : (st.app (some d) e).slots t = if t = d then e.v else st.slots t := by
  simp only [St.app, Option.some.injEq]
theorem app_slots_none (st : St) (e : Eff) (t : Nat) : (st.app none e).slots t = st.slots t := by
  simp [St.app]
theorem app_vars (st : St) (d : Option Tmp) (e : Eff) : (st.app d e).vars = upd st.vars e.vw := rfl
theorem app_objs (st : St) (d : Option Tmp) (e : Eff) : (st.app d e).objs = upd st.objs e.ow := rfl
theorem app_next (st : St) (d : Option Tmp) (e : Eff) : (st.app d e).next = st.next := rfl
theorem put_slots (st : St) (d : Tmp) (v : AV) (t : Nat) : (st.put (some d) v).slots t = if t = d then v else st.slots t := by
  simp only [St.put, Option.some.injEq]
theorem put_vars (st : St) (d : Option Tmp) (v : AV) : (st.put d v).vars = st.vars := rfl
theorem put_objs (st : St) (d : Option Tmp) (v : AV) : (st.put d v).objs = st.objs := rfl
theorem put_next (st : St) (d : Option Tmp) (v : AV) : (st.put d v).next = st.next := rfl
def St.step (st : St) (n : Nat) : St := { st with next := n }
theorem step_fold (st : St) (n : Nat) : ({ st with next := n } : St) = st.step n := rfl
theorem step_slots (st : St) (n : Nat) : (st.step n).slots = st.slots := rfl
theorem step_vars (st : St) (n : Nat) : (st.step n).vars = st.vars := rfl
theorem step_objs (st : St) (n : Nat) : (st.step n).objs = st.objs := rfl
theorem step_next (st : St) (n : Nat) : (st.step n).next = n := rfl
theorem stepK_step {K : St → Prop} {n : Nat} {st : St} : stepK K n st = K (st.step n) := rfl
theorem rg_still {P : Program} {ops : Array Oper} {st : St} {K : St → Prop} : Rg P ops false st K = runK P (ops.toList.map (·.dst)) st.next 0 ops.toList st (stepK K (st.next + 64 * ops.size)) := rfl
def stepD (ops : List Oper) (K : St → Prop) (n : Nat) (st : St) (tr : List Tr) : Prop := trOk ops tr = true ∧ K { st with next := n }
theorem rg_draw {P : Program} {ops : Array Oper} {st : St} {K : St → Prop} : Rg P ops true st K = runD P (ops.toList.map (·.dst)) st.next 0 ops.toList st [] (stepD ops.toList K (st.next + 64 * ops.size)) := rfl
theorem upd_nil {α : Type} (f : Nat → Option α) : upd f [] = f := rfl
theorem upd_cons {α : Type} (f : Nat → Option α) (i : Nat) (x : Option α) (r : List (Nat × Option α)) (k : Nat) : upd f ((i, x) :: r) k = if k = i then x else upd f r k := rfl
theorem ev_tmp (st : St) (t : Nat) : st.ev (.tmp t) = st.slots t := rfl
theorem ev_const (st : St) (v : Value) : st.ev (.const v) = .sc v := rfl
theorem ev_func (st : St) (f : FuncId) : st.ev (.func f) = .one (.fnv f []) := rfl

section eff
variable {P : Program} {st : St} {nid : Nat} {K : Eff → Prop} {d : Option Tmp} {ty : TypeId} {pos : String} {after : Array Edge} {g : Option (Nat × Bool)}
theorem eff_move {x : Operand} : effK P st nid ⟨d, .move x, ty, pos, after, g⟩ K = K ⟨st.ev x, [], []⟩ := rfl
theorem eff_assign {x : Operand} : effK P st nid ⟨d, .assign x, ty, pos, after, g⟩ K = K ⟨st.ev x, [], []⟩ := rfl
def pickK (c a b : AV) (K : Eff → Prop) : Prop := match c with
  | .pk (.one (.sc (.bool t))) => K ⟨if t then a else b, [], []⟩
  | _ => False
theorem eff_pick {c x y : Operand} : effK P st nid ⟨d, .pick c x y, ty, pos, after, g⟩ K = pickK (st.ev c) (st.ev x) (st.ev y) K := rfl
theorem pick_t {a b : AV} : pickK (.sc (.bool true)) a b K = K ⟨a, [], []⟩ := rfl
theorem pick_f {a b : AV} : pickK (.sc (.bool false)) a b K = K ⟨b, [], []⟩ := rfl
def allocK (z : Option (List Value)) (nid : Nat) (K : Eff → Prop) : Prop := match z with
  | some z => K ⟨.one (.vad nid 0), [], [(nid, some (z.map .sc))]⟩
  | none => False
theorem eff_alloc {e : TypeId} : effK P st nid ⟨d, .alloc e, ty, pos, after, g⟩ K = allocK (zeroOf P e) nid K := rfl
theorem allocK_eq {z : List Value} : allocK (some z) nid K = K ⟨.one (.vad nid 0), [], [(nid, some (z.map .sc))]⟩ := rfl
def boxK (st : St) (nid : Nat) (x : AV) (K : Eff → Prop) : Prop := match x with
  | .pk (.one s) => s.solid st ∧ K ⟨.one (.vad nid 0), [], [(nid, some [s])]⟩
  | .pk (.agg xs) => K ⟨.one (.vad nid 0), [], [(nid, some xs)]⟩
  | .tup _ => False
theorem eff_box {e : TypeId} {x : Operand} : effK P st nid ⟨d, .box e x, ty, pos, after, g⟩ K = boxK st nid (st.ev x) K := rfl
theorem boxK_one {s : SV} : boxK st nid (.one s) K = (s.solid st ∧ K ⟨.one (.vad nid 0), [], [(nid, some [s])]⟩) := rfl
theorem boxK_agg {s : List SV} : boxK st nid (.agg s) K = K ⟨.one (.vad nid 0), [], [(nid, some s)]⟩ := rfl
theorem solid_int {k : IntKind} {n : Int} : SV.solid st (.sc (.int k n)) = True := by simp [SV.solid, Value.oneCell']
theorem solid_bool {b : Bool} : SV.solid st (.sc (.bool b)) = True := by simp [SV.solid, Value.oneCell']
theorem solid_str {b : ByteArray} : SV.solid st (.sc (.string b)) = True := by simp [SV.solid, Value.oneCell']
theorem solid_nil : SV.solid st (.sc (.slice none 0 0)) = True := by simp [SV.solid, Value.oneCell']
theorem solid_im {w : Nat} {rows : Rows} : SV.solid st (.im w rows) = True := rfl
theorem solids_cons {s : SV} {r : List SV} : solids st (s :: r) = (s.solid st ∧ solids st r) := rfl
theorem solids_nil : solids st [] = True := rfl
attribute [go_sem] solid_int solid_bool solid_str solid_nil solid_im solids_cons solids_nil
def ldK (st : St) (n : Option (Option Nat)) (x : AV) (K : Eff → Prop) : Prop := match n, x with
  | some n, .pk (.one s) => loadK st s n fun v => K ⟨v, [], []⟩
  | _, _ => False
theorem eff_load {t : TypeId} {x : Operand} : effK P st nid ⟨d, .load t x, ty, pos, after, g⟩ K = ldK st (aggOf P t) (st.ev x) K := rfl
theorem ld_iad1 {row : List Cell} {j : Nat} : ldK st (some none) (.one (.iad row j)) K = (j < row.length ∧ K ⟨.one ((row.getD j .gone).isv), [], []⟩) := rfl
theorem ld_iadn {row : List Cell} {j n : Nat} : ldK st (some (some n)) (.one (.iad row j)) K = (j + n ≤ row.length ∧ K ⟨.agg (((row.map Cell.isv).drop j).take n), [], []⟩) := rfl
theorem ld_ipt1 {fs : List Fld} {j : Nat} : ldK st (some none) (.one (.ipt fs j)) K = (j < fs.length ∧ K ⟨.one ((fs.map Fld.sv).getD j .un), [], []⟩) := rfl
theorem ld_iptn {fs : List Fld} {j n : Nat} : ldK st (some (some n)) (.one (.ipt fs j)) K = (j + n ≤ fs.length ∧ K ⟨.agg (((fs.map Fld.sv).drop j).take n), [], []⟩) := rfl
def ldV (fs : Option (List SV)) (j : Nat) (n : Option Nat) (K : Eff → Prop) : Prop := match fs with
  | some fs => (match n with
    | some n => j + n ≤ fs.length ∧ K ⟨.agg ((fs.drop j).take n), [], []⟩
    | none => j < fs.length ∧ K ⟨.one (fs.getD j .un), [], []⟩)
  | none => False
theorem ld_vad {id j : Nat} {n : Option Nat} : ldK st (some n) (.one (.vad id j)) K = ldV (st.vars id) j n K := by
  simp only [ldK, loadK, ldV] <;> rfl
theorem ldV_1 {fs : List SV} {j : Nat} : ldV (some fs) j none K = (j < fs.length ∧ K ⟨.one (fs.getD j .un), [], []⟩) := rfl
theorem ldV_n {fs : List SV} {j n : Nat} : ldV (some fs) j (some n) K = (j + n ≤ fs.length ∧ K ⟨.agg ((fs.drop j).take n), [], []⟩) := rfl
def ldO (o : Option Obj') (id i j : Nat) (n : Option Nat) (K : Eff → Prop) : Prop := match o with
  | some (_, rows) => (match n with
    | some n => i < rows.length ∧ j + n ≤ (rows.getD i []).length ∧ K ⟨.agg (((svs id i 0 (rows.getD i [])).drop j).take n), [], []⟩
    | none => i < rows.length ∧ j < (rows.getD i []).length ∧ K ⟨.one (((rows.getD i []).getD j .gone).sv id i j), [], []⟩)
  | none => False
theorem ld_oad {id i j : Nat} {n : Option Nat} : ldK st (some n) (.one (.oad id i j)) K = ldO (st.objs id) id i j n K := by
  simp only [ldK, loadK, ldO] <;> rfl
theorem ldO_1 {w : Nat} {rows : Rows} {id i j : Nat} : ldO (some (w, rows)) id i j none K = (i < rows.length ∧ j < (rows.getD i []).length ∧ K ⟨.one (((rows.getD i []).getD j .gone).sv id i j), [], []⟩) := rfl
theorem ldO_n {w : Nat} {rows : Rows} {id i j n : Nat} : ldO (some (w, rows)) id i j (some n) K = (i < rows.length ∧ j + n ≤ (rows.getD i []).length ∧ K ⟨.agg (((svs id i 0 (rows.getD i [])).drop j).take n), [], []⟩) := rfl
def ldI (o : Option Obj') (i j s k : Nat) (n : Option Nat) (K : Eff → Prop) : Prop := match o with
    | some (_, rows) => match Rows.cell rows i j with
      | .sl s' xs => s' = s ∧ n = none ∧ k < xs.length ∧ K ⟨.sc (xs.getD k default), [], []⟩
      | _ => False
    | none => False
theorem ld_oin {id i j s k : Nat} {n : Option Nat} : ldK st (some n) (.one (.oin id i j s k)) K = ldI (st.objs id) i j s k n K := by
  simp only [ldK, loadK, ldI] <;> rfl
def ldC (c : Cell) (s k : Nat) (K : Eff → Prop) : Prop := match c with
  | .sl s' xs => s' = s ∧ k < xs.length ∧ K ⟨.sc (xs.getD k default), [], []⟩
  | _ => False
theorem ldI_1 {w : Nat} {rows : Rows} {i j s k : Nat} : ldI (some (w, rows)) i j s k none K = ldC ((rows.getD i []).getD j .gone) s k K := by
  simp only [ldI, Rows.cell, ldC]
  split <;> simp_all
theorem ldC_sl {s s' k : Nat} {xs : List Value} : ldC (.sl s' xs) s k K = (s' = s ∧ k < xs.length ∧ K ⟨.sc (xs.getD k default), [], []⟩) := rfl
def stK (st : St) (nid : Nat) (n : Option (Option Nat)) (a x : AV) (K : Eff → Prop) : Prop := match n, a, x with
  | some n, .pk (.one s), .pk p => solids st p.svs ∧ storeK st nid s (n.getD 1) p.svs K
  | _, _, _ => False
theorem eff_store {t : TypeId} {x y : Operand} : effK P st nid ⟨d, .store t x y, ty, pos, after, g⟩ K = stK st nid (aggOf P t) (st.ev x) (st.ev y) K := rfl
def stV (fs : Option (List SV)) (id j n : Nat) (xs : List SV) (K : Eff → Prop) : Prop := xs.length = n ∧ match fs with
  | some fs => j + n ≤ fs.length ∧ K ⟨.un, [], [(id, some (setRange fs j xs))]⟩
  | none => False
theorem st_vad1 {id j : Nat} {n : Option Nat} {x : SV} : stK st nid (some n) (.one (.vad id j)) (.one x) K = (solids st [x] ∧ stV (st.vars id) id j (n.getD 1) [x] K) := rfl
theorem st_vadn {id j : Nat} {n : Option Nat} {xs : List SV} : stK st nid (some n) (.one (.vad id j)) (.agg xs) K = (solids st xs ∧ stV (st.vars id) id j (n.getD 1) xs K) := rfl
theorem stV_eq {fs : List SV} {id j n : Nat} {xs : List SV} : stV (some fs) id j n xs K = (xs.length = n ∧ j + n ≤ fs.length ∧ K ⟨.un, [], [(id, some (setRange fs j xs))]⟩) := rfl
def bopK (P : Program) (xT : TypeId) (op : BinOp) (x y : AV) (K : Eff → Prop) : Prop := match x, y with
  | .pk (.one (.sc a)), .pk (.one (.sc b)) => binK P xT op a b fun v => K ⟨.sc v, [], []⟩
  | .pk (.agg xs), .pk (.agg ys) => pairK P xT op xs ys fun v => K ⟨.sc v, [], []⟩
  | _, _ => False
theorem eff_bin {op : BinOp} {xT yT : TypeId} {x y : Operand} : effK P st nid ⟨d, .binOp op xT x y yT, ty, pos, after, g⟩ K = bopK P xT op (st.ev x) (st.ev y) K := rfl
section
variable {xT : TypeId} {k k' : IntKind} {a b : Int} {s t : ByteArray} {p q : Bool}
theorem bopp_eql {c d : Int} : bopK P xT .eql (.agg [.sc (.int .i64 a), .sc (.int .i64 b)]) (.agg [.sc (.int .i64 c), .sc (.int .i64 d)]) K = (pairT P xT = true ∧ K ⟨.sc (.bool (a == c && b == d)), [], []⟩) := rfl
theorem bopp_neq {c d : Int} : bopK P xT .neq (.agg [.sc (.int .i64 a), .sc (.int .i64 b)]) (.agg [.sc (.int .i64 c), .sc (.int .i64 d)]) K = (pairT P xT = true ∧ K ⟨.sc (.bool (!(a == c && b == d))), [], []⟩) := rfl
theorem bop_add : bopK P xT .add (.sc (.int k a)) (.sc (.int k b)) K = K ⟨.sc (.int k (k.wrap (a + b))), [], []⟩ := by simp [bopK, binK, isShift, intK]
theorem bop_sub : bopK P xT .sub (.sc (.int k a)) (.sc (.int k b)) K = K ⟨.sc (.int k (k.wrap (a - b))), [], []⟩ := by simp [bopK, binK, isShift, intK]
theorem bop_mul : bopK P xT .mul (.sc (.int k a)) (.sc (.int k b)) K = K ⟨.sc (.int k (k.wrap (a * b))), [], []⟩ := by simp [bopK, binK, isShift, intK]
theorem bop_quo : bopK P xT .quo (.sc (.int k a)) (.sc (.int k b)) K = (b ≠ 0 ∧ K ⟨.sc (.int k (k.wrap (a.tdiv b))), [], []⟩) := by simp [bopK, binK, isShift, intK]
theorem bop_rem : bopK P xT .rem (.sc (.int k a)) (.sc (.int k b)) K = (b ≠ 0 ∧ K ⟨.sc (.int k (a.tmod b)), [], []⟩) := by simp [bopK, binK, isShift, intK]
theorem bop_shr : bopK P xT .shr (.sc (.int k a)) (.sc (.int k' b)) K = (0 ≤ b ∧ K ⟨.sc (.int k (a.fdiv (2 ^ (min b.toNat k.bits)))), [], []⟩) := by simp [bopK, binK, isShift, shiftK]
theorem bop_shl : bopK P xT .shl (.sc (.int k a)) (.sc (.int k' b)) K = (0 ≤ b ∧ K ⟨.sc (.int k (k.wrap (a * 2 ^ (min b.toNat k.bits)))), [], []⟩) := by simp [bopK, binK, isShift, shiftK]
theorem bop_and : bopK P xT .and (.sc (.int k a)) (.sc (.int k b)) K = K ⟨.sc (.int k (k.wrap (BitVec.ofInt k.bits a &&& BitVec.ofInt k.bits b).toNat)), [], []⟩ := by simp [bopK, binK, isShift, intK]
theorem bop_xor : bopK P xT .xor (.sc (.int k a)) (.sc (.int k b)) K = K ⟨.sc (.int k (k.wrap (BitVec.ofInt k.bits a ^^^ BitVec.ofInt k.bits b).toNat)), [], []⟩ := by simp [bopK, binK, isShift, intK]
theorem bop_eql : bopK P xT .eql (.sc (.int k a)) (.sc (.int k b)) K = K ⟨.sc (.bool (a == b)), [], []⟩ := by simp [bopK, binK, isShift, intK]
theorem bop_neq : bopK P xT .neq (.sc (.int k a)) (.sc (.int k b)) K = K ⟨.sc (.bool (a != b)), [], []⟩ := by simp [bopK, binK, isShift, intK]
theorem bop_lss : bopK P xT .lss (.sc (.int k a)) (.sc (.int k b)) K = K ⟨.sc (.bool (decide (a < b))), [], []⟩ := by simp [bopK, binK, isShift, intK]
theorem bop_leq : bopK P xT .leq (.sc (.int k a)) (.sc (.int k b)) K = K ⟨.sc (.bool (decide (a ≤ b))), [], []⟩ := by simp [bopK, binK, isShift, intK]
theorem bop_gtr : bopK P xT .gtr (.sc (.int k a)) (.sc (.int k b)) K = K ⟨.sc (.bool (decide (b < a))), [], []⟩ := by simp [bopK, binK, isShift, intK]
theorem bop_geq : bopK P xT .geq (.sc (.int k a)) (.sc (.int k b)) K = K ⟨.sc (.bool (decide (b ≤ a))), [], []⟩ := by simp [bopK, binK, isShift, intK]
theorem bops_add : bopK P xT .add (.sc (.string s)) (.sc (.string t)) K = (s.size + t.size ≤ 9223372036854775807 ∧ K ⟨.sc (.string (s ++ t)), [], []⟩) := rfl
theorem bops_eql : bopK P xT .eql (.sc (.string s)) (.sc (.string t)) K = K ⟨.sc (.bool (s.toList == t.toList)), [], []⟩ := rfl
theorem bops_neq : bopK P xT .neq (.sc (.string s)) (.sc (.string t)) K = K ⟨.sc (.bool (!(s.toList == t.toList))), [], []⟩ := rfl
theorem bops_geq : bopK P xT .geq (.sc (.string s)) (.sc (.string t)) K = K ⟨.sc (.bool (!(Op.bytesLess s.toList t.toList))), [], []⟩ := rfl
theorem bopb_eql : bopK P xT .eql (.sc (.bool p)) (.sc (.bool q)) K = (P.underlying xT = some .bool ∧ K ⟨.sc (.bool (p == q)), [], []⟩) := rfl
theorem bopb_neq : bopK P xT .neq (.sc (.bool p)) (.sc (.bool q)) K = (P.underlying xT = some .bool ∧ K ⟨.sc (.bool (!(p == q))), [], []⟩) := rfl
end
def uopK (op : UnOp) (x : AV) (K : Eff → Prop) : Prop := match x with
  | .pk (.one (.sc a)) => unK op a fun v => K ⟨.sc v, [], []⟩
  | _ => False
theorem eff_un {op : UnOp} {t : TypeId} {x : Operand} : effK P st nid ⟨d, .unOp op t x, ty, pos, after, g⟩ K = uopK op (st.ev x) K := rfl
theorem uop_not {b : Bool} : uopK .not (.sc (.bool b)) K = K ⟨.sc (.bool (!b)), [], []⟩ := rfl
theorem uop_neg {k : IntKind} {n : Int} : uopK .neg (.sc (.int k n)) K = K ⟨.sc (.int k (k.wrap (0 - n))), [], []⟩ := rfl
def faK (st : St) (fo : Option (Nat × Option Nat)) (x : AV) (K : Eff → Prop) : Prop := match fo, x with
    | some (off, _), .pk (.one s) => fldA st off s K
    | _, _ => False
theorem eff_fieldAddr {t : TypeId} {x : Operand} {f : Nat} : effK P st nid ⟨d, .fieldAddr t x f, ty, pos, after, g⟩ K = faK st (fieldOf P t f) (st.ev x) K := rfl
def some' {α : Type} : Option α → Prop
  | some _ => True
  | none => False
theorem some'_some {α : Type} (x : α) : some' (some x) = True := rfl
theorem fa_vad {off : Nat} {n : Option Nat} {id j : Nat} : faK st (some (off, n)) (.one (.vad id j)) K = (some' (st.vars id) ∧ K ⟨.one (.vad id (j + off)), [], []⟩) := by
  simp only [faK, fldA]; cases st.vars id <;> simp [some']
def faO (o : Option Obj') (i : Nat) (K : Prop) : Prop := match o with | some (_, rows) => i < rows.length ∧ K | none => False
theorem fa_oad {off : Nat} {n : Option Nat} {id i j : Nat} : faK st (some (off, n)) (.one (.oad id i j)) K = faO (st.objs id) i (K ⟨.one (.oad id i (j + off)), [], []⟩) := rfl
theorem faO_eq {w i : Nat} {rows : Rows} {K : Prop} : faO (some (w, rows)) i K = (i < rows.length ∧ K) := rfl
theorem fa_iad {off : Nat} {n : Option Nat} {row : List Cell} {j : Nat} : faK st (some (off, n)) (.one (.iad row j)) K = K ⟨.one (.iad row (j + off)), [], []⟩ := rfl
theorem fa_ipt {off : Nat} {n : Option Nat} {fs : List Fld} {j : Nat} : faK st (some (off, n)) (.one (.ipt fs j)) K = K ⟨.one (.ipt fs (j + off)), [], []⟩ := rfl
def iaK (st : St) (e : Option (Nat × Nat × List Value)) (x i : AV) (K : Eff → Prop) : Prop := match e, x with
    | some (e, _, _), .pk (.one s) => asNat i fun k => idxA st e s k K
    | _, _ => False
theorem eff_indexAddr {t : TypeId} {x i : Operand} : effK P st nid ⟨d, .indexAddr t x i, ty, pos, after, g⟩ K = iaK st (elemOf' P t) (st.ev x) (st.ev i) K := rfl
section
variable {e b w : Nat} {z : List Value} {rows : Rows} {ik : IntKind} {n : Nat} {i : Int}
theorem ia_im_n : iaK st (some (e, b, z)) (.one (.im w rows)) (.sc (.int ik (n : Int))) K = (w = e ∧ n < rows.length ∧ K ⟨.one (.iad (rows.getD n []) 0), [], []⟩) := by
  simp [iaK, idxA, asNat]
theorem ia_im_l : iaK st (some (e, b, z)) (.one (.im w rows)) (.sc (.int ik (OfNat.ofNat n))) K = (w = e ∧ n < rows.length ∧ K ⟨.one (.iad (rows.getD n []) 0), [], []⟩) := by
  rw [show (OfNat.ofNat n : Int) = (n : Int) from rfl, ia_im_n]
theorem ia_im_i : iaK st (some (e, b, z)) (.one (.im w rows)) (.sc (.int ik i)) K = (0 ≤ i ∧ w = e ∧ i.toNat < rows.length ∧ K ⟨.one (.iad (rows.getD i.toNat []) 0), [], []⟩) := rfl
def iaR (o : Option Obj') (P Q : Prop) : Prop := match o with | some _ => P ∧ Q | none => False
theorem ia_ref_n {id off len : Nat} : iaK st (some (e, b, z)) (.one (.ref id w off len)) (.sc (.int ik (n : Int))) K = (some' (st.objs id) ∧ w = e ∧ n < len ∧ K ⟨.one (.oad id (off + n) 0), [], []⟩) := by
  simp only [iaK, idxA, asNat, Int.natCast_nonneg, true_and, Int.toNat_natCast]
  cases st.objs id <;> simp [some']
theorem ia_ref_l {id off len : Nat} : iaK st (some (e, b, z)) (.one (.ref id w off len)) (.sc (.int ik (OfNat.ofNat n))) K = (some' (st.objs id) ∧ w = e ∧ n < len ∧ K ⟨.one (.oad id (off + n) 0), [], []⟩) := by
  rw [show (OfNat.ofNat n : Int) = (n : Int) from rfl, ia_ref_n]
theorem ia_ref_i {id off len : Nat} : iaK st (some (e, b, z)) (.one (.ref id w off len)) (.sc (.int ik i)) K = (0 ≤ i ∧ some' (st.objs id) ∧ w = e ∧ i.toNat < len ∧ K ⟨.one (.oad id (off + i.toNat) 0), [], []⟩) := by
  simp only [iaK, idxA, asNat]
  cases st.objs id <;> simp [some']
end
def lenK (P : Program) (st : St) (t : Option TypeId) (x : AV) (K : Eff → Prop) : Prop := match x with
      | .pk (.one (.sc (.string s))) => (t.bind P.underlying = some .string ∧ K ⟨.sc (.int .i64 s.size), [], []⟩)
      | .pk (.one (.sc v)) => isNil v = true ∧ (t.bind (elemOf' P)).isSome = true ∧ K ⟨.sc (.int .i64 0), [], []⟩
      | .pk (.one s) => (t.bind (elemOf' P)).isSome = true ∧ (match st.rows s with
        | some (_, rows) => K ⟨.sc (.int .i64 rows.length), [], []⟩
        | none => False)
      | _ => False
theorem eff_len {x : Operand} {t : TypeId} : effK P st nid ⟨d, .call ⟨.builtin .len, #[x], #[t]⟩, ty, pos, after, g⟩ K = lenK P st (some t) (st.ev x) K := rfl
theorem len_im {t : TypeId} {w : Nat} {rows : Rows} : lenK P st (some t) (.one (.im w rows)) K = ((elemOf' P t).isSome = true ∧ K ⟨.sc (.int .i64 rows.length), [], []⟩) := rfl
theorem len_str {t : TypeId} {s : ByteArray} : lenK P st (some t) (.sc (.string s)) K = (P.underlying t = some .string ∧ K ⟨.sc (.int .i64 s.size), [], []⟩) := rfl
theorem len_nil {t : TypeId} : lenK P st (some t) (.sc (.slice none 0 0)) K = ((elemOf' P t).isSome = true ∧ K ⟨.sc (.int .i64 0), [], []⟩) := by
  simp [lenK, isNil]
def lenR (o : Option Obj') (off len : Nat) (K : Eff → Prop) : Prop := match o with
  | some (_, rows) => K ⟨.sc (.int .i64 ((rows.drop off).take len).length), [], []⟩
  | none => False
theorem len_ref {t : TypeId} {id w off len : Nat} : lenK P st (some t) (.one (.ref id w off len)) K = ((elemOf' P t).isSome = true ∧ lenR (st.objs id) off len K) := by
  simp only [lenK, St.rows, lenR, Option.bind_some]
  cases st.objs id <;> rfl
theorem lenR_eq {w : Nat} {rows : Rows} {len : Nat} : lenR (some (w, rows)) 0 len K = K ⟨.sc (.int .i64 (rows.take len).length), [], []⟩ := rfl
def idxK (P : Program) (u : Option TypeDesc) (x i : AV) (K : Eff → Prop) : Prop := match u, x with
    | some .string, .pk (.one (.sc (.string s))) => asNat i fun k => k < s.size ∧ K ⟨.sc (.int .u8 (s.data.toList.getD k 0).toNat), [], []⟩
    | some (.array n e), .pk (.agg xs) => aggOf P e = some none ∧ xs.length = n ∧ asNat i fun k => k < n ∧ K ⟨.one (xs.getD k .un), [], []⟩
    | _, _ => False
theorem eff_index {t : TypeId} {x i : Operand} : effK P st nid ⟨d, .index t x i, ty, pos, after, g⟩ K = idxK P (P.underlying t) (st.ev x) (st.ev i) K := rfl
theorem idx_n {s : ByteArray} {ik : IntKind} {n : Nat} : idxK P (some .string) (.sc (.string s)) (.sc (.int ik (n : Int))) K = (n < s.size ∧ K ⟨.sc (.int .u8 (s.data.toList.getD n 0).toNat), [], []⟩) := by
  simp [idxK, asNat]
theorem idx_l {s : ByteArray} {ik : IntKind} {n : Nat} : idxK P (some .string) (.sc (.string s)) (.sc (.int ik (OfNat.ofNat n))) K = (n < s.size ∧ K ⟨.sc (.int .u8 (s.data.toList.getD n 0).toNat), [], []⟩) := by
  rw [show (OfNat.ofNat n : Int) = (n : Int) from rfl, idx_n]
def exK (x : AV) (k : Nat) (K : Eff → Prop) : Prop := match x with
    | .tup ps => (match ps[k]? with
      | some p => K ⟨.pk p, [], []⟩
      | none => False)
    | _ => False
theorem eff_extract {x : Operand} {k : Nat} : effK P st nid ⟨d, .extract x k, ty, pos, after, g⟩ K = exK (st.ev x) k K := rfl
def exP (p : Option Pk) (K : Eff → Prop) : Prop := match p with
  | some p => K ⟨.pk p, [], []⟩
  | none => False
theorem nth_eq {α : Type} : ∀ (l : List α) (k : Nat), nth l k = l[k]?
  | [], _ => rfl
  | a :: l, 0 => rfl
  | a :: l, k + 1 => by simp [nth, nth_eq l k]
theorem ex_tup {ps : List Pk} {k : Nat} : exK (.tup ps) k K = exP (nth ps k) K := by
  simp only [exK]
  rw [nth_eq]
  cases h : ps[k]? <;> simp [exP, h]
theorem exP_some {p : Pk} : exP (some p) K = K ⟨.pk p, [], []⟩ := rfl
def valK (P : Program) (st : St) (nid : Nat) (f : AV) (xs : List Operand) (K : Eff → Prop) : Prop := match f with
      | .pk (.one (.fnv g ids)) => pksK st xs fun ps => callK P st nid g (ps ++ ids.map fun id => .one (.vad id 0)) K
      | .pk (.one (.fni g caps)) => pksK st xs fun ps => callK P st nid g (ps ++ caps.map fun fs => .one (.ipt fs 0)) K
      | _ => False
end eff

section code
variable {P : Program} {Q : Exit → St → Prop} {st : St}
def condK (P : Program) (c : AV) (a b : Code) (Q : Exit → St → Prop) (st : St) : Prop := match c with
  | .pk (.one (.sc (.bool t))) => if t then Awp P a Q st else Awp P b Q st
  | _ => False
theorem awp_cond {c : Operand} {a b : Code} : Awp P (.cond c a b) Q st = condK P (st.ev c) a b Q st := rfl
theorem cond_true {a b : Code} : condK P (.sc (.bool true)) a b Q st = Awp P a Q st := rfl
theorem cond_false {a b : Code} : condK P (.sc (.bool false)) a b Q st = Awp P b Q st := rfl
theorem cond_split {t : Bool} {a b : Code} (h1 : t = true → Awp P a Q st) (h2 : t = false → Awp P b Q st) : condK P (.sc (.bool t)) a b Q st := by
  cases t
  · exact h2 rfl
  · exact h1 rfl
theorem awp_seq {a b : Code} : Awp P (.seq a b) Q st = Awp P a (Exit.go (Awp P b Q) Q) st := rfl
theorem awp_skip : Awp P .skip Q st = Q .normal st := rfl
theorem awp_region {id : Nat} {ops : Array Oper} {draw : Bool} : Awp P (.region id ops draw) Q st = Rg P ops draw st (Q .normal) := rfl
theorem awp_block {id : Nat} {b : Code} : Awp P (.block id b) Q st = Awp P b (Exit.blk id Q) st := rfl
theorem awp_exit {id : Nat} : Awp P (.exit id) Q st = Q (.exit id) st := rfl
theorem awp_ret : Awp P .ret Q st = Q .ret st := rfl
theorem awp_loop {b : Code} (ι : Type) (S : ι → St) (good : ι → Prop) (μ : ι → Nat) (i : ι) (hi : good i) (hle : Le st (S i))
    (h : ∀ i, good i → Awp P b (Exit.go (fun st' => ∃ i', good i' ∧ μ i' < μ i ∧ Le st' (S i')) Q) (S i)) : Awp P (.loop b) Q st :=
  ⟨ι, S, good, μ, ⟨i, hi, hle⟩, h⟩
theorem endQ_ret {rs : List ResultVar} {args res upd : List LV} : endQ P rs args res upd .ret = endsK P rs args res upd := rfl
theorem endQ_normal {rs : List ResultVar} {args res upd : List LV} : endQ P rs args res upd .normal = endsK P rs args res upd := rfl
theorem go_normal {n : St → Prop} : Exit.go n Q .normal = n := rfl
theorem go_exit {n : St → Prop} {id : Nat} : Exit.go n Q (.exit id) = Q (.exit id) := rfl
theorem go_ret {n : St → Prop} : Exit.go n Q .ret = Q .ret := rfl
theorem blk_normal {id : Nat} : Exit.blk id Q .normal = Q .normal := rfl
theorem blk_ret {id : Nat} : Exit.blk id Q .ret = Q .ret := rfl
theorem blk_exit {id id' : Nat} : Exit.blk id Q (.exit id') = if id' = id then Q .normal else Q (.exit id') := by
  funext st; simp only [Exit.blk]; split <;> rfl
end code
theorem mk_slots (s : List (Nat × AV)) (v : List (Nat × List SV)) (o : List (Nat × Obj')) (n : Nat) : (mkSt s v o n).slots = look .un s := rfl
theorem mk_vars (s : List (Nat × AV)) (v : List (Nat × List SV)) (o : List (Nat × Obj')) (n : Nat) : (mkSt s v o n).vars = look none (v.map fun p => (p.1, some p.2)) := rfl
theorem mk_objs (s : List (Nat × AV)) (v : List (Nat × List SV)) (o : List (Nat × Obj')) (n : Nat) : (mkSt s v o n).objs = look none (o.map fun p => (p.1, some p.2)) := rfl
theorem mk_next (s : List (Nat × AV)) (v : List (Nat × List SV)) (o : List (Nat × Obj')) (n : Nat) : (mkSt s v o n).next = n := rfl
theorem look_nil {α : Type} (d : α) (k : Nat) : look d [] k = d := rfl
theorem look_cons {α : Type} (d : α) (i : Nat) (x : α) (r : List (Nat × α)) (k : Nat) : look d ((i, x) :: r) k = if k = i then x else look d r k := rfl
attribute [go_sem] mk_slots mk_vars mk_objs mk_next look_nil look_cons yieldOf_some boolOf_eq nth_cons Option.isSome_some eq_self decide_true decide_false Bool.false_eq_true Int.ofNat_lt Int.ofNat_le
attribute [go_sem] reduceIte Nat.reduceEqDiff Nat.reduceAdd Nat.reduceMul Nat.reduceLT Nat.reduceLeDiff Nat.reduceSub
attribute [go_sem] List.map_cons List.map_nil List.drop_zero List.drop_succ_cons List.take_zero List.take_succ_cons List.getD_cons_zero List.getD_cons_succ List.length_cons List.length_nil Option.bind_some List.getElem?_toArray Cell.isv Fld.sv Option.getD_some Option.getD_none
attribute [go_sem ↓] ap_eq stepK_step awp_cond endQ_ret endQ_normal runK_nil runK_cons runK_guard rg_still rg_draw awp_seq awp_skip awp_region awp_block awp_exit awp_ret go_normal go_exit go_ret blk_normal blk_ret blk_exit
attribute [go_sem ↓] eff_move eff_assign eff_pick eff_alloc eff_box eff_load eff_store eff_bin eff_un eff_fieldAddr eff_indexAddr eff_len eff_index eff_extract
attribute [go_sem] app_slots app_slots_none app_vars app_objs app_next put_slots put_vars put_objs put_next step_slots step_vars step_objs step_next upd_nil upd_cons ev_tmp ev_const ev_func guard_tt guard_ff guard_tf guard_ft
attribute [go_sem] pick_t pick_f allocK_eq boxK_one boxK_agg ld_iad1 ld_iadn ld_ipt1 ld_iptn ld_vad ldV_1 ldV_n ld_oad ldO_1 ldO_n ld_oin ldI_1 ldC_sl st_vad1 st_vadn stV_eq bopp_eql bopp_neq bop_add bop_sub bop_mul bop_quo bop_rem bop_shr bop_shl bop_and bop_xor bop_eql bop_neq bop_lss bop_leq bop_gtr bop_geq bops_add bops_eql bops_neq bops_geq bopb_eql bopb_neq uop_not uop_neg
attribute [go_sem low] ia_im_i ia_ref_i
attribute [go_sem] List.size_toArray some'_some fa_vad fa_oad faO_eq fa_iad fa_ipt ia_im_n ia_im_l ia_ref_n ia_ref_l len_im len_str len_nil len_ref lenR_eq idx_n idx_l ex_tup exP_some
section ends
variable {P : Program} {st : St}
def endC (st : St) (args res upd : List LV) (pks : List Pk) : Prop := All2 (passPk st) pks res ∧ leftK st 0 args upd ∧ endOk (List.zipWith handPk pks res).flatten (resEff leftId 0 upd) (List.zipWith (lendsPk st) pks res).flatten = true
theorem endC_eq {args res upd : List LV} {pks : List Pk} : endC st args res upd pks = (All2 (passPk st) pks res ∧ leftK st 0 args upd ∧ endOk (List.zipWith handPk pks res).flatten (resEff leftId 0 upd) (List.zipWith (lendsPk st) pks res).flatten = true) := rfl
def resC (P : Program) (st : St) (rs : List ResultVar) (acc : List Pk) (K : List Pk → Prop) : Prop := resultPks P st rs fun ps => K (acc ++ ps)
theorem endsK_eq {rs : List ResultVar} {args res upd : List LV} : endsK P rs args res upd st = resC P st rs [] (endC st args res upd) := by
  simp only [endsK, resC, List.nil_append] <;> rfl
def resS (P : Program) (st : St) (a : AV) (rs : List ResultVar) (acc : List Pk) (K : List Pk → Prop) : Prop := match a with
  | .pk p => resC P st rs (acc ++ [p]) K
  | .tup _ => False
def resV (P : Program) (st : St) (rs : List ResultVar) (acc : List Pk) (K : List Pk → Prop) (e : Eff) : Prop := match e.v with
  | .pk p => resC P st rs (acc ++ [p]) K
  | .tup _ => False
theorem resK_nil {acc : List Pk} {K : List Pk → Prop} : resC P st [] acc K = K acc := by simp [resC, resultPks]
theorem resK_tmp {t : Tmp} {rs : List ResultVar} {acc : List Pk} {K : List Pk → Prop} : resC P st (.tmp t :: rs) acc K = resS P st (st.slots t) rs acc K := by
  simp only [resC, resultPks, resultPk, resS]
  cases st.slots t with
  | pk p => simp
  | tup ps => rfl
def resA (P : Program) (st : St) (n : Option (Option Nat)) (a : AV) (rs : List ResultVar) (acc : List Pk) (K : List Pk → Prop) : Prop := match n, a with
  | some n, .pk (.one (.vad id j)) => ldV (st.vars id) j n (resV P st rs acc K)
  | _, _ => False
theorem resK_cell {a : Tmp} {t : TypeId} {rs : List ResultVar} {acc : List Pk} {K : List Pk → Prop} : resC P st (.cell a t :: rs) acc K = resA P st (aggOf P t) (st.slots a) rs acc K := by
  simp only [resC, resultPks, resultPk, resA]
  rcases aggOf P t with _ | n
  · rfl
  · rcases st.slots a with (x | xs) | ps
    · cases x <;> try rfl
      case vad id j =>
        simp only [loadK, ldV, resV]
        rcases st.vars id with _ | fs
        · rfl
        · cases n <;> simp [resC]
    · rfl
    · rfl
theorem resC_eq {n : Option Nat} {id j : Nat} {rs : List ResultVar} {acc : List Pk} {K : List Pk → Prop} : resA P st (some n) (.one (.vad id j)) rs acc K = ldV (st.vars id) j n (resV P st rs acc K) := rfl
theorem resS_pk {p : Pk} {rs : List ResultVar} {acc : List Pk} {K : List Pk → Prop} : resS P st (.pk p) rs acc K = resC P st rs (acc ++ [p]) K := rfl
theorem resV_pk {p : Pk} {rs : List ResultVar} {acc : List Pk} {K : List Pk → Prop} {o : List (Nat × Option Obj')} {v : List (Nat × Option (List SV))} : resV P st rs acc K ⟨.pk p, o, v⟩ = resC P st rs (acc ++ [p]) K := rfl
theorem endOk_nil : endOk [] [] [] = true := rfl
end ends
attribute [go_sem] cond_true cond_false endsK_eq resK_nil resK_tmp resK_cell resC_eq resS_pk resV_pk endC_eq endOk_nil All2 leftK leftLV leftLeaf leftLeaves leftId passPk handPk handLeaf lendsPk lends resEff leavesEff LV.leaves List.zipWith_nil_left List.zipWith_cons_cons List.flatten_nil List.flatten_cons List.append_nil List.nil_append List.nodup_nil
attribute [go_sem] startOf argSlots argPk argSV argLeaves true_and and_true

end Go.Proofs.YtedciihjgbkjgacGreatDoor.A
