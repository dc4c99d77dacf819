/- THE ABSTRACT SEMANTICS (definitions, third part): a frame that is as a state says; code. Conditions: none; definitions alone. -/
import Derived.Test.YtkcbnbbbijlhcaiA2
namespace Go.Proofs.Ytkcbnbbbijlhcai.A
open Go

def SV.ids : SV → List Nat
  | .ref id _ _ _ => [id]
  | .rin id _ _ s _ _ => [id, s]
  | .vad id _ => [id]
  | .oad id _ _ => [id]
  | .oin id _ _ s _ => [id, s]
  | .fnv _ ids => ids
  | _ => []
def AV.ids (a : AV) : List Nat := a.svs.flatMap SV.ids

structure Cx where
  W0 : World
  lab0 : Nat → Lab
  n : Nat
  pins : List (Nat × Value)

structure InvS (cx : Cx) (st : St) (sh : Sh) (a : Act) (W : World) (Fr : Nat → Prop) : Prop where
  defers : a.defers = []
  size : a.tmps.size = cx.n
  ext : Ext cx.W0 cx.lab0 W sh.lab
  slots : ∀ t, AVRep st W sh (st.slots t) (a.tmps.getD t undef)
  vars : ∀ id fs, st.vars id = some fs → sh.lab (sh.β id) = .var id ∧ ∃ (c : Array Value) (t : TypeId), W.heap[sh.β id]? = some (.cells c t (0, 0)) ∧ All2 (SVRep st W sh) fs c.toList
  objs : ∀ id w rows, st.objs id = some (w, rows) → OwnRep W sh.lab id w rows (sh.μ id)
  fresh : ∀ id, Fr id → st.vars id = none ∧ st.objs id = none ∧ (∀ t, id ∉ (st.slots t).ids) ∧ ∀ k fs, st.vars k = some fs → ∀ s ∈ fs, id ∉ s.ids
  low : ∀ id, Fr id → 1000 ≤ id
  stamps : ∀ id w rows i j s xs, st.objs id = some (w, rows) → Rows.cell rows i j = .sl s xs → ¬ Fr s
  pinO : ∀ k h, (k, h) ∈ cx.pins → st.objs k ≠ none → sh.μ k = h
  pinV : ∀ k h, (k, h) ∈ cx.pins → st.vars k ≠ none → h = .pointer (some ⟨sh.β k, 0, none⟩)

def Inv (cx : Cx) (st : St) (a : Act) (W : World) : Prop := ∃ sh, InvS cx st sh a W (fun id => st.next ≤ id)

/-- A state that says no more than another one. -/
def Le (st st' : St) : Prop := ∀ cx a W, (∀ q ∈ cx.pins, q.1 < 960) → Inv cx st a W → Inv cx st' a W

/-! #### regions whose order is drawn -/
/-- The variables that a value names. -/
def SV.vids : SV → List Nat
  | .vad id _ => [id]
  | .fnv _ ids => ids
  | _ => []
def svFoot (st : St) (s : SV) : List Nat := s.ids ++ s.vids.flatMap (varSVs st)
def avFoot (st : St) (a : AV) : List Nat := a.svs.flatMap (svFoot st)
/-- What an operation looks at. -/
def footOf (st : St) (o : Oper) : List Nat := o.op.operands.toList.flatMap fun x => avFoot st (st.ev x)
def wrOf (e : Eff) : List Nat := e.ow.map (·.1) ++ e.vw.map (·.1)
structure Tr where
  i : Nat
  foot : List Nat
  wr : List Nat
def runD (P : Program) (ds : List (Option Tmp)) (base : Nat) : Nat → List Oper → St → List Tr → (St → List Tr → Prop) → Prop
  | _, [], st, tr, K => K st tr
  | i, o :: r, st, tr, K => match o.guard with
    | none => effK P st (base + 64 * i) o fun e => runD P ds base (i + 1) r (st.app o.dst e) (⟨i, footOf st o, wrOf e⟩ :: tr) K
    | some (g, want) => match yieldOf st (nth ds g) with
      | some b => if b = want then effK P st (base + 64 * i) o fun e => runD P ds base (i + 1) r (st.app o.dst e) (⟨i, footOf st o, wrOf e⟩ :: tr) K
        else runD P ds base (i + 1) r (st.put o.dst .un) tr K
      | none => False
/-- Which operations come before one (bits), by its edges. -/
def edgeMask (acc : List Nat) (o : Oper) : Nat := (o.after.toList.filter fun e => match e.ground with | .textOnly _ => false | .gcOnly _ => false | _ => true).foldr (fun e m => ((1 <<< e.on) ||| acc.getD e.on 0) ||| m) 0
def masks (l : List Oper) : List Nat := l.foldl (fun acc o => acc ++ [edgeMask acc o]) []
def ordM (ms : List Nat) (i j : Nat) : Bool := (ms.getD j 0).testBit i || (ms.getD i 0).testBit j
def looks (ops : List Oper) (o : Oper) : List Tmp :=
  (o.op.operands.toList.filterMap fun | .tmp t => some t | _ => none) ++
  (match o.guard with
   | some (g, _) => (((nth ops g).map (·.dst)).getD none).toList
   | none => [])
def apartS (ops : List Oper) (x y : Oper) : Bool := match x.dst with
  | some d => !(looks ops y).contains d && y.dst != some d
  | none => true
/-- Operations that no edge orders meet in no slot. -/
def stOk (ops : List Oper) : Bool :=
  let ms := masks ops
  (List.range ops.length).all fun i => match nth ops i with
    | some o => (o.after.toList.all fun e => match e.ground with | .textOnly _ => true | .gcOnly _ => true | _ => decide (e.on < i)) &&
        (List.range ops.length).all fun j => i == j || ordM ms i j || match nth ops j with
          | some o' => apartS ops o o'
          | none => true
    | none => true
def meets (l m : List Nat) : Bool := l.any fun x => m.contains x
/-- Nor in memory. -/
def trOk (ops : List Oper) (tr : List Tr) : Bool :=
  let ms := masks ops
  tr.all fun x => tr.all fun y => x.wr.isEmpty || (!meets x.wr y.foot && !meets x.wr y.wr) || x.i == y.i || ordM ms x.i y.i

def Rg (P : Program) (ops : Array Oper) (draw : Bool) (st : St) (K : St → Prop) : Prop :=
  match draw with
  | true => runD P (ops.toList.map (·.dst)) st.next 0 ops.toList st [] fun st' tr => trOk ops.toList tr = true ∧ K { st' with next := st.next + 64 * ops.size }
  | false => runK P (ops.toList.map (·.dst)) st.next 0 ops.toList st fun st' => K { st' with next := st.next + 64 * ops.size }

def Exit.go (next : St → Prop) (Q : Exit → St → Prop) : Exit → St → Prop
  | .normal, st => next st
  | e, st => Q e st
def Exit.blk (id : Nat) (Q : Exit → St → Prop) : Exit → St → Prop
  | .exit id', st => if id' = id then Q .normal st else Q (.exit id') st
  | e, st => Q e st

def Awp (P : Program) : Code → (Exit → St → Prop) → St → Prop
  | .skip, Q, st => Q .normal st
  | .region _ ops draw, Q, st => Rg P ops draw st (Q .normal)
  | .seq a b, Q, st => Awp P a (Exit.go (Awp P b Q) Q) st
  | .cond c a b, Q, st => match st.ev c with
    | .pk (.one (.sc (.bool t))) => if t then Awp P a Q st else Awp P b Q st
    | _ => False
  | .block id b, Q, st => Awp P b (Exit.blk id Q) st
  | .loop b, Q, st => ∃ (ι : Type) (S : ι → St) (good : ι → Prop) (μ : ι → Nat), (∃ i, good i ∧ Le st (S i)) ∧
      ∀ i, good i → Awp P b (Exit.go (fun st' => ∃ i', good i' ∧ μ i' < μ i ∧ Le st' (S i')) Q) (S i)
  | .exit id, Q, st => Q (.exit id) st
  | .ret, Q, st => Q .ret st
  | _, _, _ => False

/-! #### the function's entry and its end -/
def argSV (id : Nat) : Leaf → SV
  | .sc v => .sc v
  | .im w rows => .im w rows
  | .ow w rows => .ref id w 0 rows.length
  | .gone => .un
  | .ip fs => .ipt fs 0
  | .op _ => .vad id 0
  | .fn f caps => .fni f caps
def argLeaves (id : Nat) : List Leaf → List SV
  | [] => []
  | l :: ls => argSV id l :: argLeaves (id + 1) ls
def argPk (id : Nat) : LV → Pk
  | .one l => .one (argSV id l)
  | .agg ls => .agg (argLeaves id ls)
def argSlots : Nat → Nat → List LV → Nat → AV
  | _, _, [] => fun _ => .un
  | t, id, l :: ls => fun t' => if t' = t then .pk (argPk id l) else argSlots (t + 1) (id + 16) ls t'
def startOf (args : List LV) : St :=
  { slots := argSlots 0 0 args, vars := upd (fun _ => none) (resEff resLeafV 0 args), objs := upd (fun _ => none) (resEff resLeafO 0 args), next := 1000 }

def resultPk (P : Program) (st : St) (r : ResultVar) (K : Pk → Prop) : Prop :=
  match r with
  | .tmp t => match st.slots t with
    | .pk p => K p
    | .tup _ => False
  | .cell a t => match aggOf P t, st.slots a with
    | some n, .pk (.one (.vad id j)) => loadK st (.vad id j) n fun v => match v with | .pk p => K p | .tup _ => False
    | _, _ => False
def resultPks (P : Program) (st : St) : List ResultVar → (List Pk → Prop) → Prop
  | [], K => K []
  | r :: rs, K => resultPk P st r fun p => resultPks P st rs fun ps => K (p :: ps)

/-- What is left of what was handed over (id: the leaf's number). -/
def leftLeaf (st : St) (id : Nat) (a u : Leaf) : Prop :=
  match a, u with
  | .ow w _, .ow w' rows => match st.objs id with
    | some (w'', rows') => w'' = w' ∧ w = w' ∧ rows = rst rows'
    | none => False
  | .op _, .op fs => st.vars id = some (fs.map Fld.sv)
  | _, .gone => True
  | _, _ => False
def leftLeaves (st : St) : Nat → List Leaf → List Leaf → Prop
  | _, [], [] => True
  | id, a :: as, u :: us => leftLeaf st id a u ∧ leftLeaves st (id + 1) as us
  | _, _, _ => False
def leftLV (st : St) (id : Nat) : LV → LV → Prop
  | .one a, .one u => leftLeaf st id a u
  | .agg as, .agg us => leftLeaves st id as us
  | _, _ => False
def leftK (st : St) : Nat → List LV → List LV → Prop
  | _, [], [] => True
  | id, a :: as, u :: us => leftLV st id a u ∧ leftK st (id + 16) as us
  | _, _, _ => False
def leftId (id : Nat) (u : Leaf) : List Nat :=
  match u with
  | .ow _ _ => [id]
  | .op _ => [id]
  | _ => []
def endOk (handed left lent : List Nat) : Bool := decide (handed ++ left).Nodup && lent.all fun i => !(handed ++ left).contains i

def endsK (P : Program) (rs : List ResultVar) (args res upd : List LV) (st : St) : Prop :=
  resultPks P st rs fun pks => All2 (passPk st) pks res ∧ leftK st 0 args upd ∧ endOk (List.zipWith handPk pks res).flatten (resEff leftId 0 upd) (List.zipWith (lendsPk st) pks res).flatten = true

/-- A function's code comes to this. -/
def endQ (P : Program) (rs : List ResultVar) (args res upd : List LV) : Exit → St → Prop
  | .normal, st => endsK P rs args res upd st
  | .ret, st => endsK P rs args res upd st
  | _, _ => False
def Body (P : Program) (fn : Func) (c : Code) (args res upd : List LV) : Prop :=
  Awp P c (endQ P fn.results.toList args res upd) (startOf args)

/-- A state, written out. -/
def look {α : Type} (d : α) : List (Nat × α) → Nat → α
  | [] => fun _ => d
  | (i, x) :: r => fun k => if k = i then x else look d r k
def mkSt (slots : List (Nat × AV)) (vars : List (Nat × List SV)) (objs : List (Nat × Obj')) (next : Nat) : St :=
  { slots := look .un slots, vars := look none (vars.map fun p => (p.1, some p.2)), objs := look none (objs.map fun p => (p.1, some p.2)), next := next }

end Go.Proofs.Ytkcbnbbbijlhcai.A
