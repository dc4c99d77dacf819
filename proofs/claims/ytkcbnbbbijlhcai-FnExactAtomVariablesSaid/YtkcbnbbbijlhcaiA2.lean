/- THE ABSTRACT SEMANTICS (definitions, second part): operations, regions, code; what it means that a frame is as a state says. Conditions: none; definitions alone. -/
import Derived.Test.YtkcbnbbbijlhcaiA1
namespace Go.Proofs.Ytkcbnbbbijlhcai.A
open Go

/-- The slices and variables that a value names. -/
def SV.ids' : SV → List Nat
  | .ref id _ _ _ => [id]
  | .rin id _ _ _ _ _ => [id]
  | .vad id _ => [id]
  | .fnv _ ids => ids
  | _ => []
def handLeaf : SV → Leaf → List Nat
  | .ref id _ _ _, .ow _ _ => [id]
  | .rin id _ _ _ _ _, .ow _ _ => [id]
  | .vad id _, .op _ => [id]
  | _, _ => []
def handPk : Pk → LV → List Nat
  | .one s, .one l => handLeaf s l
  | .agg xs, .agg ls => (List.zipWith handLeaf xs ls).flatten
  | _, _ => []

def unlift (rows : Rows) : List Value := rows.map fun r => match r with | [.sc v] => v | _ => default

/-- What a call leaves in what it was handed. -/
def updLeafO (nid : Nat) (st : St) : SV → Leaf → Leaf → List (Nat × Option Obj')
  | .ref id _ _ _, .ow _ _, .ow w rows => [(id, some (w, stm nid rows))]
  | .ref id _ _ _, .ow _ _, _ => [(id, none)]
  | .rin id i j s _ _, .ow _ _, .ow _ rows => match st.objs id with
    | some (w, old) => [(id, some (w, Rows.setCell old i j (.sl s (unlift rows))))]
    | none => []
  | .rin id i j _ _ _, .ow _ _, _ => match st.objs id with
    | some (w, old) => [(id, some (w, Rows.setCell old i j .gone))]
    | none => []
  | _, _, _ => []
def updLeafV : SV → Leaf → Leaf → List (Nat × Option (List SV))
  | .vad id _, .op _, .op fs => [(id, some (fs.map Fld.sv))]
  | .vad id _, .op _, _ => [(id, none)]
  | _, _, _ => []
def zip3 {α β γ δ : Type} (f : α → β → γ → List δ) : List α → List β → List γ → List δ
  | a :: as, b :: bs, c :: cs => f a b c ++ zip3 f as bs cs
  | _, _, _ => []
def updPk {δ : Type} (f : SV → Leaf → Leaf → List δ) : Pk → LV → LV → List δ
  | .one s, .one l, .one u => f s l u
  | .agg xs, .agg ls, .agg us => zip3 f xs ls us
  | _, _, _ => []

/-- A result's leaf as a value of the caller's, and what it brings with it. -/
def resLeaf (id : Nat) : Leaf → SV
  | .sc v => .sc v
  | .im w rows => .im w rows
  | .ow w rows => .ref id w 0 rows.length
  | .gone => .un
  | .ip fs => .ipt fs 0
  | .op _ => .vad id 0
  | .fn f caps => .fni f caps
def resLeafO (id : Nat) : Leaf → List (Nat × Option Obj')
  | .ow w rows => [(id, some (w, rows))]
  | _ => []
def resLeafV (id : Nat) : Leaf → List (Nat × Option (List SV))
  | .op fs => [(id, some (fs.map Fld.sv))]
  | _ => []
def resLeaves (id : Nat) : List Leaf → List SV
  | [] => []
  | l :: ls => resLeaf id l :: resLeaves (id + 1) ls
def leavesEff {δ : Type} (f : Nat → Leaf → List δ) (id : Nat) : List Leaf → List δ
  | [] => []
  | l :: ls => f id l ++ leavesEff f (id + 1) ls
def resPk (id : Nat) : LV → Pk
  | .one l => .one (resLeaf id l)
  | .agg ls => .agg (resLeaves id ls)
def resPks (id : Nat) : List LV → List Pk
  | [] => []
  | l :: ls => resPk id l :: resPks (id + 16) ls
def resEff {δ : Type} (f : Nat → Leaf → List δ) (id : Nat) : List LV → List δ
  | [] => []
  | l :: ls => leavesEff f id l.leaves ++ resEff f (id + 16) ls
def resAV (id : Nat) (res : List LV) : AV :=
  match res with
  | [r] => .pk (resPk id r)
  | rs => .tup (resPks id rs)

/-- Does what comes back fit what was handed over. -/
def fitLeaf : SV → Leaf → Leaf → Prop
  | .rin _ _ _ _ _ _, .ow w _, .ow w' rows => w = w' ∧ lift (unlift rows) = rows
  | _, .ow w _, .ow w' _ => w = w'
  | _, .op _, .op _ => True
  | _, _, .gone => True
  | _, _, _ => False
def fitLeaves : List SV → List Leaf → List Leaf → Prop
  | [], [], [] => True
  | s :: ss, l :: ls, u :: us => fitLeaf s l u ∧ fitLeaves ss ls us
  | _, _, _ => False
def fitPk : Pk → LV → LV → Prop
  | .one s, .one l, .one u => fitLeaf s l u
  | .agg xs, .agg ls, .agg us => fitLeaves xs ls us
  | _, _, _ => False
def fits : List Pk → List LV → List LV → Prop
  | [], [], [] => True
  | p :: ps, l :: ls, u :: us => fitPk p l u ∧ fits ps ls us
  | _, _, _ => False
/-- What of one's own is lent to the call. -/
def varSVs (st : St) (id : Nat) : List Nat :=
  match st.vars id with
  | some xs => xs.flatMap SV.ids'
  | none => []
def lends (st : St) : SV → Leaf → List Nat
  | .ref id _ _ _, .im _ _ => [id]
  | .rin id _ _ _ _ _, .im _ _ => [id]
  | .vad id _, .ip _ => id :: varSVs st id
  | .fnv _ ids, .fn _ _ => ids ++ ids.flatMap (varSVs st)
  | _, _ => []
def lendsPk (st : St) : Pk → LV → List Nat
  | .one s, .one l => lends st s l
  | .agg xs, .agg ls => (List.zipWith (lends st) xs ls).flatten
  | _, _ => []
/-- Does a leaf lead to nothing that is only read. -/
def Cell.still : Cell → Bool
  | .sl 0 xs => xs.isEmpty
  | _ => true
def stillRows (rows : Rows) : Bool := rows.all fun r => r.all Cell.still
def Fld.still : Fld → Bool
  | .sc _ => true
  | .im _ rows => rows.isEmpty
def Leaf.still : Leaf → Bool
  | .sc _ => true
  | .im _ rows => rows.isEmpty
  | .ow _ rows => stillRows rows
  | .gone => true
  | .ip _ => false
  | .op fs => fs.all Fld.still
  | .fn _ caps => caps.isEmpty
def LV.still (l : LV) : Bool := l.leaves.all Leaf.still

/-- What is lent is not handed over; and where something is lent nothing that is only read comes back. -/
def callOk (handed lent : List Nat) (res upd : List LV) : Bool :=
  lent.all (fun i => !handed.contains i) && (lent.isEmpty || (res.all LV.still && upd.all LV.still))

def callK (P : Program) (st : St) (nid : Nat) (f : FuncId) (pks : List Pk) (K : Eff → Prop) : Prop :=
  ∃ args res upd : List LV, Sat P f args res upd ∧ All2 (passPk st) pks args ∧ callOk (List.zipWith handPk pks args).flatten (List.zipWith (lendsPk st) pks args).flatten res upd = true ∧ (List.zipWith handPk pks args).flatten.Nodup ∧ fits pks args upd ∧
    K ⟨resAV nid res, resEff resLeafO nid res ++ zip3 (updPk (updLeafO (nid + 63) st)) pks args upd, resEff resLeafV nid res ++ zip3 (updPk updLeafV) pks args upd⟩

def pksK (st : St) : List Operand → (List Pk → Prop) → Prop
  | [], K => K []
  | x :: r, K => match st.ev x with
    | .pk p => pksK st r fun ps => K (p :: ps)
    | .tup _ => False

def zeroCell (nid : Nat) (v : Value) : Cell := if isNil v then .sl nid [] else .sc v

def nth {α : Type} : List α → Nat → Option α
  | [], _ => none
  | a :: l, k => if k = 0 then some a else nth l (k - 1)
def Pk.okay (st : St) : Pk → Prop
  | .one s => s.solid st
  | .agg _ => True
/-- Where the parts of a struct or an array lie. -/
def placesOf (P : Program) (t : TypeId) : Option (List (Nat × Nat)) :=
  match P.underlying t with
  | some (.struct fields) => fields.toList.mapM fun f => (P.info? f.type).map fun i => (f.offset, i.size)
  | some (.array n e) => (P.info? e).map fun i => (List.range n).map fun k => (k * i.size, i.size)
  | _ => none
/-- The parts of a struct or an array that is built. -/
def fillK (st : St) (places : List (Nat × Nat)) : List SV → List (Nat × Operand) → (List SV → Prop) → Prop
  | cs, [], K => K cs
  | cs, (i, x) :: r, K => match nth places i, st.ev x with
    | some (off, n), .pk p => p.okay st ∧ p.svs.length = n ∧ off + n ≤ cs.length ∧ fillK st places (setRange cs off p.svs) r K
    | _, _ => False
/-- The elements of a slice that is built. -/
def fillRowsK (nid w : Nat) : St → Rows → List (Nat × Operand) → (Rows → List (Nat × Option Obj') → Prop) → Prop
  | _, rows, [], K => K rows []
  | st, rows, (i, x) :: r, K => match st.ev x with
    | .pk p => solids st p.svs ∧ p.svs.length = w ∧ i < rows.length ∧ cellsK nid st p.svs fun cs ws =>
        fillRowsK nid w { st with objs := upd st.objs ws } (rows.set i cs) r fun rows' ws' => K rows' (ws' ++ ws)
    | .tup _ => False

def varIds : List Operand → St → Option (List Nat)
  | [], _ => some []
  | x :: r, st => match st.ev x, varIds r st with
    | .pk (.one (.vad id 0)), some ids => some (id :: ids)
    | _, _ => none

/-- The address of an element. -/
def idxA (st : St) (e : Nat) (s : SV) (k : Nat) (K : Eff → Prop) : Prop :=
  match s with
  | .im w rows => w = e ∧ k < rows.length ∧ K ⟨.one (.iad (rows.getD k []) 0), [], []⟩
  | .ref id w off len => st.objs id ≠ none ∧ w = e ∧ k < len ∧ K ⟨.one (.oad id (off + k) 0), [], []⟩
  | .rin id i j s off len => (match st.objs id with
    | some (_, rows) => (match Rows.cell rows i j with | .sl s' _ => s' = s ∧ 1 = e ∧ k < len ∧ K ⟨.one (.oin id i j s (off + k)), [], []⟩ | _ => False)
    | none => False)
  | _ => False
/-- The address of a field. -/
def fldA (st : St) (off : Nat) (s : SV) (K : Eff → Prop) : Prop :=
  match s with
  | .vad id j => st.vars id ≠ none ∧ K ⟨.one (.vad id (j + off)), [], []⟩
  | .oad id i j => (match st.objs id with | some (_, rows) => i < rows.length ∧ K ⟨.one (.oad id i (j + off)), [], []⟩ | none => False)
  | .iad row j => K ⟨.one (.iad row (j + off)), [], []⟩
  | .ipt fs j => K ⟨.one (.ipt fs (j + off)), [], []⟩
  | _ => False
def nilK (st : St) (s : SV) (K : Eff → Prop) : Prop :=
  match s with
  | .vad id j => st.vars id ≠ none ∧ K ⟨.one (.vad id j), [], []⟩
  | .iad row j => K ⟨.one (.iad row j), [], []⟩
  | .ipt fs j => K ⟨.one (.ipt fs j), [], []⟩
  | _ => False

def appT (P : Program) (t : TypeId) : Bool :=
  match P.underlying t with
  | some (.int _) => false
  | some _ => true
  | none => false

def effK (P : Program) (st : St) (nid : Nat) (o : Oper) (K : Eff → Prop) : Prop :=
  match o.op with
  | .move x => K ⟨st.ev x, [], []⟩
  | .assign x => K ⟨st.ev x, [], []⟩
  | .pick c a b => match st.ev c with
    | .pk (.one (.sc (.bool t))) => K ⟨if t then st.ev a else st.ev b, [], []⟩
    | _ => False
  | .alloc e => match zeroOf P e with
    | some z => K ⟨.one (.vad nid 0), [], [(nid, some (z.map .sc))]⟩
    | none => False
  | .box _ x => match st.ev x with
    | .pk (.one s) => s.solid st ∧ K ⟨.one (.vad nid 0), [], [(nid, some [s])]⟩
    | .pk (.agg xs) => K ⟨.one (.vad nid 0), [], [(nid, some xs)]⟩
    | .tup _ => False
  | .load t a => match aggOf P t, st.ev a with
    | some n, .pk (.one s) => loadK st s n fun v => K ⟨v, [], []⟩
    | _, _ => False
  | .store t a x => match aggOf P t, st.ev a, st.ev x with
    | some n, .pk (.one s), .pk p => solids st p.svs ∧ storeK st nid s (n.getD 1) p.svs K
    | _, _, _ => False
  | .nilCheck x => match st.ev x with
    | .pk (.one s) => nilK st s K
    | _ => False
  | .binOp op xT x y _ => match st.ev x, st.ev y with
    | .pk (.one (.sc a)), .pk (.one (.sc b)) => binK P xT op a b fun v => K ⟨.sc v, [], []⟩
    | _, _ => False
  | .unOp op _ x => match st.ev x with
    | .pk (.one (.sc a)) => unK op a fun v => K ⟨.sc v, [], []⟩
    | _ => False
  | .convert s d x => match P.underlying s, P.underlying d, st.ev x with
    | some (.int _), some (.int k), .pk (.one (.sc (.int _ n))) => K ⟨.sc (.int k (k.wrap n)), [], []⟩
    | some .string, some .string, .pk (.one (.sc (.string b))) => K ⟨.sc (.string b), [], []⟩
    | some (.slice e), some .string, .pk (.one sv) => P.underlying e = some (.int .u8) ∧ match st.rows sv with
      | some (w, rows) => ∃ bs : List UInt8, w = 1 ∧ rows = lift (bs.map fun b => .int .u8 b.toNat) ∧ K ⟨.sc (.string ⟨bs.toArray⟩), [], []⟩
      | none => False
    | _, _, _ => False
  | .field t x f => match fieldOf P t f, st.ev x with
    | some (off, none), .pk (.agg xs) => off < xs.length ∧ K ⟨.one (xs.getD off .un), [], []⟩
    | some (off, some n), .pk (.agg xs) => off + n ≤ xs.length ∧ K ⟨.agg ((xs.drop off).take n), [], []⟩
    | _, _ => False
  | .fieldAddr t x f => match fieldOf P t f, st.ev x with
    | some (off, _), .pk (.one s) => fldA st off s K
    | _, _ => False
  | .indexAddr t x i => match elemOf' P t, st.ev x with
    | some (e, _, _), .pk (.one s) => asNat (st.ev i) fun k => idxA st e s k K
    | _, _ => False
  | .index t x i => match P.underlying t, st.ev x with
    | some .string, .pk (.one (.sc (.string s))) => asNat (st.ev i) fun k => k < s.size ∧ K ⟨.sc (.int .u8 (s.data.toList.getD k 0).toNat), [], []⟩
    | some (.array n e), .pk (.agg xs) => aggOf P e = some none ∧ xs.length = n ∧ asNat (st.ev i) fun k => k < n ∧ K ⟨.one (xs.getD k .un), [], []⟩
    | _, _ => False
  | .build t parts => match placesOf P t, zeroOf P t with
    | some places, some z => fillK st places (z.map .sc) parts.toList fun cs => K ⟨.agg cs, [], []⟩
    | _, _ => False
  | .buildSlice t len parts => match elemOf' P t with
    | some (w, _, z) => len * w ≤ 16777216 ∧ fillRowsK nid w st (List.replicate len (z.map (zeroCell nid))) parts.toList fun rows ws => K ⟨.one (.ref nid w 0 len), (nid, some (w, rows)) :: ws, []⟩
    | none => False
  | .makeSlice t l c => match elemOf' P t with
    | some (w, bytes, z) => asNat (st.ev l) fun n => asNat (st.ev c) fun m => n ≤ m ∧ m * bytes ≤ 140737488355328 ∧ K ⟨.one (.ref nid w 0 n), [(nid, some (w, List.replicate n (z.map (zeroCell nid))))], []⟩
    | none => False
  | .slice t x lo hi none => match P.underlying t, st.ev x with
    | some .string, .pk (.one (.sc (.string s))) => asNat? st lo 0 fun l => asNat? st hi s.size fun h => l ≤ h ∧ h ≤ s.size ∧ K ⟨.sc (.string (s.extract l h)), [], []⟩
    | some (.slice _), .pk (.one sv) => match elemOf' P t with
      | some (w, _, _) => cutK st w sv lo hi K
      | none => False
    | _, _ => False
  | .extract x k => match st.ev x with
    | .tup ps => match ps[k]? with
      | some p => K ⟨.pk p, [], []⟩
      | none => False
    | _ => False
  | .makeFunc (.func f) first captured => first = #[] ∧ match varIds captured.toList st with
    | some ids => K ⟨.one (.fnv f ids), [], []⟩
    | none => False
  | .call c => match c.callee, c.args.toList, c.argTypes.toList with
    | .builtin .len, [x], _ => match st.ev x with
      | .pk (.one (.sc (.string s))) => ((c.argTypes[0]?).bind P.underlying = some .string ∧ K ⟨.sc (.int .i64 s.size), [], []⟩)
      | .pk (.one (.sc v)) => isNil v = true ∧ ((c.argTypes[0]?).bind (elemOf' P)).isSome = true ∧ K ⟨.sc (.int .i64 0), [], []⟩
      | .pk (.one s) => ((c.argTypes[0]?).bind (elemOf' P)).isSome = true ∧ (match st.rows s with
        | some (_, rows) => K ⟨.sc (.int .i64 rows.length), [], []⟩
        | none => False)
      | _ => False
    | .builtin .append, [s, x], [t, t2] => match elemOf' P t with
      | some (w, bytes, _) => appT P t2 = true ∧ appK st nid w bytes (st.ev s) (st.ev x) K
      | none => False
    | .builtin .max, [x, y], _ => match st.ev x, st.ev y with
      | .pk (.one (.sc (.int k a))), .pk (.one (.sc (.int _ b))) => K ⟨.sc (.int k (if b > a then b else a)), [], []⟩
      | _, _ => False
    | .builtin .min, [x, y], _ => match st.ev x, st.ev y with
      | .pk (.one (.sc (.int k a))), .pk (.one (.sc (.int _ b))) => K ⟨.sc (.int k (if b < a then b else a)), [], []⟩
      | _, _ => False
    | .value f, xs, _ => match st.ev f with
      | .pk (.one (.fnv g ids)) => pksK st xs fun ps => callK P st nid g (ps ++ ids.map fun id => .one (.vad id 0)) K
      | .pk (.one (.fni g caps)) => pksK st xs fun ps => callK P st nid g (ps ++ caps.map fun fs => .one (.ipt fs 0)) K
      | _ => False
    | _, _, _ => False
  | _ => False

/-! #### regions -/
def boolOf : AV → Option Bool
  | .pk (.one (.sc (.bool b))) => some b
  | _ => none
def yieldOf (st : St) : Option (Option Tmp) → Option Bool
  | some (some t) => boolOf (st.slots t)
  | _ => none

/-- 'ds': the operations' own slots. -/
def runK (P : Program) (ds : List (Option Tmp)) (base : Nat) : Nat → List Oper → St → (St → Prop) → Prop
  | _, [], st, K => K st
  | i, o :: r, st, K => match o.guard with
    | none => effK P st (base + 64 * i) o fun e => runK P ds base (i + 1) r (st.app o.dst e) K
    | some (g, want) => match yieldOf st (nth ds g) with
      | some b => if b = want then effK P st (base + 64 * i) o fun e => runK P ds base (i + 1) r (st.app o.dst e) K
        else runK P ds base (i + 1) r (st.put o.dst .un) K
      | none => False

end Go.Proofs.Ytkcbnbbbijlhcai.A
