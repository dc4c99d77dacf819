/- THE ABSTRACT SEMANTICS, HOW IT RUNS (second part): one equation for each step, collected in the simp set 'go_sem'. Conditions: none. -/
import Derived.Test.YtedciihjgbkjgacGreatDoorA38
import Derived.Test.YtedciihjgbkjgacGreatDoorA4
namespace Go.Proofs.YtedciihjgbkjgacGreatDoor.A
open Go
set_option linter.unusedSimpArgs false
set_option linter.unusedVariables false

/-! #### drawn regions -/
section draw
variable {P : Program} {ds : List (Option Tmp)} {base i : Nat} {r : List Oper} {st : St} {tr : List Tr} {K : St → List Tr → Prop} {d : Option Tmp} {ty : TypeId} {pos : String} {after : Array Edge}
def apD (P : Program) (ds : List (Option Tmp)) (base i : Nat) (r : List Oper) (st : St) (d : Option Tmp) (foot : List Nat) (tr : List Tr) (K : St → List Tr → Prop) (e : Eff) : Prop := runD P ds base (i + 1) r (st.app d e) (⟨i, foot, wrOf e⟩ :: tr) K
theorem apD_eq {foot : List Nat} {e : Eff} : apD P ds base i r st d foot tr K e = runD P ds base (i + 1) r (st.app d e) (⟨i, foot, wrOf e⟩ :: tr) K := rfl
theorem runD_nil : runD P ds base i [] st tr K = K st tr := rfl
theorem runD_cons {op : Op} : runD P ds base i (⟨d, op, ty, pos, after, none⟩ :: r) st tr K = effK P st (base + 64 * i) ⟨d, op, ty, pos, after, none⟩ (apD P ds base i r st d (footOf st ⟨d, op, ty, pos, after, none⟩) tr K) := rfl
def guardD (P : Program) (ds : List (Option Tmp)) (base i : Nat) (o : Oper) (r : List Oper) (st : St) (tr : List Tr) (K : St → List Tr → Prop) (g : Nat) (x : Option Bool) (want : Bool) : Prop :=
  match x with
  | some b => if b = want then effK P st (base + 64 * i) o (apD P ds base i r st o.dst (footOf st o) tr K) else runD P ds base (i + 1) r (st.put o.dst (.tup [])) tr K
  | none => skipOf st (nth ds g) = true ∧ runD P ds base (i + 1) r (st.put o.dst (.tup [])) tr K
theorem runD_guard {op : Op} {g : Nat} {want : Bool} : runD P ds base i (⟨d, op, ty, pos, after, some (g, want)⟩ :: r) st tr K =
    guardD P ds base i ⟨d, op, ty, pos, after, some (g, want)⟩ r st tr K g (yieldOf st (nth ds g)) want := rfl
theorem guardD_tt {o : Oper} {g : Nat} : guardD P ds base i o r st tr K g (some true) true = effK P st (base + 64 * i) o (apD P ds base i r st o.dst (footOf st o) tr K) := rfl
theorem guardD_ff {o : Oper} {g : Nat} : guardD P ds base i o r st tr K g (some false) false = effK P st (base + 64 * i) o (apD P ds base i r st o.dst (footOf st o) tr K) := rfl
theorem guardD_tf {o : Oper} {g : Nat} : guardD P ds base i o r st tr K g (some true) false = runD P ds base (i + 1) r (st.put o.dst (.tup [])) tr K := rfl
theorem guardD_ft {o : Oper} {g : Nat} : guardD P ds base i o r st tr K g (some false) true = runD P ds base (i + 1) r (st.put o.dst (.tup [])) tr K := rfl
theorem guardD_n {o : Oper} {g : Nat} {want : Bool} : guardD P ds base i o r st tr K g none want = (skipOf st (nth ds g) = true ∧ runD P ds base (i + 1) r (st.put o.dst (.tup [])) tr K) := rfl
attribute [go_sem] guardD_n
theorem stepD_eq {ops : List Oper} {K : St → Prop} {n : Nat} : stepD ops K n st tr = (trOk ops tr = true ∧ K (st.step n)) := rfl
/-- Where nothing is written nothing is to be asked. -/
theorem trOk_still {ops : List Oper} (h : (tr.all fun x => x.wr.isEmpty) = true) : trOk ops tr = true := by
  simp only [trOk, List.all_eq_true] at h ⊢
  intro x hx y hy
  simp [h x hx]
end draw
def wrs : List Tr → List Nat
  | [] => []
  | x :: r => x.wr ++ wrs r
theorem wrs_nil : wrs [] = [] := rfl
theorem wrs_cons {i : Nat} {f w : List Nat} {r : List Tr} : wrs (⟨i, f, w⟩ :: r) = w ++ wrs r := rfl
theorem trOk_true {ops : List Oper} {tr : List Tr} (h : wrs tr = []) : (trOk ops tr = true) = True := by
  apply propext
  refine ⟨fun _ => trivial, fun _ => trOk_still ?_⟩
  induction tr with
  | nil => rfl
  | cons x r ih =>
    simp only [wrs, List.append_eq_nil_iff] at h
    simp [h.1, ih h.2]
attribute [go_sem] wrs_nil wrs_cons trOk_true
theorem i64_0 : (Value.int .i64 ((0 : Nat) : Int)) = .int .i64 0 := rfl
def footXs (st : St) : List Operand → List Nat
  | [] => []
  | x :: r => avFoot st (st.ev x) ++ footXs st r
theorem footXs_eq (st : St) : ∀ xs : List Operand, (xs.flatMap fun x => avFoot st (st.ev x)) = footXs st xs
  | [] => rfl
  | x :: r => by simp only [List.flatMap_cons, footXs, footXs_eq st r]
section foot
variable {st : St} {d : Option Tmp} {ty : TypeId} {pos : String} {after : Array Edge} {g : Option (Nat × Bool)}
theorem foot_eq {o : Oper} : footOf st o = footXs st (lookOps o.op) := footXs_eq st _
theorem opn_move {x : Operand} : lookOps (.move x) = [] := rfl
theorem opn_assign {x : Operand} : lookOps (.assign x) = [] := rfl
theorem opn_box {t : TypeId} {x : Operand} : lookOps (Op.box t x) = [x] := rfl
theorem opn_load {t : TypeId} {x : Operand} : lookOps (Op.load t x) = [x] := rfl
theorem opn_nilCheck {x : Operand} : lookOps (Op.nilCheck x) = [x] := rfl
theorem opn_unOp {a : UnOp} {t : TypeId} {x : Operand} : lookOps (Op.unOp a t x) = [x] := rfl
theorem opn_convert {s t : TypeId} {x : Operand} : lookOps (Op.convert s t x) = [x] := rfl
theorem opn_fieldAddr {t : TypeId} {x : Operand} {f : Nat} : lookOps (Op.fieldAddr t x f) = [x] := rfl
theorem opn_field {t : TypeId} {x : Operand} {f : Nat} : lookOps (Op.field t x f) = [x] := rfl
theorem opn_extract {x : Operand} {k : Nat} : lookOps (Op.extract x k) = [x] := rfl
theorem opn_alloc {t : TypeId} : lookOps (Op.alloc t) = [] := rfl
theorem opn_pick {x y z : Operand} : lookOps (Op.pick x y z) = [x, y, z] := rfl
theorem opn_store {t : TypeId} {x y : Operand} : lookOps (Op.store t x y) = [x, y] := rfl
theorem opn_binOp {a : BinOp} {t u : TypeId} {x y : Operand} : lookOps (Op.binOp a t x y u) = [x, y] := rfl
theorem opn_makeSlice {t : TypeId} {x y : Operand} : lookOps (Op.makeSlice t x y) = [x, y] := rfl
theorem opn_indexAddr {t : TypeId} {x y : Operand} : lookOps (Op.indexAddr t x y) = [x, y] := rfl
theorem opn_index {t : TypeId} {x y : Operand} : lookOps (Op.index t x y) = [x, y] := rfl
theorem opn_build {t : TypeId} {ps : List (Nat × Operand)} : lookOps (Op.build t ps.toArray) = ps.map (·.2) := by simp [lookOps, Op.operands]
theorem opn_buildSlice {t : TypeId} {n : Nat} {ps : List (Nat × Operand)} : lookOps (Op.buildSlice t n ps.toArray) = ps.map (·.2) := by simp [lookOps, Op.operands]
theorem opn_slice {t : TypeId} {x : Operand} {l h : Option Operand} : lookOps (Op.slice t x l h none) = x :: (l.toList ++ h.toList) := by cases l <;> cases h <;> rfl
theorem opn_value {f : Operand} {xs : List Operand} {ts : Array TypeId} : lookOps (Op.call ⟨.value f, xs.toArray, ts⟩) = f :: xs := by simp [lookOps, Op.operands, Call.operands]
theorem opn_builtin {b : Builtin} {xs : List Operand} {ts : Array TypeId} : lookOps (Op.call ⟨.builtin b, xs.toArray, ts⟩) = xs := by simp [lookOps, Op.operands, Call.operands]
theorem opn_func {f : Fn} {xs ys : List Operand} : lookOps (Op.makeFunc f xs.toArray ys.toArray) = xs ++ ys := by simp [lookOps, Op.operands]
theorem avFoot_one {s : SV} : avFoot st (.one s) = svFoot st s := by simp [avFoot, AV.svs, Pk.svs]
def svsFoot (st : St) : List SV → List Nat
  | [] => []
  | x :: r => svFoot st x ++ svsFoot st r
theorem avFoot_agg {xs : List SV} : avFoot st (.agg xs) = svsFoot st xs := by
  simp only [avFoot, AV.svs, Pk.svs]
  induction xs with
  | nil => rfl
  | cons x r ih => simp only [List.flatMap_cons, svsFoot, ih]
def pksFoot (st : St) : List Pk → List Nat
  | [] => []
  | p :: r => svsFoot st p.svs ++ pksFoot st r
theorem avFoot_tup {ps : List Pk} : avFoot st (.tup ps) = pksFoot st ps := by
  simp only [avFoot, AV.svs]
  induction ps with
  | nil => rfl
  | cons p r ih =>
    simp only [List.flatMap_cons, List.flatMap_append, pksFoot, ih]
    congr 1
    exact avFoot_agg
def varFoot : Option (List SV) → List Nat
  | some xs => xs.flatMap SV.ids'
  | none => []
theorem varFoot_some {xs : List SV} : varFoot (some xs) = xs.flatMap SV.ids' := rfl
theorem svFoot_sc {v : Value} : svFoot st (.sc v) = [] := rfl
theorem svFoot_un : svFoot st .un = [] := rfl
theorem svFoot_im {w : Nat} {rows : Rows} : svFoot st (.im w rows) = [] := rfl
theorem svFoot_ref {id w off len : Nat} : svFoot st (.ref id w off len) = [id] := rfl
theorem svFoot_rin {id i j s off len : Nat} : svFoot st (.rin id i j s off len) = [id, s] := rfl
theorem svFoot_vad {id j : Nat} : svFoot st (.vad id j) = id :: varFoot (st.vars id) := by simp [svFoot, SV.ids, SV.vids, varSVs]; cases st.vars id <;> rfl
theorem svFoot_oad {id i j : Nat} : svFoot st (.oad id i j) = [id] := rfl
theorem svFoot_oin {id i j s k : Nat} : svFoot st (.oin id i j s k) = [id, s] := rfl
theorem svFoot_iad {row : List Cell} {j : Nat} : svFoot st (.iad row j) = [] := rfl
theorem svFoot_ipt {fs : List Fld} {j : Nat} : svFoot st (.ipt fs j) = [] := rfl
theorem svFoot_fnv {f : FuncId} : svFoot st (.fnv f []) = [] := rfl
theorem svFoot_fni {f : FuncId} {c : List (List Fld)} : svFoot st (.fni f c) = [] := rfl
end foot
attribute [go_sem ↓] apD_eq runD_nil runD_cons runD_guard stepD_eq
attribute [go_sem] guardD_tt guardD_ff guardD_tf guardD_ft foot_eq footXs opn_move opn_assign opn_box opn_load opn_nilCheck opn_unOp opn_convert opn_fieldAddr opn_field opn_extract opn_alloc opn_pick opn_store opn_binOp opn_makeSlice opn_indexAddr opn_index opn_build opn_buildSlice opn_slice opn_value opn_builtin opn_func
attribute [go_sem] avFoot_one avFoot_agg svsFoot avFoot_tup pksFoot varFoot_some svFoot_sc svFoot_un svFoot_im svFoot_ref svFoot_rin svFoot_vad svFoot_oad svFoot_oin svFoot_iad svFoot_ipt svFoot_fnv svFoot_fni SV.ids' Pk.svs wrOf List.flatMap_cons List.flatMap_nil Option.toList_some Option.toList_none List.cons_append List.append_assoc

/-! #### further operations -/
section eff
variable {P : Program} {st : St} {nid : Nat} {K : Eff → Prop} {d : Option Tmp} {ty : TypeId} {pos : String} {after : Array Edge} {g : Option (Nat × Bool)}
def okRin (o : Option Obj') (i j s : Nat) : Prop := match o with
  | some (_, rows) => (match Rows.cell rows i j with | .sl s' _ => s' = s | _ => False)
  | none => False
theorem solid_ref {id w off len : Nat} : SV.solid st (.ref id w off len) = some' (st.objs id) := by
  simp only [SV.solid, St.rows]
  rcases st.objs id with _ | ⟨w', rows⟩ <;> simp [some']
theorem solid_vad {id j : Nat} : SV.solid st (.vad id j) = some' (st.vars id) := by
  simp only [SV.solid]
  cases st.vars id <;> simp [some']
theorem solid_iad {row : List Cell} {j : Nat} : SV.solid st (.iad row j) = True := rfl
theorem solid_ipt {row : List Fld} {j : Nat} : SV.solid st (.ipt row j) = True := rfl
theorem solid_fnv {f : FuncId} {ids : List Nat} : SV.solid st (.fnv f ids) = True := rfl
theorem solid_fni {f : FuncId} {c : List (List Fld)} : SV.solid st (.fni f c) = True := rfl
def solidRin (o : Option Obj') (i j s : Nat) : Prop := match o with
  | some (_, rows) => (match (rows.getD i []).getD j .gone with | .sl s' _ => s' = s | _ => False)
  | none => False
theorem solid_rin {id i j s off len : Nat} : SV.solid st (.rin id i j s off len) = solidRin (st.objs id) i j s := by
  simp only [SV.solid, St.rows, solidRin, Rows.cell]
  rcases st.objs id with _ | ⟨w', rows⟩
  · simp
  · simp only
    rcases (List.getD rows i []).getD j .gone with _ | ⟨s', xs⟩ | _
    · simp
    · by_cases e : s' = s <;> simp [e]
    · simp
theorem solidRin_sl {w : Nat} {rows : Rows} {i j s s' : Nat} {xs : List Value} (h : (rows.getD i []).getD j .gone = .sl s' xs) : solidRin (some (w, rows)) i j s = (s' = s) := by
  simp only [solidRin]; rw [h]
theorem okay_one {s : SV} : Pk.okay st (.one s) = s.solid st := rfl
theorem okay_agg {xs : List SV} : Pk.okay st (.agg xs) = True := rfl
-- build
def fillA (st : St) (places : List (Nat × Nat)) (cs : List SV) (pl : Option (Nat × Nat)) (a : AV) (r : List (Nat × Operand)) (K : List SV → Prop) : Prop := match pl, a with
  | some (off, n), .pk p => p.okay st ∧ p.svs.length = n ∧ off + n ≤ cs.length ∧ fillK st places (setRange cs off p.svs) r K
  | _, _ => False
theorem fillS_nil {places : List (Nat × Nat)} {cs : List SV} {K : List SV → Prop} : fillK st places cs [] K = K cs := rfl
theorem fillS_cons {places : List (Nat × Nat)} {cs : List SV} {i : Nat} {x : Operand} {r : List (Nat × Operand)} {K : List SV → Prop} : fillK st places cs ((i, x) :: r) K = fillA st places cs (nth places i) (st.ev x) r K := rfl
theorem fillA_pk {places : List (Nat × Nat)} {cs : List SV} {off n : Nat} {p : Pk} {r : List (Nat × Operand)} {K : List SV → Prop} : fillA st places cs (some (off, n)) (.pk p) r K = (p.okay st ∧ p.svs.length = n ∧ off + n ≤ cs.length ∧ fillK st places (setRange cs off p.svs) r K) := rfl
def aggC (K : Eff → Prop) (cs : List SV) : Prop := K ⟨.agg cs, [], []⟩
theorem aggC_eq {cs : List SV} : aggC K cs = K ⟨.agg cs, [], []⟩ := rfl
def buildK (st : St) (pl : Option (List (Nat × Nat))) (z : Option (List Value)) (parts : List (Nat × Operand)) (K : Eff → Prop) : Prop := match pl, z with
  | some places, some z => fillK st places (z.map .sc) parts (aggC K)
  | _, _ => False
theorem eff_build {t : TypeId} {parts : List (Nat × Operand)} : effK P st nid ⟨d, .build t parts.toArray, ty, pos, after, g⟩ K = buildK st (placesOf P t) (zeroOf P t) parts K := by
  simp only [effK, buildK, aggC]
  rcases placesOf P t with _ | pl
  · rfl
  · rcases zeroOf P t with _ | z <;> rfl
theorem buildK_eq {places : List (Nat × Nat)} {z : List Value} {parts : List (Nat × Operand)} : buildK st (some places) (some z) parts K = fillK st places (z.map .sc) parts (aggC K) := rfl
-- cells of one's own slices
def cellR (s id w off len : Nat) (o : Option Obj') (K : Cell → List (Nat × Option Obj') → Prop) : Prop := match o with
    | some (_, rows) => ∃ xs, w = 1 ∧ off = 0 ∧ len = rows.length ∧ rows = lift xs ∧ K (.sl s xs) [(id, none)]
    | none => False
theorem unlift_lift (xs : List Value) : unlift (lift xs) = xs := by
  simp only [unlift, lift, List.map_map]
  show List.map (fun v => v) xs = xs
  simp
theorem cell_ref {s id w off len : Nat} {K : Cell → List (Nat × Option Obj') → Prop} : cellK st s (.ref id w off len) K = cellR s id w off len (st.objs id) K := rfl
theorem cellR_lift {s id len w' : Nat} {xs : List Value} {K : Cell → List (Nat × Option Obj') → Prop} : cellR s id 1 0 len (some (w', lift xs)) K = (len = xs.length ∧ K (.sl s xs) [(id, none)]) := by
  simp only [cellR]
  apply propext
  constructor
  · rintro ⟨ys, _, _, h1, h2, h3⟩
    have : ys = xs := by
      have := congrArg unlift h2
      rw [unlift_lift, unlift_lift] at this
      exact this.symm
    subst this
    exact ⟨by rw [h1, lift_length], h3⟩
  · rintro ⟨h1, h2⟩
    exact ⟨xs, trivial, trivial, by rw [h1, lift_length], rfl, h2⟩
theorem cell_sc {s : Nat} {v : Value} {K : Cell → List (Nat × Option Obj') → Prop} : cellK st s (.sc v) K = if isNil v then K (.sl s []) [] else K (.sc v) [] := rfl
theorem isNil_int {k : IntKind} {n : Int} : isNil (.int k n) = false := rfl
theorem isNil_bool {b : Bool} : isNil (.bool b) = false := rfl
theorem isNil_str {b : ByteArray} : isNil (.string b) = false := rfl
theorem isNil_nil : isNil (.slice none 0 0) = true := rfl
theorem cell_im {s w : Nat} {xs : List Value} {K : Cell → List (Nat × Option Obj') → Prop} : cellK st s (.im w (lift xs)) K = (w = 1 ∧ K (.sl 0 xs) []) := by
  simp only [cellK]
  apply propext
  constructor
  · rintro ⟨ys, h1, h2, h3⟩
    have : ys = xs := by
      have := congrArg unlift h2
      rw [unlift_lift, unlift_lift] at this
      exact this.symm
    subst this
    exact ⟨h1, h3⟩
  · rintro ⟨h1, h2⟩
    exact ⟨xs, h1, rfl, h2⟩
def cellsC (s : Nat) (st : St) (r : List SV) (K : List Cell → List (Nat × Option Obj') → Prop) (c : Cell) (ws : List (Nat × Option Obj')) : Prop :=
  cellsK s { st with objs := upd st.objs ws } r fun cs ws' => K (c :: cs) (ws' ++ ws)
theorem cells_nil {s : Nat} {K : List Cell → List (Nat × Option Obj') → Prop} : cellsK s st [] K = K [] [] := rfl
theorem cells_cons {s : Nat} {x : SV} {r : List SV} {K : List Cell → List (Nat × Option Obj') → Prop} : cellsK s st (x :: r) K = cellK st s x (cellsC s st r K) := rfl
def cellsT (c : Cell) (ws : List (Nat × Option Obj')) (K : List Cell → List (Nat × Option Obj') → Prop) (cs : List Cell) (ws' : List (Nat × Option Obj')) : Prop := K (c :: cs) (ws' ++ ws)
theorem cellsT_eq {c : Cell} {ws ws' : List (Nat × Option Obj')} {K : List Cell → List (Nat × Option Obj') → Prop} {cs : List Cell} : cellsT c ws K cs ws' = K (c :: cs) (ws' ++ ws) := rfl
def St.wr (st : St) (ws : List (Nat × Option Obj')) : St := { st with objs := upd st.objs ws }
theorem cellsC_nil {s : Nat} {r : List SV} {K : List Cell → List (Nat × Option Obj') → Prop} {c : Cell} : cellsC s st r K c [] = cellsK s st r (cellsT c [] K) := rfl
theorem cellsC_eq {s : Nat} {r : List SV} {K : List Cell → List (Nat × Option Obj') → Prop} {c : Cell} {w : Nat × Option Obj'} {ws : List (Nat × Option Obj')} : cellsC s st r K c (w :: ws) = cellsK s (st.wr (w :: ws)) r (cellsT c (w :: ws) K) := rfl
theorem wr_slots {ws : List (Nat × Option Obj')} : (st.wr ws).slots = st.slots := rfl
theorem wr_vars {ws : List (Nat × Option Obj')} : (st.wr ws).vars = st.vars := rfl
theorem wr_objs {ws : List (Nat × Option Obj')} : (st.wr ws).objs = upd st.objs ws := rfl
theorem wr_ev {ws : List (Nat × Option Obj')} {x : Operand} : (st.wr ws).ev x = st.ev x := rfl
-- buildSlice
def fillRA (nid w : Nat) (st : St) (rows : Rows) (i : Nat) (a : AV) (r : List (Nat × Operand)) (K : Rows → List (Nat × Option Obj') → Prop) : Prop := match a with
    | .pk p => solids st p.svs ∧ p.svs.length = w ∧ i < rows.length ∧ cellsK nid st p.svs fun cs ws =>
        fillRowsK nid w { st with objs := upd st.objs ws } (rows.set i cs) r fun rows' ws' => K rows' (ws' ++ ws)
    | .tup _ => False
def rowC (nid w : Nat) (st : St) (rows : Rows) (i : Nat) (r : List (Nat × Operand)) (K : Rows → List (Nat × Option Obj') → Prop) (cs : List Cell) (ws : List (Nat × Option Obj')) : Prop :=
  fillRowsK nid w { st with objs := upd st.objs ws } (rows.set i cs) r fun rows' ws' => K rows' (ws' ++ ws)
def rowT (ws : List (Nat × Option Obj')) (K : Rows → List (Nat × Option Obj') → Prop) (rows : Rows) (ws' : List (Nat × Option Obj')) : Prop := K rows (ws' ++ ws)
theorem rowT_eq {ws ws' : List (Nat × Option Obj')} {K : Rows → List (Nat × Option Obj') → Prop} {rows : Rows} : rowT ws K rows ws' = K rows (ws' ++ ws) := rfl
theorem rowC_nil {w i : Nat} {rows : Rows} {r : List (Nat × Operand)} {K : Rows → List (Nat × Option Obj') → Prop} {cs : List Cell} : rowC nid w st rows i r K cs [] = fillRowsK nid w st (rows.set i cs) r (rowT [] K) := rfl
theorem rowC_eq {w i : Nat} {rows : Rows} {r : List (Nat × Operand)} {K : Rows → List (Nat × Option Obj') → Prop} {cs : List Cell} {x : Nat × Option Obj'} {ws : List (Nat × Option Obj')} : rowC nid w st rows i r K cs (x :: ws) = fillRowsK nid w (st.wr (x :: ws)) (rows.set i cs) r (rowT (x :: ws) K) := rfl
theorem fillR_nil {w : Nat} {rows : Rows} {K : Rows → List (Nat × Option Obj') → Prop} : fillRowsK nid w st rows [] K = K rows [] := rfl
theorem fillR_cons {w i : Nat} {x : Operand} {r : List (Nat × Operand)} {rows : Rows} {K : Rows → List (Nat × Option Obj') → Prop} : fillRowsK nid w st rows ((i, x) :: r) K = fillRA nid w st rows i (st.ev x) r K := rfl
theorem fillRA_pk {w i : Nat} {p : Pk} {r : List (Nat × Operand)} {rows : Rows} {K : Rows → List (Nat × Option Obj') → Prop} : fillRA nid w st rows i (.pk p) r K = (solids st p.svs ∧ p.svs.length = w ∧ i < rows.length ∧ cellsK nid st p.svs (rowC nid w st rows i r K)) := rfl
def newC (nid w len : Nat) (K : Eff → Prop) (rows : Rows) (ws : List (Nat × Option Obj')) : Prop := K ⟨.one (.ref nid w 0 len), (nid, some (w, rows)) :: ws, []⟩
theorem newC_eq {w len : Nat} {rows : Rows} {ws : List (Nat × Option Obj')} : newC nid w len K rows ws = K ⟨.one (.ref nid w 0 len), (nid, some (w, rows)) :: ws, []⟩ := rfl
def bsK (st : St) (nid : Nat) (e : Option (Nat × Nat × List Value)) (len : Nat) (parts : List (Nat × Operand)) (K : Eff → Prop) : Prop := match e with
    | some (w, _, z) => len * w ≤ 16777216 ∧ fillRowsK nid w st (List.replicate len (z.map (zeroCell nid))) parts (newC nid w len K)
    | none => False
theorem eff_buildSlice {t : TypeId} {len : Nat} {parts : List (Nat × Operand)} : effK P st nid ⟨d, .buildSlice t len parts.toArray, ty, pos, after, g⟩ K = bsK st nid (elemOf' P t) len parts K := rfl
theorem bsK_eq {w b len : Nat} {z : List Value} {parts : List (Nat × Operand)} : bsK st nid (some (w, b, z)) len parts K = (len * w ≤ 16777216 ∧ fillRowsK nid w st (List.replicate len (z.map (zeroCell nid))) parts (newC nid w len K)) := rfl
-- makeSlice
def mkC (nid w : Nat) (bytes : Nat) (z : List Value) (a b : AV) (K : Eff → Prop) : Prop := asNat a fun n => asNat b fun m => n ≤ m ∧ m * bytes ≤ 140737488355328 ∧ K ⟨.one (.ref nid w 0 n), [(nid, some (w, List.replicate n (z.map (zeroCell nid))))], []⟩
def msK (nid : Nat) (e : Option (Nat × Nat × List Value)) (a b : AV) (K : Eff → Prop) : Prop := match e with
    | some (w, bytes, z) => mkC nid w bytes z a b K
    | none => False
theorem eff_makeSlice {t : TypeId} {l c : Operand} : effK P st nid ⟨d, .makeSlice t l c, ty, pos, after, g⟩ K = msK nid (elemOf' P t) (st.ev l) (st.ev c) K := rfl
theorem msK_n {w bytes : Nat} {z : List Value} {k k' : IntKind} {n : Nat} : msK nid (some (w, bytes, z)) (.sc (.int k (n : Int))) (.sc (.int k' (n : Int))) K = (n * bytes ≤ 140737488355328 ∧ K ⟨.one (.ref nid w 0 n), [(nid, some (w, List.replicate n (z.map (zeroCell nid))))], []⟩) := by
  simp [msK, mkC, asNat]
theorem msK_l {w bytes : Nat} {z : List Value} {k k' : IntKind} {n : Nat} : msK nid (some (w, bytes, z)) (.sc (.int k (OfNat.ofNat n))) (.sc (.int k' (OfNat.ofNat n))) K = (n * bytes ≤ 140737488355328 ∧ K ⟨.one (.ref nid w 0 n), [(nid, some (w, List.replicate n (z.map (zeroCell nid))))], []⟩) := by
  rw [show (OfNat.ofNat n : Int) = (n : Int) from rfl, msK_n]
-- append
def apSrc (st : St) (nid w bytes : Nat) (s : AV) (K : Eff → Prop) (more : Rows) (ws : List (Nat × Option Obj')) : Prop :=
    match s with
    | .pk (.one (.sc (v : Value))) => isNil v = true ∧ (more.length + 1) * bytes ≤ 70368744177664 ∧ K ⟨.one (.ref nid w 0 more.length), (nid, some (w, more)) :: ws, []⟩
    | .pk (.one (.ref id w' off len)) => match upd st.objs ws id with
      | some (_, rows) => w' = w ∧ off = 0 ∧ len = rows.length ∧ (rows.length + more.length + 1) * bytes ≤ 70368744177664 ∧
          K ⟨.one (.ref nid w 0 (rows.length + more.length)), (nid, some (w, rows ++ more)) :: (id, none) :: ws, []⟩
      | none => False
    | .pk (.one (.rin id i j s off len)) => match upd st.objs ws id with
      | some (wo, rows) => match Rows.cell rows i j with
        | .sl s' xs => s' = s ∧ w = 1 ∧ off = 0 ∧ len = xs.length ∧ (xs.length + more.length + 1) * bytes ≤ 70368744177664 ∧
            K ⟨.one (.ref nid w 0 (xs.length + more.length)), (nid, some (w, lift xs ++ more)) :: (id, some (wo, Rows.setCell rows i j .gone)) :: ws, []⟩
        | _ => False
      | none => False
    | _ => False
def apK (P : Program) (st : St) (nid : Nat) (e : Option (Nat × Nat × List Value)) (t2 : TypeId) (s x : AV) (K : Eff → Prop) : Prop := match e with
    | some (w, bytes, _) => appT P t2 = true ∧ srcK st w x (apSrc st nid w bytes s K)
    | none => False
theorem eff_append {s x : Operand} {t t2 : TypeId} : effK P st nid ⟨d, .call ⟨.builtin .append, #[s, x], #[t, t2]⟩, ty, pos, after, g⟩ K = apK P st nid (elemOf' P t) t2 (st.ev s) (st.ev x) K := rfl
theorem apK_eq {w b : Nat} {z : List Value} {t2 : TypeId} {s x : AV} : apK P st nid (some (w, b, z)) t2 s x K = (appT P t2 = true ∧ srcK st w x (apSrc st nid w b s K)) := rfl
def apO (nid w bytes id w' off len : Nat) (o : Option Obj') (K : Eff → Prop) (more : Rows) (ws : List (Nat × Option Obj')) : Prop := match o with
      | some (_, rows) => w' = w ∧ off = 0 ∧ len = rows.length ∧ (rows.length + more.length + 1) * bytes ≤ 70368744177664 ∧
          K ⟨.one (.ref nid w 0 (rows.length + more.length)), (nid, some (w, rows ++ more)) :: (id, none) :: ws, []⟩
      | none => False
theorem apSrc_nil {w bytes : Nat} {v : Value} {more : Rows} {ws : List (Nat × Option Obj')} : apSrc st nid w bytes (.sc v) K more ws = (isNil v = true ∧ (more.length + 1) * bytes ≤ 70368744177664 ∧ K ⟨.one (.ref nid w 0 more.length), (nid, some (w, more)) :: ws, []⟩) := rfl
theorem apSrc_ref {w bytes id w' off len : Nat} {more : Rows} {ws : List (Nat × Option Obj')} : apSrc st nid w bytes (.one (.ref id w' off len)) K more ws = apO nid w bytes id w' off len (upd st.objs ws id) K more ws := rfl
theorem apO_eq {w bytes id w' w2 off len : Nat} {rows more : Rows} {ws : List (Nat × Option Obj')} : apO nid w bytes id w' off len (some (w2, rows)) K more ws = (w' = w ∧ off = 0 ∧ len = rows.length ∧ (rows.length + more.length + 1) * bytes ≤ 70368744177664 ∧
          K ⟨.one (.ref nid w 0 (rows.length + more.length)), (nid, some (w, rows ++ more)) :: (id, none) :: ws, []⟩) := rfl
def apI (nid w bytes id i j s off len : Nat) (o : Option Obj') (K : Eff → Prop) (more : Rows) (ws : List (Nat × Option Obj')) : Prop := match o with
      | some (wo, rows) => match Rows.cell rows i j with
        | .sl s' xs => s' = s ∧ w = 1 ∧ off = 0 ∧ len = xs.length ∧ (xs.length + more.length + 1) * bytes ≤ 70368744177664 ∧
            K ⟨.one (.ref nid w 0 (xs.length + more.length)), (nid, some (w, lift xs ++ more)) :: (id, some (wo, Rows.setCell rows i j .gone)) :: ws, []⟩
        | _ => False
      | none => False
theorem apSrc_rin {w bytes id i j s off len : Nat} {more : Rows} {ws : List (Nat × Option Obj')} : apSrc st nid w bytes (.one (.rin id i j s off len)) K more ws = apI nid w bytes id i j s off len (upd st.objs ws id) K more ws := rfl
theorem src_str {w : Nat} {s : ByteArray} {K : Rows → List (Nat × Option Obj') → Prop} : srcK st w (.sc (.string s)) K = (w = 1 ∧ K (lift (s.data.toList.map fun b => .int .u8 b.toNat)) []) := rfl
theorem src_nil {w : Nat} {K : Rows → List (Nat × Option Obj') → Prop} : srcK st w (.sc (.slice none 0 0)) K = K [] [] := by simp [srcK, isNil]
theorem src_im {w w' : Nat} {rows : Rows} {K : Rows → List (Nat × Option Obj') → Prop} : srcK st w (.one (.im w' rows)) K = (w' = w ∧ flatB rows = true ∧ K rows []) := rfl
def srcO (w id w' off len : Nat) (o : Option Obj') (K : Rows → List (Nat × Option Obj') → Prop) : Prop := match o with
    | some (_, rows) => w' = w ∧ if flatB ((rows.drop off).take len) then K ((rows.drop off).take len) [] else if off = 0 ∧ len = rows.length then K rows [(id, some (w', goneR rows off len))] else K ((rows.drop off).take len) [(id, some (w', goneR rows off len))]
    | none => False
theorem src_ref {w id w' off len : Nat} {K : Rows → List (Nat × Option Obj') → Prop} : srcK st w (.one (.ref id w' off len)) K = srcO w id w' off len (st.objs id) K := rfl
theorem srcO_eq {w id w' w2 off len : Nat} {rows : Rows} {K : Rows → List (Nat × Option Obj') → Prop} : srcO w id w' off len (some (w2, rows)) K = (w' = w ∧ if flatB ((rows.drop off).take len) then K ((rows.drop off).take len) [] else if off = 0 ∧ len = rows.length then K rows [(id, some (w', goneR rows off len))] else K ((rows.drop off).take len) [(id, some (w', goneR rows off len))]) := rfl
def srcI (w s off len : Nat) (c : Cell) (K : Rows → List (Nat × Option Obj') → Prop) : Prop := match c with
  | .sl s' xs => s' = s ∧ 1 = w ∧ K (lift ((xs.drop off).take len)) []
  | _ => False
def srcR (w i j s off len : Nat) (o : Option Obj') (K : Rows → List (Nat × Option Obj') → Prop) : Prop := match o with
  | some (_, rows) => srcI w s off len ((rows.getD i []).getD j .gone) K
  | none => False
theorem src_rin {w id i j s off len : Nat} {K : Rows → List (Nat × Option Obj') → Prop} : srcK st w (.one (.rin id i j s off len)) K = srcR w i j s off len (st.objs id) K := by
  simp only [srcK, St.rows, srcR, Rows.cell]
  rcases st.objs id with _ | ⟨w', rows⟩
  · rfl
  · simp only
    rcases (List.getD rows i []).getD j .gone with _ | ⟨s', xs⟩ | _
    · rfl
    · by_cases e : s' = s <;> simp [e, srcI]
    · rfl
theorem srcR_eq {w w' i j s off len : Nat} {rows : Rows} {K : Rows → List (Nat × Option Obj') → Prop} : srcR w i j s off len (some (w', rows)) K = srcI w s off len ((rows.getD i []).getD j .gone) K := rfl
theorem srcI_eq {w s s' off len : Nat} {xs : List Value} {K : Rows → List (Nat × Option Obj') → Prop} : srcI w s off len (.sl s' xs) K = (s' = s ∧ 1 = w ∧ K (lift ((xs.drop off).take len)) []) := rfl
-- convert
def cvK (P : Program) (st : St) (u v : Option TypeDesc) (x : AV) (K : Eff → Prop) : Prop := match u, v, x with
    | some (.int _), some (.int k), .pk (.one (.sc (.int _ n))) => K ⟨.sc (.int k (k.wrap n)), [], []⟩
    | some .string, some .string, .pk (.one (.sc (.string b))) => K ⟨.sc (.string b), [], []⟩
    | some (.slice e), some .string, .pk (.one sv) => P.underlying e = some (.int .u8) ∧ match st.rows sv with
      | some (w, rows) => ∃ bs : List UInt8, w = 1 ∧ rows = lift (bs.map fun b => .int .u8 b.toNat) ∧ K ⟨.sc (.string ⟨bs.toArray⟩), [], []⟩
      | none => False
    | _, _, _ => False
theorem eff_convert {s t : TypeId} {x : Operand} : effK P st nid ⟨d, .convert s t x, ty, pos, after, g⟩ K = cvK P st (P.underlying s) (P.underlying t) (st.ev x) K := rfl
theorem cv_int {k k' k2 : IntKind} {n : Int} : cvK P st (some (.int k)) (some (.int k')) (.sc (.int k2 n)) K = K ⟨.sc (.int k' (k'.wrap n)), [], []⟩ := rfl
def cvB (o : Option Obj') (off len : Nat) (K : Eff → Prop) : Prop := match o with
  | some (w, rows) => ∃ bs : List UInt8, (rows.drop off).take len = lift (bs.map fun b => .int .u8 b.toNat) ∧ K ⟨.sc (.string ⟨bs.toArray⟩), [], []⟩
  | none => False
theorem cv_ref {e : TypeId} {id off len : Nat} : cvK P st (some (.slice e)) (some .string) (.one (.ref id 1 off len)) K = (P.underlying e = some (.int .u8) ∧ cvB (st.objs id) off len K) := by
  simp only [cvK, St.rows, cvB]
  rcases st.objs id with _ | ⟨w', rows⟩ <;> simp
theorem cvB_eq {w off len : Nat} {rows : Rows} : cvB (some (w, rows)) off len K = ∃ bs : List UInt8, (rows.drop off).take len = lift (bs.map fun b => .int .u8 b.toNat) ∧ K ⟨.sc (.string ⟨bs.toArray⟩), [], []⟩ := rfl
-- field
def fdK (fo : Option (Nat × Option Nat)) (x : AV) (K : Eff → Prop) : Prop := match fo, x with
    | some (off, none), .pk (.agg xs) => off < xs.length ∧ K ⟨.one (xs.getD off .un), [], []⟩
    | some (off, some n), .pk (.agg xs) => off + n ≤ xs.length ∧ K ⟨.agg ((xs.drop off).take n), [], []⟩
    | _, _ => False
theorem eff_field {t : TypeId} {x : Operand} {f : Nat} : effK P st nid ⟨d, .field t x f, ty, pos, after, g⟩ K = fdK (fieldOf P t f) (st.ev x) K := rfl
theorem fd_1 {off : Nat} {xs : List SV} : fdK (some (off, none)) (.agg xs) K = (off < xs.length ∧ K ⟨.one (xs.getD off .un), [], []⟩) := rfl
theorem fd_n {off n : Nat} {xs : List SV} : fdK (some (off, some n)) (.agg xs) K = (off + n ≤ xs.length ∧ K ⟨.agg ((xs.drop off).take n), [], []⟩) := rfl
-- nilCheck
def ncK (st : St) (x : AV) (K : Eff → Prop) : Prop := match x with
  | .pk (.one s) => nilK st s K
  | _ => False
theorem eff_nilCheck {x : Operand} : effK P st nid ⟨d, .nilCheck x, ty, pos, after, g⟩ K = ncK st (st.ev x) K := rfl
theorem nc_vad {id j : Nat} : ncK st (.one (.vad id j)) K = (some' (st.vars id) ∧ K ⟨.one (.vad id j), [], []⟩) := by
  simp only [ncK, nilK]; cases st.vars id <;> simp [some']
theorem nc_iad {row : List Cell} {j : Nat} : ncK st (.one (.iad row j)) K = K ⟨.one (.iad row j), [], []⟩ := rfl
theorem nc_ipt {row : List Fld} {j : Nat} : ncK st (.one (.ipt row j)) K = K ⟨.one (.ipt row j), [], []⟩ := rfl
-- cuts
def slK (st : St) (u : Option TypeDesc) (e : Option (Nat × Nat × List Value)) (x : AV) (lo hi : Option Operand) (K : Eff → Prop) : Prop := match u, x with
    | some .string, .pk (.one (.sc (.string s))) => asNat? st lo 0 fun l => asNat? st hi s.size fun h => l ≤ h ∧ h ≤ s.size ∧ K ⟨.sc (.string (s.extract l h)), [], []⟩
    | some (.slice _), .pk (.one sv) => match e with
      | some (w, _, _) => cutK st w sv lo hi K
      | none => False
    | _, _ => False
theorem eff_slice {t : TypeId} {x : Operand} {lo hi : Option Operand} : effK P st nid ⟨d, .slice t x lo hi none, ty, pos, after, g⟩ K = slK st (P.underlying t) (elemOf' P t) (st.ev x) lo hi K := rfl
def asN (a : AV) : Option Nat := match a with
  | .pk (.one (.sc (.int _ n))) => if 0 ≤ n then some n.toNat else none
  | _ => none
theorem asN_n {k : IntKind} {n : Nat} : asN (.sc (.int k (n : Int))) = some n := by simp [asN]
theorem asN_l {k : IntKind} {n : Nat} : asN (.sc (.int k (OfNat.ofNat n))) = some n := by rw [show (OfNat.ofNat n : Int) = (n : Int) from rfl, asN_n]
theorem asNat_asN {a : AV} {K : Nat → Prop} : asNat a K = (match asN a with | some n => K n | none => False) := by
  rcases a with (x | xs) | ps
  · cases x <;> try rfl
    case sc v =>
      cases v <;> try rfl
      case int k n => by_cases h : 0 ≤ n <;> simp [asNat, asN, h]
  · rfl
  · rfl
def loN (st : St) (x : Option Operand) (dflt : Nat) : Option Nat := match x with
  | some x => asN (st.ev x)
  | none => some dflt
theorem loN_some {x : Operand} {k : Nat} : loN st (some x) k = asN (st.ev x) := rfl
theorem loN_none {k : Nat} : loN st none k = some k := rfl
theorem asNat?_loN {x : Option Operand} {k : Nat} {K : Nat → Prop} : asNat? st x k K = (match loN st x k with | some n => K n | none => False) := by
  cases x with
  | none => rfl
  | some x => exact asNat_asN
def cutS (l h : Option Nat) (n : Nat) (K : Nat → Nat → Prop) : Prop := match l, h with
  | some l, some h => l ≤ h ∧ h ≤ n ∧ K l h
  | _, _ => False
theorem cutS_eq {l h n : Nat} {K : Nat → Nat → Prop} : cutS (some l) (some h) n K = (l ≤ h ∧ h ≤ n ∧ K l h) := rfl
def strC (s : ByteArray) (K : Eff → Prop) (l h : Nat) : Prop := K ⟨.sc (.string (s.extract l h)), [], []⟩
theorem strC_eq {s : ByteArray} {l h : Nat} : strC s K l h = K ⟨.sc (.string (s.extract l h)), [], []⟩ := rfl
theorem sl_str {e : Option (Nat × Nat × List Value)} {s : ByteArray} {lo hi : Option Operand} : slK st (some .string) e (.sc (.string s)) lo hi K = cutS (loN st lo 0) (loN st hi s.size) s.size (strC s K) := by
  simp only [slK, asNat?_loN, cutS]
  rcases loN st lo 0 with _ | l
  · rfl
  · rcases loN st hi s.size with _ | h <;> rfl
def imC (w : Nat) (rows : Rows) (K : Eff → Prop) (l h : Nat) : Prop := K ⟨.one (.im w ((rows.take h).drop l)), [], []⟩
theorem imC_eq {w : Nat} {rows : Rows} {l h : Nat} : imC w rows K l h = K ⟨.one (.im w ((rows.take h).drop l)), [], []⟩ := rfl
theorem sl_im {t : TypeId} {w w' b : Nat} {z : List Value} {rows : Rows} {lo hi : Option Operand} : slK st (some (.slice t)) (some (w, b, z)) (.one (.im w' rows)) lo hi K = (w' = w ∧ cutS (loN st lo 0) (loN st hi rows.length) rows.length (imC w rows K)) := by
  simp only [slK, cutK, asNat?_loN, cutS]
  rcases loN st lo 0 with _ | l
  · simp
  · rcases loN st hi rows.length with _ | h
    · simp
    · simp [imC]
def refC (id w off : Nat) (K : Eff → Prop) (l h : Nat) : Prop := K ⟨.one (.ref id w (off + l) (h - l)), [], []⟩
theorem refC_eq {id w off l h : Nat} : refC id w off K l h = K ⟨.one (.ref id w (off + l) (h - l)), [], []⟩ := rfl
theorem sl_ref {t : TypeId} {id off len w w' b : Nat} {z : List Value} {lo hi : Option Operand} : slK st (some (.slice t)) (some (w, b, z)) (.one (.ref id w' off len)) lo hi K = (some' (st.objs id) ∧ w' = w ∧ cutS (loN st lo 0) (loN st hi len) len (refC id w off K)) := by
  simp only [slK, cutK, asNat?_loN, cutS, St.rows]
  rcases st.objs id with _ | ⟨w2, rows⟩
  · simp [some']
  · rcases loN st lo 0 with _ | l
    · simp
    · rcases loN st hi len with _ | h
      · simp
      · simp [refC, some']
theorem sl_nil {t : TypeId} {w b : Nat} {z : List Value} {lo hi : Option Operand} : slK st (some (.slice t)) (some (w, b, z)) (.sc (.slice none 0 0)) lo hi K = cutS (loN st lo 0) (loN st hi 0) 0 (fun _ _ => K ⟨.sc (.slice none 0 0), [], []⟩) := by
  simp only [slK, cutK, asNat?_loN, cutS, isNil]
  rcases loN st lo 0 with _ | l
  · simp
  · rcases loN st hi 0 with _ | h
    · simp
    · simp only [true_and]
      apply propext
      constructor
      · rintro ⟨rfl, rfl, h3⟩; exact ⟨by omega, by omega, h3⟩
      · rintro ⟨h1, h2, h3⟩; exact ⟨by omega, by omega, h3⟩
-- min, max
def mmK (b : Bool) (x y : AV) (K : Eff → Prop) : Prop := match x, y with
      | .pk (.one (.sc (.int k a))), .pk (.one (.sc (.int _ c))) => K ⟨.sc (.int k (if b then (if c > a then c else a) else (if c < a then c else a))), [], []⟩
      | _, _ => False
theorem eff_max {x y : Operand} {ts : Array TypeId} : effK P st nid ⟨d, .call ⟨.builtin .max, #[x, y], ts⟩, ty, pos, after, g⟩ K = mmK true (st.ev x) (st.ev y) K := rfl
theorem eff_min {x y : Operand} {ts : Array TypeId} : effK P st nid ⟨d, .call ⟨.builtin .min, #[x, y], ts⟩, ty, pos, after, g⟩ K = mmK false (st.ev x) (st.ev y) K := rfl
theorem mm_max {k k' : IntKind} {a b : Int} : mmK true (.sc (.int k a)) (.sc (.int k' b)) K = K ⟨.sc (.int k (if b > a then b else a)), [], []⟩ := rfl
theorem mm_min {k k' : IntKind} {a b : Int} : mmK false (.sc (.int k a)) (.sc (.int k' b)) K = K ⟨.sc (.int k (if b < a then b else a)), [], []⟩ := rfl
-- copy
def cpK (st : St) (e : Option (Nat × Nat × List Value)) (d s : AV) (K : Eff → Prop) : Prop := match e with
  | some (w, _, _) => cpyK st w d s K
  | none => False
theorem eff_copy {x y : Operand} {t t2 : TypeId} : effK P st nid ⟨d, .call ⟨.builtin .copy, #[x, y], #[t, t2]⟩, ty, pos, after, g⟩ K = cpK st (elemOf' P t) (st.ev x) (st.ev y) K := rfl
theorem cpK_eq {w b : Nat} {z : List Value} {x y : AV} : cpK st (some (w, b, z)) x y K = cpyK st w x y K := rfl
def cpR (w w' id off len : Nat) (o : Option Obj') (r : Option (Nat × Rows)) (K : Eff → Prop) : Prop := match o, r with
  | some (_, rows), some (w2, more) => w = 1 ∧ w' = 1 ∧ w2 = 1 ∧ off + len ≤ rows.length ∧ allSc rows = true ∧ allSc more = true ∧
        K ⟨.sc (.int .i64 (min more.length len : Nat)), [(id, some (1, setRange rows off (more.take len)))], []⟩
  | _, _ => False
theorem cpR_eq {w w' id off len w0 w2 : Nat} {rows more : Rows} : cpR w w' id off len (some (w0, rows)) (some (w2, more)) K = (w = 1 ∧ w' = 1 ∧ w2 = 1 ∧ off + len ≤ rows.length ∧ allSc rows = true ∧ allSc more = true ∧
        K ⟨.sc (.int .i64 (min more.length len : Nat)), [(id, some (1, setRange rows off (more.take len)))], []⟩) := rfl
theorem cp_im {w id w' off len w2 : Nat} {more : Rows} : cpyK st w (.one (.ref id w' off len)) (.one (.im w2 more)) K = cpR w w' id off len (st.objs id) (some (w2, more)) K := rfl
def rowsR (o : Option Obj') (w off len : Nat) : Option (Nat × Rows) := match o with
  | some (_, rows) => some (w, (rows.drop off).take len)
  | none => none
theorem rowsR_eq {w0 w off len : Nat} {rows : Rows} : rowsR (some (w0, rows)) w off len = some (w, (rows.drop off).take len) := rfl
theorem cp_ref {w id w' off len id2 w2 off2 len2 : Nat} : cpyK st w (.one (.ref id w' off len)) (.one (.ref id2 w2 off2 len2)) K = cpR w w' id off len (st.objs id) (rowsR (st.objs id2) w2 off2 len2) K := by
  simp only [cpyK, St.rows, cpR, rowsR]
  rcases st.objs id with _ | ⟨w0, rows⟩
  · rfl
  · rcases st.objs id2 with _ | ⟨w1, rows2⟩ <;> rfl
-- function values
def fnK (f : FuncId) (o : Option (List Nat)) (K : Eff → Prop) : Prop := match o with
  | some ids => K ⟨.one (.fnv f ids), [], []⟩
  | none => False
theorem eff_makeFunc {f : FuncId} {xs : List Operand} : effK P st nid ⟨d, .makeFunc (.func f) #[] xs.toArray, ty, pos, after, g⟩ K = fnK f (varIds xs st) K := by
  simp only [effK, true_and, fnK] <;> rfl
theorem fnK_eq {f : FuncId} {ids : List Nat} : fnK f (some ids) K = K ⟨.one (.fnv f ids), [], []⟩ := rfl
def vidA (a : AV) (o : Option (List Nat)) : Option (List Nat) := match a, o with
    | .pk (.one (.vad id 0)), some ids => some (id :: ids)
    | _, _ => none
theorem varIds_nil : varIds [] st = some [] := rfl
theorem varIds_cons {x : Operand} {r : List Operand} : varIds (x :: r) st = vidA (st.ev x) (varIds r st) := rfl
theorem vidA_eq {id : Nat} {ids : List Nat} : vidA (.one (.vad id 0)) (some ids) = some (id :: ids) := rfl
-- calls
def callC (P : Program) (st : St) (nid : Nat) (f : FuncId) (caps : List Pk) (K : Eff → Prop) (ps : List Pk) : Prop := callK P st nid f (ps ++ caps) K
theorem callC_eq {f : FuncId} {caps ps : List Pk} : callC P st nid f caps K ps = callK P st nid f (ps ++ caps) K := rfl
def pksA (st : St) (acc : List Pk) (xs : List Operand) (K : List Pk → Prop) : Prop := pksK st xs fun ps => K (acc ++ ps)
def pkA (st : St) (acc : List Pk) (a : AV) (r : List Operand) (K : List Pk → Prop) : Prop := match a with
  | .pk p => pksA st (acc ++ [p]) r K
  | .tup _ => False
theorem pksA_nil {acc : List Pk} {K : List Pk → Prop} : pksA st acc [] K = K acc := by simp [pksA, pksK]
theorem pksA_cons {acc : List Pk} {x : Operand} {r : List Operand} {K : List Pk → Prop} : pksA st acc (x :: r) K = pkA st acc (st.ev x) r K := by
  simp only [pksA, pksK, pkA]
  cases st.ev x with
  | pk p => simp [pksA]
  | tup ps => rfl
theorem pkA_pk {acc : List Pk} {p : Pk} {r : List Operand} {K : List Pk → Prop} : pkA st acc (.pk p) r K = pksA st (acc ++ [p]) r K := rfl
theorem eff_value {f : Operand} {xs : List Operand} {ts : Array TypeId} : effK P st nid ⟨d, .call ⟨.value f, xs.toArray, ts⟩, ty, pos, after, g⟩ K = valK P st nid (st.ev f) xs K := by
  simp only [effK, valK] <;> rfl
theorem val_fnv {f : FuncId} {ids : List Nat} {xs : List Operand} : valK P st nid (.one (.fnv f ids)) xs K = pksA st [] xs (callC P st nid f (ids.map fun id => .one (.vad id 0)) K) := by
  simp only [valK, pksA, List.nil_append] <;> rfl
theorem val_fni {f : FuncId} {caps : List (List Fld)} {xs : List Operand} : valK P st nid (.one (.fni f caps)) xs K = pksA st [] xs (callC P st nid f (caps.map fun fs => .one (.ipt fs 0)) K) := by
  simp only [valK, pksA, List.nil_append] <;> rfl
/-- A call, by the contract of what is called. -/
theorem call_of {f : FuncId} {pks : List Pk} {args res upd' : List LV} (hs : Sat P f args res upd') (hp : All2 (passPk st) pks args)
    (hc : (callOk (List.zipWith handPk pks args).flatten (List.zipWith (lendsPk st) pks args).flatten res upd' && decide (List.zipWith handPk pks args).flatten.Nodup) = true) (hf : fits pks args upd')
    (hk : K ⟨resAV nid res, resEff resLeafO nid res ++ zip3 (updPk (updLeafO (nid + 63) st)) pks args upd', resEff resLeafV nid res ++ zip3 (updPk updLeafV) pks args upd'⟩) : callK P st nid f pks K :=
  ⟨args, res, upd', hs, hp, (Bool.and_eq_true _ _ ▸ hc).1, of_decide_eq_true (Bool.and_eq_true _ _ ▸ hc).2, hf, hk⟩
-- lengths of inner slices; stores to slices of one's own
def lenI (o : Option Obj') (i j s off len : Nat) (K : Eff → Prop) : Prop := match o with
  | some (_, rows) => (match (rows.getD i []).getD j .gone with
    | .sl s' xs => s' = s ∧ K ⟨.sc (.int .i64 ((xs.drop off).take len).length), [], []⟩
    | _ => False)
  | none => False
theorem len_rin {t : TypeId} {id i j s off len : Nat} : lenK P st (some t) (.one (.rin id i j s off len)) K = ((elemOf' P t).isSome = true ∧ lenI (st.objs id) i j s off len K) := by
  simp only [lenK, St.rows, lenI, Option.bind_some, Rows.cell]
  rcases st.objs id with _ | ⟨w, rows⟩
  · rfl
  · simp only
    rcases (List.getD rows i []).getD j .gone with _ | ⟨s', xs⟩ | _
    · rfl
    · by_cases e : s' = s <;> simp [e, lift_length]
    · rfl
def lenJ (c : Cell) (s off len : Nat) (K : Eff → Prop) : Prop := match c with
    | .sl s' xs => s' = s ∧ K ⟨.sc (.int .i64 ((xs.drop off).take len).length), [], []⟩
    | _ => False
theorem lenI_eq {w i j s off len : Nat} {rows : Rows} : lenI (some (w, rows)) i j s off len K = lenJ ((rows.getD i []).getD j .gone) s off len K := rfl
theorem lenJ_eq {s s' off len : Nat} {xs : List Value} : lenJ (.sl s' xs) s off len K = (s' = s ∧ K ⟨.sc (.int .i64 ((xs.drop off).take len).length), [], []⟩) := rfl
theorem lenR_gen {w off len : Nat} {rows : Rows} : lenR (some (w, rows)) off len K = K ⟨.sc (.int .i64 ((rows.drop off).take len).length), [], []⟩ := rfl
def idxI (e : Nat) (c : Cell) (id i j s off len k : Nat) (K : Eff → Prop) : Prop := match c with
  | .sl s' _ => s' = s ∧ 1 = e ∧ k < len ∧ K ⟨.one (.oin id i j s (off + k)), [], []⟩
  | _ => False
theorem idxI_eq {e id i j s s' off len k : Nat} {xs : List Value} : idxI e (.sl s' xs) id i j s off len k K = (s' = s ∧ 1 = e ∧ k < len ∧ K ⟨.one (.oin id i j s (off + k)), [], []⟩) := rfl
def idxJ (e : Nat) (o : Option Obj') (id i j s off len k : Nat) (K : Eff → Prop) : Prop := match o with
  | some (_, rows) => idxI e ((rows.getD i []).getD j .gone) id i j s off len k K
  | none => False
theorem idxJ_eq {e w id i j s off len k : Nat} {rows : Rows} : idxJ e (some (w, rows)) id i j s off len k K = idxI e ((rows.getD i []).getD j .gone) id i j s off len k K := rfl
theorem ia_rin_n {e b : Nat} {z : List Value} {id i j s off len : Nat} {ik : IntKind} {n : Nat} : iaK st (some (e, b, z)) (.one (.rin id i j s off len)) (.sc (.int ik (n : Int))) K = idxJ e (st.objs id) id i j s off len n K := by
  simp only [iaK, idxA, asNat, Int.natCast_nonneg, true_and, Int.toNat_natCast, idxJ, Rows.cell]
  rcases st.objs id with _ | ⟨w, rows⟩
  · rfl
  · simp only
    rcases (List.getD rows i []).getD j .gone with _ | ⟨s', xs⟩ | _ <;> rfl
theorem ia_rin_l {e b : Nat} {z : List Value} {id i j s off len : Nat} {ik : IntKind} {n : Nat} : iaK st (some (e, b, z)) (.one (.rin id i j s off len)) (.sc (.int ik (OfNat.ofNat n))) K = idxJ e (st.objs id) id i j s off len n K := by
  rw [show (OfNat.ofNat n : Int) = (n : Int) from rfl, ia_rin_n]
def stOC (id i j n : Nat) (o : Nat → Option Obj') (K : Eff → Prop) (cs : List Cell) (ws : List (Nat × Option Obj')) : Prop := match upd o ws id with
    | some (w, rows) => i < rows.length ∧ j + n ≤ (rows.getD i []).length ∧
        K ⟨.un, (id, some (w, rows.set i (setRange (rows.getD i []) j cs))) :: ws, []⟩
    | none => False
theorem st_oad {id i j : Nat} {n : Option Nat} {p : Pk} : stK st nid (some n) (.one (.oad id i j)) (.pk p) K = (solids st p.svs ∧ p.svs.length = n.getD 1 ∧ cellsK nid st p.svs (stOC id i j (n.getD 1) st.objs K)) := by
  simp only [stK, storeK] <;> rfl
def stOD (id i j n : Nat) (o : Option Obj') (K : Eff → Prop) (cs : List Cell) (ws : List (Nat × Option Obj')) : Prop := match o with
    | some (w, rows) => i < rows.length ∧ j + n ≤ (rows.getD i []).length ∧
        K ⟨.un, (id, some (w, rows.set i (setRange (rows.getD i []) j cs))) :: ws, []⟩
    | none => False
theorem stOC_eq {id i j n : Nat} {o : Nat → Option Obj'} {cs : List Cell} {ws : List (Nat × Option Obj')} : stOC id i j n o K cs ws = stOD id i j n (upd o ws id) K cs ws := rfl
theorem stOD_eq {id i j n w : Nat} {rows : Rows} {cs : List Cell} {ws : List (Nat × Option Obj')} : stOD id i j n (some (w, rows)) K cs ws = (i < rows.length ∧ j + n ≤ (rows.getD i []).length ∧
        K ⟨.un, (id, some (w, rows.set i (setRange (rows.getD i []) j cs))) :: ws, []⟩) := rfl
def stID (id i j s k w : Nat) (rows : Rows) (c : Cell) (v : Value) (K : Eff → Prop) : Prop := match c with
  | .sl s' ys => s' = s ∧ 0 < s ∧ k < ys.length ∧ isNil v = false ∧ K ⟨.un, [(id, some (w, Rows.setCell rows i j (.sl s (ys.set k v))))], []⟩
  | _ => False
theorem stID_eq {id i j s s' k w : Nat} {rows : Rows} {ys : List Value} {v : Value} : stID id i j s k w rows (.sl s' ys) v K = (s' = s ∧ 0 < s ∧ k < ys.length ∧ isNil v = false ∧ K ⟨.un, [(id, some (w, Rows.setCell rows i j (.sl s (ys.set k v))))], []⟩) := rfl
def stIO (id i j s k : Nat) (o : Option Obj') (v : Value) (K : Eff → Prop) : Prop := match o with
  | some (w, rows) => stID id i j s k w rows ((rows.getD i []).getD j .gone) v K
  | none => False
theorem stIO_eq {id i j s k w : Nat} {rows : Rows} {v : Value} : stIO id i j s k (some (w, rows)) v K = stID id i j s k w rows ((rows.getD i []).getD j .gone) v K := rfl
theorem st_oin {id i j s k : Nat} {v : Value} : stK st nid (some none) (.one (.oin id i j s k)) (.sc v) K = (SV.solid st (.sc v) ∧ stIO id i j s k (st.objs id) v K) := by
  simp only [stK, storeK, Pk.svs, solids, and_true, List.length_cons, List.length_nil, Option.getD_none, true_and, stIO, Nat.zero_add, Rows.cell]
  rcases st.objs id with _ | ⟨w, rows⟩
  · rfl
  · simp only
    rcases (List.getD rows i []).getD j .gone with _ | ⟨s', xs⟩ | _ <;> rfl
end eff
/-! #### a scalar in a cell (no case distinction: the walk stays small) -/
theorem cell_int {st : St} {s : Nat} {ik : IntKind} {n : Int} {K : Cell → List (Nat × Option Obj') → Prop} : cellK st s (.sc (.int ik n)) K = K (.sc (.int ik n)) [] := rfl
theorem cell_bool {st : St} {s : Nat} {b : Bool} {K : Cell → List (Nat × Option Obj') → Prop} : cellK st s (.sc (.bool b)) K = K (.sc (.bool b)) [] := rfl
theorem cell_str {st : St} {s : Nat} {b : ByteArray} {K : Cell → List (Nat × Option Obj') → Prop} : cellK st s (.sc (.string b)) K = K (.sc (.string b)) [] := rfl
attribute [go_sem high] cell_int cell_bool cell_str
attribute [go_sem ↓] eff_build eff_buildSlice eff_makeSlice eff_append eff_convert eff_field eff_nilCheck eff_slice eff_copy eff_max eff_min eff_makeFunc eff_value
attribute [go_sem] solid_ref solid_vad solid_iad solid_ipt solid_fnv solid_fni solid_rin okay_one okay_agg fillS_nil fillS_cons fillA_pk aggC_eq buildK_eq cell_ref cellR_lift cell_sc isNil_int isNil_bool isNil_str isNil_nil cell_im cells_nil cells_cons cellsT_eq cellsC_nil cellsC_eq wr_slots wr_vars wr_objs wr_ev rowT_eq rowC_nil rowC_eq fillR_nil fillR_cons fillRA_pk newC_eq bsK_eq
attribute [go_sem] msK_n msK_l apK_eq apSrc_nil apSrc_ref apO_eq apSrc_rin src_str src_nil src_im src_ref srcO_eq src_rin srcR_eq srcI_eq cv_int cv_ref cvB_eq fd_1 fd_n nc_vad nc_iad nc_ipt asN_n asN_l loN_some loN_none cutS_eq strC_eq sl_str imC_eq sl_im refC_eq sl_ref sl_nil mm_max mm_min cpK_eq cpR_eq cp_im cp_ref rowsR_eq fnK_eq varIds_nil varIds_cons vidA_eq callC_eq pksA_nil pksA_cons pkA_pk val_fnv val_fni
attribute [go_sem] len_rin lenI_eq lenJ_eq lenR_gen idxI_eq idxJ_eq ia_rin_n ia_rin_l st_oad stOC_eq stOD_eq stID_eq stIO_eq st_oin zeroCell List.replicate_zero List.set_nil
attribute [go_sem] List.append_nil resAV resPks resPk resLeaf resLeaves resEff leavesEff resLeafO resLeafV zip3 updPk updLeafO updLeafV
attribute [go_sem] setRange Cell.sv svs List.take_nil List.drop_nil

/-! #### what is passed -/
theorem pass_im_im {st : St} {w w' : Nat} {rows rows' : Rows} : pass st (.im w rows) (.im w' rows') = (w' = w ∧ rows' = frz rows) := by
  simp only [pass, St.rows]
  apply propext
  constructor
  · rintro ⟨r, h, rfl⟩; cases h; exact ⟨rfl, rfl⟩
  · rintro ⟨rfl, rfl⟩; exact ⟨rows, rfl, rfl⟩
def passR (o : Option Obj') (w off len w' : Nat) (rows' : Rows) : Prop := match o with
  | some (_, rows) => w' = w ∧ rows' = frz ((rows.drop off).take len)
  | none => False
theorem pass_ref_im {st : St} {id w off len w' : Nat} {rows' : Rows} : pass st (.ref id w off len) (.im w' rows') = passR (st.objs id) w off len w' rows' := by
  simp only [pass, St.rows, passR]
  rcases st.objs id with _ | ⟨w2, rows⟩
  · simp
  · apply propext
    constructor
    · rintro ⟨r, h, rfl⟩; cases h; exact ⟨rfl, rfl⟩
    · rintro ⟨rfl, rfl⟩; exact ⟨_, rfl, rfl⟩
theorem passR_eq {w w2 off len w' : Nat} {rows rows' : Rows} : passR (some (w2, rows)) w off len w' rows' = (w' = w ∧ rows' = frz ((rows.drop off).take len)) := rfl
def passI (c : Cell) (s off len w' : Nat) (rows' : Rows) : Prop := match c with
  | .sl s' xs => s' = s ∧ w' = 1 ∧ rows' = lift ((xs.drop off).take len)
  | _ => False
def passJ (o : Option Obj') (i j s off len w' : Nat) (rows' : Rows) : Prop := match o with
  | some (_, rows) => passI ((rows.getD i []).getD j .gone) s off len w' rows'
  | none => False
theorem pass_rin_im {st : St} {id i j s off len w' : Nat} {rows' : Rows} : pass st (.rin id i j s off len) (.im w' rows') = passJ (st.objs id) i j s off len w' rows' := by
  simp only [pass, St.rows, passJ, passI, Rows.cell]
  rcases st.objs id with _ | ⟨w2, rows⟩
  · simp
  · simp only
    rcases (List.getD rows i []).getD j .gone with _ | ⟨s', xs⟩ | _
    · simp
    · by_cases e : s' = s
      · subst e
        simp only [if_true, true_and]
        apply propext
        constructor
        · rintro ⟨r, h, rfl⟩; cases h; exact ⟨rfl, frz_lift _⟩
        · rintro ⟨rfl, rfl⟩; exact ⟨_, rfl, (frz_lift _).symm⟩
      · simp [e]
    · simp
theorem passJ_eq {w i j s off len w' : Nat} {rows rows' : Rows} : passJ (some (w, rows)) i j s off len w' rows' = passI ((rows.getD i []).getD j .gone) s off len w' rows' := rfl
theorem passI_eq {s s' off len w' : Nat} {xs : List Value} {rows' : Rows} : passI (.sl s' xs) s off len w' rows' = (s' = s ∧ w' = 1 ∧ rows' = lift ((xs.drop off).take len)) := rfl
theorem pass_sc_im {st : St} {v : Value} {w : Nat} {rows : Rows} : pass st (.sc v) (.im w rows) = (isNil v = true ∧ rows = []) := rfl
theorem pass_sc_ow {st : St} {v : Value} {w : Nat} {rows : Rows} : pass st (.sc v) (.ow w rows) = (isNil v = true ∧ 0 < w ∧ rows = []) := rfl
theorem pass_sc_sc {st : St} {v v' : Value} : pass st (.sc v) (.sc v') = (v' = v) := rfl
def passO (o : Option Obj') (w off len w' : Nat) (rows : Rows) : Prop := match o with
    | some (w'', rows') => w'' = w' ∧ w' = w ∧ off = 0 ∧ len = rows'.length ∧ rows = rst rows'
    | none => False
theorem pass_ref_ow {st : St} {id w off len w' : Nat} {rows : Rows} : pass st (.ref id w off len) (.ow w' rows) = passO (st.objs id) w off len w' rows := by
  simp only [pass, passO] <;> rfl
theorem passO_eq {w w2 off len w' : Nat} {rows rows' : Rows} : passO (some (w2, rows')) w off len w' rows = (w2 = w' ∧ w' = w ∧ off = 0 ∧ len = rows'.length ∧ rows = rst rows') := rfl
def passP (c : Cell) (s off len w' : Nat) (rows : Rows) : Prop := match c with
      | .sl s' xs => s' = s ∧ 0 < s ∧ w' = 1 ∧ off = 0 ∧ len = xs.length ∧ rows = lift xs
      | _ => False
def passQ (o : Option Obj') (i j s off len w' : Nat) (rows : Rows) : Prop := match o with
    | some (_, rows') => passP ((rows'.getD i []).getD j .gone) s off len w' rows
    | none => False
theorem pass_rin_ow {st : St} {id i j s off len w' : Nat} {rows : Rows} : pass st (.rin id i j s off len) (.ow w' rows) = passQ (st.objs id) i j s off len w' rows := by
  simp only [pass, passQ, passP, Rows.cell]
  rcases st.objs id with _ | ⟨w2, rows'⟩
  · rfl
  · simp only
    rcases (List.getD rows' i []).getD j .gone with _ | ⟨s', xs⟩ | _ <;> rfl
theorem passQ_eq {w i j s off len w' : Nat} {rows rows' : Rows} : passQ (some (w, rows')) i j s off len w' rows = passP ((rows'.getD i []).getD j .gone) s off len w' rows := rfl
theorem passP_eq {s s' off len w' : Nat} {xs : List Value} {rows : Rows} : passP (.sl s' xs) s off len w' rows = (s' = s ∧ 0 < s ∧ w' = 1 ∧ off = 0 ∧ len = xs.length ∧ rows = lift xs) := rfl
theorem pass_vad_op {st : St} {id : Nat} {fs : List Fld} : pass st (.vad id 0) (.op fs) = (st.vars id = some (fs.map Fld.sv)) := rfl
theorem pass_vad_ip {st : St} {id : Nat} {fs : List Fld} : pass st (.vad id 0) (.ip fs) = fldsOf st id fs := rfl
theorem pass_ipt_ip {st : St} {fs fs' : List Fld} : pass st (.ipt fs 0) (.ip fs') = (fs' = fs) := rfl
theorem pass_fnv {st : St} {f f' : FuncId} {ids : List Nat} {caps : List (List Fld)} : pass st (.fnv f ids) (.fn f' caps) = (f' = f ∧ All2 (fun id fs => fldsOf st id fs) ids caps) := rfl
theorem pass_fni {st : St} {f f' : FuncId} {caps caps' : List (List Fld)} : pass st (.fni f caps) (.fn f' caps') = (f' = f ∧ caps' = caps) := rfl
def fldsO (st : St) (o : Option (List SV)) (fs : List Fld) : Prop := match o with
  | some xs => All2 (fun x f => SV.flds st x f) xs fs
  | none => False
theorem fldsOf_eq {st : St} {id : Nat} {fs : List Fld} : fldsOf st id fs = fldsO st (st.vars id) fs := rfl
theorem fldsO_eq {st : St} {xs : List SV} {fs : List Fld} : fldsO st (some xs) fs = All2 (fun x f => SV.flds st x f) xs fs := rfl
theorem flds_sc {st : St} {v v' : Value} : SV.flds st (.sc v) (.sc v') = (v' = v ∨ (isNil v = true ∧ False)) := by
  simp [SV.flds]
theorem flds_im {st : St} {w w' : Nat} {rows rows' : Rows} : SV.flds st (.im w rows) (.im w' rows') = (w' = w ∧ rows' = frz rows) := by
  simp only [SV.flds, St.rows]
  apply propext
  constructor
  · rintro ⟨r, h, rfl⟩; cases h; exact ⟨rfl, rfl⟩
  · rintro ⟨rfl, rfl⟩; exact ⟨rows, rfl, rfl⟩
theorem flds_ref {st : St} {id w off len w' : Nat} {rows' : Rows} : SV.flds st (.ref id w off len) (.im w' rows') = passR (st.objs id) w off len w' rows' := by
  rw [← pass_ref_im]; rfl
attribute [go_sem] pass_im_im pass_ref_im passR_eq pass_rin_im passJ_eq passI_eq pass_sc_im pass_sc_ow pass_sc_sc pass_ref_ow passO_eq pass_rin_ow passQ_eq passP_eq pass_vad_op pass_vad_ip pass_ipt_ip pass_fnv pass_fni fldsOf_eq fldsO_eq flds_sc flds_im flds_ref and_false or_false
attribute [go_sem] fits fitPk fitLeaves frz_lift rst_lift stm_lift lift_flatB
theorem fit_gone {s : SV} {l : Leaf} : fitLeaf s l .gone = True := by cases s <;> cases l <;> rfl
theorem fit_ref {id w off len w1 w2 : Nat} {r1 r2 : Rows} : fitLeaf (.ref id w off len) (.ow w1 r1) (.ow w2 r2) = (w1 = w2) := rfl
theorem fit_sc {v : Value} {w1 w2 : Nat} {r1 r2 : Rows} : fitLeaf (.sc v) (.ow w1 r1) (.ow w2 r2) = (w1 = w2) := rfl
theorem fit_rin {id i j s off len w1 w2 : Nat} {r1 r2 : Rows} : fitLeaf (.rin id i j s off len) (.ow w1 r1) (.ow w2 r2) = (w1 = w2 ∧ lift (unlift r2) = r2) := rfl
theorem fit_op {s : SV} {f1 f2 : List Fld} : fitLeaf s (.op f1) (.op f2) = True := by cases s <;> rfl
attribute [go_sem] fit_gone fit_ref fit_sc fit_rin fit_op unlift_lift
theorem idx_arr_n {P : Program} {n : Nat} {e : TypeId} {xs : List SV} {ik : IntKind} {k : Nat} {K : Eff → Prop} : idxK P (some (.array n e)) (.agg xs) (.sc (.int ik (k : Int))) K = (aggOf P e = some none ∧ xs.length = n ∧ k < n ∧ K ⟨.one (xs.getD k .un), [], []⟩) := by
  simp [idxK, asNat]
theorem idx_arr_l {P : Program} {n : Nat} {e : TypeId} {xs : List SV} {ik : IntKind} {k : Nat} {K : Eff → Prop} : idxK P (some (.array n e)) (.agg xs) (.sc (.int ik (OfNat.ofNat k))) K = (aggOf P e = some none ∧ xs.length = n ∧ k < n ∧ K ⟨.one (xs.getD k .un), [], []⟩) := by
  rw [show (OfNat.ofNat k : Int) = (k : Int) from rfl, idx_arr_n]
theorem idx_arr_i {P : Program} {n : Nat} {e : TypeId} {xs : List SV} {ik : IntKind} {k : Int} {K : Eff → Prop} : idxK P (some (.array n e)) (.agg xs) (.sc (.int ik k)) K = (aggOf P e = some none ∧ xs.length = n ∧ 0 ≤ k ∧ k.toNat < n ∧ K ⟨.one (xs.getD k.toNat .un), [], []⟩) := by
  simp [idxK, asNat]
theorem idx_i {P : Program} {s : ByteArray} {ik : IntKind} {k : Int} {K : Eff → Prop} : idxK P (some .string) (.sc (.string s)) (.sc (.int ik k)) K = (0 ≤ k ∧ k.toNat < s.size ∧ K ⟨.sc (.int .u8 (s.data.toList.getD k.toNat 0).toNat), [], []⟩) := by
  simp [idxK, asNat]
attribute [go_sem] idx_arr_n
attribute [go_sem low] idx_arr_i idx_i
/-! #### restating -/
attribute [go_sem] eachL leAV lePk leSV leVar OE.okay oeOf
end Go.Proofs.YtedciihjgbkjgacGreatDoor.A
