
/- DATA OF THE PROGRAM: relations, facts, atoms, edges, constraints, lists of lists. Conditions: none. -/
import Derived.Test.YtbalifgacjmbpabGreatAD
import Derived.WideShapes
import Derived.Laws.Strings
namespace Go.Proofs.YtbalifgacjmbpabGreat.A
open Go
set_option linter.unusedSimpArgs false
set_option linter.unusedVariables false

theorem frz_map {α : Type} (c c' : α → List Cell) (h : ∀ a, (c a).map Cell.frz = c' a) (l : List α) : frz (l.map c) = l.map c' := by simp [frz, Function.comp_def, h]
theorem rst_map {α : Type} (c c' : α → List Cell) (h : ∀ a, (c a).map Cell.rst = c' a) (l : List α) : rst (l.map c) = l.map c' := by simp [rst, Function.comp_def, h]
theorem stm_map {α : Type} (n : Nat) (c c' : α → List Cell) (h : ∀ a, (c a).map (Cell.stm n) = c' a) (l : List α) : stm n (l.map c) = l.map c' := by simp [stm, Function.comp_def, h]
theorem get_map {α : Type} (d : α) (c : α → List Cell) {l : List α} {i : Nat} (h : i < l.length) : (l.map c).getD i [] = c (l.getD i d) := by
  simp [List.getD_eq_getElem?_getD, h]
theorem stm_append (n : Nat) (a b : Rows) : stm n (a ++ b) = stm n a ++ stm n b := by simp [stm]
theorem stm_set (n : Nat) (a : Rows) (i : Nat) (r : List Cell) : stm n (a.set i r) = (stm n a).set i (r.map (Cell.stm n)) := by simp [stm, List.map_set]
theorem stm_cons (n : Nat) (r : List Cell) (a : Rows) : stm n (r :: a) = r.map (Cell.stm n) :: stm n a := rfl
theorem stm_nil (n : Nat) : stm n [] = [] := rfl
theorem cstm_sc (n : Nat) (v : Value) : Cell.stm n (.sc v) = .sc v := rfl
theorem cstm_sl (n s : Nat) (xs : List Value) : Cell.stm n (.sl (s + 1) xs) = .sl n xs := rfl
theorem cstm_sl0 (n : Nat) (xs : List Value) : Cell.stm n (.sl 0 xs) = .sl 0 xs := rfl
attribute [go_sem] stm_append stm_set stm_cons stm_nil cstm_sc cstm_sl cstm_sl0

/-! #### relations -/
structure Rel where
  name : ByteArray
  ar : Int
  kl : Int
  deriving DecidableEq
instance : Inhabited Rel := ⟨⟨ByteArray.empty, 0, 0⟩⟩
def cRel (x : Rel) : List Cell := [.sc (.string x.name), .sc (.int .i64 x.ar), .sc (.int .i64 x.kl)]
def rels (l : List Rel) : Rows := l.map cRel
theorem rels_length (l : List Rel) : (rels l).length = l.length := by simp [rels]
theorem rels_get {l : List Rel} {i : Nat} (h : i < l.length) : (rels l).getD i [] = [.sc (.string (l.getD i default).name), .sc (.int .i64 (l.getD i default).ar), .sc (.int .i64 (l.getD i default).kl)] := get_map default cRel h
theorem rels_frz (l : List Rel) : frz (rels l) = rels l := frz_map _ _ (fun _ => rfl) l
theorem rels_rst (l : List Rel) : rst (rels l) = rels l := rst_map _ _ (fun _ => rfl) l
theorem rels_stm (n : Nat) (l : List Rel) : stm n (rels l) = rels l := stm_map n _ _ (fun _ => rfl) l
theorem rels_flat (l : List Rel) : flatB (rels l) = true := by simp [flatB, rels, cRel, Cell.flatB]
theorem rels_take (l : List Rel) (k : Nat) : (rels l).take k = rels (l.take k) := by simp [rels]
theorem rels_drop (l : List Rel) (k : Nat) : (rels l).drop k = rels (l.drop k) := by simp [rels]
theorem rels_append (a b : List Rel) : rels a ++ rels b = rels (a ++ b) := by simp [rels]
theorem rels_set (l : List Rel) (i : Nat) (s : ByteArray) (a k : Int) : (rels l).set i [.sc (.string s), .sc (.int .i64 a), .sc (.int .i64 k)] = rels (l.set i ⟨s, a, k⟩) := by simp [rels, List.map_set, cRel]
theorem rels_rep (n : Nat) (s : ByteArray) (a k : Int) : List.replicate n [Cell.sc (.string s), .sc (.int .i64 a), .sc (.int .i64 k)] = rels (List.replicate n ⟨s, a, k⟩) := by simp [rels, cRel]
theorem rels_nil : rels [] = [] := rfl
attribute [go_sem] rels_length rels_get rels_frz rels_rst rels_stm rels_flat rels_take rels_drop rels_append rels_set rels_rep

/-! #### facts and atoms -/
structure RI where
  r : Int
  l : List Int
  deriving DecidableEq
instance : Inhabited RI := ⟨⟨0, []⟩⟩
def cRI (s : Nat) (x : RI) : List Cell := [.sc (.int .i64 x.r), .sl s (iv x.l)]
def ris (s : Nat) (l : List RI) : Rows := l.map (cRI s)
theorem ris_length (s : Nat) (l : List RI) : (ris s l).length = l.length := by simp [ris]
theorem ris_get {s : Nat} {l : List RI} {i : Nat} (h : i < l.length) : (ris s l).getD i [] = [.sc (.int .i64 (l.getD i default).r), .sl s (iv (l.getD i default).l)] := get_map default (cRI s) h
theorem ris_frz (s : Nat) (l : List RI) : frz (ris s l) = ris 0 l := frz_map _ _ (fun _ => rfl) l
theorem ris_rst0 (l : List RI) : rst (ris 0 l) = ris 0 l := rst_map _ _ (fun _ => rfl) l
theorem ris_rst (s : Nat) (l : List RI) : rst (ris (s + 1) l) = ris 1 l := rst_map _ _ (fun _ => rfl) l
theorem ris_stm (n s : Nat) (l : List RI) : stm n (ris (s + 1) l) = ris n l := stm_map n _ _ (fun _ => rfl) l
theorem ris_flat (l : List RI) : flatB (ris 0 l) = true := by simp [flatB, ris, cRI, Cell.flatB]
theorem ris_take (s : Nat) (l : List RI) (k : Nat) : (ris s l).take k = ris s (l.take k) := by simp [ris]
theorem ris_drop (s : Nat) (l : List RI) (k : Nat) : (ris s l).drop k = ris s (l.drop k) := by simp [ris]
theorem ris_append (s : Nat) (a b : List RI) : ris s a ++ ris s b = ris s (a ++ b) := by simp [ris]
theorem ris_snoc (s : Nat) (a : List RI) (r : Int) (l : List Int) : ris s a ++ [[.sc (.int .i64 r), .sl s (iv l)]] = ris s (a ++ [⟨r, l⟩]) := by simp [ris, cRI]
theorem ris_one (s : Nat) (r : Int) (l : List Int) : [[Cell.sc (.int .i64 r), .sl s (iv l)]] = ris s [⟨r, l⟩] := by simp [ris, cRI]
theorem ris_set (s : Nat) (l : List RI) (i : Nat) (r : Int) (x : List Int) : (ris s l).set i [.sc (.int .i64 r), .sl s (iv x)] = ris s (l.set i ⟨r, x⟩) := by simp [ris, List.map_set, cRI]
theorem ris_setCell {s : Nat} {l : List RI} {i : Nat} (x : List Int) (h : i < l.length) : Rows.setCell (ris s l) i 1 (.sl s (iv x)) = ris s (l.set i ⟨(l.getD i default).r, x⟩) := by
  unfold Rows.setCell
  rw [ris_get h]
  exact ris_set s l i _ x
theorem take1 {α : Type} (d x : α) : List.take 1 ((List.replicate 1 d).set 0 x) = [x] := rfl
theorem take2 {α : Type} (d x y : α) : List.take 2 (((List.replicate 2 d).set 0 x).set 1 y) = [x, y] := rfl
attribute [go_sem] take1 take2 List.length_cons List.length_nil
theorem getD_set_same {α : Type} {l : List α} {i : Nat} {x d : α} (h : i < l.length) : (l.set i x).getD i d = x := by
  simp [List.getD_eq_getElem?_getD, h]
theorem ris_rep (s n : Nat) (r : Int) : List.replicate n [Cell.sc (.int .i64 r), .sl s []] = ris s (List.replicate n ⟨r, []⟩) := by simp [ris, cRI, iv]
theorem ris_nil (s : Nat) : ris s [] = [] := rfl
attribute [go_sem] ris_length ris_get ris_frz ris_rst0 ris_rst ris_stm ris_flat ris_take ris_drop ris_append ris_snoc ris_set ris_rep ris_setCell getD_set_same List.set_set

/-! #### lists of lists -/
def cIS (s : Nat) (x : List Int) : List Cell := [.sl s (iv x)]
def iss (s : Nat) (l : List (List Int)) : Rows := l.map (cIS s)
theorem iss_length (s : Nat) (l : List (List Int)) : (iss s l).length = l.length := by simp [iss]
theorem iss_get {s : Nat} {l : List (List Int)} {i : Nat} (h : i < l.length) : (iss s l).getD i [] = [.sl s (iv (l.getD i []))] := get_map [] (cIS s) h
theorem iss_frz (s : Nat) (l : List (List Int)) : frz (iss s l) = iss 0 l := frz_map _ _ (fun _ => rfl) l
theorem iss_rst0 (l : List (List Int)) : rst (iss 0 l) = iss 0 l := rst_map _ _ (fun _ => rfl) l
theorem iss_rst (s : Nat) (l : List (List Int)) : rst (iss (s + 1) l) = iss 1 l := rst_map _ _ (fun _ => rfl) l
theorem iss_stm (n s : Nat) (l : List (List Int)) : stm n (iss (s + 1) l) = iss n l := stm_map n _ _ (fun _ => rfl) l
theorem iss_flat (l : List (List Int)) : flatB (iss 0 l) = true := by simp [flatB, iss, cIS, Cell.flatB]
theorem iss_append (s : Nat) (a b : List (List Int)) : iss s a ++ iss s b = iss s (a ++ b) := by simp [iss]
theorem iss_take (s : Nat) (l : List (List Int)) (k : Nat) : (iss s l).take k = iss s (l.take k) := by simp [iss]
theorem iss_drop (s : Nat) (l : List (List Int)) (k : Nat) : (iss s l).drop k = iss s (l.drop k) := by simp [iss]
theorem iss_set (s : Nat) (l : List (List Int)) (i : Nat) (x : List Int) : (iss s l).set i [.sl s (iv x)] = iss s (l.set i x) := by simp [iss, List.map_set, cIS]
theorem iss_one (s : Nat) (x : List Int) : [[Cell.sl s (iv x)]] = iss s [x] := by simp [iss, cIS]
theorem iss_nil (s : Nat) : iss s [] = [] := rfl
attribute [go_sem] iss_length iss_get iss_frz iss_rst0 iss_rst iss_stm iss_flat iss_append iss_take iss_drop iss_set

/-! #### edges -/
structure Edge where
  a : Int
  b : Int
  deriving DecidableEq
instance : Inhabited Edge := ⟨⟨0, 0⟩⟩
def cEd (x : Edge) : List Cell := [.sc (.int .i64 x.a), .sc (.int .i64 x.b)]
def eds (l : List Edge) : Rows := l.map cEd
theorem eds_length (l : List Edge) : (eds l).length = l.length := by simp [eds]
theorem eds_get {l : List Edge} {i : Nat} (h : i < l.length) : (eds l).getD i [] = [.sc (.int .i64 (l.getD i default).a), .sc (.int .i64 (l.getD i default).b)] := get_map default cEd h
theorem eds_frz (l : List Edge) : frz (eds l) = eds l := frz_map _ _ (fun _ => rfl) l
theorem eds_rst (l : List Edge) : rst (eds l) = eds l := rst_map _ _ (fun _ => rfl) l
theorem eds_stm (n : Nat) (l : List Edge) : stm n (eds l) = eds l := stm_map n _ _ (fun _ => rfl) l
theorem eds_flat (l : List Edge) : flatB (eds l) = true := by simp [flatB, eds, cEd, Cell.flatB]
theorem eds_take (l : List Edge) (k : Nat) : (eds l).take k = eds (l.take k) := by simp [eds]
theorem eds_drop (l : List Edge) (k : Nat) : (eds l).drop k = eds (l.drop k) := by simp [eds]
theorem eds_append (a b : List Edge) : eds a ++ eds b = eds (a ++ b) := by simp [eds]
theorem eds_snoc (l : List Edge) (a b : Int) : eds l ++ [[.sc (.int .i64 a), .sc (.int .i64 b)]] = eds (l ++ [⟨a, b⟩]) := by simp [eds, cEd]
theorem eds_set (l : List Edge) (i : Nat) (a b : Int) : (eds l).set i [.sc (.int .i64 a), .sc (.int .i64 b)] = eds (l.set i ⟨a, b⟩) := by simp [eds, List.map_set, cEd]
theorem eds_rep (n : Nat) (a b : Int) : List.replicate n [Cell.sc (.int .i64 a), .sc (.int .i64 b)] = eds (List.replicate n ⟨a, b⟩) := by simp [eds, cEd]
theorem eds_nil : eds [] = [] := rfl
attribute [go_sem] eds_length eds_get eds_frz eds_rst eds_stm eds_flat eds_take eds_drop eds_append eds_snoc eds_set eds_rep

/-! #### embeddings -/
structure Emb where
  vs : List Int
  fs : List Int
  deriving DecidableEq
instance : Inhabited Emb := ⟨⟨[], []⟩⟩
def cEm (s : Nat) (x : Emb) : List Cell := [.sl s (iv x.vs), .sl s (iv x.fs)]
def ems (s : Nat) (l : List Emb) : Rows := l.map (cEm s)
theorem ems_length (s : Nat) (l : List Emb) : (ems s l).length = l.length := by simp [ems]
theorem ems_get {s : Nat} {l : List Emb} {i : Nat} (h : i < l.length) : (ems s l).getD i [] = [.sl s (iv (l.getD i default).vs), .sl s (iv (l.getD i default).fs)] := get_map default (cEm s) h
theorem ems_frz (s : Nat) (l : List Emb) : frz (ems s l) = ems 0 l := frz_map _ _ (fun _ => rfl) l
theorem ems_rst0 (l : List Emb) : rst (ems 0 l) = ems 0 l := rst_map _ _ (fun _ => rfl) l
theorem ems_rst (s : Nat) (l : List Emb) : rst (ems (s + 1) l) = ems 1 l := rst_map _ _ (fun _ => rfl) l
theorem ems_stm (n s : Nat) (l : List Emb) : stm n (ems (s + 1) l) = ems n l := stm_map n _ _ (fun _ => rfl) l
theorem ems_flat (l : List Emb) : flatB (ems 0 l) = true := by simp [flatB, ems, cEm, Cell.flatB]
theorem ems_take (s : Nat) (l : List Emb) (k : Nat) : (ems s l).take k = ems s (l.take k) := by simp [ems]
theorem ems_drop (s : Nat) (l : List Emb) (k : Nat) : (ems s l).drop k = ems s (l.drop k) := by simp [ems]
theorem ems_append (s : Nat) (a b : List Emb) : ems s a ++ ems s b = ems s (a ++ b) := by simp [ems]
theorem ems_one (s : Nat) (a b : List Int) : [[Cell.sl s (iv a), .sl s (iv b)]] = ems s [⟨a, b⟩] := by simp [ems, cEm]
theorem ems_set (s : Nat) (l : List Emb) (i : Nat) (a b : List Int) : (ems s l).set i [.sl s (iv a), .sl s (iv b)] = ems s (l.set i ⟨a, b⟩) := by simp [ems, List.map_set, cEm]
theorem ems_nil (s : Nat) : ems s [] = [] := rfl
theorem ems_still (s : Nat) (l : List Emb) : stillRows (ems (s + 1) l) = true := by simp [stillRows, ems, cEm, Cell.still]
theorem ems_set0 {s : Nat} {l : List Emb} {i : Nat} (x : List Int) (h : i < l.length) : Rows.setCell (ems s l) i 0 (.sl s (iv x)) = ems s (l.set i ⟨x, (l.getD i default).fs⟩) := by
  unfold Rows.setCell
  rw [ems_get h]
  exact ems_set s l i x _
theorem ems_set1 {s : Nat} {l : List Emb} {i : Nat} (x : List Int) (h : i < l.length) : Rows.setCell (ems s l) i 1 (.sl s (iv x)) = ems s (l.set i ⟨(l.getD i default).vs, x⟩) := by
  unfold Rows.setCell
  rw [ems_get h]
  exact ems_set s l i _ x
attribute [go_sem] ems_length ems_get ems_frz ems_rst0 ems_rst ems_stm ems_flat ems_take ems_drop ems_append ems_set ems_set0 ems_set1
theorem takeL1 (s : List Int) (x : Int) : List.take (s.length + 1) (s ++ [x]) = s ++ [x] := List.take_of_length_le (by simp)
attribute [go_sem] takeL1

theorem str_beq (a b : ByteArray) : (a.toList == b.toList) = decide (a = b) := by
  rw [ByteArray.toList_eq, ByteArray.toList_eq, Bool.eq_iff_iff, decide_eq_true_iff, beq_iff_eq]
  exact ⟨fun h => Go.WideShapes.bytes_inj h, fun h => by rw [h]⟩
theorem i64_pred {j : Nat} (h : j < 9223372036854775807) : IntKind.i64.wrap (((j + 1 : Nat) : Int) - 1) = (j : Int) := by
  rw [IntWalk.i64_in _ (by omega)]; omega
attribute [go_sem] str_beq
theorem tr_and {ops : List Oper} {tr : List Tr} {c : Prop} (h : trOk ops tr = true) (hc : c) : trOk ops tr = true ∧ c := ⟨h, hc⟩
theorem tr_only {ops : List Oper} {tr : List Tr} (h : trOk ops tr = true) : trOk ops tr = true := h
theorem callOk_still {handed lent : List Nat} {res upd : List LV} (h : (lent.all (fun i => !handed.contains i) && decide handed.Nodup) = true) (h2 : (res.all LV.still && upd.all LV.still) = true) : (callOk handed lent res upd && decide handed.Nodup) = true := by
  rw [Bool.and_eq_true] at h
  unfold callOk
  rw [h.1, h.2, h2]
  simp
theorem ris_still (s : Nat) (l : List RI) : stillRows (ris (s + 1) l) = true := by simp [stillRows, ris, cRI, Cell.still]
theorem eds_still (l : List Edge) : stillRows (eds l) = true := by simp [stillRows, eds, cEd, Cell.still]
theorem rels_still (l : List Rel) : stillRows (rels l) = true := by simp [stillRows, rels, cRel, Cell.still]
theorem iss_still (s : Nat) (l : List (List Int)) : stillRows (iss (s + 1) l) = true := by simp [stillRows, iss, cIS, Cell.still]
theorem le_st' {st : St} (slots : List (Nat × AV)) (vars : List (Nat × List SV)) (obs : List OE) (fro : List Nat) (next : Nat)
    (hs : eachL (fun p : Nat × AV => leAV st obs fro (st.slots p.1) p.2) slots) (hv : eachL (fun p : Nat × List SV => leVar st obs fro (st.vars p.1) p.2) vars) (ho : eachL (OE.okay st next) obs) (hn : namesOk slots vars obs fro next = true) :
    Le st (mkSt slots vars (obs.map fun e => (e.new, (e.w, e.rows))) next) := le_st slots vars obs fro next hn hs hv ho
abbrev lInt (n : Int) : LV := .one (.sc (.int .i64 n))
abbrev lBool (b : Bool) : LV := .one (.sc (.bool b))
abbrev lStr (s : ByteArray) : LV := .one (.sc (.string s))
abbrev lInts (a : List Int) : LV := .one (.im 1 (ints a))
abbrev oInts (a : List Int) : LV := .one (.ow 1 (ints a))
abbrev lISS (a : List (List Int)) : LV := .one (.im 1 (iss 0 a))
abbrev oISS (a : List (List Int)) : LV := .one (.ow 1 (iss 1 a))
abbrev lRels (a : List Rel) : LV := .one (.im 3 (rels a))
abbrev oRels (a : List Rel) : LV := .one (.ow 3 (rels a))
abbrev lRel (a : Rel) : LV := .agg [.sc (.string a.name), .sc (.int .i64 a.ar), .sc (.int .i64 a.kl)]
abbrev lRI (a : RI) : LV := .agg [.sc (.int .i64 a.r), .im 1 (ints a.l)]
abbrev oRI (a : RI) : LV := .agg [.sc (.int .i64 a.r), .ow 1 (ints a.l)]
abbrev lRIs (a : List RI) : LV := .one (.im 2 (ris 0 a))
abbrev oRIs (a : List RI) : LV := .one (.ow 2 (ris 1 a))
abbrev lEds (a : List Edge) : LV := .one (.im 2 (eds a))
abbrev oEds (a : List Edge) : LV := .one (.ow 2 (eds a))
structure Db where
  rels : List Rel
  facts : List RI
  deriving DecidableEq
structure Qu where
  vc : Int
  atoms : List RI
  free : List Int
  deriving DecidableEq
abbrev lDb (d : Db) : LV := .agg [.im 3 (A.rels d.rels), .im 2 (ris 0 d.facts)]
abbrev oDb (d : Db) : LV := .agg [.ow 3 (A.rels d.rels), .ow 2 (ris 1 d.facts)]
abbrev lQu (q : Qu) : LV := .agg [.sc (.int .i64 q.vc), .im 2 (ris 0 q.atoms), .im 1 (ints q.free)]
abbrev oQu (q : Qu) : LV := .agg [.sc (.int .i64 q.vc), .ow 2 (ris 1 q.atoms), .ow 1 (ints q.free)]
abbrev uQu (q : Qu) : LV := .agg [.gone, .ow 2 (ris 1 q.atoms), .ow 1 (ints q.free)]
abbrev uRI (a : RI) : LV := .agg [.gone, .ow 1 (ints a.l)]
abbrev sQu (q : Qu) : List SV := [.sc (.int .i64 q.vc), .im 2 (ris 0 q.atoms), .im 1 (ints q.free)]
abbrev sDb (d : Db) : List SV := [.im 3 (A.rels d.rels), .im 2 (ris 0 d.facts)]
abbrev sRI (a : RI) : List SV := [.sc (.int .i64 a.r), .im 1 (ints a.l)]
abbrev g1 : LV := .one .gone
abbrev g2 : LV := .agg [.gone, .gone]
abbrev g3 : LV := .agg [.gone, .gone, .gone]
end Go.Proofs.YtbalifgacjmbpabGreat.A
