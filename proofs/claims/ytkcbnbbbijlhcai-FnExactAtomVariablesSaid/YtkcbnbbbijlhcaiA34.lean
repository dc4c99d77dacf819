/- THE ABSTRACT SEMANTICS IS SOUND, thirtieth part: a state may be restated (renamed slices, forgotten slots, frozen slices). Conditions: none. -/
import Derived.Test.YtkcbnbbbijlhcaiA33
namespace Go.Proofs.Ytkcbnbbbijlhcai.A
open Go
set_option linter.unusedSimpArgs false
set_option linter.unusedVariables false

/-- A slice of one's own in the new state: its name, its name in the old one, are its inner stamps kept. -/
structure OE where
  new : Nat
  old : Option Nat
  exact : Bool
  w : Nat
  rows : Rows
def oeOf : List OE → Nat → Option OE
  | [], _ => none
  | e :: r, k => if k = e.new then some e else oeOf r k
def stampsLt (n : Nat) (rows : Rows) : Prop := ∀ r ∈ rows, ∀ s xs, Cell.sl s xs ∈ r → s < n
def OE.okay (st : St) (next : Nat) (e : OE) : Prop :=
  match e.old with
  | none => e.rows = [] ∧ 0 < e.w
  | some o => match st.objs o with
    | some (w, rows) => e.w = w ∧ (if e.exact then e.rows = rows ∧ stampsLt next rows else e.rows = stm 999 rows)
    | none => False
def leSV (st : St) (obs : List OE) (fro : List Nat) : SV → SV → Prop
  | _, .un => True
  | .sc v, .sc v' => v' = v
  | .sc v, .im _ rows => isNil v = true ∧ rows = []
  | .sc v, .ref id' w off len => isNil v = true ∧ off = 0 ∧ len = 0 ∧ (match oeOf obs id' with | some e => e.w = w | none => True)
  | .im w rows, .im w' rows' => w' = w ∧ rows' = rows
  | .ref id w off len, .ref id' w' off' len' => w' = w ∧ off' = off ∧ len' = len ∧ (match oeOf obs id' with | some e => e.old = some id | none => True)
  | .ref id w off len, .im w' rows' => id ∈ fro ∧ ∃ rows, st.rows (.ref id w off len) = some (w', rows) ∧ rows' = frz rows
  | .rin id i j s off len, .rin id' i' j' s' off' len' => i' = i ∧ j' = j ∧ s' = s ∧ off' = off ∧ len' = len ∧ (match oeOf obs id' with | some e => e.old = some id ∧ e.exact = true | none => True)
  | .rin id i j s off len, .im w' rows' => id ∈ fro ∧ ∃ rows, st.rows (.rin id i j s off len) = some (w', rows) ∧ rows' = frz rows
  | .vad id j, .vad id' j' => id' = id ∧ j' = j
  | .iad row j, .iad row' j' => row' = row ∧ j' = j
  | .ipt fs j, .ipt fs' j' => fs' = fs ∧ j' = j
  | .fnv f ids, .fnv f' ids' => f' = f ∧ ids' = ids
  | .fni f caps, .fni f' caps' => f' = f ∧ caps' = caps
  | _, _ => False
def lePk (st : St) (obs : List OE) (fro : List Nat) : Pk → Pk → Prop
  | .one s, .one s' => leSV st obs fro s s'
  | .agg xs, .agg ys => All2 (leSV st obs fro) xs ys
  | _, _ => False
def leAV (st : St) (obs : List OE) (fro : List Nat) : AV → AV → Prop
  | .pk p, .pk p' => lePk st obs fro p p'
  | .tup ps, .tup qs => All2 (lePk st obs fro) ps qs
  | _, _ => False
def leVar (st : St) (obs : List OE) (fro : List Nat) (o : Option (List SV)) (ys : List SV) : Prop := match o with
  | some xs => All2 (leSV st obs fro) xs ys
  | none => False
def eachL {α : Type} (p : α → Prop) : List α → Prop
  | [] => True
  | a :: l => p a ∧ eachL p l
theorem eachL_mem {α : Type} {p : α → Prop} : ∀ {l : List α}, eachL p l → ∀ a ∈ l, p a
  | [], _, a, h => by cases h
  | b :: l, ⟨h1, h2⟩, a, h => by
    rcases List.mem_cons.mp h with rfl | h
    · exact h1
    · exact eachL_mem h2 a h
/-- What is asked of the names. -/
def namesOk (slots : List (Nat × AV)) (vars : List (Nat × List SV)) (obs : List OE) (fro : List Nat) (next : Nat) : Bool :=
  decide (1000 ≤ next) &&
  slots.all (fun p => p.2.ids.all fun i => decide (i < next)) &&
  vars.all (fun p => (decide (p.1 < next) && !fro.contains p.1) && p.2.all fun s => s.ids.all fun i => decide (i < next)) &&
  obs.all (fun e => decide (e.new < next) && (match e.old with | some o => (decide (e.new = o) || (decide (960 ≤ e.new) && decide (e.new < 1000))) && !fro.contains o | none => decide (960 ≤ e.new) && decide (e.new < 1000))) &&
  decide ((obs.map (·.new)).Nodup) && decide ((obs.filterMap (·.old)).Nodup)

def renTo (obs : List OE) (fro : List Nat) (id : Nat) : Option Nat :=
  if fro.contains id then none else match obs.find? (fun e => e.old == some id) with
    | some e => some e.new
    | none => some id
def renL (obs : List OE) (fro : List Nat) : Lab → Lab
  | .own id => match renTo obs fro id with | some id' => .own id' | none => .imm
  | .inn id i j => match renTo obs fro id with | some id' => .inn id' i j | none => .imm
  | .var id => if fro.contains id then .imm else .var id
  | L => L
theorem oeOf_mem : ∀ {obs : List OE} {k : Nat} {e : OE}, oeOf obs k = some e → e ∈ obs ∧ e.new = k
  | [], _, _, h => by cases h
  | x :: obs, k, e, h => by
    unfold oeOf at h
    split at h
    · rename_i hk; cases h; exact ⟨by simp, hk.symm⟩
    · obtain ⟨h1, h2⟩ := oeOf_mem h; exact ⟨by simp [h1], h2⟩
theorem oeOf_look : ∀ (obs : List OE) (k : Nat), look none ((obs.map fun e => (e.new, ((e.w, e.rows) : Obj'))).map fun p => (p.1, some p.2)) k = (oeOf obs k).map fun e => (e.w, e.rows)
  | [], _ => rfl
  | e :: obs, k => by
    simp only [List.map_cons, look, oeOf]
    split
    · rfl
    · exact oeOf_look obs k
theorem find_old : ∀ {obs : List OE} {e : OE} {o : Nat}, (obs.filterMap (·.old)).Nodup → e ∈ obs → e.old = some o → obs.find? (fun e => e.old == some o) = some e
  | x :: obs, e, o, hn, hm, he => by
    rw [List.find?_cons]
    rcases List.mem_cons.mp hm with rfl | hm
    · simp [he]
    · have hx : (x.old == some o) = false := by
        rcases hxo : x.old with _ | o'
        · rfl
        · simp only [List.filterMap_cons, hxo, List.nodup_cons] at hn
          have : o' ≠ o := by
            rintro rfl
            exact hn.1 (List.mem_filterMap.mpr ⟨e, hm, he⟩)
          simpa using this
      rw [hx]
      refine find_old ?_ hm he
      rcases hxo : x.old with _ | o'
      · simpa [List.filterMap_cons, hxo] using hn
      · simp only [List.filterMap_cons, hxo, List.nodup_cons] at hn; exact hn.2

theorem look_mem {α : Type} {d : α} : ∀ {l : List (Nat × α)} {k : Nat}, (look d l k = d ∧ ∀ p ∈ l, p.1 ≠ k) ∨ ∃ p ∈ l, p.1 = k ∧ look d l k = p.2
  | [], k => .inl ⟨rfl, by simp⟩
  | (i, x) :: l, k => by
    unfold look
    split
    · rename_i e; exact .inr ⟨(i, x), by simp, e.symm, rfl⟩
    · rename_i e
      rcases look_mem (d := d) (l := l) (k := k) with ⟨h1, h2⟩ | ⟨p, h1, h2, h3⟩
      · refine .inl ⟨h1, fun p hp => ?_⟩
        rcases List.mem_cons.mp hp with rfl | hp
        · exact fun h => e h.symm
        · exact h2 p hp
      · exact .inr ⟨p, by simp [h1], h2, h3⟩

section le
variable {cx : Cx} {st : St} {sh : Sh} {a : Act} {W : World} {Fr : Nat → Prop}

theorem le_st (slots : List (Nat × AV)) (vars : List (Nat × List SV)) (obs : List OE) (fro : List Nat) (next : Nat) (hn : namesOk slots vars obs fro next = true)
    (hs : eachL (fun p : Nat × AV => leAV st obs fro (st.slots p.1) p.2) slots) (hv : eachL (fun p : Nat × List SV => leVar st obs fro (st.vars p.1) p.2) vars) (ho : eachL (OE.okay st next) obs) :
    Le st (mkSt slots vars (obs.map fun e => (e.new, (e.w, e.rows))) next) := by
  intro cx a W hpins0 hinv
  obtain ⟨sh, h⟩ := hinv
  simp only [namesOk, Bool.and_eq_true, decide_eq_true_eq, List.all_eq_true] at hn
  obtain ⟨⟨⟨⟨⟨hn0, hns⟩, hnv⟩, hno⟩, hnew⟩, hold⟩ := hn
  have hs := eachL_mem hs
  have hv := eachL_mem hv
  have ho := eachL_mem ho
  -- the new labels and headers
  let sh' : Sh := ⟨fun b => renL obs fro (sh.lab b), fun id => match oeOf obs id with | some e => (match e.old with | some o => sh.μ o | none => .slice none 0 0) | none => sh.μ id, sh.β⟩
  have hvars' : ∀ {id : Nat} {fs : List SV}, (mkSt slots vars (obs.map fun e => (e.new, (e.w, e.rows))) next).vars id = some fs → ∃ p ∈ vars, p.1 = id ∧ p.2 = fs := by
    intro id fs hf
    simp only [mkSt] at hf
    rcases look_mem (d := none) (l := vars.map fun p => (p.1, some p.2)) (k := id) with ⟨e, _⟩ | ⟨p, hp, e1, e2⟩
    · rw [e] at hf; cases hf
    · rw [e2] at hf
      obtain ⟨q, hq, rfl⟩ := List.mem_map.mp hp
      simp only [Option.some.injEq] at hf
      exact ⟨q, hq, e1, hf⟩
  have hobjs' : ∀ {id w : Nat} {rows : Rows}, (mkSt slots vars (obs.map fun e => (e.new, (e.w, e.rows))) next).objs id = some (w, rows) → ∃ e, oeOf obs id = some e ∧ e ∈ obs ∧ e.new = id ∧ e.w = w ∧ e.rows = rows := by
    intro id w rows hf
    simp only [mkSt] at hf
    rw [oeOf_look] at hf
    simp only [Option.map_eq_some_iff, Prod.mk.injEq] at hf
    obtain ⟨e, h1, rfl, rfl⟩ := hf
    obtain ⟨h2, h3⟩ := oeOf_mem h1
    exact ⟨e, h1, h2, h3, rfl, rfl⟩
  have himm : ∀ b, sh.lab b = .imm → sh'.lab b = .imm := fun b hb => by show renL obs fro (sh.lab b) = _; rw [hb]; rfl
  have hag : Agree W sh.lab W sh'.lab (· = .imm) := fun b hb => ⟨by rw [himm b hb, hb], rfl⟩
  have hren : ∀ {e : OE} {o : Nat}, e ∈ obs → e.old = some o → renTo obs fro o = some e.new := by
    intro e o hm he
    have h1 := (hno e hm).2
    rw [he] at h1
    simp only [Bool.and_eq_true, Bool.not_eq_true'] at h1
    unfold renTo
    rw [h1.2, find_old hold hm he]
    simp
  have hfro : ∀ id, id ∈ fro → ∀ b, ofId (sh.lab b) id → sh'.lab b = .imm := by
    intro id hid b hb
    have hr : renTo obs fro id = none := by unfold renTo; simp [hid]
    show renL obs fro (sh.lab b) = _
    rcases hb with e | ⟨i, j, e⟩ | e
    · rw [e]; simp only [renL, hr]
    · rw [e]; simp only [renL, hr]
    · rw [e]; simp [renL, hid]
  -- a slice of one's own
  have hcells : ∀ {e : OE}, e ∈ obs → ∀ {o : Nat}, e.old = some o → ∃ rows, st.objs o = some (e.w, rows) ∧ e.rows.length = rows.length ∧ OwnRep W sh'.lab e.new e.w e.rows (sh.μ o) ∧ (e.exact = true → e.rows = rows ∧ stampsLt next rows) ∧ (e.exact = false → e.rows = stm 999 rows) := by
    intro e hm o he
    have h1 := ho e hm
    unfold OE.okay at h1
    rw [he] at h1
    simp only at h1
    rcases hob : st.objs o with _ | ⟨w, rows⟩
    · rw [hob] at h1; exact h1.elim
    · rw [hob] at h1
      simp only at h1
      obtain ⟨hw, h1⟩ := h1
      have hr := hren hm he
      have hrep : OwnRep W sh'.lab e.new w rows (sh.μ o) := ownRep_map (lab := sh.lab) (.inl himm)
        (fun b hb => by show renL obs fro (sh.lab b) = _; rw [hb]; simp only [renL, hr]) (fun b i j hb => by show renL obs fro (sh.lab b) = _; rw [hb]; simp only [renL, hr]) (h.objs o w rows hob)
      rw [hw]
      refine ⟨rows, rfl, ?_, ?_, ?_, ?_⟩
      · cases hx : e.exact <;> rw [hx] at h1 <;> simp at h1
        · rw [h1, stm_length]
        · rw [h1.1]
      · cases hx : e.exact <;> rw [hx] at h1 <;> simp at h1
        · rw [h1]; exact ownRep_stm (by omega) hrep
        · rw [h1.1]; exact hrep
      · intro hx; rw [hx] at h1; simpa using h1
      · intro hx; rw [hx] at h1; simpa using h1
  have hμ : ∀ {id : Nat} {e : OE} {o : Nat}, oeOf obs id = some e → e.old = some o → sh'.μ id = sh.μ o := by
    intro id e o h1 h2
    show (match oeOf obs id with | some e => (match e.old with | some o => sh.μ o | none => .slice none 0 0) | none => sh.μ id) = _
    rw [h1]; simp only; rw [h2]
  have key : ∀ {s s' : SV} {v : Value}, SVRep st W sh s v → leSV st obs fro s s' → SVRep (mkSt slots vars (obs.map fun e => (e.new, (e.w, e.rows))) next) W sh' s' v := by
    intro s s' v hr hl
    by_cases hun : s' = .un
    · subst hun; trivial
    have froCase : ∀ {w' : Nat} {rows rows' : Rows} , (∀ id ∈ s.ids', id ∈ fro) → (∀ k j, s ≠ .vad k j) → (∀ f ids, s ≠ .fnv f ids) → st.rows s = some (w', rows) → rows' = frz rows → ImRep W sh'.lab w' rows' v := by
      rintro w' rows rows' hid _ _ hrows rfl
      exact h.lendRows hr hrows himm fun id hi b hb => hfro id (hid id hi) b hb
    cases s with
    | un => cases s' <;> first | exact absurd rfl hun | exact hl.elim
    | sc x =>
      have e : v = x := hr
      subst e
      cases s' with
      | un => exact absurd rfl hun
      | sc y => exact hl.symm
      | im w rows =>
        obtain ⟨h1, rfl⟩ := hl
        rw [isNil_eq h1]; exact imRep_nil
      | ref id' w off len =>
        obtain ⟨h1, rfl, rfl, h2⟩ := hl
        intro w' rows' ho'
        obtain ⟨e, g1, g2, g3, g4, g5⟩ := hobjs' ho'
        rw [g1] at h2
        simp only at h2
        exact ⟨by omega, by omega, .inr ⟨rfl, none, isNil_eq h1⟩⟩
      | _ => exact hl.elim
    | im w rows => cases s' with
      | un => exact absurd rfl hun
      | im w' rows' =>
        obtain ⟨rfl, rfl⟩ := hl
        exact imRep_agree hag rfl hr
      | _ => exact hl.elim
    | ref id w off len => cases s' with
      | un => exact absurd rfl hun
      | ref id' w' off' len' =>
        obtain ⟨rfl, rfl, rfl, hl⟩ := hl
        intro w2 rows2 ho'
        obtain ⟨e, g1, g2, g3, g4, g5⟩ := hobjs' ho'
        rw [g1] at hl
        simp only at hl
        obtain ⟨rows, q1, q2, _⟩ := hcells g2 hl
        obtain ⟨a1, a2, a3⟩ := hr _ rows q1
        rw [hμ g1 hl]
        exact ⟨by omega, by rw [← g5, q2]; exact a2, a3⟩
      | im w' rows' =>
        obtain ⟨hf, rows, h1, h2⟩ := hl
        exact froCase (fun q hq => by simp only [SV.ids', List.mem_singleton] at hq; rw [hq]; exact hf) (by simp) (by simp) h1 h2
      | _ => exact hl.elim
    | rin id i j s off len => cases s' with
      | un => exact absurd rfl hun
      | rin id' i' j' s2 off' len' =>
        obtain ⟨rfl, rfl, rfl, rfl, rfl, hl⟩ := hl
        refine ⟨hr.1, fun w2 rows2 xs2 ho' hc => ?_⟩
        obtain ⟨e, g1, g2, g3, g4, g5⟩ := hobjs' ho'
        rw [g1] at hl
        simp only at hl
        obtain ⟨hl, hx⟩ := hl
        obtain ⟨rows, q1, q2, _, q3, _⟩ := hcells g2 hl
        have hrr := (q3 hx).1
        rw [← g5, hrr] at hc
        rw [hμ g1 hl, ← g4]
        exact hr.2 _ rows xs2 q1 hc
      | im w' rows' =>
        obtain ⟨hf, rows, h1, h2⟩ := hl
        exact froCase (fun q hq => by simp only [SV.ids', List.mem_singleton] at hq; rw [hq]; exact hf) (by simp) (by simp) h1 h2
      | _ => exact hl.elim
    | vad id j => cases s' with
      | un => exact absurd rfl hun
      | vad id' j' =>
        obtain ⟨rfl, rfl⟩ := hl
        intro fs hf
        obtain ⟨p, p1, p2, p3⟩ := hvars' hf
        have := hv p p1
        unfold leVar at this
        rw [p2] at this
        rcases hst : st.vars id' with _ | xs
        · rw [hst] at this; exact this.elim
        · exact hr xs hst
      | _ => exact hl.elim
    | oad id i j => cases s' <;> first | exact absurd rfl hun | exact hl.elim
    | oin id i j s k => cases s' <;> first | exact absurd rfl hun | exact hl.elim
    | iad row j => cases s' with
      | un => exact absurd rfl hun
      | iad row' j' =>
        obtain ⟨rfl, rfl⟩ := hl
        obtain ⟨b, o, e, hlb, hrow⟩ := hr
        exact ⟨b, o, e, himm b hlb, imRow_agree hag rfl hlb hrow⟩
      | _ => exact hl.elim
    | ipt fs j => cases s' with
      | un => exact absurd rfl hun
      | ipt fs' j' =>
        obtain ⟨rfl, rfl⟩ := hl
        exact ipRep_agree hag rfl hr
      | _ => exact hl.elim
    | fnv f ids => cases s' with
      | un => exact absurd rfl hun
      | fnv f' ids' =>
        obtain ⟨rfl, rfl⟩ := hl
        obtain ⟨cs, e, hc⟩ := hr
        refine ⟨cs, e, all2_mono (fun id u _ g fs hf => ?_) hc⟩
        obtain ⟨p, p1, p2, p3⟩ := hvars' hf
        have := hv p p1
        unfold leVar at this
        rw [p2] at this
        rcases hst : st.vars id with _ | xs
        · rw [hst] at this; exact this.elim
        · exact g xs hst
      | _ => exact hl.elim
    | fni f caps => cases s' with
      | un => exact absurd rfl hun
      | fni f' caps' =>
        obtain ⟨rfl, rfl⟩ := hl
        obtain ⟨cs, e, hc⟩ := hr
        exact ⟨cs, e, all2_mono (fun _ _ _ g => ipRep_agree hag rfl g) hc⟩
      | _ => exact hl.elim
  have all2_tr : ∀ {xs ys : List SV} {vs : List Value}, All2 (SVRep st W sh) xs vs → All2 (leSV st obs fro) xs ys → All2 (SVRep (mkSt slots vars (obs.map fun e => (e.new, (e.w, e.rows))) next) W sh') ys vs := by
    intro xs
    induction xs with
    | nil => intro ys vs h1 h2; cases ys <;> cases vs <;> first | exact h1.elim | exact h2.elim | trivial
    | cons x xs ih =>
      intro ys vs h1 h2
      cases ys with
      | nil => exact h2.elim
      | cons y ys => cases vs with
        | nil => exact h1.elim
        | cons v vs => exact ⟨key h1.1 h2.1, ih h1.2 h2.2⟩
  have pkk : ∀ {p p' : Pk} {v : Value}, PkRep st W sh p v → lePk st obs fro p p' → PkRep (mkSt slots vars (obs.map fun e => (e.new, (e.w, e.rows))) next) W sh' p' v := by
    intro p p' v h1 h2
    cases p <;> cases p' <;> first | exact h2.elim | skip
    · exact key h1 h2
    · obtain ⟨cs, e, hc⟩ := h1
      exact ⟨cs, e, all2_tr hc h2⟩
  have pks_tr : ∀ {ps qs : List Pk} {vs : List Value}, All2 (PkRep st W sh) ps vs → All2 (lePk st obs fro) ps qs → All2 (PkRep (mkSt slots vars (obs.map fun e => (e.new, (e.w, e.rows))) next) W sh') qs vs := by
    intro ps
    induction ps with
    | nil => intro ys vs h1 h2; cases ys <;> cases vs <;> first | exact h1.elim | exact h2.elim | trivial
    | cons x xs ih =>
      intro ys vs h1 h2
      cases ys with
      | nil => exact h2.elim
      | cons y ys => cases vs with
        | nil => exact h1.elim
        | cons v vs => exact ⟨pkk h1.1 h2.1, ih h1.2 h2.2⟩
  refine ⟨sh', h.defers, h.size, ?_, fun t => ?_, fun id fs hf => ?_, fun id w rows hb => ?_, fun id hf => ⟨?_, ?_, fun t hq => ?_, fun k fs hk s hs' hq => ?_⟩, fun id hf => ?_, fun id w rows i j s xs hb hc hf => ?_, fun k v hm hne => ?_, fun k v hm hne => ?_⟩
  · obtain ⟨h1, h2, h3, h4, h5, h6⟩ := h.ext
    refine ⟨h1, h2, h3, h4, fun b hb hl => ?_, fun b hb => ?_⟩
    · obtain ⟨g1, g2⟩ := h5 b hb hl
      refine ⟨?_, g2⟩
      show renL obs fro (sh.lab b) = _
      rcases hl with e | e <;> rw [g1, e] <;> rfl
    · show renL obs fro (sh.lab b) = _
      rw [h6 b hb]; rfl
  · show AVRep _ W sh' (look .un slots t) _
    rcases look_mem (d := AV.un) (l := slots) (k := t) with ⟨e, _⟩ | ⟨p, hp, e1, e2⟩
    · rw [e]; trivial
    · rw [e2]
      have h1 := hs p hp
      have h2 := h.slots t
      rw [e1] at h1
      revert h1 h2
      generalize st.slots t = x
      generalize p.2 = y
      intro h1 h2
      cases x <;> cases y <;> first | exact h1.elim | skip
      · exact pkk h2 h1
      · obtain ⟨vs, e, hc⟩ := h2
        exact ⟨vs, e, pks_tr hc h1⟩
  · obtain ⟨p, p1, p2, p3⟩ := hvars' hf
    have h1 := hv p p1
    rw [p2, p3] at h1
    unfold leVar at h1
    rcases hst : st.vars id with _ | xs
    · rw [hst] at h1; exact h1.elim
    · rw [hst] at h1
      obtain ⟨g1, c, t, g2, g3⟩ := h.vars id xs hst
      refine ⟨?_, c, t, g2, all2_tr g3 h1⟩
      show renL obs fro (sh.lab (sh.β id)) = _
      have h2 := hnv p p1
      simp only [Bool.and_eq_true, decide_eq_true_eq, Bool.not_eq_true'] at h2
      rw [g1]; simp only [renL]; rw [← p2, h2.1.2]; simp
  · obtain ⟨e, g1, g2, g3, g4, g5⟩ := hobjs' hb
    rcases heo : e.old with _ | o
    · have h1 := ho e g2
      unfold OE.okay at h1
      rw [heo] at h1
      have : sh'.μ id = .slice none 0 0 := by
        show (match oeOf obs id with | some e => (match e.old with | some o => sh.μ o | none => .slice none 0 0) | none => sh.μ id) = _
        rw [g1]; simp only; rw [heo]
      rw [this, ← g5, h1.1, ← g4]
      exact ownRep_nil h1.2
    · obtain ⟨rows0, q1, q2, q3, _⟩ := hcells g2 heo
      rw [hμ g1 heo, ← g3, ← g4, ← g5]
      exact q3
  · rcases hq : (mkSt slots vars (obs.map fun e => (e.new, (e.w, e.rows))) next).vars id with _ | fs
    · exact hq
    · obtain ⟨p, p1, p2, _⟩ := hvars' hq
      have := (hnv p p1).1.1
      have hf : next ≤ id := hf
      omega
  · rcases hq : (mkSt slots vars (obs.map fun e => (e.new, (e.w, e.rows))) next).objs id with _ | ⟨w, rows⟩
    · exact hq
    · obtain ⟨e, _, g2, g3, _⟩ := hobjs' hq
      have := (hno e g2).1
      have hf : next ≤ id := hf
      omega
  · have hf : next ≤ id := hf
    have hq : id ∈ (look .un slots t).ids := hq
    rcases look_mem (d := AV.un) (l := slots) (k := t) with ⟨e, _⟩ | ⟨p, hp, e1, e2⟩
    · rw [e] at hq; simp [AV.ids, AV.svs, Pk.svs, SV.ids] at hq
    · rw [e2] at hq
      have := hns p hp id hq
      omega
  · have hf : next ≤ id := hf
    obtain ⟨p, p1, p2, p3⟩ := hvars' hk
    have := (hnv p p1)
    rw [p3] at this
    have := this.2 s hs' id hq
    omega
  · have hf : next ≤ id := hf
    omega
  · have hf : next ≤ s := hf
    obtain ⟨e, g1, g2, g3, g4, g5⟩ := hobjs' hb
    rcases heo : e.old with _ | o
    · have h1 := ho e g2
      unfold OE.okay at h1
      rw [heo] at h1
      rw [← g5, h1.1] at hc
      have := (cell_ne hc).1
      simp at this
    · obtain ⟨rows0, q1, q2, q3, q4, q5⟩ := hcells g2 heo
      cases hx : e.exact with
      | true =>
        obtain ⟨z1, z2⟩ := q4 hx
        rw [← g5, z1] at hc
        obtain ⟨r, hi, hj⟩ := cell_get hc (by simp)
        have := z2 r (List.mem_of_getElem? hi) s xs (List.mem_of_getElem? hj)
        omega
      | false =>
        have z1 := q5 hx
        rw [← g5, z1] at hc
        rcases stm_cell (by omega) hc with z | z <;> omega
  · rcases hq : (mkSt slots vars (obs.map fun e => (e.new, (e.w, e.rows))) next).objs k with _ | ⟨w, rows⟩
    · exact absurd hq hne
    · obtain ⟨e, g1, g2, g3, _⟩ := hobjs' hq
      have hk := hpins0 _ hm
      have h1 := (hno e g2).2
      rcases heo : e.old with _ | o
      · rw [heo] at h1
        simp only [Bool.and_eq_true, decide_eq_true_eq] at h1
        have hk : k < 960 := hk
        omega
      · rw [heo] at h1
        simp only [Bool.and_eq_true, Bool.or_eq_true, decide_eq_true_eq] at h1
        have hk : k < 960 := hk
        have : o = k := by omega
        subst this
        obtain ⟨rows0, q1, _⟩ := hcells g2 heo
        rw [hμ g1 heo]
        exact h.pinO o v hm (by rw [q1]; simp)
  · obtain ⟨fs, hfs⟩ := Option.ne_none_iff_exists'.mp hne
    obtain ⟨p, p1, p2, p3⟩ := hvars' hfs
    have h1 := hv p p1
    rw [p2] at h1
    unfold leVar at h1
    rcases hst : st.vars k with _ | xs
    · rw [hst] at h1; exact h1.elim
    · exact h.pinV k v hm (by rw [hst]; simp)
end le
end Go.Proofs.Ytkcbnbbbijlhcai.A
