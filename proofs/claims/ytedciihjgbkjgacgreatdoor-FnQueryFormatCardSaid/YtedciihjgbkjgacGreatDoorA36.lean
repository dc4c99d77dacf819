/- THE ABSTRACT SEMANTICS IS SOUND, thirtieth part: a state may be restated (renamed slices, forgotten slots, frozen slices). Conditions: none. -/
import Derived.Test.YtedciihjgbkjgacGreatDoorA33
namespace Go.Proofs.YtedciihjgbkjgacGreatDoor.A
open Go
set_option linter.unusedSimpArgs false
set_option linter.unusedVariables false

/-- A slice of one's own in the new state: its name, its name in the old one, are its inner stamps kept. -/
structure OE where
  new : Nat
  old : Option Nat
  exact : Bool
  w : Nat
  rows : Rows
def oeOf : List OE → Nat → Option OE
  | [], _ => none
  | e :: r, k => if k = e.new then some e else oeOf r k
def stampsLt (n : Nat) (rows : Rows) : Prop := ∀ r ∈ rows, ∀ s xs, Cell.sl s xs ∈ r → s < n
def OE.okay (st : St) (next : Nat) (e : OE) : Prop :=
  match e.old with
  | none => e.rows = [] ∧ 0 < e.w
  | some o => match st.objs o with
    | some (w, rows) => e.w = w ∧ (if e.exact then e.rows = rows ∧ stampsLt next rows else e.rows = stm 999 rows)
    | none => False
def leSV (st : St) (obs : List OE) (fro : List Nat) : SV → SV → Prop
  | _, .un => True
  | .sc v, .sc v' => v' = v
  | .sc v, .im _ rows => isNil v = true ∧ rows = []
  | .sc v, .ref id' w off len => isNil v = true ∧ off = 0 ∧ len = 0 ∧ (match oeOf obs id' with | some e => e.w = w | none => True)
  | .im w rows, .im w' rows' => w' = w ∧ rows' = rows
  | .ref id w off len, .ref id' w' off' len' => w' = w ∧ off' = off ∧ len' = len ∧ (match oeOf obs id' with | some e => e.old = some id | none => True)
  | .ref id w off len, .im w' rows' => id ∈ fro ∧ ∃ rows, st.rows (.ref id w off len) = some (w', rows) ∧ rows' = frz rows
  | .rin id i j s off len, .rin id' i' j' s' off' len' => i' = i ∧ j' = j ∧ s' = s ∧ off' = off ∧ len' = len ∧ (match oeOf obs id' with | some e => e.old = some id ∧ e.exact = true | none => True)
  | .rin id i j s off len, .im w' rows' => id ∈ fro ∧ ∃ rows, st.rows (.rin id i j s off len) = some (w', rows) ∧ rows' = frz rows
  | .vad id j, .vad id' j' => id' = id ∧ j' = j
  | .vad id j, .ipt fs j' => id ∈ fro ∧ j' = j ∧ st.vars id = some (fs.map Fld.sv)
  | .iad row j, .iad row' j' => row' = row ∧ j' = j
  | .ipt fs j, .ipt fs' j' => fs' = fs ∧ j' = j
  | .fnv f ids, .fnv f' ids' => f' = f ∧ ids' = ids
  | .fni f caps, .fni f' caps' => f' = f ∧ caps' = caps
  | _, _ => False
def lePk (st : St) (obs : List OE) (fro : List Nat) : Pk → Pk → Prop
  | .one s, .one s' => leSV st obs fro s s'
  | .agg xs, .agg ys => All2 (leSV st obs fro) xs ys
  | _, _ => False
def leAV (st : St) (obs : List OE) (fro : List Nat) : AV → AV → Prop
  | .pk p, .pk p' => lePk st obs fro p p'
  | .tup ps, .tup qs => All2 (lePk st obs fro) ps qs
  | _, _ => False
def leVar (st : St) (obs : List OE) (fro : List Nat) (o : Option (List SV)) (ys : List SV) : Prop := match o with
  | some xs => All2 (leSV st obs fro) xs ys
  | none => False
def eachL {α : Type} (p : α → Prop) : List α → Prop
  | [] => True
  | a :: l => p a ∧ eachL p l
theorem eachL_mem {α : Type} {p : α → Prop} : ∀ {l : List α}, eachL p l → ∀ a ∈ l, p a
  | [], _, a, h => by cases h
  | b :: l, ⟨h1, h2⟩, a, h => by
    rcases List.mem_cons.mp h with rfl | h
    · exact h1
    · exact eachL_mem h2 a h
/-- What is asked of the names. -/
def namesOk (slots : List (Nat × AV)) (vars : List (Nat × List SV)) (obs : List OE) (fro : List Nat) (next : Nat) : Bool :=
  decide (1000 ≤ next) &&
  slots.all (fun p => p.2.ids.all fun i => decide (i < next)) &&
  vars.all (fun p => (decide (p.1 < next) && !fro.contains p.1) && p.2.all fun s => s.ids.all fun i => decide (i < next)) &&
  obs.all (fun e => decide (e.new < next) && (match e.old with | some o => (decide (e.new = o) || (decide (960 ≤ e.new) && decide (e.new < 1000))) && !fro.contains o | none => decide (960 ≤ e.new) && decide (e.new < 1000))) &&
  decide ((obs.map (·.new)).Nodup) && decide ((obs.filterMap (·.old)).Nodup)

def renTo (obs : List OE) (fro : List Nat) (id : Nat) : Option Nat :=
  if fro.contains id then none else match obs.find? (fun e => e.old == some id) with
    | some e => some e.new
    | none => some id
def renL (obs : List OE) (fro : List Nat) : Lab → Lab
  | .own id => match renTo obs fro id with | some id' => .own id' | none => .imm
  | .inn id i j => match renTo obs fro id with | some id' => .inn id' i j | none => .imm
  | .var id => if fro.contains id then .imm else .var id
  | L => L
theorem oeOf_mem : ∀ {obs : List OE} {k : Nat} {e : OE}, oeOf obs k = some e → e ∈ obs ∧ e.new = k
  | [], _, _, h => by cases h
  | x :: obs, k, e, h => by
    unfold oeOf at h
    split at h
    · rename_i hk; cases h; exact ⟨by simp, hk.symm⟩
    · obtain ⟨h1, h2⟩ := oeOf_mem h; exact ⟨by simp [h1], h2⟩
theorem oeOf_look : ∀ (obs : List OE) (k : Nat), look none ((obs.map fun e => (e.new, ((e.w, e.rows) : Obj'))).map fun p => (p.1, some p.2)) k = (oeOf obs k).map fun e => (e.w, e.rows)
  | [], _ => rfl
  | e :: obs, k => by
    simp only [List.map_cons, look, oeOf]
    split
    · rfl
    · exact oeOf_look obs k
theorem find_old : ∀ {obs : List OE} {e : OE} {o : Nat}, (obs.filterMap (·.old)).Nodup → e ∈ obs → e.old = some o → obs.find? (fun e => e.old == some o) = some e
  | x :: obs, e, o, hn, hm, he => by
    rw [List.find?_cons]
    rcases List.mem_cons.mp hm with rfl | hm
    · simp [he]
    · have hx : (x.old == some o) = false := by
        rcases hxo : x.old with _ | o'
        · rfl
        · simp only [List.filterMap_cons, hxo, List.nodup_cons] at hn
          have : o' ≠ o := by
            rintro rfl
            exact hn.1 (List.mem_filterMap.mpr ⟨e, hm, he⟩)
          simpa using this
      rw [hx]
      refine find_old ?_ hm he
      rcases hxo : x.old with _ | o'
      · simpa [List.filterMap_cons, hxo] using hn
      · simp only [List.filterMap_cons, hxo, List.nodup_cons] at hn; exact hn.2

theorem look_mem {α : Type} {d : α} : ∀ {l : List (Nat × α)} {k : Nat}, (look d l k = d ∧ ∀ p ∈ l, p.1 ≠ k) ∨ ∃ p ∈ l, p.1 = k ∧ look d l k = p.2
  | [], k => .inl ⟨rfl, by simp⟩
  | (i, x) :: l, k => by
    unfold look
    split
    · rename_i e; exact .inr ⟨(i, x), by simp, e.symm, rfl⟩
    · rename_i e
      rcases look_mem (d := d) (l := l) (k := k) with ⟨h1, h2⟩ | ⟨p, h1, h2, h3⟩
      · refine .inl ⟨h1, fun p hp => ?_⟩
        rcases List.mem_cons.mp hp with rfl | hp
        · exact fun h => e h.symm
        · exact h2 p hp
      · exact .inr ⟨p, by simp [h1], h2, h3⟩

section le
variable {cx : Cx} {st : St} {sh : Sh} {a : Act} {W : World} {Fr : Nat → Prop}

theorem le_st (slots : List (Nat × AV)) (vars : List (Nat × List SV)) (obs : List OE) (fro : List Nat) (next : Nat) (hn : namesOk slots vars obs fro next = true)
    (hs : eachL (fun p : Nat × AV => leAV st obs fro (st.slots p.1) p.2) slots) (hv : eachL (fun p : Nat × List SV => leVar st obs fro (st.vars p.1) p.2) vars) (ho : eachL (OE.okay st next) obs) :
    Le st (mkSt slots vars (obs.map fun e => (e.new, (e.w, e.rows))) next) := by
  intro cx a W hpins0 hinv
  obtain ⟨sh, h⟩ := hinv
  simp only [namesOk, Bool.and_eq_true, decide_eq_true_eq, List.all_eq_true] at hn
  obtain ⟨⟨⟨⟨⟨hn0, hns⟩, hnv⟩, hno⟩, hnew⟩, hold⟩ := hn
  have hs := eachL_mem hs
  have hv := eachL_mem hv
  have ho := eachL_mem ho
  -- the new labels and headers
  let sh' : Sh := ⟨fun b => renL obs fro (sh.lab b), fun id => match oeOf obs id with | some e => (match e.old with | some o => sh.μ o | none => .slice none 0 0) | none => sh.μ id, sh.β⟩
  have hvars' : ∀ {id : Nat} {fs : List SV}, (mkSt slots vars (obs.map fun e => (e.new, (e.w, e.rows))) next).vars id = some fs → ∃ p ∈ vars, p.1 = id ∧ p.2 = fs := by
    intro id fs hf
    simp only [mkSt] at hf
    rcases look_mem (d := none) (l := vars.map fun p => (p.1, some p.2)) (k := id) with ⟨e, _⟩ | ⟨p, hp, e1, e2⟩
    · rw [e] at hf; cases hf
    · rw [e2] at hf
      obtain ⟨q, hq, rfl⟩ := List.mem_map.mp hp
      simp only [Option.some.injEq] at hf
      exact ⟨q, hq, e1, hf⟩
  have hobjs' : ∀ {id w : Nat} {rows : Rows}, (mkSt slots vars (obs.map fun e => (e.new, (e.w, e.rows))) next).objs id = some (w, rows) → ∃ e, oeOf obs id = some e ∧ e ∈ obs ∧ e.new = id ∧ e.w = w ∧ e.rows = rows := by
    intro id w rows hf
    simp only [mkSt] at hf
    rw [oeOf_look] at hf
    simp only [Option.map_eq_some_iff, Prod.mk.injEq] at hf
    obtain ⟨e, h1, rfl, rfl⟩ := hf
    obtain ⟨h2, h3⟩ := oeOf_mem h1
    exact ⟨e, h1, h2, h3, rfl, rfl⟩
  have himm : ∀ b, sh.lab b = .imm → sh'.lab b = .imm := fun b hb => by show renL obs fro (sh.lab b) = _; rw [hb]; rfl
  have hag : Agree W sh.lab W sh'.lab (· = .imm) := fun b hb => ⟨by rw [himm b hb, hb], rfl⟩
  have hren : ∀ {e : OE} {o : Nat}, e ∈ obs → e.old = some o → renTo obs fro o = some e.new := by
    intro e o hm he
    have h1 := (hno e hm).2
    rw [he] at h1
    simp only [Bool.and_eq_true, Bool.not_eq_true'] at h1
    unfold renTo
    rw [h1.2, find_old hold hm he]
    simp
  have hfro : ∀ id, id ∈ fro → ∀ b, ofId (sh.lab b) id → sh'.lab b = .imm := by
    intro id hid b hb
    have hr : renTo obs fro id = none := by unfold renTo; simp [hid]
    show renL obs fro (sh.lab b) = _
    rcases hb with e | ⟨i, j, e⟩ | e
    · rw [e]; simp only [renL, hr]
    · rw [e]; simp only [renL, hr]
    · rw [e]; simp [renL, hid]
  -- a slice of one's own
  have hcells : ∀ {e : OE}, e ∈ obs → ∀ {o : Nat}, e.old = some o → ∃ rows, st.objs o = some (e.w, rows) ∧ e.rows.length = rows.length ∧ OwnRep W sh'.lab e.new e.w e.rows (sh.μ o) ∧ (e.exact = true → e.rows = rows ∧ stampsLt next rows) ∧ (e.exact = false → e.rows = stm 999 rows) := by
    intro e hm o he
    have h1 := ho e hm
    unfold OE.okay at h1
    rw [he] at h1
    simp only at h1
    rcases hob : st.objs o with _ | ⟨w, rows⟩
    · rw [hob] at h1; exact h1.elim
    · rw [hob] at h1
      simp only at h1
      obtain ⟨hw, h1⟩ := h1
      have hr := hren hm he
      have hrep : OwnRep W sh'.lab e.new w rows (sh.μ o) := ownRep_map (lab := sh.lab) (.inl himm)
        (fun b hb => by show renL obs fro (sh.lab b) = _; rw [hb]; simp only [renL, hr]) (fun b i j hb => by show renL obs fro (sh.lab b) = _; rw [hb]; simp only [renL, hr]) (h.objs o w rows hob)
      rw [hw]
      refine ⟨rows, rfl, ?_, ?_, ?_, ?_⟩
      · cases hx : e.exact <;> rw [hx] at h1 <;> simp at h1
        · rw [h1, stm_length]
        · rw [h1.1]
      · cases hx : e.exact <;> rw [hx] at h1 <;> simp at h1
        · rw [h1]; exact ownRep_stm (by omega) hrep
        · rw [h1.1]; exact hrep
      · intro hx; rw [hx] at h1; simpa using h1
      · intro hx; rw [hx] at h1; simpa using h1
  have hμ : ∀ {id : Nat} {e : OE} {o : Nat}, oeOf obs id = some e → e.old = some o → sh'.μ id = sh.μ o := by
    intro id e o h1 h2
    show (match oeOf obs id with | some e => (match e.old with | some o => sh.μ o | none => .slice none 0 0) | none => sh.μ id) = _
    rw [h1]; simp only; rw [h2]
  have key : ∀ {s s' : SV} {v : Value}, SVRep st W sh s v → leSV st obs fro s s' → SVRep (mkSt slots vars (obs.map fun e => (e.new, (e.w, e.rows))) next) W sh' s' v := by
    intro s s' v hr hl
    by_cases hun : s' = .un
    · subst hun; trivial
    have froCase : ∀ {w' : Nat} {rows rows' : Rows} , (∀ id ∈ s.ids', id ∈ fro) → (∀ k j, s ≠ .vad k j) → (∀ f ids, s ≠ .fnv f ids) → st.rows s = some (w', rows) → rows' = frz rows → ImRep W sh'.lab w' rows' v := by
      rintro w' rows rows' hid _ _ hrows rfl
      exact h.lendRows hr hrows himm fun id hi b hb => hfro id (hid id hi) b hb
    cases s with
    | un => cases s' <;> first | exact absurd rfl hun | exact hl.elim
    | sc x =>
      have e : v = x := hr
      subst e
      cases s' with
      | un => exact absurd rfl hun
      | sc y => exact hl.symm
      | im w rows =>
        obtain ⟨h1, rfl⟩ := hl
        rw [isNil_eq h1]; exact imRep_nil
      | ref id' w off len =>
        obtain ⟨h1, rfl, rfl, h2⟩ := hl
        intro w' rows' ho'
        obtain ⟨e, g1, g2, g3, g4, g5⟩ := hobjs' ho'
        rw [g1] at h2
        simp only at h2
        exact ⟨by omega, by omega, .inr ⟨rfl, none, isNil_eq h1⟩⟩
      | _ => exact hl.elim
    | im w rows => cases s' with
      | un => exact absurd rfl hun
      | im w' rows' =>
        obtain ⟨rfl, rfl⟩ := hl
        exact imRep_agree hag rfl hr
      | _ => exact hl.elim
    | ref id w off len => cases s' with
      | un => exact absurd rfl hun
      | ref id' w' off' len' =>
        obtain ⟨rfl, rfl, rfl, hl⟩ := hl
        intro w2 rows2 ho'
        obtain ⟨e, g1, g2, g3, g4, g5⟩ := hobjs' ho'
        rw [g1] at hl
        simp only at hl
        obtain ⟨rows, q1, q2, _⟩ := hcells g2 hl
        obtain ⟨a1, a2, a3⟩ := hr _ rows q1
        rw [hμ g1 hl]
        exact ⟨by omega, by rw [← g5, q2]; exact a2, a3⟩
      | im w' rows' =>
        obtain ⟨hf, rows, h1, h2⟩ := hl
        exact froCase (fun q hq => by simp only [SV.ids', List.mem_singleton] at hq; rw [hq]; exact hf) (by simp) (by simp) h1 h2
      | _ => exact hl.elim
    | rin id i j s off len => cases s' with
      | un => exact absurd rfl hun
      | rin id' i' j' s2 off' len' =>
        obtain ⟨rfl, rfl, rfl, rfl, rfl, hl⟩ := hl
        refine ⟨hr.1, fun w2 rows2 xs2 ho' hc => ?_⟩
        obtain ⟨e, g1, g2, g3, g4, g5⟩ := hobjs' ho'
        rw [g1] at hl
        simp only at hl
        obtain ⟨hl, hx⟩ := hl
        obtain ⟨rows, q1, q2, _, q3, _⟩ := hcells g2 hl
        have hrr := (q3 hx).1
        rw [← g5, hrr] at hc
        rw [hμ g1 hl, ← g4]
        exact hr.2 _ rows xs2 q1 hc
      | im w' rows' =>
        obtain ⟨hf, rows, h1, h2⟩ := hl
        exact froCase (fun q hq => by simp only [SV.ids', List.mem_singleton] at hq; rw [hq]; exact hf) (by simp) (by simp) h1 h2
      | _ => exact hl.elim
    | vad id j => cases s' with
      | un => exact absurd rfl hun
      | vad id' j' =>
        obtain ⟨rfl, rfl⟩ := hl
        intro fs hf
        obtain ⟨p, p1, p2, p3⟩ := hvars' hf
        have := hv p p1
        unfold leVar at this
        rw [p2] at this
        rcases hst : st.vars id' with _ | xs
        · rw [hst] at this; exact this.elim
        · exact hr xs hst
      | ipt fs j' =>
        obtain ⟨hf, rfl, hv'⟩ := hl
        have e := hr _ hv'
        obtain ⟨g1, c, t, g2, g3⟩ := h.vars id _ hv'
        refine ⟨sh.β id, 0, by rw [e, Nat.zero_add], hfro id hf _ (.inr (.inr g1)), fun k f hk => ?_⟩
        obtain ⟨u, k1, k2⟩ := all2_get g3 (show (fs.map Fld.sv)[k]? = some f.sv by rw [List.getElem?_map, hk]; rfl)
        refine ⟨u, by rw [cell_cells g2, Nat.zero_add]; simpa using k1, ?_⟩
        cases f with
        | sc x => exact k2
        | im w rows => exact imRep_agree hag rfl k2
      | _ => exact hl.elim
    | oad id i j => cases s' <;> first | exact absurd rfl hun | exact hl.elim
    | oin id i j s k => cases s' <;> first | exact absurd rfl hun | exact hl.elim
    | iad row j => cases s' with
      | un => exact absurd rfl hun
      | iad row' j' =>
        obtain ⟨rfl, rfl⟩ := hl
        obtain ⟨b, o, e, hlb, hrow⟩ := hr
        exact ⟨b, o, e, himm b hlb, imRow_agree hag rfl hlb hrow⟩
      | _ => exact hl.elim
    | ipt fs j => cases s' with
      | un => exact absurd rfl hun
      | ipt fs' j' =>
        obtain ⟨rfl, rfl⟩ := hl
        exact ipRep_agree hag rfl hr
      | _ => exact hl.elim
    | fnv f ids => cases s' with
      | un => exact absurd rfl hun
      | fnv f' ids' =>
        obtain ⟨rfl, rfl⟩ := hl
        obtain ⟨cs, e, hc⟩ := hr
        refine ⟨cs, e, all2_mono (fun id u _ g fs hf => ?_) hc⟩
        obtain ⟨p, p1, p2, p3⟩ := hvars' hf
        have := hv p p1
        unfold leVar at this
        rw [p2] at this
        rcases hst : st.vars id with _ | xs
        · rw [hst] at this; exact this.elim
        · exact g xs hst
      | _ => exact hl.elim
    | fni f caps => cases s' with
      | un => exact absurd rfl hun
      | fni f' caps' =>
        obtain ⟨rfl, rfl⟩ := hl
        obtain ⟨cs, e, hc⟩ := hr
        exact ⟨cs, e, all2_mono (fun _ _ _ g => ipRep_agree hag rfl g) hc⟩
      | _ => exact hl.elim
  have all2_tr : ∀ {xs ys : List SV} {vs : List Value}, All2 (SVRep st W sh) xs vs → All2 (leSV st obs fro) xs ys → All2 (SVRep (mkSt slots vars (obs.map fun e => (e.new, (e.w, e.rows))) next) W sh') ys vs := by
    intro xs
    induction xs with
    | nil => intro ys vs h1 h2; cases ys <;> cases vs <;> first | exact h1.elim | exact h2.elim | trivial
    | cons x xs ih =>
      intro ys vs h1 h2
      cases ys with
      | nil => exact h2.elim
      | cons y ys => cases vs with
        | nil => exact h1.elim
        | cons v vs => exact ⟨key h1.1 h2.1, ih h1.2 h2.2⟩
  have pkk : ∀ {p p' : Pk} {v : Value}, PkRep st W sh p v → lePk st obs fro p p' → PkRep (mkSt slots vars (obs.map fun e => (e.new, (e.w, e.rows))) next) W sh' p' v := by
    intro p p' v h1 h2
    cases p <;> cases p' <;> first | exact h2.elim | skip
    · exact key h1 h2
    · obtain ⟨cs, e, hc⟩ := h1
      exact ⟨cs, e, all2_tr hc h2⟩
  have pks_tr : ∀ {ps qs : List Pk} {vs : List Value}, All2 (PkRep st W sh) ps vs → All2 (lePk st obs fro) ps qs → All2 (PkRep (mkSt slots vars (obs.map fun e => (e.new, (e.w, e.rows))) next) W sh') qs vs := by
    intro ps
    induction ps with
    | nil => intro ys vs h1 h2; cases ys <;> cases vs <;> first | exact h1.elim | exact h2.elim | trivial
    | cons x xs ih =>
      intro ys vs h1 h2
      cases ys with
      | nil => exact h2.elim
      | cons y ys => cases vs with
        | nil => exact h1.elim
        | cons v vs => exact ⟨pkk h1.1 h2.1, ih h1.2 h2.2⟩
  refine ⟨sh', h.defers, h.size, ?_, fun t => ?_, fun id fs hf => ?_, fun id w rows hb => ?_, fun id hf => ⟨?_, ?_, fun t hq => ?_, fun k fs hk s hs' hq => ?_⟩, fun id hf => ?_, fun id w rows i j s xs hb hc hf => ?_, fun k v hm hne => ?_, fun k v hm hne => ?_⟩
  · obtain ⟨h1, h2, h3, h4, h5, h6⟩ := h.ext
    refine ⟨h1, h2, h3, h4, fun b hb hl => ?_, fun b hb => ?_⟩
    · obtain ⟨g1, g2⟩ := h5 b hb hl
      refine ⟨?_, g2⟩
      show renL obs fro (sh.lab b) = _
      rcases hl with e | e <;> rw [g1, e] <;> rfl
    · show renL obs fro (sh.lab b) = _
      rw [h6 b hb]; rfl
  · show AVRep _ W sh' (look .un slots t) _
    rcases look_mem (d := AV.un) (l := slots) (k := t) with ⟨e, _⟩ | ⟨p, hp, e1, e2⟩
    · rw [e]; trivial
    · rw [e2]
      have h1 := hs p hp
      have h2 := h.slots t
      rw [e1] at h1
      revert h1 h2
      generalize st.slots t = x
      generalize p.2 = y
      intro h1 h2
      cases x <;> cases y <;> first | exact h1.elim | skip
      · exact pkk h2 h1
      · obtain ⟨vs, e, hc⟩ := h2
        exact ⟨vs, e, pks_tr hc h1⟩
  · obtain ⟨p, p1, p2, p3⟩ := hvars' hf
    have h1 := hv p p1
    rw [p2, p3] at h1
    unfold leVar at h1
    rcases hst : st.vars id with _ | xs
    · rw [hst] at h1; exact h1.elim
    · rw [hst] at h1
      obtain ⟨g1, c, t, g2, g3⟩ := h.vars id xs hst
      refine ⟨?_, c, t, g2, all2_tr g3 h1⟩
      show renL obs fro (sh.lab (sh.β id)) = _
      have h2 := hnv p p1
      simp only [Bool.and_eq_true, decide_eq_true_eq, Bool.not_eq_true'] at h2
      rw [g1]; simp only [renL]; rw [← p2, h2.1.2]; simp
  · obtain ⟨e, g1, g2, g3, g4, g5⟩ := hobjs' hb
    rcases heo : e.old with _ | o
    · have h1 := ho e g2
      unfold OE.okay at h1
      rw [heo] at h1
      have : sh'.μ id = .slice none 0 0 := by
        show (match oeOf obs id with | some e => (match e.old with | some o => sh.μ o | none => .slice none 0 0) | none => sh.μ id) = _
        rw [g1]; simp only; rw [heo]
      rw [this, ← g5, h1.1, ← g4]
      exact ownRep_nil h1.2
    · obtain ⟨rows0, q1, q2, q3, _⟩ := hcells g2 heo
      rw [hμ g1 heo, ← g3, ← g4, ← g5]
      exact q3
  · rcases hq : (mkSt slots vars (obs.map fun e => (e.new, (e.w, e.rows))) next).vars id with _ | fs
    · exact hq
    · obtain ⟨p, p1, p2, _⟩ := hvars' hq
      have := (hnv p p1).1.1
      have hf : next ≤ id := hf
      omega
  · rcases hq : (mkSt slots vars (obs.map fun e => (e.new, (e.w, e.rows))) next).objs id with _ | ⟨w, rows⟩
    · exact hq
    · obtain ⟨e, _, g2, g3, _⟩ := hobjs' hq
      have := (hno e g2).1
      have hf : next ≤ id := hf
      omega
  · have hf : next ≤ id := hf
    have hq : id ∈ (look .un slots t).ids := hq
    rcases look_mem (d := AV.un) (l := slots) (k := t) with ⟨e, _⟩ | ⟨p, hp, e1, e2⟩
    · rw [e] at hq; simp [AV.ids, AV.svs, Pk.svs, SV.ids] at hq
    · rw [e2] at hq
      have := hns p hp id hq
      omega
  · have hf : next ≤ id := hf
    obtain ⟨p, p1, p2, p3⟩ := hvars' hk
    have := (hnv p p1)
    rw [p3] at this
    have := this.2 s hs' id hq
    omega
  · have hf : next ≤ id := hf
    omega
  · have hf : next ≤ s := hf
    obtain ⟨e, g1, g2, g3, g4, g5⟩ := hobjs' hb
    rcases heo : e.old with _ | o
    · have h1 := ho e g2
      unfold OE.okay at h1
      rw [heo] at h1
      rw [← g5, h1.1] at hc
      have := (cell_ne hc).1
      simp at this
    · obtain ⟨rows0, q1, q2, q3, q4, q5⟩ := hcells g2 heo
      cases hx : e.exact with
      | true =>
        obtain ⟨z1, z2⟩ := q4 hx
        rw [← g5, z1] at hc
        obtain ⟨r, hi, hj⟩ := cell_get hc (by simp)
        have := z2 r (List.mem_of_getElem? hi) s xs (List.mem_of_getElem? hj)
        omega
      | false =>
        have z1 := q5 hx
        rw [← g5, z1] at hc
        rcases stm_cell (by omega) hc with z | z <;> omega
  · rcases hq : (mkSt slots vars (obs.map fun e => (e.new, (e.w, e.rows))) next).objs k with _ | ⟨w, rows⟩
    · exact absurd hq hne
    · obtain ⟨e, g1, g2, g3, _⟩ := hobjs' hq
      have hk := hpins0 _ hm
      have h1 := (hno e g2).2
      rcases heo : e.old with _ | o
      · rw [heo] at h1
        simp only [Bool.and_eq_true, decide_eq_true_eq] at h1
        have hk : k < 960 := hk
        omega
      · rw [heo] at h1
        simp only [Bool.and_eq_true, Bool.or_eq_true, decide_eq_true_eq] at h1
        have hk : k < 960 := hk
        have : o = k := by omega
        subst this
        obtain ⟨rows0, q1, _⟩ := hcells g2 heo
        rw [hμ g1 heo]
        exact h.pinO o v hm (by rw [q1]; simp)
  · obtain ⟨fs, hfs⟩ := Option.ne_none_iff_exists'.mp hne
    obtain ⟨p, p1, p2, p3⟩ := hvars' hfs
    have h1 := hv p p1
    rw [p2] at h1
    unfold leVar at h1
    rcases hst : st.vars k with _ | xs
    · rw [hst] at h1; exact h1.elim
    · exact h.pinV k v hm (by rw [hst]; simp)
end le
end Go.Proofs.YtedciihjgbkjgacGreatDoor.A

/-! THE ABSTRACT SEMANTICS, orders (first part): what an operation comes to leans on the slices and variables that it names alone. Conditions: none. -/
namespace Go.Proofs.YtedciihjgbkjgacGreatDoor.A
open Go
set_option linter.unusedSimpArgs false
set_option linter.unusedVariables false

/-- Two states that agree about some slices and variables. -/
def Ag (F : List Nat) (s s' : St) : Prop := ∀ id ∈ F, s'.objs id = s.objs id ∧ s'.vars id = s.vars id
theorem Ag.mono {F G : List Nat} {s s' : St} (h : Ag F s s') (hg : ∀ id ∈ G, id ∈ F) : Ag G s s' := fun id hi => h id (hg id hi)
section frame
variable {P : Program} {s s' : St} {nid : Nat}
theorem rows_ag {x : SV} (h : Ag x.ids s s') : s'.rows x = s.rows x := by
  cases x with
  | ref id w off len => simp only [St.rows, (h id (by simp [SV.ids])).1]
  | rin id i j q off len => simp only [St.rows, (h id (by simp [SV.ids])).1]
  | _ => rfl
theorem solid_ag {x : SV} (h : Ag x.ids s s') : x.solid s' = x.solid s := by
  cases x with
  | ref id w off len => simp only [SV.solid, rows_ag h]
  | rin id i j q off len => simp only [SV.solid, rows_ag h]
  | vad id j => simp only [SV.solid, (h id (by simp [SV.ids])).2]
  | _ => rfl
theorem solids_ag : ∀ {xs : List SV}, Ag (xs.flatMap SV.ids) s s' → solids s' xs = solids s xs
  | [], _ => rfl
  | x :: r, h => by
    simp only [solids]
    rw [solid_ag (h.mono (by simp +contextual)), solids_ag (h.mono (fun id hi => by simp only [List.flatMap_cons, List.mem_append]; exact .inr hi))]
theorem loadK_ag {x : SV} {n : Option Nat} {K : AV → Prop} (h : Ag x.ids s s') : loadK s' x n K = loadK s x n K := by
  cases x with
  | vad id j => simp only [loadK, (h id (by simp [SV.ids])).2]
  | oad id i j => simp only [loadK, (h id (by simp [SV.ids])).1]
  | oin id i j q k => simp only [loadK, (h id (by simp [SV.ids])).1]
  | _ => rfl
theorem cellK_ag {n : Nat} {x : SV} {K : Cell → List (Nat × Option Obj') → Prop} (h : Ag x.ids s s') : cellK s' n x K = cellK s n x K := by
  cases x with
  | ref id w off len => simp only [cellK, (h id (by simp [SV.ids])).1]
  | rin id i j q off len => simp only [cellK, (h id (by simp [SV.ids])).1]
  | _ => rfl
theorem upd_ag {α : Type} {f g : Nat → Option α} {id : Nat} (h : f id = g id) : ∀ (l : List (Nat × Option α)), upd f l id = upd g l id
  | [] => h
  | (i, x) :: l => by simp only [upd]; rw [upd_ag h l]
theorem ag_upd {F : List Nat} (h : Ag F s s') (ws : List (Nat × Option Obj')) : Ag F { s with objs := upd s.objs ws } { s' with objs := upd s'.objs ws } := fun id hi => ⟨upd_ag (h id hi).1 ws, (h id hi).2⟩
theorem cellsK_ag {n : Nat} : ∀ {xs : List SV} {s s' : St} {K : List Cell → List (Nat × Option Obj') → Prop}, Ag (xs.flatMap SV.ids) s s' → cellsK n s' xs K = cellsK n s xs K
  | [], _, _, _, _ => rfl
  | x :: r, s, s', K, h => by
    simp only [cellsK]
    rw [cellK_ag (h.mono (by simp +contextual))]
    congr 1
    funext c ws
    exact cellsK_ag (ag_upd (h.mono (fun id hi => by simp only [List.flatMap_cons, List.mem_append]; exact .inr hi)) ws)
theorem storeK_ag {x : SV} {n : Nat} {xs : List SV} {K : Eff → Prop} (h : Ag x.ids s s') (h2 : Ag (xs.flatMap SV.ids) s s') : storeK s' nid x n xs K = storeK s nid x n xs K := by
  cases x with
  | vad id j => simp only [storeK, (h id (by simp [SV.ids])).2]
  | oad id i j =>
    simp only [storeK]
    rw [cellsK_ag h2]
    congr 2
    funext cs ws
    rw [upd_ag (h id (by simp [SV.ids])).1 ws]
  | oin id i j q k => simp only [storeK, (h id (by simp [SV.ids])).1]
  | _ => rfl
theorem asNat?_ag {x : Option Operand} {d : Nat} {K : Nat → Prop} (h : ∀ y, x = some y → s'.ev y = s.ev y) : asNat? s' x d K = asNat? s x d K := by
  cases x with
  | none => rfl
  | some y => simp only [asNat?, h y rfl]
theorem cutK_ag {w : Nat} {x : SV} {lo hi : Option Operand} {K : Eff → Prop} (h : Ag x.ids s s') (h1 : ∀ y, lo = some y → s'.ev y = s.ev y) (h2 : ∀ y, hi = some y → s'.ev y = s.ev y) : cutK s' w x lo hi K = cutK s w x lo hi K := by
  cases x <;> simp only [cutK, asNat?_ag h1, asNat?_ag h2] <;> first | rfl | (rw [rows_ag h]) | skip
theorem srcK_ag {w : Nat} {x : AV} {K : Rows → List (Nat × Option Obj') → Prop} (h : Ag x.ids s s') : srcK s' w x K = srcK s w x K := by
  cases x with
  | tup ps => rfl
  | pk p => cases p with
    | agg xs => rfl
    | one x =>
      have h : Ag x.ids s s' := h.mono fun id hi => by simpa [AV.ids, AV.svs, Pk.svs] using hi
      cases x with
      | ref id w' off len => simp only [srcK, (h id (by simp [SV.ids])).1]
      | rin id i j q off len => simp only [srcK, rows_ag h]
      | sc v => cases v <;> rfl
      | _ => rfl
theorem srcK_congr {w : Nat} {x : AV} {K K' : Rows → List (Nat × Option Obj') → Prop} (h : ∀ a b, K a b = K' a b) : srcK s w x K = srcK s w x K' := by
  have : K = K' := by funext a b; exact h a b
  rw [this]
theorem appK_ag {w bytes : Nat} {a x : AV} {K : Eff → Prop} (h : Ag a.ids s s') (h2 : Ag x.ids s s') : appK s' nid w bytes a x K = appK s nid w bytes a x K := by
  simp only [appK]
  rw [srcK_ag h2]
  refine srcK_congr fun more ws => ?_
  cases a with
  | tup ps => rfl
  | pk p => cases p with
    | agg xs => rfl
    | one y =>
      have h : Ag y.ids s s' := h.mono fun id hi => by simpa [AV.ids, AV.svs, Pk.svs] using hi
      cases y with
      | ref id w' off len => simp only [upd_ag (h id (by simp [SV.ids])).1 ws]
      | rin id i j q off len => simp only [upd_ag (h id (by simp [SV.ids])).1 ws]
      | _ => rfl
theorem cpyK_ag {w : Nat} {a x : AV} {K : Eff → Prop} (h : Ag a.ids s s') (h2 : Ag x.ids s s') : cpyK s' w a x K = cpyK s w a x K := by
  cases a with
  | tup ps => rfl
  | pk p => cases p with
    | agg xs => rfl
    | one y =>
      cases y with
      | ref id w' off len =>
        have h : Ag (SV.ref id w' off len).ids s s' := h.mono fun id hi => by simpa [AV.ids, AV.svs, Pk.svs] using hi
        cases x with
        | tup ps => rfl
        | pk p => cases p with
          | agg xs => rfl
          | one y =>
            have h2 : Ag y.ids s s' := h2.mono fun id hi => by simpa [AV.ids, AV.svs, Pk.svs] using hi
            simp only [cpyK, (h id (by simp [SV.ids])).1, rows_ag h2]
      | _ => cases x <;> rfl
theorem okay_ag {p : Pk} (h : Ag (p.svs.flatMap SV.ids) s s') : p.okay s' = p.okay s := by
  cases p with
  | one x => exact solid_ag (h.mono fun id hi => by simpa [Pk.svs] using hi)
  | agg xs => rfl
/-- Operands that read the same, and what they name. -/
def AgOps (xs : List Operand) (s s' : St) : Prop := (∀ x ∈ xs, s'.ev x = s.ev x) ∧ Ag (xs.flatMap fun x => avFoot s (s.ev x)) s s'
theorem avFoot_ids {a : AV} {id : Nat} (h : id ∈ a.ids) : id ∈ avFoot s a := by
  simp only [AV.ids, List.mem_flatMap, avFoot] at h ⊢
  obtain ⟨x, h1, h2⟩ := h
  exact ⟨x, h1, List.mem_append_left _ h2⟩
theorem AgOps.ids {xs : List Operand} (h : AgOps xs s s') {x : Operand} (hx : x ∈ xs) : Ag (s.ev x).ids s s' := h.2.mono fun id hi => List.mem_flatMap.mpr ⟨x, hx, avFoot_ids hi⟩
theorem AgOps.foot {xs : List Operand} (h : AgOps xs s s') {x : Operand} (hx : x ∈ xs) : Ag (avFoot s (s.ev x)) s s' := h.2.mono fun id hi => List.mem_flatMap.mpr ⟨x, hx, hi⟩
theorem AgOps.sub {xs ys : List Operand} (h : AgOps xs s s') (hs : ∀ y ∈ ys, y ∈ xs) : AgOps ys s s' := ⟨fun y hy => h.1 y (hs y hy), h.2.mono fun id hi => by
  obtain ⟨y, h1, h2⟩ := List.mem_flatMap.mp hi
  exact List.mem_flatMap.mpr ⟨y, hs y h1, h2⟩⟩
theorem one_ids' {x : SV} : (AV.one x).ids = x.ids := by simp [AV.ids, AV.svs, Pk.svs]
theorem pk_ids {p : Pk} : (AV.pk p).ids = p.svs.flatMap SV.ids := rfl
theorem fillK_ag {places : List (Nat × Nat)} {K : List SV → Prop} : ∀ {parts : List (Nat × Operand)} {cs : List SV}, AgOps (parts.map (·.2)) s s' → fillK s' places cs parts K = fillK s places cs parts K
  | [], _, _ => rfl
  | (i, x) :: r, cs, h => by
    have hx := h.1 x (by simp)
    have hi := h.ids (x := x) (by simp)
    simp only [fillK, hx]
    rcases hn : nth places i with _ | ⟨off, n⟩
    · rfl
    · rcases hv : s.ev x with p | ps
      · rw [hv] at hi
        simp only
        rw [okay_ag hi, fillK_ag (h.sub (by simp +contextual))]
      · rfl
theorem avFoot_upd {a : AV} (ws : List (Nat × Option Obj')) : avFoot { s with objs := upd s.objs ws } a = avFoot s a := rfl
theorem agOps_upd {xs : List Operand} (h : AgOps xs s s') (ws : List (Nat × Option Obj')) : AgOps xs { s with objs := upd s.objs ws } { s' with objs := upd s'.objs ws } :=
  ⟨fun x hx => h.1 x hx, ag_upd h.2 ws⟩
theorem fillRowsK_ag {nid w : Nat} : ∀ {parts : List (Nat × Operand)} {s s' : St} {rows : Rows} {K : Rows → List (Nat × Option Obj') → Prop}, AgOps (parts.map (·.2)) s s' → fillRowsK nid w s' rows parts K = fillRowsK nid w s rows parts K
  | [], _, _, _, _, _ => rfl
  | (i, x) :: r, s, s', rows, K, h => by
    have hx := h.1 x (by simp)
    have hi := h.ids (x := x) (by simp)
    simp only [fillRowsK, hx]
    rcases hv : s.ev x with p | ps
    · rw [hv] at hi
      have hi : Ag (p.svs.flatMap SV.ids) s s' := hi
      simp only
      rw [solids_ag hi, cellsK_ag hi]
      congr 3
      congr 1
      funext cs ws
      exact fillRowsK_ag (agOps_upd (h.sub (by simp +contextual)) ws)
    · rfl
theorem varIds_ag : ∀ {xs : List Operand}, (∀ x ∈ xs, s'.ev x = s.ev x) → varIds xs s' = varIds xs s
  | [], _ => rfl
  | x :: r, h => by
    simp only [varIds]
    rw [h x (by simp), varIds_ag (fun y hy => h y (by simp [hy]))]
theorem idxA_ag {e : Nat} {x : SV} {k : Nat} {K : Eff → Prop} (h : Ag x.ids s s') : idxA s' e x k K = idxA s e x k K := by
  cases x with
  | ref id w off len => simp only [idxA, (h id (by simp [SV.ids])).1]
  | rin id i j q off len => simp only [idxA, (h id (by simp [SV.ids])).1]
  | _ => rfl
theorem fldA_ag {off : Nat} {x : SV} {K : Eff → Prop} (h : Ag x.ids s s') : fldA s' off x K = fldA s off x K := by
  cases x with
  | vad id j => simp only [fldA, (h id (by simp [SV.ids])).2]
  | oad id i j => simp only [fldA, (h id (by simp [SV.ids])).1]
  | _ => rfl
theorem nilK_ag {x : SV} {K : Eff → Prop} (h : Ag x.ids s s') : nilK s' x K = nilK s x K := by
  cases x with
  | vad id j => simp only [nilK, (h id (by simp [SV.ids])).2]
  | _ => rfl
theorem pksK_ag : ∀ {xs : List Operand} {K : List Pk → Prop}, (∀ x ∈ xs, s'.ev x = s.ev x) → pksK s' xs K = pksK s xs K
  | [], _, _ => rfl
  | x :: r, K, h => by
    simp only [pksK]
    rw [h x (by simp)]
    cases s.ev x with
    | pk p => simp only; exact pksK_ag (fun y hy => h y (by simp [hy]))
    | tup ps => rfl

/-! #### calls -/
theorem flds_ag {x : SV} {f : Fld} (h : Ag x.ids' s s') : SV.flds s' x f = SV.flds s x f := by
  cases x with
  | ref id w off len => cases f <;> simp only [SV.flds, St.rows, (h id (by simp [SV.ids'])).1]
  | rin id i j q off len => cases f <;> simp only [SV.flds, St.rows, (h id (by simp [SV.ids'])).1]
  | _ => cases f <;> rfl
theorem all2_flds_ag : ∀ {xs : List SV} {fs : List Fld}, Ag (xs.flatMap SV.ids') s s' → All2 (fun x f => SV.flds s' x f) xs fs = All2 (fun x f => SV.flds s x f) xs fs
  | [], [], _ => rfl
  | x :: xs, f :: fs, h => by
    simp only [All2]
    rw [flds_ag (h.mono (by simp +contextual)), all2_flds_ag (h.mono (fun id hi => by simp only [List.flatMap_cons, List.mem_append]; exact .inr hi))]
  | [], _ :: _, _ => rfl
  | _ :: _, [], _ => rfl
theorem fldsOf_ag {id : Nat} {fs : List Fld} (h : Ag (id :: varSVs s id) s s') : fldsOf s' id fs = fldsOf s id fs := by
  simp only [fldsOf, (h id (by simp)).2]
  rcases hv : s.vars id with _ | xs
  · rfl
  · simp only
    exact all2_flds_ag (h.mono fun q hq => by simp [varSVs, hv]; simp at hq; exact .inr hq)
theorem all2_fldsOf_ag : ∀ {ids : List Nat} {caps : List (List Fld)}, Ag (ids ++ ids.flatMap (varSVs s)) s s' → All2 (fun id fs => fldsOf s' id fs) ids caps = All2 (fun id fs => fldsOf s id fs) ids caps
  | [], [], _ => rfl
  | x :: xs, f :: fs, h => by
    simp only [All2]
    rw [fldsOf_ag (h.mono (by simp +contextual)), all2_fldsOf_ag (h.mono (fun id hi => by simp at hi ⊢; rcases hi with hi | hi <;> simp [hi]))]
  | [], _ :: _, _ => rfl
  | _ :: _, [], _ => rfl
theorem pass_ag {x : SV} {l : Leaf} (h : Ag (svFoot s x) s s') : pass s' x l = pass s x l := by
  have h1 : Ag x.ids s s' := h.mono fun id hi => List.mem_append_left _ hi
  cases x with
  | ref id w off len =>
    have e := (h1 id (by simp [SV.ids])).1
    cases l <;> simp only [pass, St.rows, e]
  | rin id i j q off len =>
    have e := (h1 id (by simp [SV.ids])).1
    cases l <;> simp only [pass, St.rows, e]
  | vad id j =>
    have e := (h1 id (by simp [SV.ids])).2
    cases j with
    | succ j => cases l <;> rfl
    | zero => cases l with
      | op fs => simp only [pass, e]
      | ip fs => simp only [pass]; exact fldsOf_ag (h.mono fun q hq => by simpa [svFoot, SV.ids, SV.vids] using hq)
      | _ => rfl
  | fnv f ids => cases l with
    | fn f' caps => simp only [pass]; rw [all2_fldsOf_ag (h.mono fun q hq => by simpa [svFoot, SV.ids, SV.vids] using hq)]
    | _ => rfl
  | ipt fs j => cases j <;> cases l <;> rfl
  | _ => cases l <;> rfl
theorem all2_pass_ag : ∀ {xs : List SV} {ls : List Leaf}, Ag (xs.flatMap (svFoot s)) s s' → All2 (pass s') xs ls = All2 (pass s) xs ls
  | [], [], _ => rfl
  | x :: xs, f :: fs, h => by
    simp only [All2]
    rw [pass_ag (h.mono (by simp +contextual)), all2_pass_ag (h.mono (fun id hi => by simp only [List.flatMap_cons, List.mem_append]; exact .inr hi))]
  | [], _ :: _, _ => rfl
  | _ :: _, [], _ => rfl
theorem passPk_ag {p : Pk} {l : LV} (h : Ag (p.svs.flatMap (svFoot s)) s s') : passPk s' p l = passPk s p l := by
  cases p with
  | one x => cases l with
    | one l => exact pass_ag (h.mono fun id hi => by simpa [Pk.svs] using hi)
    | agg ls => rfl
  | agg xs => cases l with
    | one l => rfl
    | agg ls => exact all2_pass_ag h
theorem all2_passPk_ag : ∀ {ps : List Pk} {ls : List LV}, Ag (ps.flatMap fun p => p.svs.flatMap (svFoot s)) s s' → All2 (passPk s') ps ls = All2 (passPk s) ps ls
  | [], [], _ => rfl
  | x :: xs, f :: fs, h => by
    simp only [All2]
    rw [passPk_ag (h.mono (by simp +contextual)), all2_passPk_ag (h.mono (fun id hi => by simp only [List.flatMap_cons, List.mem_append]; exact .inr hi))]
  | [], _ :: _, _ => rfl
  | _ :: _, [], _ => rfl
theorem varSVs_ag {id : Nat} (h : s'.vars id = s.vars id) : varSVs s' id = varSVs s id := by simp only [varSVs, h]
theorem lends_ag {x : SV} {l : Leaf} (h : Ag (svFoot s x) s s') : lends s' x l = lends s x l := by
  have h1 : Ag x.ids s s' := h.mono fun id hi => List.mem_append_left _ hi
  cases x with
  | vad id j =>
    have e := (h1 id (by simp [SV.ids])).2
    cases l <;> simp only [lends, varSVs_ag e]
  | fnv f ids =>
    cases l with
    | fn f' caps =>
      simp only [lends]
      congr 1
      have : ∀ q ∈ ids, varSVs s' q = varSVs s q := fun q hq => varSVs_ag (h1 q (by simpa [SV.ids] using hq)).2
      clear h h1
      induction ids with
      | nil => rfl
      | cons q ids ih => simp only [List.flatMap_cons]; rw [this q (by simp), ih (fun r hr => this r (by simp [hr]))]
    | _ => rfl
  | _ => cases l <;> rfl
theorem zip_lends_ag : ∀ {xs : List SV} {ls : List Leaf}, Ag (xs.flatMap (svFoot s)) s s' → List.zipWith (lends s') xs ls = List.zipWith (lends s) xs ls
  | [], _, _ => by simp
  | _ :: _, [], _ => by simp
  | x :: xs, l :: ls, h => by
    simp only [List.zipWith_cons_cons]
    rw [lends_ag (h.mono (by simp +contextual)), zip_lends_ag (h.mono (fun id hi => by simp only [List.flatMap_cons, List.mem_append]; exact .inr hi))]
theorem zip_lendsPk_ag : ∀ {ps : List Pk} {ls : List LV}, Ag (ps.flatMap fun p => p.svs.flatMap (svFoot s)) s s' → List.zipWith (lendsPk s') ps ls = List.zipWith (lendsPk s) ps ls
  | [], _, _ => by simp
  | _ :: _, [], _ => by simp
  | p :: ps, l :: ls, h => by
    simp only [List.zipWith_cons_cons]
    rw [zip_lendsPk_ag (h.mono (fun id hi => by simp only [List.flatMap_cons, List.mem_append]; exact .inr hi))]
    congr 1
    have h1 : Ag (p.svs.flatMap (svFoot s)) s s' := h.mono (by simp +contextual)
    cases p with
    | one x => cases l with
      | one l => exact lends_ag (h1.mono fun id hi => by simpa [Pk.svs] using hi)
      | agg ls => rfl
    | agg xs => cases l with
      | one l => rfl
      | agg ls =>
        have h1 : Ag (xs.flatMap (svFoot s)) s s' := h1
        simp only [lendsPk]; rw [zip_lends_ag h1]
theorem updLeafO_ag {x : SV} {l u : Leaf} (h : Ag x.ids s s') : updLeafO nid s' x l u = updLeafO nid s x l u := by
  cases x with
  | rin id i j q off len =>
    have e := (h id (by simp [SV.ids])).1
    cases l <;> cases u <;> simp only [updLeafO, e]
  | _ => cases l <;> cases u <;> rfl
theorem zip3_upd_ag : ∀ {xs : List SV} {ls us : List Leaf}, Ag (xs.flatMap SV.ids) s s' → zip3 (updLeafO nid s') xs ls us = zip3 (updLeafO nid s) xs ls us
  | [], _, _, _ => rfl
  | _ :: _, [], _, _ => rfl
  | _ :: _, _ :: _, [], _ => rfl
  | x :: xs, l :: ls, u :: us, h => by
    simp only [zip3]
    rw [updLeafO_ag (h.mono (by simp +contextual)), zip3_upd_ag (h.mono (fun id hi => by simp only [List.flatMap_cons, List.mem_append]; exact .inr hi))]
theorem zip3_updPk_ag : ∀ {ps : List Pk} {ls us : List LV}, Ag (ps.flatMap fun p => p.svs.flatMap (svFoot s)) s s' → zip3 (updPk (updLeafO nid s')) ps ls us = zip3 (updPk (updLeafO nid s)) ps ls us
  | [], _, _, _ => rfl
  | _ :: _, [], _, _ => rfl
  | _ :: _, _ :: _, [], _ => rfl
  | p :: ps, l :: ls, u :: us, h => by
    simp only [zip3]
    rw [zip3_updPk_ag (h.mono (fun id hi => by simp only [List.flatMap_cons, List.mem_append]; exact .inr hi))]
    congr 1
    have h1 : Ag (p.svs.flatMap SV.ids) s s' := h.mono fun id hi => by
      obtain ⟨x, m1, m2⟩ := List.mem_flatMap.mp hi
      simp only [List.flatMap_cons, List.mem_append, List.mem_flatMap]
      exact .inl ⟨x, m1, List.mem_append_left _ m2⟩
    cases p with
    | one x => cases l <;> cases u <;> first | rfl | exact updLeafO_ag (h1.mono fun id hi => by simpa [Pk.svs] using hi)
    | agg xs => cases l <;> cases u <;> first | rfl | exact zip3_upd_ag h1
theorem callK_ag {g : FuncId} {pks : List Pk} {K : Eff → Prop} (h : Ag (pks.flatMap fun p => p.svs.flatMap (svFoot s)) s s') : callK P s' nid g pks K = callK P s nid g pks K := by
  simp only [callK]
  congr 1; funext args; congr 1; funext res; congr 1; funext upd'
  rw [all2_passPk_ag h, zip_lendsPk_ag h, zip3_updPk_ag h]
end frame
end Go.Proofs.YtedciihjgbkjgacGreatDoor.A

/-! THE ABSTRACT SEMANTICS, orders (second part): an operation comes to one thing, and to the same wherever what it names is the same. Conditions: none. -/
namespace Go.Proofs.YtedciihjgbkjgacGreatDoor.A
open Go
set_option linter.unusedSimpArgs false
set_option linter.unusedVariables false

section frame
variable {P : Program} {s s' : St} {nid : Nat}
theorem pksK_congr : ∀ {xs : List Operand} {K K' : List Pk → Prop}, (∀ ps, All2 (fun x p => s.ev x = .pk p) xs ps → K ps = K' ps) → pksK s xs K = pksK s xs K'
  | [], K, K', h => h [] trivial
  | x :: r, K, K', h => by
    simp only [pksK]
    rcases hx : s.ev x with p | ps
    · simp only
      exact pksK_congr fun ps hps => h (p :: ps) ⟨hx, hps⟩
    · rfl
theorem pks_foot : ∀ {xs : List Operand} {ps : List Pk}, All2 (fun x p => s.ev x = .pk p) xs ps → ∀ id, id ∈ (ps.flatMap fun p => p.svs.flatMap (svFoot s)) → id ∈ xs.flatMap fun x => avFoot s (s.ev x)
  | [], [], _, id, h => by simp at h
  | x :: xs, p :: ps, ⟨h1, h2⟩, id, h => by
    simp only [List.flatMap_cons, List.mem_append] at h ⊢
    rcases h with h | h
    · left; rw [h1]; exact h
    · exact .inr (pks_foot h2 id h)
  | [], _ :: _, h, _, _ => h.elim
  | _ :: _, [], h, _, _ => h.elim
theorem vads_foot (ids : List Nat) (id : Nat) (h : id ∈ ((ids.map fun i => Pk.one (.vad i 0)).flatMap fun p => p.svs.flatMap (svFoot s))) : id ∈ svFoot s (.fnv 0 ids) := by
  obtain ⟨p, h1, h2⟩ := List.mem_flatMap.mp h
  obtain ⟨i, h3, rfl⟩ := List.mem_map.mp h1
  simp only [Pk.svs, List.flatMap_cons, List.flatMap_nil, List.append_nil, svFoot, SV.ids, SV.vids, List.mem_append, List.mem_singleton, List.mem_flatMap] at h2 ⊢
  rcases h2 with rfl | h2
  · exact .inl h3
  · exact .inr ⟨i, h3, h2⟩
theorem valFnv_ag {xs : List Operand} {g : FuncId} {ids : List Nat} {K : Eff → Prop} (h : AgOps xs s s') (h2 : Ag (svFoot s (.fnv g ids)) s s') :
    (pksK s' xs fun ps => callK P s' nid g (ps ++ ids.map fun id => .one (.vad id 0)) K) = (pksK s xs fun ps => callK P s nid g (ps ++ ids.map fun id => .one (.vad id 0)) K) := by
  rw [pksK_ag h.1]
  refine pksK_congr fun ps hps => callK_ag fun id hi => ?_
  rw [List.flatMap_append, List.mem_append] at hi
  rcases hi with hi | hi
  · exact h.2 id (pks_foot hps id hi)
  · exact h2 id (vads_foot ids id hi)
theorem valFni_ag {xs : List Operand} {g : FuncId} {caps : List (List Fld)} {K : Eff → Prop} (h : AgOps xs s s') :
    (pksK s' xs fun ps => callK P s' nid g (ps ++ caps.map fun fs => .one (.ipt fs 0)) K) = (pksK s xs fun ps => callK P s nid g (ps ++ caps.map fun fs => .one (.ipt fs 0)) K) := by
  rw [pksK_ag h.1]
  refine pksK_congr fun ps hps => callK_ag fun id hi => ?_
  rw [List.flatMap_append, List.mem_append] at hi
  rcases hi with hi | hi
  · exact h.2 id (pks_foot hps id hi)
  · exfalso
    obtain ⟨p, h1, h2⟩ := List.mem_flatMap.mp hi
    obtain ⟨i, h3, rfl⟩ := List.mem_map.mp h1
    simp [Pk.svs, svFoot, SV.ids, SV.vids] at h2

/-- What an operation looks at is the same. -/
def AgO (o : Oper) (s s' : St) : Prop := (∀ x ∈ o.op.operands.toList, s'.ev x = s.ev x) ∧ Ag (footOf s o) s s'
def isMove : Op → Bool
  | .move _ => true
  | .assign _ => true
  | _ => false
theorem eff_ag {o : Oper} {K : Eff → Prop} (h : AgO o s s') : effK P s' nid o K = effK P s nid o K := by
  obtain ⟨d, op, ty, pos, af, gd⟩ := o
  have hE : ∀ {x : Operand}, x ∈ op.operands.toList → s'.ev x = s.ev x := fun hx => h.1 _ hx
  by_cases hm : isMove op = true
  · cases op <;> first | (cases hm; done) | (unfold effK; simp only; rw [hE (by simp [Op.operands])])
  have h : AgOps op.operands.toList s s' := ⟨h.1, by
    have h2 := h.2
    cases op <;> first | exact h2 | exact absurd rfl hm⟩
  have hI : ∀ {x : Operand} {y : SV}, x ∈ op.operands.toList → s.ev x = .one y → Ag y.ids s s' := fun hx e => by
    have := h.ids hx
    rw [e, one_ids'] at this
    exact this
  have hP : ∀ {x : Operand} {p : Pk}, x ∈ op.operands.toList → s.ev x = .pk p → Ag (p.svs.flatMap SV.ids) s s' := fun hx e => by
    have := h.ids hx
    rw [e] at this
    exact this
  unfold effK
  cases op with
  | move x => simp only; rw [hE (by simp [Op.operands])]
  | assign x => simp only; rw [hE (by simp [Op.operands])]
  | pick c x y => simp only; rw [hE (x := c) (by simp [Op.operands]), hE (x := x) (by simp [Op.operands]), hE (x := y) (by simp [Op.operands])]
  | alloc e => rfl
  | box e x =>
    simp only; rw [hE (x := x) (by simp [Op.operands])]
    rcases hx : s.ev x with (y | ys) | ps
    · simp only; rw [solid_ag (hI (x := x) (by simp [Op.operands]) hx)]
    · rfl
    · rfl
  | load t x =>
    simp only; rw [hE (x := x) (by simp [Op.operands])]
    rcases ht : aggOf P t with _ | n
    · rfl
    rcases hx : s.ev x with (y | ys) | ps
    · simp only; rw [loadK_ag (hI (x := x) (by simp [Op.operands]) hx)]
    · rfl
    · rfl
  | store t x y =>
    simp only; rw [hE (x := x) (by simp [Op.operands]), hE (x := y) (by simp [Op.operands])]
    rcases ht : aggOf P t with _ | n
    · rfl
    rcases hx : s.ev x with (a | ys) | ps
    · rcases hy : s.ev y with p | ps
      · simp only; rw [solids_ag (hP (x := y) (by simp [Op.operands]) hy), storeK_ag (hI (x := x) (by simp [Op.operands]) hx) (hP (x := y) (by simp [Op.operands]) hy)]
      · rfl
    · rfl
    · rfl
  | nilCheck x =>
    simp only; rw [hE (x := x) (by simp [Op.operands])]
    rcases hx : s.ev x with (y | ys) | ps
    · simp only; rw [nilK_ag (hI (x := x) (by simp [Op.operands]) hx)]
    · rfl
    · rfl
  | binOp op xT x y yT => simp only; rw [hE (x := x) (by simp [Op.operands]), hE (x := y) (by simp [Op.operands])]
  | unOp op t x => simp only; rw [hE (x := x) (by simp [Op.operands])]
  | convert a b x =>
    have hr : ∀ y, s.ev x = .one y → s'.rows y = s.rows y := fun y hx => rows_ag (hI (x := x) (by simp [Op.operands]) hx)
    simp only; rw [hE (x := x) (by simp [Op.operands])]
    revert hr
    generalize s.ev x = v
    intro hr
    split
    · rfl
    · rfl
    · rw [hr _ rfl]
    · rfl
  | field t x f => simp only; rw [hE (x := x) (by simp [Op.operands])]
  | fieldAddr t x f =>
    simp only; rw [hE (x := x) (by simp [Op.operands])]
    rcases ht : fieldOf P t f with _ | ⟨off, n⟩
    · rfl
    rcases hx : s.ev x with (y | ys) | ps
    · simp only; rw [fldA_ag (hI (x := x) (by simp [Op.operands]) hx)]
    · rfl
    · rfl
  | indexAddr t x i =>
    simp only; rw [hE (x := x) (by simp [Op.operands]), hE (x := i) (by simp [Op.operands])]
    rcases ht : elemOf' P t with _ | ⟨e, b, z⟩
    · rfl
    rcases hx : s.ev x with (y | ys) | ps
    · simp only
      congr 1
      funext k
      rw [idxA_ag (hI (x := x) (by simp [Op.operands]) hx)]
    · rfl
    · rfl
  | index t x i => simp only; rw [hE (x := x) (by simp [Op.operands]), hE (x := i) (by simp [Op.operands])]
  | build t parts =>
    simp only
    rcases hp : placesOf P t with _ | pl
    · rfl
    rcases hz : zeroOf P t with _ | z
    · rfl
    simp only
    exact fillK_ag (by simpa [Op.operands] using h)
  | buildSlice t len parts =>
    simp only
    rcases ht : elemOf' P t with _ | ⟨w, b, z⟩
    · rfl
    simp only
    congr 1
    exact fillRowsK_ag (by simpa [Op.operands] using h)
  | makeSlice t l c => simp only; rw [hE (x := l) (by simp [Op.operands]), hE (x := c) (by simp [Op.operands])]
  | slice t x lo hi mx =>
    cases mx with
    | some m => rfl
    | none =>
      simp only
      have h1 : ∀ y, lo = some y → s'.ev y = s.ev y := fun y hy => hE (by subst hy; simp [Op.operands])
      have h2 : ∀ y, hi = some y → s'.ev y = s.ev y := fun y hy => hE (by subst hy; simp [Op.operands])
      have hc : ∀ y w, s.ev x = .one y → cutK s' w y lo hi K = cutK s w y lo hi K := fun y w hx => cutK_ag (hI (x := x) (by simp [Op.operands]) hx) h1 h2
      rw [hE (x := x) (by simp [Op.operands])]
      revert hc
      generalize s.ev x = v
      intro hc
      split
      · simp only [asNat?_ag h1, asNat?_ag h2]
      · split
        · exact hc _ _ rfl
        · rfl
      · rfl
  | extract x k => simp only; rw [hE (x := x) (by simp [Op.operands])]
  | makeFunc f first captured =>
    cases f <;> try rfl
    simp only
    rw [varIds_ag fun x hx => hE (by simp [Op.operands]; right; simpa using hx)]
  | call c =>
    obtain ⟨callee, ⟨args⟩, ⟨tys⟩⟩ := c
    simp only
    cases callee with
    | invoke r m => rfl
    | value f =>
      have hf : f ∈ (Op.call ⟨.value f, ⟨args⟩, ⟨tys⟩⟩).operands.toList := by simp [Op.operands, Call.operands]
      have ha : AgOps args s s' := h.sub fun y hy => by simp [Op.operands, Call.operands, hy]
      have hft := h.foot hf
      simp only
      rw [hE hf]
      rcases hx : s.ev f with (y | ys) | ps
      · rw [hx] at hft
        have hft : Ag (svFoot s y) s s' := hft.mono fun id hi => by simpa [avFoot, AV.svs, Pk.svs] using hi
        cases y with
        | fnv g ids => exact valFnv_ag ha hft
        | fni g caps => exact valFni_ag ha
        | _ => rfl
      · rfl
      · rfl
    | builtin b =>
      have ha : AgOps args s s' := h.sub fun y hy => by simp [Op.operands, Call.operands, hy]
      cases b <;> try rfl
      case len =>
        match args, ha with
        | [], _ => rfl
        | _ :: _ :: _, _ => rfl
        | [x], ha =>
          simp only
          have hx1 := ha.1 x (by simp)
          have hx2 := ha.ids (x := x) (by simp)
          rw [hx1]
          rcases hx : s.ev x with (y | ys) | ps
          · rw [hx, one_ids'] at hx2
            have hr := rows_ag hx2
            cases y with
            | sc v => cases v <;> rfl
            | _ => first | rfl | simp only [hr]
          · rfl
          · rfl
      case append =>
        match args, tys, ha with
        | [], _, _ => rfl
        | [_], _, _ => rfl
        | [_, _], [], _ => rfl
        | [_, _], [_], _ => rfl
        | [_, _], _ :: _ :: _ :: _, _ => rfl
        | _ :: _ :: _ :: _, _, _ => rfl
        | [x, y], [t, t2], ha =>
          simp only
          rw [ha.1 x (by simp), ha.1 y (by simp)]
          rcases ht : elemOf' P t with _ | ⟨w, b, z⟩
          · rfl
          · simp only; rw [appK_ag (ha.ids (x := x) (by simp)) (ha.ids (x := y) (by simp))]
      case copy =>
        match args, tys, ha with
        | [], _, _ => rfl
        | [_], _, _ => rfl
        | [_, _], [], _ => rfl
        | [_, _], [_], _ => rfl
        | [_, _], _ :: _ :: _ :: _, _ => rfl
        | _ :: _ :: _ :: _, _, _ => rfl
        | [x, y], [t, t2], ha =>
          simp only
          rw [ha.1 x (by simp), ha.1 y (by simp)]
          rcases ht : elemOf' P t with _ | ⟨w, b, z⟩
          · rfl
          · simp only; rw [cpyK_ag (ha.ids (x := x) (by simp)) (ha.ids (x := y) (by simp))]
      case max =>
        match args, ha with
        | [], _ => rfl
        | [_], _ => rfl
        | _ :: _ :: _ :: _, _ => rfl
        | [x, y], ha => simp only; rw [ha.1 x (by simp), ha.1 y (by simp)]
      case min =>
        match args, ha with
        | [], _ => rfl
        | [_], _ => rfl
        | _ :: _ :: _ :: _, _ => rfl
        | [x, y], ha => simp only; rw [ha.1 x (by simp), ha.1 y (by simp)]
  | _ => rfl
end frame

/-! #### one thing alone -/
def Lin {α : Type} (f : (α → Prop) → Prop) : Prop := ∀ K, f K → ∃ e, K e ∧ ∀ K' : α → Prop, K' e → f K'
def Lin2 {α β : Type} (f : (α → β → Prop) → Prop) : Prop := ∀ K, f K → ∃ a b, K a b ∧ ∀ K' : α → β → Prop, K' a b → f K'
section lin
variable {P : Program} {s : St} {nid : Nat}
theorem Lin.bind {α β : Type} {f : (α → Prop) → Prop} {g : α → (β → Prop) → Prop} (hf : Lin f) (hg : ∀ a, Lin (g a)) : Lin fun K => f fun a => g a K := by
  intro K h
  obtain ⟨a, h1, h2⟩ := hf _ h
  obtain ⟨b, h3, h4⟩ := hg a _ h1
  exact ⟨b, h3, fun K' hk => h2 _ (h4 K' hk)⟩
theorem Lin.ret {α : Type} {e : α} : Lin fun K => K e := fun K h => ⟨e, h, fun K' hk => hk⟩
theorem Lin.fls {α : Type} : Lin fun _ : α → Prop => False := fun K h => h.elim
theorem Lin.and {α : Type} {p : Prop} {f : (α → Prop) → Prop} (hf : Lin f) : Lin fun K => p ∧ f K := fun K h => by
  obtain ⟨e, h1, h2⟩ := hf K h.2
  exact ⟨e, h1, fun K' hk => ⟨h.1, h2 K' hk⟩⟩
theorem Lin.ite {α : Type} {p : Prop} [Decidable p] {f g : (α → Prop) → Prop} (hf : Lin f) (hg : Lin g) : Lin fun K => if p then f K else g K := fun K h => by
  by_cases hp : p
  · simp only [if_pos hp] at h ⊢; exact hf K h
  · simp only [if_neg hp] at h ⊢; exact hg K h
theorem Lin.ex {α β : Type} {f : β → (α → Prop) → Prop} (hf : ∀ b, Lin (f b)) : Lin fun K => ∃ b, f b K := fun K ⟨b, h⟩ => by
  obtain ⟨e, h1, h2⟩ := hf b K h
  exact ⟨e, h1, fun K' hk => ⟨b, h2 K' hk⟩⟩
theorem Lin.and' {α : Type} {p : Prop} {f : (α → Prop) → Prop} (hf : Lin f) : Lin fun K => p ∧ f K := hf.and
theorem Lin.map {α β : Type} {f : (α → Prop) → Prop} (hf : Lin f) (g : α → β) : Lin fun K => f fun a => K (g a) := hf.bind fun _ => Lin.ret
theorem Lin2.bind {α β γ : Type} {f : (α → β → Prop) → Prop} {g : α → β → (γ → Prop) → Prop} (hf : Lin2 f) (hg : ∀ a b, Lin (g a b)) : Lin fun K => f fun a b => g a b K := by
  intro K h
  obtain ⟨a, b, h1, h2⟩ := hf _ h
  obtain ⟨c, h3, h4⟩ := hg a b _ h1
  exact ⟨c, h3, fun K' hk => h2 _ (h4 K' hk)⟩
theorem Lin2.bind2 {α β γ δ : Type} {f : (α → β → Prop) → Prop} {g : α → β → (γ → δ → Prop) → Prop} (hf : Lin2 f) (hg : ∀ a b, Lin2 (g a b)) : Lin2 fun K => f fun a b => g a b K := by
  intro K h
  obtain ⟨a, b, h1, h2⟩ := hf _ h
  obtain ⟨c, d, h3, h4⟩ := hg a b _ h1
  exact ⟨c, d, h3, fun K' hk => h2 _ (h4 K' hk)⟩
theorem Lin2.ret {α β : Type} {a : α} {b : β} : Lin2 fun K => K a b := fun K h => ⟨a, b, h, fun K' hk => hk⟩
theorem Lin2.fls {α β : Type} : Lin2 fun _ : α → β → Prop => False := fun K h => h.elim
theorem Lin2.and {α β : Type} {p : Prop} {f : (α → β → Prop) → Prop} (hf : Lin2 f) : Lin2 fun K => p ∧ f K := fun K h => by
  obtain ⟨a, b, h1, h2⟩ := hf K h.2
  exact ⟨a, b, h1, fun K' hk => ⟨h.1, h2 K' hk⟩⟩
theorem Lin2.ite {α β : Type} {p : Prop} [Decidable p] {f g : (α → β → Prop) → Prop} (hf : Lin2 f) (hg : Lin2 g) : Lin2 fun K => if p then f K else g K := fun K h => by
  by_cases hp : p
  · simp only [if_pos hp] at h ⊢; exact hf K h
  · simp only [if_neg hp] at h ⊢; exact hg K h
theorem Lin2.ex {α β γ : Type} {f : γ → (α → β → Prop) → Prop} (hf : ∀ b, Lin2 (f b)) : Lin2 fun K => ∃ b, f b K := fun K ⟨c, h⟩ => by
  obtain ⟨a, b, h1, h2⟩ := hf c K h
  exact ⟨a, b, h1, fun K' hk => ⟨c, h2 K' hk⟩⟩

theorem Lin.congr {α : Type} {f g : (α → Prop) → Prop} (h : ∀ K, f K = g K) (hg : Lin g) : Lin f := by
  have : f = g := funext h
  rw [this]; exact hg
theorem Lin2.congr {α β : Type} {f g : (α → β → Prop) → Prop} (h : ∀ K, f K = g K) (hg : Lin2 g) : Lin2 f := by
  have : f = g := funext h
  rw [this]; exact hg
theorem lin_asNat (a : AV) : Lin (asNat a) := by
  intro K h
  obtain ⟨ik, n, rfl, h0, hk⟩ := asNat_eq h
  exact ⟨_, hk, fun K' h' => ⟨h0, h'⟩⟩
theorem lin_asNat? (x : Option Operand) (d : Nat) : Lin (asNat? s x d) := by
  cases x with
  | none => exact Lin.ret
  | some x => exact lin_asNat _
theorem lin_load (x : SV) (n : Option Nat) : Lin (loadK s x n) := by
  cases x with
  | vad id j =>
    rcases hv : s.vars id with _ | fs
    · exact Lin.congr (fun K => by simp only [loadK, hv]; try rfl) Lin.fls
    · cases n with
      | none => exact Lin.congr (fun K => by simp only [loadK, hv]; try rfl) Lin.ret.and
      | some n => exact Lin.congr (fun K => by simp only [loadK, hv]; try rfl) Lin.ret.and
  | oad id i j =>
    rcases hv : s.objs id with _ | ⟨w, rows⟩
    · exact Lin.congr (fun K => by simp only [loadK, hv]; try rfl) Lin.fls
    · cases n with
      | none => exact Lin.congr (fun K => by simp only [loadK, hv]; try rfl) Lin.ret.and.and
      | some n => exact Lin.congr (fun K => by simp only [loadK, hv]; try rfl) Lin.ret.and.and
  | oin id i j q k =>
    rcases hv : s.objs id with _ | ⟨w, rows⟩
    · exact Lin.congr (fun K => by simp only [loadK, hv]; try rfl) Lin.fls
    · rcases hc : Rows.cell rows i j with _ | ⟨q', xs⟩ | _
      · exact Lin.congr (fun K => by simp only [loadK, hv, hc]; try rfl) Lin.fls
      · exact Lin.congr (fun K => by simp only [loadK, hv, hc]; try rfl) Lin.ret.and.and.and
      · exact Lin.congr (fun K => by simp only [loadK, hv, hc]; try rfl) Lin.fls
  | iad row j => cases n with
    | none => exact Lin.ret.and
    | some n => exact Lin.ret.and
  | ipt fs j => cases n with
    | none => exact Lin.ret.and
    | some n => exact Lin.ret.and
  | _ => exact Lin.fls
theorem lin_cell (n : Nat) (x : SV) : Lin2 (cellK s n x) := by
  cases x with
  | sc v => exact Lin2.ite Lin2.ret Lin2.ret
  | im w rows => exact Lin2.ex fun xs => Lin2.ret.and.and
  | ref id w off len =>
    rcases hv : s.objs id with _ | ⟨w', rows⟩
    · exact Lin2.congr (fun K => by simp only [cellK, hv]; try rfl) Lin2.fls
    · exact Lin2.congr (fun K => by simp only [cellK, hv]; try rfl) (Lin2.ex fun xs => Lin2.ret.and.and.and.and)
  | rin id i j q off len =>
    rcases hv : s.objs id with _ | ⟨w', rows⟩
    · exact Lin2.congr (fun K => by simp only [cellK, hv]; try rfl) Lin2.fls
    · rcases hc : Rows.cell rows i j with _ | ⟨q', xs⟩ | _
      · exact Lin2.congr (fun K => by simp only [cellK, hv, hc]; try rfl) Lin2.fls
      · exact Lin2.congr (fun K => by simp only [cellK, hv, hc]; try rfl) Lin2.ret.and.and.and
      · exact Lin2.congr (fun K => by simp only [cellK, hv, hc]; try rfl) Lin2.fls
  | _ => exact Lin2.fls
theorem lin_cells (n : Nat) : ∀ (xs : List SV) (s : St), Lin2 (cellsK n s xs)
  | [], s => Lin2.ret
  | x :: r, s => (lin_cell n x).bind2 fun c ws => (lin_cells n r _).bind2 fun cs ws' => Lin2.ret
theorem lin_store (a : SV) (n : Nat) (xs : List SV) : Lin (storeK s nid a n xs) := by
  refine Lin.and ?_
  cases a with
  | vad id j =>
    rcases hv : s.vars id with _ | fs
    · exact Lin.congr (fun K => by simp only [hv]; try rfl) Lin.fls
    · exact Lin.congr (fun K => by simp only [hv]; try rfl) Lin.ret.and
  | oad id i j =>
    refine (lin_cells nid xs s).bind fun cs ws => ?_
    rcases hv : upd s.objs ws id with _ | ⟨w, rows⟩
    · exact Lin.fls
    · exact Lin.ret.and.and
  | oin id i j q k =>
    rcases hv : s.objs id with _ | ⟨w, rows⟩
    · exact Lin.congr (fun K => by simp only [hv]; try rfl) Lin.fls
    · rcases hc : Rows.cell rows i j with _ | ⟨q', ys⟩ | _
      · exact Lin.congr (fun K => by simp only [hv, hc]; try rfl) Lin.fls
      · refine Lin.congr (fun K => by simp only [hv, hc]; try rfl) (Lin.and (Lin.and (Lin.and ?_)))
        rcases xs with _ | ⟨x, _ | ⟨y, xs⟩⟩
        · exact Lin.fls
        · cases x <;> first | exact Lin.ret.and | exact Lin.fls
        · cases x <;> exact Lin.fls
      · exact Lin.congr (fun K => by simp only [hv, hc]; try rfl) Lin.fls
  | _ => exact Lin.fls
theorem lin_cut (w : Nat) (x : SV) (lo hi : Option Operand) : Lin (cutK s w x lo hi) := by
  cases x <;> first
    | exact Lin.fls
    | exact Lin.and ((lin_asNat? _ _).bind fun _ => (lin_asNat? _ _).bind fun _ => Lin.ret.and.and)
    | exact (lin_asNat? _ _).bind fun _ => (lin_asNat? _ _).bind fun _ => Lin.ret.and.and.and
    | exact Lin.and ((lin_asNat? _ _).bind fun _ => (lin_asNat? _ _).bind fun _ => Lin.ret.and.and.and)
theorem lin_src (w : Nat) (x : AV) : Lin2 (srcK s w x) := by
  cases x with
  | tup ps => exact Lin2.fls
  | pk p => cases p with
    | agg xs => exact Lin2.fls
    | one x =>
      cases x with
      | sc v => cases v <;> exact Lin2.ret.and
      | im w' rows => exact Lin2.ret.and.and
      | ref id w' off len =>
        rcases hv : s.objs id with _ | ⟨w2, rows⟩
        · exact Lin2.congr (fun K => by simp only [srcK, hv]; try rfl) Lin2.fls
        · exact Lin2.congr (fun K => by simp only [srcK, hv]; try rfl) (Lin2.and (Lin2.ite Lin2.ret (Lin2.ite Lin2.ret Lin2.ret)))
      | rin id i j q off len =>
        rcases hv : s.rows (.rin id i j q off len) with _ | ⟨w2, rows⟩
        · exact Lin2.congr (fun K => by simp only [srcK, hv]; try rfl) Lin2.fls
        · exact Lin2.congr (fun K => by simp only [srcK, hv]; try rfl) Lin2.ret.and
      | _ => exact Lin2.fls
theorem lin_cpy (w : Nat) (a x : AV) : Lin (cpyK s w a x) := by
  intro K h
  unfold cpyK at h ⊢
  split at h
  · split at h
    · exact ⟨_, h.2.2.2.2.2.2, fun K' hk => ⟨h.1, h.2.1, h.2.2.1, h.2.2.2.1, h.2.2.2.2.1, h.2.2.2.2.2.1, hk⟩⟩
    · exact h.elim
  · exact h.elim
theorem lin_app (w bytes : Nat) (a x : AV) : Lin (appK s nid w bytes a x) := by
  unfold appK
  refine (lin_src w x).bind fun more ws => ?_
  cases a with
  | tup ps => exact Lin.fls
  | pk p => cases p with
    | agg xs => exact Lin.fls
    | one y =>
      cases y with
      | sc v => exact Lin.ret.and.and
      | ref id w' off len =>
        rcases hv : upd s.objs ws id with _ | ⟨w2, rows⟩
        · exact Lin.congr (fun K => by simp only [hv]; try rfl) Lin.fls
        · exact Lin.congr (fun K => by simp only [hv]; try rfl) Lin.ret.and.and.and.and
      | rin id i j q off len =>
        rcases hv : upd s.objs ws id with _ | ⟨w2, rows⟩
        · exact Lin.congr (fun K => by simp only [hv]; try rfl) Lin.fls
        · rcases hc : Rows.cell rows i j with _ | ⟨q', ys⟩ | _
          · exact Lin.congr (fun K => by simp only [hv, hc]; try rfl) Lin.fls
          · exact Lin.congr (fun K => by simp only [hv, hc]; try rfl) Lin.ret.and.and.and.and.and
          · exact Lin.congr (fun K => by simp only [hv, hc]; try rfl) Lin.fls
      | _ => exact Lin.fls
theorem lin_fill (places : List (Nat × Nat)) : ∀ (parts : List (Nat × Operand)) (cs : List SV), Lin (fillK s places cs parts)
  | [], cs => Lin.ret
  | (i, x) :: r, cs => by
    rcases hn : nth places i with _ | ⟨off, n⟩
    · exact Lin.congr (fun K => by simp only [fillK, hn]; try rfl) Lin.fls
    · rcases hx : s.ev x with p | ps
      · exact Lin.congr (fun K => by simp only [fillK, hn, hx]; try rfl) (lin_fill places r _).and.and.and
      · exact Lin.congr (fun K => by simp only [fillK, hn, hx]; try rfl) Lin.fls
theorem lin_fillRows (nid w : Nat) : ∀ (parts : List (Nat × Operand)) (s : St) (rows : Rows), Lin2 (fillRowsK nid w s rows parts)
  | [], s, rows => Lin2.ret
  | (i, x) :: r, s, rows => by
    rcases hx : s.ev x with p | ps
    · exact Lin2.congr (fun K => by simp only [fillRowsK, hx]; try rfl) <| Lin2.and (Lin2.and (Lin2.and ((lin_cells nid p.svs s).bind2 fun cs ws => (lin_fillRows nid w r _ _).bind2 fun rows' ws' => Lin2.ret)))
    · exact Lin2.congr (fun K => by simp only [fillRowsK, hx]; try rfl) Lin2.fls
theorem lin_idx (e : Nat) (x : SV) (k : Nat) : Lin (idxA s e x k) := by
  cases x with
  | im w rows => exact Lin.ret.and.and
  | ref id w off len => exact Lin.ret.and.and.and
  | rin id i j q off len =>
    rcases hv : s.objs id with _ | ⟨w, rows⟩
    · exact Lin.congr (fun K => by simp only [idxA, hv]; try rfl) Lin.fls
    · rcases hc : Rows.cell rows i j with _ | ⟨q', xs⟩ | _
      · exact Lin.congr (fun K => by simp only [idxA, hv, hc]; try rfl) Lin.fls
      · exact Lin.congr (fun K => by simp only [idxA, hv, hc]; try rfl) Lin.ret.and.and.and
      · exact Lin.congr (fun K => by simp only [idxA, hv, hc]; try rfl) Lin.fls
  | _ => exact Lin.fls
theorem lin_fld (off : Nat) (x : SV) : Lin (fldA s off x) := by
  cases x with
  | vad id j => exact Lin.ret.and
  | oad id i j =>
    rcases hv : s.objs id with _ | ⟨w, rows⟩
    · exact Lin.congr (fun K => by simp only [fldA, hv]; try rfl) Lin.fls
    · exact Lin.congr (fun K => by simp only [fldA, hv]; try rfl) Lin.ret.and
  | iad row j => exact Lin.ret
  | ipt fs j => exact Lin.ret
  | _ => exact Lin.fls
theorem lin_nil (x : SV) : Lin (nilK s x) := by
  cases x with
  | vad id j => exact Lin.ret.and
  | iad row j => exact Lin.ret
  | ipt fs j => exact Lin.ret
  | _ => exact Lin.fls
theorem lin_pks : ∀ (xs : List Operand), Lin (pksK s xs)
  | [] => Lin.ret
  | x :: r => by
    rcases hx : s.ev x with p | ps
    · exact Lin.congr (fun K => by simp only [pksK, hx]; try rfl) ((lin_pks r).map _)
    · exact Lin.congr (fun K => by simp only [pksK, hx]; try rfl) Lin.fls
theorem lin_call (g : FuncId) (pks : List Pk) : Lin (callK P s nid g pks) :=
  Lin.ex fun args => Lin.ex fun res => Lin.ex fun upd' => Lin.ret.and.and.and.and.and
theorem lin_int (k : IntKind) (a b : Int) (op : BinOp) : Lin fun K => intK k a b K op := by
  cases op <;> simp only [intK] <;> first | exact Lin.ret | exact Lin.ret.and | exact Lin.fls
theorem lin_bin (xT : TypeId) (op : BinOp) (x y : Value) : Lin (binK P xT op x y) := by
  unfold binK
  cases x <;> try exact Lin.fls
  case int k a =>
    cases y <;> try exact Lin.fls
    case int k' b =>
      simp only
      refine Lin.ite ?_ ?_
      · cases op <;> simp only [shiftK] <;> first | exact Lin.ret.and | exact Lin.fls
      · exact Lin.and (lin_int k a b op)
  case string a =>
    cases y <;> try exact Lin.fls
    case string b => cases op <;> simp only [strK] <;> first | exact Lin.ret | exact Lin.ret.and | exact Lin.fls
  case bool a =>
    cases y <;> try exact Lin.fls
    case bool b => cases op <;> simp only [boolK] <;> first | exact Lin.ret.and | exact Lin.fls
theorem lin_pair (xT : TypeId) (op : BinOp) (xs ys : List SV) : Lin (pairK P xT op xs ys) := by
  unfold pairK
  split
  · refine Lin.and ?_
    cases op <;> simp only <;> first | exact Lin.ret | exact Lin.fls
  · exact Lin.fls
theorem lin_un (op : UnOp) (x : Value) : Lin (unK op x) := by
  unfold unK
  cases op <;> cases x <;> simp only <;> first | exact Lin.ret | exact Lin.fls

theorem lin_eff (o : Oper) : Lin (effK P s nid o) := by
  obtain ⟨d, op, ty, pos, af, gd⟩ := o
  unfold effK
  cases op with
  | move x => exact Lin.ret
  | assign x => exact Lin.ret
  | pick c x y =>
    simp only
    rcases s.ev c with (v | ys) | ps
    · cases v <;> try exact Lin.fls
      case sc v => cases v <;> first | exact Lin.ret | exact Lin.fls
    · exact Lin.fls
    · exact Lin.fls
  | alloc e =>
    simp only
    cases zeroOf P e with
    | none => exact Lin.fls
    | some z => exact Lin.ret
  | box e x =>
    simp only
    rcases s.ev x with (y | ys) | ps
    · exact Lin.ret.and
    · exact Lin.ret
    · exact Lin.fls
  | load t x =>
    simp only
    rcases aggOf P t with _ | n
    · exact Lin.fls
    rcases s.ev x with (y | ys) | ps
    · exact (lin_load y n).map _
    · exact Lin.fls
    · exact Lin.fls
  | store t x y =>
    simp only
    rcases aggOf P t with _ | n
    · exact Lin.fls
    rcases s.ev x with (a | ys) | ps
    · rcases s.ev y with p | ps
      · exact (lin_store a _ _).and
      · exact Lin.fls
    · exact Lin.fls
    · exact Lin.fls
  | nilCheck x =>
    simp only
    rcases s.ev x with (y | ys) | ps
    · exact lin_nil y
    · exact Lin.fls
    · exact Lin.fls
  | binOp op xT x y yT =>
    simp only
    rcases s.ev x with (a | ys) | ps
    · cases a <;> try exact Lin.fls
      case sc a =>
        rcases s.ev y with (b | ys) | ps
        · cases b <;> try exact Lin.fls
          case sc b => exact (lin_bin xT op a b).map _
        · exact Lin.fls
        · exact Lin.fls
    · rcases s.ev y with (b | zs) | ps
      · exact Lin.fls
      · exact (lin_pair xT op ys zs).map _
      · exact Lin.fls
    · exact Lin.fls
  | unOp op t x =>
    simp only
    rcases s.ev x with (a | ys) | ps
    · cases a <;> try exact Lin.fls
      case sc a => exact (lin_un op a).map _
    · exact Lin.fls
    · exact Lin.fls
  | convert a b x =>
    intro K h
    simp only at h ⊢
    split at h
    · rename_i h1 h2 h3; exact ⟨_, h, fun K' hk => hk⟩
    · rename_i h1 h2 h3; exact ⟨_, h, fun K' hk => hk⟩
    · rename_i h1 h2 h3
      obtain ⟨g1, g2⟩ := h
      split at g2
      · rename_i w rows hr
        obtain ⟨bs, g3, g4, g5⟩ := g2
        exact ⟨_, g5, fun K' hk => ⟨g1, bs, g3, g4, hk⟩⟩
      · exact g2.elim
    · exact h.elim
  | field t x f =>
    simp only
    rcases fieldOf P t f with _ | ⟨off, n⟩
    · exact Lin.fls
    cases n with
    | none =>
      rcases s.ev x with (y | ys) | ps
      · exact Lin.fls
      · exact Lin.ret.and
      · exact Lin.fls
    | some n =>
      rcases s.ev x with (y | ys) | ps
      · exact Lin.fls
      · exact Lin.ret.and
      · exact Lin.fls
  | fieldAddr t x f =>
    simp only
    rcases fieldOf P t f with _ | ⟨off, n⟩
    · exact Lin.fls
    rcases s.ev x with (y | ys) | ps
    · exact lin_fld off y
    · exact Lin.fls
    · exact Lin.fls
  | indexAddr t x i =>
    simp only
    rcases elemOf' P t with _ | ⟨e, b, z⟩
    · exact Lin.fls
    rcases s.ev x with (y | ys) | ps
    · exact (lin_asNat _).bind fun k => lin_idx e y k
    · exact Lin.fls
    · exact Lin.fls
  | index t x i =>
    intro K h
    simp only at h ⊢
    split at h
    · rename_i h1 h2
      exact (lin_asNat (s.ev i)).bind (fun k => Lin.ret.and) K h
    · rename_i h1 h2
      exact (((lin_asNat (s.ev i)).bind (fun k => Lin.ret.and)).and.and) K h
    · exact h.elim
  | build t parts =>
    simp only
    rcases placesOf P t with _ | pl
    · exact Lin.fls
    rcases zeroOf P t with _ | z
    · exact Lin.fls
    exact (lin_fill _ _ _).map _
  | buildSlice t len parts =>
    simp only
    rcases elemOf' P t with _ | ⟨w, b, z⟩
    · exact Lin.fls
    exact Lin.and ((lin_fillRows _ _ _ _ _).bind fun rows ws => Lin.ret)
  | makeSlice t l c =>
    simp only
    rcases elemOf' P t with _ | ⟨w, b, z⟩
    · exact Lin.fls
    exact (lin_asNat _).bind fun n => (lin_asNat _).bind fun m => Lin.ret.and.and
  | slice t x lo hi mx =>
    cases mx with
    | some m => exact Lin.fls
    | none =>
      intro K h
      simp only at h ⊢
      split at h
      · rename_i h1 h2
        exact ((lin_asNat? lo _).bind fun l => (lin_asNat? hi _).bind fun hh => Lin.ret.and.and) K h
      · rename_i h1 h2
        split at h
        · rename_i h3
          exact lin_cut _ _ _ _ K h
        · exact h.elim
      · exact h.elim
  | extract x k =>
    simp only
    rcases s.ev x with p | ps
    · exact Lin.fls
    · simp only
      rcases ps[k]? with _ | p
      · exact Lin.fls
      · exact Lin.ret
  | makeFunc f first captured =>
    cases f <;> try exact Lin.fls
    simp only
    refine Lin.and ?_
    rcases varIds captured.toList s with _ | ids
    · exact Lin.fls
    · exact Lin.ret
  | call c =>
    obtain ⟨callee, ⟨args⟩, ⟨tys⟩⟩ := c
    simp only
    cases callee with
    | invoke r m => exact Lin.fls
    | value f =>
      simp only
      rcases s.ev f with (y | ys) | ps
      · cases y with
        | fnv g ids => exact (lin_pks args).bind fun ps => lin_call _ _
        | fni g caps => exact (lin_pks args).bind fun ps => lin_call _ _
        | _ => exact Lin.fls
      · exact Lin.fls
      · exact Lin.fls
    | builtin b =>
      cases b <;> try exact Lin.fls
      case len =>
        match args with
        | [] => exact Lin.fls
        | _ :: _ :: _ => exact Lin.fls
        | [x] =>
          simp only
          rcases s.ev x with (y | ys) | ps
          · cases y with
            | sc v => cases v <;> first | exact Lin.ret.and | exact Lin.ret.and.and
            | _ =>
              refine Lin.and ?_
              split
              · exact Lin.ret
              · exact Lin.fls
          · exact Lin.fls
          · exact Lin.fls
      case append =>
        match args, tys with
        | [], _ => exact Lin.fls
        | [_], _ => exact Lin.fls
        | [_, _], [] => exact Lin.fls
        | [_, _], [_] => exact Lin.fls
        | [_, _], _ :: _ :: _ :: _ => exact Lin.fls
        | _ :: _ :: _ :: _, _ => exact Lin.fls
        | [x, y], [t, t2] =>
          simp only
          rcases elemOf' P t with _ | ⟨w, b, z⟩
          · exact Lin.fls
          · exact (lin_app _ _ _ _).and
      case copy =>
        match args, tys with
        | [], _ => exact Lin.fls
        | [_], _ => exact Lin.fls
        | [_, _], [] => exact Lin.fls
        | [_, _], [_] => exact Lin.fls
        | [_, _], _ :: _ :: _ :: _ => exact Lin.fls
        | _ :: _ :: _ :: _, _ => exact Lin.fls
        | [x, y], [t, t2] =>
          simp only
          rcases elemOf' P t with _ | ⟨w, b, z⟩
          · exact Lin.fls
          · exact lin_cpy _ _ _
      case max =>
        match args with
        | [] => exact Lin.fls
        | [_] => exact Lin.fls
        | _ :: _ :: _ :: _ => exact Lin.fls
        | [x, y] =>
          intro K h
          simp only at h ⊢
          split at h
          · rename_i h1 h2; exact ⟨_, h, fun K' hk => hk⟩
          · exact h.elim
      case min =>
        match args with
        | [] => exact Lin.fls
        | [_] => exact Lin.fls
        | _ :: _ :: _ :: _ => exact Lin.fls
        | [x, y] =>
          intro K h
          simp only at h ⊢
          split at h
          · rename_i h1 h2; exact ⟨_, h, fun K' hk => hk⟩
          · exact h.elim
  | _ => exact Lin.fls
end lin
end Go.Proofs.YtedciihjgbkjgacGreatDoor.A
