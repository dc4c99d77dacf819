/- Packed by pack.py: FCertP FC4 FDenP FLib FConst FTerm FTerm2 FFC WDenialConstraints LKB LDenialConstraints -/
import Derived.Test.YtedciihjgbkjgabGreatDoorAZ3DenialConstraints
import Derived.Test.YtedciihjgbkjgabGreatDoorA46
import Derived.Test.YtedciihjgbkjgabGreatDoorAZ1DenialConstraints
import Derived.WideShapes
import Derived.Test.YtedciihjgbkjgabGreatDoorAZ2DenialConstraints
import Derived.Test.YtedciihjgbkjgabGreatDoorRows
import Derived.Test.YtedciihjgbkjgabGreatDoorCards
import Derived.Test.YtedciihjgbkjgabGreatDoorTie
import Derived.Lay
import Derived.LaidLaws
import Derived.Handed
import Derived.SevenTiedAt

/- CERTAINTY: repairs, embeddings and witnesses. Conditions: none. (No program in sight.) -/
namespace Go.Proofs.YtedciihjgbkjgabGreatDoor.A
open Go
set_option linter.unusedSimpArgs false
set_option linter.unusedVariables false

/-- Facts with different keys are a partial repair. -/
theorem isPR_key {d : Db} {l : List Int} (g : goodDb d = true) (h1 : l.Pairwise (· < ·)) (h2 : ∀ x ∈ l, 0 ≤ x ∧ x < d.facts.length)
    (h3 : ∀ x ∈ l, ∀ y ∈ l, x ≠ y → keyR d x.toNat y.toNat = false) : isPR d l = true := by
  have hix := idxs_of h1 h2
  have hok : selOk d l = true := by unfold selOk; rw [g, hix]; rfl
  have hsel : selD d l = ⟨d.rels, selF d.facts l⟩ := by unfold selD; rw [hok]; rfl
  have hlen : (selF d.facts l).length = l.length := selF_length _ _
  have hget : ∀ k, k < l.length → (selF d.facts l).getD k default = d.facts.getD (l.getD k 0).toNat default := by
    intro k hk
    simp [selF, List.getD_eq_getElem?_getD, hk]
  have hll : (l.length : Int) ≤ d.facts.length := by
    rcases e : l.length with _ | k
    · omega
    · have : ∀ j, j < l.length → (j : Int) ≤ l.getD j 0 := by
        intro j
        induction j with
        | zero => intro hj; exact (h2 _ (mem_getD 0 hj)).1
        | succ j ih =>
          intro hj
          have := idxs_lt hix (j + 1) j hj (by omega)
          have := ih (by omega)
          omega
      have a1 := this k (by omega)
      have a2 := (h2 _ (mem_getD 0 (show k < l.length by omega))).2
      omega
  have hgood : goodDb (selD d l) = true := by
    have gr := (db_of g).1
    have gn := (db_of g).2.1
    rw [hsel]
    unfold goodDb
    simp only [Bool.and_eq_true, decide_eq_true_eq]
    refine ⟨gr, by rw [hlen]; omega, upTo_true fun k hk => ?_⟩
    rw [hlen] at hk
    obtain ⟨a1, a2⟩ := h2 _ (mem_getD 0 hk)
    unfold factOk
    simp only
    rw [hget k hk, fact_of g (by omega), Bool.true_and]
    rcases k with _ | k
    · rfl
    · rw [Nat.add_sub_cancel, decide_eq_false (by omega : ¬ k + 1 = 0), Bool.false_or, Bool.not_eq_true', decide_eq_false_iff_not, hget k (by omega)]
      have b1 := idxs_lt hix (k + 1) k hk (by omega)
      obtain ⟨b2, b3⟩ := h2 _ (mem_getD 0 (show k < l.length by omega))
      have := db_sorted g (show (l.getD k 0).toNat < (l.getD (k + 1) 0).toNat by omega) (by omega)
      omega
  have hfst : ∀ i, i < l.length → isFst (keyR (selD d l)) i = true := by
    intro i hi
    refine isFst_of fun j hj => ?_
    have b1 := idxs_lt hix i j hi hj
    have h4 := h3 _ (mem_getD 0 (show j < l.length by omega)) _ (mem_getD 0 hi) (by omega)
    unfold keyR at h4 ⊢
    rw [hsel]
    simp only
    rw [hget j (by omega), hget i hi]
    exact h4
  unfold isPR cst
  rw [hok, hgood, Bool.true_and, Bool.true_and, decide_eq_true_iff]
  unfold blocksOf blk blkN
  rw [List.length_map, List.length_map]
  have hf : (selD d l).facts.length = l.length := by rw [hsel]; exact hlen
  rw [hf]
  unfold fsts
  rw [List.filter_eq_self.mpr (fun i hi => hfst i (by simpa using hi)), List.length_range]
theorem repD_PR {d : Db} (g : goodDb d = true) (k : Nat) : isPR d (repD d k) = true := by
  refine isPR_key g (nth'_asc g k) (fun x hx => ?_) (fun x hx y hy hne => ?_)
  · obtain ⟨n, h1, h2⟩ := rep_in g hx
    omega
  · obtain ⟨a, rfl, h2⟩ := rep_in g hx
    obtain ⟨b, rfl, h4⟩ := rep_in g hy
    rw [Int.toNat_natCast, Int.toNat_natCast]
    rcases e : keyR d a b
    · rfl
    · exact absurd (by rw [rep_one g hx hy e]) hne
/-! #### embeddings in a part of the facts -/
theorem walkE_pre {ds ats : List RI} : ∀ {m : Nat} {vs fs : List Int}, ∀ e ∈ walkE ds ats m vs fs, ∀ j, j < fs.length → e.fs.getD j 0 = fs.getD j 0
  | 0, vs, fs, e, he, j, hj => by
    simp only [walkE, List.mem_singleton] at he
    subst he; rfl
  | m + 1, vs, fs, e, he, j, hj => by
    rw [walkE_succ, found_mem] at he
    obtain ⟨i, hi, he⟩ := he
    unfold oneE at he
    split at he
    · rw [walkE_pre e he j (by rw [List.length_append]; omega), List.getD_eq_getElem?_getD, List.getElem?_append_left hj, ← List.getD_eq_getElem?_getD]
    · cases he
theorem snoc_at (fs : List Int) (x : Int) : (fs ++ [x]).getD fs.length 0 = x := by
  rw [List.getD_eq_getElem?_getD, List.getElem?_append_right (Nat.le_refl _), Nat.sub_self]; rfl
theorem selF_get {ds : List RI} {s : List Int} {i : Nat} (h : i < s.length) : (selF ds s).getD i default = ds.getD (s.getD i 0).toNat default := by
  simp [selF, List.getD_eq_getElem?_getD, h]
theorem walkE_sub {ds ats : List RI} {s : List Int} (hs : ∀ x ∈ s, 0 ≤ x ∧ x < ds.length) : ∀ (m : Nat) (vs fs fs' : List Int),
    (∃ e', e' ∈ walkE (selF ds s) ats m vs fs') ↔ ∃ e ∈ walkE ds ats m vs fs, ∀ t, fs.length ≤ t → t < fs.length + m → e.fs.getD t 0 ∈ s
  | 0, vs, fs, fs' => by
    simp only [walkE, List.mem_singleton]
    exact ⟨fun _ => ⟨_, rfl, fun t h1 h2 => by omega⟩, fun _ => ⟨_, rfl⟩⟩
  | m + 1, vs, fs, fs' => by
    rw [walkE_succ, walkE_succ]
    simp only [found_mem]
    constructor
    · rintro ⟨e', i', h1, h2⟩
      rw [selF_length] at h1
      unfold oneE at h2
      rw [selF_get h1] at h2
      have hin := mem_getD 0 h1
      obtain ⟨b1, b2⟩ := hs _ hin
      obtain ⟨i, hi⟩ : ∃ i : Nat, s.getD i' 0 = i := ⟨(s.getD i' 0).toNat, by omega⟩
      rw [hi, Int.toNat_natCast] at h2
      split at h2
      · rename_i x hx
        obtain ⟨e, h3, h4⟩ := (walkE_sub hs m x (fs ++ [(i : Int)]) _).mp ⟨e', h2⟩
        refine ⟨e, ⟨i, by omega, by rw [oneE_some hx]; exact h3⟩, fun t h5 h6 => ?_⟩
        rcases Nat.lt_or_ge fs.length t with h7 | h7
        · exact h4 t (by rw [List.length_append, List.length_singleton]; omega) (by rw [List.length_append, List.length_singleton]; omega)
        · obtain rfl : t = fs.length := by omega
          rw [walkE_pre e h3 _ (by rw [List.length_append, List.length_singleton]; omega), snoc_at, ← hi]
          exact hin
      · cases h2
    · rintro ⟨e, ⟨i, h1, h2⟩, h3⟩
      unfold oneE at h2
      split at h2
      · rename_i x hx
        have h4 := h3 fs.length (Nat.le_refl _) (by omega)
        rw [walkE_pre e h2 _ (by rw [List.length_append, List.length_singleton]; omega), snoc_at] at h4
        obtain ⟨i', h5, h6⟩ := getD_in h4
        obtain ⟨e', h7⟩ := (walkE_sub hs m x (fs ++ [(i : Int)]) (fs' ++ [(i' : Int)])).mpr ⟨e, h2, fun t h8 h9 => by
          rw [List.length_append, List.length_singleton] at h8 h9
          exact h3 t (by omega) (by omega)⟩
        refine ⟨e', i', by rw [selF_length]; exact h5, ?_⟩
        have hx' : meet (atomAt ats m) ((selF ds s).getD i' default) vs = some x := by
          rw [selF_get h5, h6, Int.toNat_natCast]; exact hx
        rw [oneE_some hx']
        exact h7
      · cases h2
theorem met_iff {ws : List (List Int)} {r : List Int} : met ws r = true ↔ ∃ w ∈ ws, ∀ x ∈ w, x ∈ r := by
  unfold met
  rw [Bool.not_eq_true']
  constructor
  · intro h
    refine Classical.byContradiction fun hn => ?_
    rw [upTo_true (p := metU ws r) (n := ws.length) fun k hk => ?_] at h
    · cases h
    · unfold metU
      rw [Bool.not_eq_true']
      rcases e : subs (ws.getD k []) r
      · rfl
      · exact absurd ⟨_, mem_getD [] hk, subs_iff.mp e⟩ hn
  · rintro ⟨w, h1, h2⟩
    obtain ⟨k, hk, rfl⟩ := List.mem_iff_getElem.mp h1
    refine upTo_false hk ?_
    unfold metU
    rw [List.getD_eq_getElem?_getD, List.getElem?_eq_getElem hk, Option.getD_some, subs_iff.mpr h2]; rfl
theorem met_embs {d : Db} {q : Qu} {r : List Int} : met (wits d q) r = true ↔ ∃ e ∈ embs d q, ∀ x ∈ e.fs, x ∈ r := by
  rw [met_iff]
  unfold wits
  constructor
  · rintro ⟨w, h1, h2⟩
    obtain ⟨e, h3, rfl⟩ := List.mem_map.mp h1
    exact ⟨e, h3, fun x hx => h2 x ((sortI_perm e.fs).mem_iff.mpr hx)⟩
  · rintro ⟨e, h1, h2⟩
    exact ⟨_, List.mem_map_of_mem h1, fun x hx => h2 x ((sortI_perm e.fs).mem_iff.mp hx)⟩
theorem queryFor_of {d : Db} {q : Qu} (h1 : goodDb d = true) (h2 : goodQu d.rels q = true) : queryFor d q = true := by
  unfold queryFor; rw [h1, h2]; rfl
/-- Where a query holds. -/
theorem holds_met {d : Db} {q : Qu} {s : List Int} (g : queryFor d q = true) (hs : isPR d s = true) : holdsIn d s q = met (wits d q) s := by
  unfold isPR at hs
  rw [Bool.and_eq_true] at hs
  obtain ⟨h1, h2⟩ := hs
  have hsel : selD d s = ⟨d.rels, selF d.facts s⟩ := by unfold selD; rw [h1]; rfl
  have hgood : goodDb (selD d s) = true := by unfold cst at h2; rw [Bool.and_eq_true] at h2; exact h2.1
  have hix : idxs s d.facts.length = true := by unfold selOk at h1; rw [Bool.and_eq_true] at h1; exact h1.2
  have hin : ∀ x ∈ s, 0 ≤ x ∧ x < d.facts.length := by
    intro x hx
    obtain ⟨i, hi, rfl⟩ := getD_in hx
    exact idxs_at hix hi
  have g2 : queryFor (selD d s) q = true := queryFor_of hgood (by rw [hsel]; show goodQu d.rels q = true; exact queryFor_qu g)
  unfold holdsIn
  rw [h1, Bool.true_and, Bool.eq_iff_iff, decide_eq_true_iff, met_embs]
  have hsub := walkE_sub (ds := d.facts) (ats := q.atoms) hin q.atoms.length (List.replicate q.vc.toNat (-1)) [] []
  have e1 : embs (selD d s) q = walkE (selF d.facts s) q.atoms q.atoms.length (List.replicate q.vc.toNat (-1)) [] := by
    unfold embs; rw [if_pos g2, hsel]
  have e2 : embs d q = walkE d.facts q.atoms q.atoms.length (List.replicate q.vc.toNat (-1)) [] := by
    unfold embs; rw [if_pos g]
  rw [← e1, ← e2] at hsub
  constructor
  · intro h
    rcases hl : embs (selD d s) q with _ | ⟨e', L⟩
    · rw [hl] at h; simp at h
    · obtain ⟨e, h3, h4⟩ := hsub.mp ⟨e', by rw [hl]; exact List.mem_cons_self ..⟩
      refine ⟨e, h3, fun x hx => ?_⟩
      obtain ⟨t, h5, rfl⟩ := getD_in hx
      have := (embs_fs e h3).2.1
      exact h4 t (Nat.zero_le _) (by rw [List.length_nil]; omega)
  · rintro ⟨e, h3, h4⟩
    have hl := (embs_fs e h3).2.1
    obtain ⟨e', h5⟩ := hsub.mpr ⟨e, h3, fun t _ h6 => h4 _ (mem_getD 0 (by rw [List.length_nil] at h6; omega))⟩
    have := List.length_pos_of_mem h5
    omega
/-! #### how many repairs -/
theorem cntP_both (P Q : Nat → Bool) (h : ∀ k, Q k = !P k) : ∀ n, cntP P n + cntP Q n = n
  | 0 => rfl
  | n + 1 => by
    have := cntP_both P Q h n
    rcases hp : P n
    · rw [cntP_no hp, cntP_yes (show Q n = true by rw [h, hp]; rfl)]; omega
    · rw [cntP_yes hp, cntP_no (show Q n = false by rw [h, hp]; rfl)]; omega
theorem cntP_pos {P : Nat → Bool} {f : Nat → List Int} : ∀ {n : Nat}, 0 < cntP P n → ∃ k, k < n ∧ P k = true ∧ fstP P f n = f k
  | 0, h => by simp [cntP] at h
  | n + 1, h => by
    by_cases h0 : 0 < cntP P n
    · obtain ⟨k, h1, h2, h3⟩ := cntP_pos (f := f) h0
      exact ⟨k, by omega, h2, by rw [fstP_old (by omega), h3]⟩
    · rcases hp : P n
      · rw [cntP_no hp] at h; omega
      · exact ⟨n, by omega, hp, fstP_new hp (by omega)⟩
/-- Every choice of one fact of each block is a repair of some rank. -/
theorem pickR_add : ∀ (l : List (List Int)) (r i : Nat), (∀ b ∈ l, 0 < b.length) → r < prodL l → pickR l (r + prodL l * i) = ((pickR l r).1, i)
  | [], r, i, _, h => by
    rw [prodL] at h ⊢
    obtain rfl : r = 0 := by omega
    simp [pickR]
  | b :: l, r, i, hl, h => by
    have hl' : ∀ c ∈ l, 0 < c.length := fun c hc => hl c (by simp [hc])
    have hb := hl b (by simp)
    have hp := prodL_pos hl'
    rw [prodL] at h ⊢
    have e1 : r = r % prodL l + prodL l * (r / prodL l) := by rw [Nat.add_comm, Nat.div_add_mod]
    have hq : r / prodL l < b.length := Nat.div_lt_of_lt_mul (by rw [Nat.mul_comm]; exact h)
    have e2 : r + b.length * prodL l * i = r % prodL l + prodL l * (r / prodL l + b.length * i) := by
      rw [Nat.mul_add]
      have : prodL l * (b.length * i) = b.length * prodL l * i := by rw [← Nat.mul_assoc, Nat.mul_comm (prodL l)]
      omega
    have hr : r % prodL l < prodL l := Nat.mod_lt _ hp
    have a1 := pickR_add l (r % prodL l) (r / prodL l + b.length * i) hl' hr
    have a2 := pickR_add l (r % prodL l) (r / prodL l) hl' hr
    rw [← e2] at a1
    rw [← e1] at a2
    rw [pickR, pickR, a1, a2]
    simp only
    rw [Nat.add_mul_mod_self_left, Nat.mod_eq_of_lt hq, Nat.add_mul_div_left _ _ hb, Nat.div_eq_of_lt hq, Nat.zero_add]
theorem pickR_all : ∀ (l : List (List Int)) (ch : List Int), (∀ b ∈ l, 0 < b.length) → ch.length = l.length → (∀ i, i < l.length → ch.getD i 0 ∈ l.getD i []) → ∃ r, r < prodL l ∧ (pickR l r).1 = ch
  | [], ch, _, h, _ => ⟨0, by simp [prodL], by rw [pickR]; exact (List.length_eq_zero_iff.mp h).symm⟩
  | b :: l, [], _, h, _ => by cases h
  | b :: l, x :: ch, hl, h, hm => by
    have hl' : ∀ c ∈ l, 0 < c.length := fun c hc => hl c (by simp [hc])
    obtain ⟨r, h1, h2⟩ := pickR_all l ch hl' (by simpa using h) fun i hi => by
      have := hm (i + 1) (by simpa using hi)
      simpa using this
    have hx : x ∈ b := by
      have := hm 0 (by simp)
      simpa using this
    obtain ⟨i, hi, hix⟩ := getD_in hx
    refine ⟨r + prodL l * i, ?_, ?_⟩
    · rw [prodL]
      have : prodL l * i + prodL l ≤ b.length * prodL l := by
        rw [← Nat.mul_succ, Nat.mul_comm]; exact Nat.mul_le_mul_right _ hi
      omega
    · rw [pickR, pickR_add l r i hl' h1]
      simp only
      rw [Nat.mod_eq_of_lt hi, hix, h2]
theorem rep_through {d : Db} (g : goodDb d = true) {s : List Int} (h1 : ∀ x ∈ s, ∃ n : Nat, x = n ∧ n < d.facts.length) (h2 : ∀ x ∈ s, ∀ y ∈ s, x ≠ y → keyR d x.toNat y.toNat = false) :
    ∃ k, k < prodL (blocksOf d) ∧ ∀ x ∈ s, x ∈ repD d k := by
  have E := keyR_eqv g
  have hb : ∀ b ∈ blocksOf d, 0 < b.length := blk_ne E (Nat.le_refl _)
  obtain ⟨r, h3, h4⟩ := pickR_all (blocksOf d) ((blocksOf d).map fun b => (b.find? fun x => decide (x ∈ s)).getD (b.getD 0 0)) hb (by simp) (fun i hi => by
    have hbi := hb _ (mem_getD ([] : List Int) hi)
    have e : ((blocksOf d).map fun b => (b.find? fun x => decide (x ∈ s)).getD (b.getD 0 0)).getD i 0 = (((blocksOf d).getD i []).find? fun x => decide (x ∈ s)).getD (((blocksOf d).getD i []).getD 0 0) := by
      simp [List.getD_eq_getElem?_getD, hi]
    rw [e]
    rcases hf : ((blocksOf d).getD i []).find? fun x => decide (x ∈ s) with _ | x
    · exact mem_getD 0 hbi
    · exact List.mem_of_find?_eq_some hf)
  refine ⟨r, h3, fun x hx => ?_⟩
  unfold repD
  rw [h4]
  obtain ⟨n, rfl, hn⟩ := h1 x hx
  obtain ⟨b, hbb, hnb⟩ := blk_cover E hn
  refine List.mem_map.mpr ⟨b, hbb, ?_⟩
  rcases hf : b.find? fun x => decide (x ∈ s) with _ | y
  · have := List.find?_eq_none.mp hf _ hnb
    simp [hx] at this
  · have hy1 := List.mem_of_find?_eq_some hf
    have hy2 : y ∈ s := by simpa using List.find?_some hf
    rw [Option.getD_some]
    refine Classical.byContradiction fun hne => ?_
    obtain ⟨m, rfl, hm⟩ := h1 y hy2
    have h5 := h2 _ hx _ hy2 (fun e => hne e.symm)
    rw [Int.toNat_natCast, Int.toNat_natCast, (blk_same E hbb hnb hm).mp hy1] at h5
    cases h5
/-- A query is possible where it has an embedding. -/
theorem possible_iff {d : Db} {q : Qu} (g : queryFor d q = true) : 0 < cntP (holdP d q true) (prodL (blocksOf d)) ↔ 0 < (embs d q).length := by
  have gd := queryFor_db g
  constructor
  · intro h
    obtain ⟨k, _, h2, _⟩ := cntP_pos (f := repD d) h
    unfold holdP at h2
    obtain ⟨e, h3, _⟩ := met_embs.mp (eq_of_beq h2)
    exact List.length_pos_of_mem h3
  · intro h
    obtain ⟨e, L, hl⟩ := List.exists_cons_of_length_pos h
    have he : e ∈ embs d q := by rw [hl]; exact List.mem_cons_self ..
    have hpr := witness_ok e he
    obtain ⟨_, f1, f2⟩ := embs_fs e he
    have hin : ∀ x ∈ e.fs, ∃ t, t < q.atoms.length ∧ e.fs.getD t 0 = x := by
      intro x hx
      obtain ⟨t, ht, e1⟩ := getD_in hx
      exact ⟨t, by omega, e1⟩
    obtain ⟨k, h1, h2⟩ := rep_through gd (s := e.fs) (fun x hx => by
      obtain ⟨t, ht, rfl⟩ := hin x hx
      obtain ⟨i, a1, a2, _⟩ := f2 t ht
      exact ⟨i, a1, a2⟩) (fun x hx y hy hne => by
      obtain ⟨s, hs, rfl⟩ := hin x hx
      obtain ⟨t, ht, rfl⟩ := hin y hy
      obtain ⟨i, a1, a2, a3⟩ := f2 s hs
      obtain ⟨j, b1, b2, b3⟩ := f2 t ht
      rw [a1, b1, Int.toNat_natCast, Int.toNat_natCast]
      rcases ek : keyR d i j
      · rfl
      · unfold keyR at ek
        have hr := (sameK_iff.mp ek).1
        rw [a3, b3] at hr
        have hst : s ≠ t := by rintro rfl; exact hne rfl
        rcases Nat.lt_or_ge s t with hlt | hge
        · exact absurd hr (newRels (queryFor_qu g) hlt ht)
        · exact absurd hr.symm (newRels (queryFor_qu g) (show t < s by omega) hs))
    have hP : holdP d q true k = true := by
      unfold holdP
      rw [met_embs.mpr ⟨e, he, h2⟩]; rfl
    have := cntP_mono (P := holdP d q true) (show k + 1 ≤ prodL (blocksOf d) by omega)
    rw [cntP_yes hP] at this
    omega
section cert
variable {d : Db} {q : Qu} (g : queryFor d q = true)
include g
theorem hldC_sum : hldC d q false + hldC d q true = prodL (blocksOf d) := by
  unfold hldC
  rw [if_pos g, if_pos g]
  exact cntP_both _ _ (fun k => by unfold holdP; cases met (wits d q) (repD d k) <;> rfl) _
theorem hldF_at {want : Bool} (h : 0 < hldC d q want) : ∃ k, k < prodL (blocksOf d) ∧ hldF d q want = repD d k ∧ holdsIn d (repD d k) q = want := by
  unfold hldC at h
  rw [if_pos g] at h
  obtain ⟨k, h1, h2, h3⟩ := cntP_pos (f := repD d) h
  refine ⟨k, h1, by unfold hldF; rw [if_pos g, h3], ?_⟩
  rw [holds_met g (repD_PR (queryFor_db g) k)]
  exact eq_of_beq h2
theorem hldC_embs : decide (0 < hldC d q true) = decide (0 < (embs d q).length) := by
  unfold hldC
  rw [if_pos g]
  exact decide_eq_decide.mpr (possible_iff g)
end cert
end Go.Proofs.YtedciihjgbkjgabGreatDoor.A


/- DATABASES THAT SATISFY CONSTRAINTS. Conditions: none. -/
namespace Go.Proofs.YtedciihjgbkjgabGreatDoor.A
open Go
set_option linter.unusedSimpArgs false
set_option linter.unusedVariables false
set_option maxRecDepth 100000

def satB (d : Db) (l : List Den) : Bool := goodDb d && (((edgesOf d l).length : Int) == 0)
theorem specSatisfiesConstraints_sat (d : Db) (l : List Den) (h : d.fit) (hl : l.length ≤ 9223372036854775807) : Sat Tryz.prog 16 [lDb d, lDens l] [lBool (satB d l)] [g2, g1] := by
  refine sat_of_body mixed Tryz.func16 rfl (by kernel_rfl) (by kernel_rfl) (rs := [.tmp 4]) rfl rfl rfl ?_
  unfold satB
  simp -implicitDefEqProofs (maxSteps := 2000000) only [go_sem]
  rcases g : goodDb d
  · refine call_of (specIsValidDatabase_sat d h) (by simp -implicitDefEqProofs (maxSteps := 2000000) only [go_sem, g]) (by kernel_rfl) (by simp -implicitDefEqProofs (maxSteps := 2000000) only [go_sem, g]) ?_
    simp -implicitDefEqProofs (maxSteps := 2000000) only [go_sem, g]
  refine call_of (specIsValidDatabase_sat d h) (by simp -implicitDefEqProofs (maxSteps := 2000000) only [go_sem, g]) (by kernel_rfl) (by simp -implicitDefEqProofs (maxSteps := 2000000) only [go_sem, g]) ?_
  simp -implicitDefEqProofs (maxSteps := 2000000) only [go_sem, g]
  refine call_of (specConflictEdges_sat d l h hl) (by simp -implicitDefEqProofs (maxSteps := 2000000) only [go_sem]) (by kernel_rfl) (by simp -implicitDefEqProofs (maxSteps := 2000000) only [go_sem]) ?_
  simp -implicitDefEqProofs (maxSteps := 2000000) only [go_sem]
theorem implSatisfiesConstraints_sat (d : Db) (l : List Den) (h : d.fit) (hl : l.length ≤ 9223372036854775807) : Sat Tryz.prog 15 [lDb d, lDens l] [lBool (satB d l)] [g2, g1] := by
  refine sat_of_body mixed Tryz.func15 rfl (by kernel_rfl) (by kernel_rfl) (rs := [.tmp 4]) rfl rfl rfl ?_
  unfold satB
  simp -implicitDefEqProofs (maxSteps := 2000000) only [go_sem]
  rcases g : goodDb d
  · refine call_of (implIsValidDatabase_sat d h) (by simp -implicitDefEqProofs (maxSteps := 2000000) only [go_sem, g]) (by kernel_rfl) (by simp -implicitDefEqProofs (maxSteps := 2000000) only [go_sem, g]) ?_
    simp -implicitDefEqProofs (maxSteps := 2000000) only [go_sem, g]
  refine call_of (implIsValidDatabase_sat d h) (by simp -implicitDefEqProofs (maxSteps := 2000000) only [go_sem, g]) (by kernel_rfl) (by simp -implicitDefEqProofs (maxSteps := 2000000) only [go_sem, g]) ?_
  simp -implicitDefEqProofs (maxSteps := 2000000) only [go_sem, g]
  refine call_of (implConflictEdges_sat d l h hl) (by simp -implicitDefEqProofs (maxSteps := 2000000) only [go_sem]) (by kernel_rfl) (by simp -implicitDefEqProofs (maxSteps := 2000000) only [go_sem]) ?_
  simp -implicitDefEqProofs (maxSteps := 2000000) only [go_sem]
end Go.Proofs.YtedciihjgbkjgabGreatDoor.A


/- DENIAL CONSTRAINTS: a set without conflict edges satisfies them. Conditions: none. (No program in sight.) -/
namespace Go.Proofs.YtedciihjgbkjgabGreatDoor.A
open Go
set_option linter.unusedSimpArgs false
set_option linter.unusedVariables false

theorem edgesOf_mem {d : Db} {l : List Den} (g : goodDb d = true) {e : Edge} : e ∈ edgesOf d l ↔ ∃ a b : Nat, b < d.facts.length ∧ a < b ∧ confl d l a b = true ∧ e = ⟨a, b⟩ := by
  unfold edgesOf
  rw [if_pos g, allE_mem]
  constructor
  · rintro ⟨a, b, h1, h2, h3, h4, h5⟩; exact ⟨a, b, h2, h3, h4, h5⟩
  · rintro ⟨a, b, h2, h3, h4, h5⟩; exact ⟨a, b, by omega, h2, h3, h4, h5⟩
theorem edgesOf_good {d : Db} {l : List Den} (g : goodDb d = true) : goodEds d.facts.length (edgesOf d l) = true := by
  unfold edgesOf
  rw [if_pos g]
  exact allE_good (goodDb_len g)
section den
variable {d : Db} {l : List Den} {s : List Int} (g : goodDb d = true) (hm : isMax d.facts.length (edgesOf d l) s = true)
include g hm
theorem den_no {a b : Nat} (ha : ((a : Nat) : Int) ∈ s) (hb : ((b : Nat) : Int) ∈ s) (h : a < b) (hbn : b < d.facts.length) : confl d l a b = false := by
  rcases e : confl d l a b
  · rfl
  · have h1 := isMax_indep hm
    rw [indep_no (e := ⟨a, b⟩) ((edgesOf_mem g).mpr ⟨a, b, hbn, h, e, rfl⟩) ha hb] at h1
    cases h1
omit g in
theorem den_set : s.Pairwise (· < ·) ∧ ∀ x ∈ s, 0 ≤ x ∧ x < d.facts.length := by
  have h := hm
  unfold isMax at h
  simp only [Bool.and_eq_true] at h
  exact ixs_lt h.2.1
theorem den_PR : isPR d s = true := by
  obtain ⟨h1, h2⟩ := den_set hm
  have E := keyR_eqv g
  refine isPR_key g h1 h2 fun x hx y hy hne => ?_
  obtain ⟨a1, a2⟩ := h2 x hx
  obtain ⟨b1, b2⟩ := h2 y hy
  obtain ⟨a, rfl⟩ : ∃ a : Nat, x = a := ⟨x.toNat, by omega⟩
  obtain ⟨b, rfl⟩ : ∃ b : Nat, y = b := ⟨y.toNat, by omega⟩
  rw [Int.toNat_natCast, Int.toNat_natCast]
  have key : ∀ u v : Nat, ((u : Nat) : Int) ∈ s → ((v : Nat) : Int) ∈ s → u < v → v < d.facts.length → keyR d u v = false := by
    intro u v hu hv huv hvn
    have := den_no g hm hu hv huv hvn
    unfold confl at this
    rw [Bool.or_eq_false_iff] at this
    exact this.2
  rcases Nat.lt_trichotomy a b with h | h | h
  · exact key a b hx hy h (by omega)
  · subst h; exact absurd rfl hne
  · rcases e : keyR d a b
    · rfl
    · have h1 := key b a hy hx h (by omega)
      rw [E.symm a b (by omega) (by omega) e] at h1
      cases h1
theorem den_sel : selOk d s = true ∧ goodDb (selD d s) = true ∧ selD d s = ⟨d.rels, selF d.facts s⟩ := by
  have h := den_PR g hm
  unfold isPR cst at h
  simp only [Bool.and_eq_true] at h
  exact ⟨h.1, h.2.1, by unfold selD; rw [h.1]; rfl⟩
theorem den_viol {x : Den} {i k : Nat} (hi : i < s.length) (hk : k < s.length) (hne : i ≠ k) (h : violB (selD d s) x i k = true) : violB d x (s.getD i 0).toNat (s.getD k 0).toNat = true := by
  obtain ⟨h1, h2, h3⟩ := den_sel g hm
  obtain ⟨p1, p2⟩ := den_set hm
  obtain ⟨a1, a2⟩ := p2 _ (mem_getD 0 hi)
  obtain ⟨b1, b2⟩ := p2 _ (mem_getD 0 hk)
  rw [h3] at h h2
  have hix := idxs_of p1 p2
  have hd : s.getD i 0 ≠ s.getD k 0 := by
    rcases Nat.lt_or_ge i k with h' | h'
    · have := idxs_lt hix k i hk h'; omega
    · have := idxs_lt hix i k hi (by omega); omega
  unfold violB goodDen at h ⊢
  simp only [Bool.and_eq_true] at h ⊢
  obtain ⟨⟨q1, q2⟩, q3, q4, q5, q6⟩ := h
  rw [Int.toNat_natCast, Int.toNat_natCast, selF_get hi, selF_get hk] at q6
  refine ⟨⟨g, q2⟩, ?_, ?_, ?_, ?_⟩
  · rw [bne_iff_ne]; omega
  · unfold inB; rw [Bool.and_eq_true, decide_eq_true_iff, decide_eq_true_iff]; omega
  · unfold inB; rw [Bool.and_eq_true, decide_eq_true_iff, decide_eq_true_iff]; omega
  · rw [Int.toNat_natCast, Int.toNat_natCast]; exact q6
/-- The facts of a set without conflict edges satisfy the constraints. -/
theorem den_sat : satB (selD d s) l = true := by
  obtain ⟨h1, h2, h3⟩ := den_sel g hm
  obtain ⟨p1, p2⟩ := den_set hm
  have hix := idxs_of p1 p2
  have hlen : (selD d s).facts.length = s.length := by rw [h3]; exact selF_length _ _
  have he : edgesOf (selD d s) l = [] := by
    rcases e : edgesOf (selD d s) l with _ | ⟨x, L⟩
    · rfl
    · exfalso
      obtain ⟨a, b, c1, c2, c3, -⟩ := (edgesOf_mem h2).mp (show x ∈ edgesOf (selD d s) l by rw [e]; exact List.mem_cons_self ..)
      rw [hlen] at c1
      obtain ⟨a1, a2⟩ := p2 _ (mem_getD 0 (show a < s.length by omega))
      obtain ⟨b1, b2⟩ := p2 _ (mem_getD 0 c1)
      have hlt := idxs_lt hix b a c1 c2
      have ma : (((s.getD a 0).toNat : Nat) : Int) ∈ s := by rw [Int.toNat_of_nonneg a1]; exact mem_getD 0 (by omega)
      have mb : (((s.getD b 0).toNat : Nat) : Int) ∈ s := by rw [Int.toNat_of_nonneg b1]; exact mem_getD 0 c1
      have no := den_no g hm ma mb (by omega) (by omega)
      unfold confl at no c3
      rw [Bool.or_eq_false_iff] at no
      rw [Bool.or_eq_true] at c3
      rcases c3 with c3 | c3
      · obtain ⟨y, y1, y2⟩ := List.any_eq_true.mp c3
        have : hit d (((s.getD a 0).toNat : Nat) : Int) (((s.getD b 0).toNat : Nat) : Int) y = true := by
          unfold hit at y2 ⊢
          rw [Bool.or_eq_true] at y2 ⊢
          rcases y2 with y2 | y2
          · exact .inl (den_viol g hm (by omega) c1 (by omega) y2)
          · exact .inr (den_viol g hm c1 (by omega) (by omega) y2)
        have h4 := List.any_eq_false.mp no.1 y y1
        rw [this] at h4
        exact h4 rfl
      · rw [h3] at c3
        simp only at c3
        rw [selF_get (by omega), selF_get c1] at c3
        rw [no.2] at c3
        cases c3
  unfold satB
  rw [h2, he]; rfl
end den
end Go.Proofs.YtedciihjgbkjgabGreatDoor.A


/- THE LIBRARY'S IndexByte AND Itoa, of this program. Conditions: none. -/
namespace Go.Proofs.YtedciihjgbkjgabGreatDoor.A
open Go Go.Shelf
set_option linter.unusedVariables false
set_option maxRecDepth 100000
def laysIdxB_ren : Go.Shelf.Ren := ⟨fun | 137 => 128 | 217 => 152 | 266 => 172 | n => n, fun | 3 => 3 | 5 => 5 | 9 => 9 | n => n, fun n => n⟩
theorem laysIdxB : Lays.n137 Tryz.prog laysIdxB_ren where
  mixed := by kernel_rfl
  f137 := Tryz.func128.trans (congrArg some (by kernel_rfl))
  f217 := Tryz.func152.trans (congrArg some (by kernel_rfl))
  f266 := Tryz.func172.trans (congrArg some (by kernel_rfl))
  t3 := Tryz.underlying3
  a3 := Tryz.isAgg3
  z3 := Tryz.sizeOf3
  v3 := Tryz.zeroValue3
  t5 := Tryz.underlying5
  a5 := Tryz.isAgg5
  z5 := Tryz.sizeOf5
  v5 := Tryz.zeroValue5
  t9 := Tryz.underlying9
  a9 := Tryz.isAgg9
  z9 := Tryz.sizeOf9
  v9 := Tryz.zeroValue9
theorem stringsIndexByte_sat (s : ByteArray) (c : Int) : Sat Tryz.prog 128 [lStr s, .one (.sc (.int .u8 c))] [lInt (Lib.indexByte s.data.toList c.toNat.toUInt8)] [g1, g1] :=
  pure2_sat Tryz.func128 rfl (by kernel_rfl) _ _ _ (Any.strings_IndexByte laysIdxB s c)
def laysItoa_ren : Go.Shelf.Ren := ⟨fun | 129 => 124 | 171 => 81 | 243 => 112 | 246 => 145 | 283 => 167 | 284 => 168 | 285 => 169 | 286 => 170 | 317 => 180 | 318 => 181 | 319 => 182 | 320 => 183 | 337 => 185 | 338 => 186 | n => n, fun | 0 => 0 | 2 => 2 | 3 => 3 | 4 => 4 | 5 => 5 | 9 => 9 | 20 => 20 | 37 => 22 | 46 => 118 | 51 => 143 | 53 => 145 | 171 => 183 | 173 => 185 | 212 => 201 | 213 => 202 | 232 => 207 | 233 => 208 | n => n, fun | 17 => 1 | 18 => 4 | 19 => 5 | n => n⟩
theorem laysItoa : Lays.n171 Tryz.prog laysItoa_ren where
  mixed := by kernel_rfl
  f129 := Tryz.func124.trans (congrArg some (by kernel_rfl))
  f171 := Tryz.func81.trans (congrArg some (by kernel_rfl))
  f243 := Tryz.func112.trans (congrArg some (by kernel_rfl))
  f246 := Tryz.func145.trans (congrArg some (by kernel_rfl))
  f283 := Tryz.func167.trans (congrArg some (by kernel_rfl))
  f284 := Tryz.func168.trans (congrArg some (by kernel_rfl))
  f285 := Tryz.func169.trans (congrArg some (by kernel_rfl))
  f286 := Tryz.func170.trans (congrArg some (by kernel_rfl))
  f317 := Tryz.func180.trans (congrArg some (by kernel_rfl))
  f318 := Tryz.func181.trans (congrArg some (by kernel_rfl))
  f319 := Tryz.func182.trans (congrArg some (by kernel_rfl))
  f320 := Tryz.func183.trans (congrArg some (by kernel_rfl))
  f337 := Tryz.func185.trans (congrArg some (by kernel_rfl))
  f338 := Tryz.func186.trans (congrArg some (by kernel_rfl))
  t0 := Tryz.underlying0
  a0 := Tryz.isAgg0
  z0 := Tryz.sizeOf0
  v0 := Tryz.zeroValue0
  t2 := Tryz.underlying2
  a2 := Tryz.isAgg2
  z2 := Tryz.sizeOf2
  v2 := Tryz.zeroValue2
  t3 := Tryz.underlying3
  a3 := Tryz.isAgg3
  z3 := Tryz.sizeOf3
  v3 := Tryz.zeroValue3
  t4 := Tryz.underlying4
  a4 := Tryz.isAgg4
  z4 := Tryz.sizeOf4
  v4 := Tryz.zeroValue4
  t5 := Tryz.underlying5
  a5 := Tryz.isAgg5
  z5 := Tryz.sizeOf5
  v5 := Tryz.zeroValue5
  t9 := Tryz.underlying9
  a9 := Tryz.isAgg9
  z9 := Tryz.sizeOf9
  v9 := Tryz.zeroValue9
  t20 := Tryz.underlying20
  a20 := Tryz.isAgg20
  z20 := Tryz.sizeOf20
  v20 := Tryz.zeroValue20
  t37 := Tryz.underlying22
  a37 := Tryz.isAgg22
  z37 := Tryz.sizeOf22
  v37 := Tryz.zeroValue22
  t46 := Tryz.underlying118
  a46 := Tryz.isAgg118
  z46 := Tryz.sizeOf118
  v46 := Tryz.zeroValue118
  t51 := Tryz.underlying143
  a51 := Tryz.isAgg143
  z51 := Tryz.sizeOf143
  v51 := Tryz.zeroValue143
  t53 := Tryz.underlying145
  a53 := Tryz.isAgg145
  z53 := Tryz.sizeOf145
  v53 := Tryz.zeroValue145
  t171 := Tryz.underlying183
  a171 := Tryz.isAgg183
  z171 := Tryz.sizeOf183
  v171 := Tryz.zeroValue183
  t173 := Tryz.underlying185
  a173 := Tryz.isAgg185
  z173 := Tryz.sizeOf185
  v173 := Tryz.zeroValue185
  t212 := Tryz.underlying201
  a212 := Tryz.isAgg201
  z212 := Tryz.sizeOf201
  v212 := Tryz.zeroValue201
  t213 := Tryz.underlying202
  a213 := Tryz.isAgg202
  z213 := Tryz.sizeOf202
  t232 := Tryz.underlying207
  a232 := Tryz.isAgg207
  z232 := Tryz.sizeOf207
  v232 := Tryz.zeroValue207
  t233 := Tryz.underlying208
  a233 := Tryz.isAgg208
  z233 := Tryz.sizeOf208
  v233 := Tryz.zeroValue208
  g17 := by kernel_rfl
  g18 := by kernel_rfl
  g19 := by kernel_rfl
theorem strconvItoa_sat (i : Nat) (hi : i < 100) : Sat Tryz.prog 81 [lInt i] [lStr ⟨(Lib.decDigits i).toArray⟩] [g1] :=
  pure1_sat Tryz.func81 rfl (by kernel_rfl) _ _ (Any.strconv_Itoa_small laysItoa i hi)
end Go.Proofs.YtedciihjgbkjgabGreatDoor.A


/- A CONSTANT's TERM, as the program has it. Conditions: none. -/
namespace Go.Proofs.YtedciihjgbkjgabGreatDoor.A
open Go
set_option linter.unusedSimpArgs false
set_option linter.unusedVariables false
set_option maxRecDepth 100000
theorem constantT_sat (t : Int) (h : -1000 ≤ t ∧ t ≤ 1000) : Sat Tryz.prog 129 [lInt t] [lInt (-1 - t)] [g1] := by
  refine sat_of_body mixed Tryz.func129 rfl (by kernel_rfl) (by kernel_rfl) (rs := [.tmp 2]) rfl rfl rfl ?_
  have w : IntKind.i64.wrap (-1 - t) = -1 - t := IntWalk.i64_in _ (by omega)
  simp -implicitDefEqProofs (maxSteps := 2000000) only [go_sem, w]
  first | done | rfl | exact ⟨rfl, rfl⟩ | exact ⟨rfl, rfl, rfl⟩ | (refine tr_and ?_ ?_ <;> first | rfl | exact ⟨rfl, rfl⟩ | kernel_rfl)
end Go.Proofs.YtedciihjgbkjgabGreatDoor.A


/- TERMS AND THEIR TEXTS. Conditions: none. -/
namespace Go.Proofs.YtedciihjgbkjgabGreatDoor.A
open Go
set_option linter.unusedSimpArgs false
set_option linter.unusedVariables false
set_option maxRecDepth 100000

/-- A term's letter: a digit of a constant, the name of a variable. -/
def letT (t : Int) : UInt8 := if t < 0 then (47 - t).toNat.toUInt8 else if t = 0 then 120 else if t = 1 then 121 else if t = 2 then 122 else 119
def isT (t : Int) : Bool := inB t (-10) 3
def fmtT (t : Int) : ByteArray := if isT t then ⟨#[letT t]⟩ else ⟨#[]⟩
def digT (v : Int) : ByteArray := ⟨#[(48 + v).toNat.toUInt8]⟩
theorem isT_cases {t : Int} (h : isT t = true) : ∃ n : Nat, n < 14 ∧ t = (n : Int) - 10 := by
  have := inB_of h
  exact ⟨(t + 10).toNat, by omega, by omega⟩

theorem byt_eq {a b : ByteArray} (h : a.data.toList = b.data.toList) : a = b := Go.WideShapes.bytes_inj h
theorem byt_app (a b : ByteArray) : (a ++ b).data.toList = a.data.toList ++ b.data.toList := by
  rw [ByteArray.data_append, Array.toList_append]
theorem byt_nil (a : ByteArray) : a ++ (⟨#[]⟩ : ByteArray) = a := byt_eq (by rw [byt_app]; simp)
theorem byteD {v : Nat} (h : v ≤ 9) : IntKind.u8.wrap (IntKind.i64.wrap (48 + (v : Int))) = (((48 + (v : Int)).toNat.toUInt8).toNat : Int) := by
  have key : ∀ v : Fin 10, IntKind.u8.wrap (IntKind.i64.wrap (48 + ((v.val : Nat) : Int))) = (((48 + ((v.val : Nat) : Int)).toNat.toUInt8).toNat : Int) := by decide
  exact key ⟨v, by omega⟩
theorem specFormatInt_sat (v : Nat) (h : v ≤ 9) : Sat Tryz.prog 126 [lInt v] [lStr (digT v)] [g1] := by
  refine sat_of_body mixed Tryz.func126 rfl (by kernel_rfl) (by kernel_rfl) (rs := [.tmp 2]) rfl rfl rfl ?_
  by_cases c0 : v = 0
  · subst c0
    simp -implicitDefEqProofs (maxSteps := 2000000) only [go_sem]
    first | done | rfl | exact ⟨rfl, rfl⟩ | exact ⟨rfl, rfl, rfl⟩ | (refine tr_and ?_ ?_ <;> first | rfl | exact ⟨rfl, rfl⟩ | kernel_rfl)
  have d0 : (((v : Nat) : Int) == 0) = false := by rw [beq_eq_false_iff_ne]; omega
  have d2 : (((v : Nat) : Int) != 0) = true := by rw [bne, d0]; rfl
  have d1 : decide (((v : Nat) : Int) < 0) = false := by rw [decide_eq_false_iff_not]; omega
  simp -implicitDefEqProofs (maxSteps := 2000000) only [go_sem, d0, d1]
  refine awp_loop Nat (fun k => mkSt [(0, .sc (.int .i64 (if k = 0 then (v : Int) else 0))), (3, .sc (.string (if k = 0 then ⟨#[]⟩ else digT v))), (4, .sc (.bool false))] [] [] 3000)
    (fun k => k ≤ 1) (fun k => 1 - k) 0 (by omega) (le_st _ _ [] [] _ rfl (by simp -implicitDefEqProofs (maxSteps := 2000000) only [go_sem, d0, d1] <;> rfl) (by simp -implicitDefEqProofs (maxSteps := 2000000) only [go_sem, d0, d1] <;> rfl) (by simp -implicitDefEqProofs (maxSteps := 2000000) only [go_sem, d0, d1] <;> rfl)) ?_
  rintro k h1
  rcases k with _ | _ | k
  · have e1 : Int.tmod ((v : Nat) : Int) 10 = v := by rw [Int.tmod_eq_emod_of_nonneg (by omega)]; omega
    have e2 : Int.tdiv ((v : Nat) : Int) 10 = 0 := by rw [Int.tdiv_eq_ediv_of_nonneg (by omega)]; omega
    simp -implicitDefEqProofs (maxSteps := 2000000) only [go_sem, d0, d1, d2, e1, e2]
    refine ⟨by decide, [(48 + (v : Int)).toNat.toUInt8], by rw [byteD h]; rfl, by simp, by decide, 1, by omega, by omega, ?_⟩
    exact (le_st _ _ [] [] _ rfl (by simp -implicitDefEqProofs (maxSteps := 2000000) only [go_sem, byt_nil, digT] <;> rfl) (by simp -implicitDefEqProofs (maxSteps := 2000000) only [go_sem, byt_nil, digT] <;> rfl) (by simp -implicitDefEqProofs (maxSteps := 2000000) only [go_sem, byt_nil, digT] <;> rfl))
  · simp -implicitDefEqProofs (maxSteps := 2000000) only [go_sem]
    first | done | rfl | exact ⟨rfl, rfl⟩ | exact ⟨rfl, rfl, rfl⟩ | (refine tr_and ?_ ?_ <;> first | rfl | exact ⟨rfl, rfl⟩ | kernel_rfl)
  · omega
theorem wf64 {n : Int} (h : (Lit.int .i64 n).wf = true) : -9223372036854775808 ≤ n ∧ n ≤ 9223372036854775807 := by
  simp only [Lit.wf, Bool.and_eq_true, decide_eq_true_eq] at h
  have e1 : IntKind.i64.min = -9223372036854775808 := by decide
  have e2 : IntKind.i64.max = 9223372036854775807 := by decide
  rw [e1, e2] at h
  exact h
def tvOk (t : Int) : Bool := inB t (-10) (-1)
theorem specTermValue_sat (t : Int) (ht : -9223372036854775808 ≤ t ∧ t ≤ 9223372036854775807) : Sat Tryz.prog 125 [lInt t] [lInt (if tvOk t then -1 - t else 0), lBool (tvOk t)] [g1] := by
  refine sat_of_body mixed Tryz.func125 rfl (by kernel_rfl) (by kernel_rfl) (rs := [.tmp 2, .tmp 3]) rfl rfl rfl ?_
  rcases d1 : decide (t ≥ 0)
  · have d1' := of_decide_eq_false d1
    have w1 : IntKind.i64.wrap (-1 - t) = -1 - t := IntWalk.i64_in _ (by omega)
    have e : inB (-1 - t) 0 9 = tvOk t := by
      unfold inB tvOk inB
      rw [Bool.eq_iff_iff]; simp; omega
    rcases d2 : tvOk t
    · rw [d2] at e
      simp -implicitDefEqProofs (maxSteps := 2000000) only [go_sem, d1, w1]
      refine call_of (inB_sat (-1 - t) 0 9) (by simp -implicitDefEqProofs (maxSteps := 2000000) only [go_sem, d1, w1, e]) (by kernel_rfl) (by simp -implicitDefEqProofs (maxSteps := 2000000) only [go_sem, d1, w1, e]) ?_
      simp -implicitDefEqProofs (maxSteps := 2000000) only [go_sem, d1, w1, e]
      first | done | rfl | exact ⟨rfl, rfl⟩ | exact ⟨rfl, rfl, rfl⟩ | (refine tr_and ?_ ?_ <;> first | rfl | exact ⟨rfl, rfl⟩ | kernel_rfl)
    · rw [d2] at e
      simp -implicitDefEqProofs (maxSteps := 2000000) only [go_sem, d1, w1]
      refine call_of (inB_sat (-1 - t) 0 9) (by simp -implicitDefEqProofs (maxSteps := 2000000) only [go_sem, d1, w1, e]) (by kernel_rfl) (by simp -implicitDefEqProofs (maxSteps := 2000000) only [go_sem, d1, w1, e]) ?_
      simp -implicitDefEqProofs (maxSteps := 2000000) only [go_sem, d1, w1, e]
      first | done | rfl | exact ⟨rfl, rfl⟩ | exact ⟨rfl, rfl, rfl⟩ | (refine tr_and ?_ ?_ <;> first | rfl | exact ⟨rfl, rfl⟩ | kernel_rfl)
  · have d1' := of_decide_eq_true d1
    have d2 : tvOk t = false := by unfold tvOk inB; simp; omega
    rw [d2]
    simp -implicitDefEqProofs (maxSteps := 2000000) only [go_sem, d1]
    first | done | rfl | exact ⟨rfl, rfl⟩ | exact ⟨rfl, rfl, rfl⟩ | (refine tr_and ?_ ?_ <;> first | rfl | exact ⟨rfl, rfl⟩ | kernel_rfl)
theorem letters : ∀ n : Fin 4, fmtT (n.val : Int) = (⟨#[120, 121, 122, 119]⟩ : ByteArray).extract n.val (n.val + 1) := by decide +kernel
theorem specFormatTerm_sat (t : Int) (ht : -9223372036854775808 ≤ t ∧ t ≤ 9223372036854775807) : Sat Tryz.prog 89 [lInt t] [lStr (fmtT t)] [g1] := by
  refine sat_of_body mixed Tryz.func89 rfl (by kernel_rfl) (by kernel_rfl) (rs := [.tmp 2]) rfl rfl rfl ?_
  rcases d1 : tvOk t
  · simp -implicitDefEqProofs (maxSteps := 2000000) only [go_sem]
    refine call_of (specTermValue_sat t ht) (by simp -implicitDefEqProofs (maxSteps := 2000000) only [go_sem, d1]) (by kernel_rfl) (by simp -implicitDefEqProofs (maxSteps := 2000000) only [go_sem, d1]) ?_
    simp -implicitDefEqProofs (maxSteps := 2000000) only [go_sem, d1]
    rcases d2 : inB t 0 3
    · have e : fmtT t = ⟨#[]⟩ := by
        have : isT t = false := by
          unfold isT inB; unfold tvOk inB at d1; unfold inB at d2
          rw [Bool.and_eq_false_iff] at d1 d2 ⊢
          simp only [decide_eq_false_iff_not] at d1 d2 ⊢
          omega
        rw [fmtT, this]; rfl
      rw [e]
      refine call_of (inB_sat t 0 3) (by simp -implicitDefEqProofs (maxSteps := 2000000) only [go_sem, d2]) (by kernel_rfl) (by simp -implicitDefEqProofs (maxSteps := 2000000) only [go_sem, d2]) ?_
      simp -implicitDefEqProofs (maxSteps := 2000000) only [go_sem, d2]
      first | done | rfl | exact ⟨rfl, rfl⟩ | exact ⟨rfl, rfl, rfl⟩ | (refine tr_and ?_ ?_ <;> first | rfl | exact ⟨rfl, rfl⟩ | kernel_rfl)
    · obtain ⟨n, rfl⟩ : ∃ n : Nat, t = n := ⟨t.toNat, by have := inB_of d2; omega⟩
      have hn : n < 4 := by have := inB_of d2; omega
      have w1 : IntKind.i64.wrap ((n : Int) + 1) = ((n + 1 : Nat) : Int) := i64_succ (by omega)
      refine call_of (inB_sat n 0 3) (by simp -implicitDefEqProofs (maxSteps := 2000000) only [go_sem, d2, w1]) (by kernel_rfl) (by simp -implicitDefEqProofs (maxSteps := 2000000) only [go_sem, d2, w1]) ?_
      simp -implicitDefEqProofs (maxSteps := 2000000) only [go_sem, d2, w1]
      refine ⟨by omega, by omega, ?_⟩
      rw [letters ⟨n, hn⟩]
  · obtain ⟨v, hv⟩ : ∃ v : Nat, -1 - t = v := ⟨(-1 - t).toNat, by have := inB_of d1; omega⟩
    have hv9 : v ≤ 9 := by have := inB_of d1; omega
    have e : fmtT t = digT v := by
      have h1 := inB_of d1
      have : isT t = true := by unfold isT inB; simp; omega
      rw [fmtT, this, if_pos rfl, letT, if_pos (by omega), digT, show 48 + (v : Int) = 47 - t by omega]
    rw [e]
    simp -implicitDefEqProofs (maxSteps := 2000000) only [go_sem]
    refine call_of (specTermValue_sat t ht) (by simp -implicitDefEqProofs (maxSteps := 2000000) only [go_sem, d1, hv]) (by kernel_rfl) (by simp -implicitDefEqProofs (maxSteps := 2000000) only [go_sem, d1, hv]) ?_
    simp -implicitDefEqProofs (maxSteps := 2000000) only [go_sem, d1, hv]
    refine call_of (specFormatInt_sat v hv9) (by simp -implicitDefEqProofs (maxSteps := 2000000) only [go_sem]) (by kernel_rfl) (by simp -implicitDefEqProofs (maxSteps := 2000000) only [go_sem]) ?_
    simp -implicitDefEqProofs (maxSteps := 2000000) only [go_sem]
    first | done | rfl | exact ⟨rfl, rfl⟩ | exact ⟨rfl, rfl, rfl⟩ | (refine tr_and ?_ ?_ <;> first | rfl | exact ⟨rfl, rfl⟩ | kernel_rfl)
/-! #### a term read -/
def p1 (n : Nat) : Int × Bool := if n = 120 then (0, true) else if n = 121 then (1, true) else if n = 122 then (2, true) else if n = 119 then (3, true) else if 48 ≤ n ∧ n ≤ 57 then (47 - (n : Int), true) else (0, false)
def chr0 (s : ByteArray) : UInt8 := s.data.toList.getD 0 0
def pT (s : ByteArray) : Int × Bool := if s.size = 1 then p1 (chr0 s).toNat else (0, false)
theorem pT_of : ∀ k : Fin 14, pT (fmtT ((k.val : Int) - 10)) = ((k.val : Int) - 10, true) := by decide +kernel
theorem fmt_digit : ∀ j : Fin 10, fmtT ((j.val : Int) - 10) = ⟨#[(57 - j.val).toUInt8]⟩ := by decide +kernel
theorem fmt_letter : ∀ j : Fin 4, fmtT (((j.val + 10 : Nat) : Int) - 10) = ⟨#[#[120, 121, 122, 119].getD j.val 0]⟩ := by decide +kernel
theorem byt_one {s : ByteArray} (h : s.size = 1) : s = ⟨#[chr0 s]⟩ := by
  apply byt_eq
  have hl : s.data.toList.length = 1 := by rw [Array.length_toList]; exact h
  unfold chr0
  rcases e : s.data.toList with _ | ⟨c, _ | ⟨_, _⟩⟩
  · rw [e] at hl; simp at hl
  · rfl
  · rw [e] at hl; simp at hl
theorem pT_none {s : ByteArray} (h : ∀ k : Nat, k < 14 → fmtT ((k : Int) - 10) ≠ s) : pT s = (0, false) := by
  unfold pT
  split
  · rename_i h1
    have hs := byt_one h1
    generalize chr0 s = c at hs ⊢
    have hc : ∀ n : Nat, n < 256 → c.toNat = n → c = n.toUInt8 := by
      intro n hn e
      apply UInt8.toNat_inj.mp
      rw [e]; simp; omega
    have nl : ∀ j : Fin 4, c ≠ #[120, 121, 122, 119].getD j.val 0 := fun j e => h (j.val + 10) (by omega) (by rw [fmt_letter j, hs, e])
    have nd : ∀ j : Fin 10, c ≠ (57 - j.val).toUInt8 := fun j e => h j.val (by omega) (by rw [fmt_digit j, hs, e])
    unfold p1
    rw [if_neg (fun e => nl 0 (hc 120 (by omega) e)), if_neg (fun e => nl 1 (hc 121 (by omega) e)), if_neg (fun e => nl 2 (hc 122 (by omega) e)), if_neg (fun e => nl 3 (hc 119 (by omega) e)), if_neg ?_]
    intro ⟨a1, a2⟩
    exact nd ⟨57 - c.toNat, by omega⟩ (hc _ (by simp only; omega) (by simp only; omega))
  · rfl
theorem specParseTerm_sat (s : ByteArray) : Sat Tryz.prog 50 [lStr s] [lInt (pT s).1, lBool (pT s).2] [g1] := by
  refine sat_of_body mixed Tryz.func50 rfl (by kernel_rfl) (by kernel_rfl) (rs := [.tmp 2, .tmp 3]) rfl rfl rfl ?_
  simp -implicitDefEqProofs (maxSteps := 2000000) only [go_sem]
  refine awp_loop Nat (fun k => mkSt [(0, .sc (.string s)), (4, .sc (.int .i64 ((k : Int) - 10)))] [] [] 2000)
    (fun k => k ≤ 14 ∧ ∀ j, j < k → fmtT ((j : Int) - 10) ≠ s) (fun k => 14 - k) 0 ⟨by omega, fun j hj => by omega⟩ (le_st _ _ [] [] _ rfl (by simp -implicitDefEqProofs (maxSteps := 2000000) only [go_sem] <;> rfl) trivial trivial) ?_
  rintro k ⟨h1, h2⟩
  by_cases c1 : k < 14
  · have wk : IntKind.i64.wrap ((k : Int) - 10 + 1) = ((k + 1 : Nat) : Int) - 10 := by rw [IntWalk.i64_in _ (by omega)]; omega
    have d1 : decide ((k : Int) - 10 < 4) = true := decide_eq_true (by omega)
    rcases d2 : decide (fmtT ((k : Int) - 10) = s)
    · simp -implicitDefEqProofs (maxSteps := 2000000) only [go_sem, d1]
      refine call_of (specFormatTerm_sat ((k : Int) - 10) (by omega)) (by simp -implicitDefEqProofs (maxSteps := 2000000) only [go_sem, d2, str_beq]) (by kernel_rfl) (by simp -implicitDefEqProofs (maxSteps := 2000000) only [go_sem, d2, str_beq]) ?_
      simp -implicitDefEqProofs (maxSteps := 2000000) only [go_sem, d2, str_beq]
      rw [wk]
      refine ⟨k + 1, ⟨c1, fun j hj => ?_⟩, by omega, (le_st _ _ [] [] _ rfl (by simp -implicitDefEqProofs (maxSteps := 2000000) only [go_sem] <;> rfl) trivial trivial)⟩
      rcases Nat.lt_or_ge j k with h | h
      · exact h2 j h
      · obtain rfl : j = k := by omega
        exact of_decide_eq_false d2
    · have e : pT s = ((k : Int) - 10, true) := by rw [← of_decide_eq_true d2]; exact pT_of ⟨k, c1⟩
      rw [e]
      simp -implicitDefEqProofs (maxSteps := 2000000) only [go_sem, d1]
      refine call_of (specFormatTerm_sat ((k : Int) - 10) (by omega)) (by simp -implicitDefEqProofs (maxSteps := 2000000) only [go_sem, d2, str_beq]) (by kernel_rfl) (by simp -implicitDefEqProofs (maxSteps := 2000000) only [go_sem, d2, str_beq]) ?_
      simp -implicitDefEqProofs (maxSteps := 2000000) only [go_sem, d2, str_beq]
      first | done | rfl | exact ⟨rfl, rfl⟩ | exact ⟨rfl, rfl, rfl⟩ | (refine tr_and ?_ ?_ <;> first | rfl | exact ⟨rfl, rfl⟩ | kernel_rfl)
  · obtain rfl : k = 14 := by omega
    rw [pT_none h2]
    have d1 : decide (((14 : Nat) : Int) - 10 < 4) = false := by decide
    simp -implicitDefEqProofs (maxSteps := 2000000) only [go_sem, d1]
    first | done | rfl | exact ⟨rfl, rfl⟩ | exact ⟨rfl, rfl, rfl⟩ | (refine tr_and ?_ ?_ <;> first | rfl | exact ⟨rfl, rfl⟩ | kernel_rfl)
theorem idx_letter : ∀ n : Fin 256, Lib.indexByte [120, 121, 122, 119] n.val.toUInt8 = if n.val = 120 then 0 else if n.val = 121 then 1 else if n.val = 122 then 2 else if n.val = 119 then 3 else -1 := by decide +kernel
theorem implParseTerm_sat (s : ByteArray) (h : s.size ≤ 9223372036854775807) : Sat Tryz.prog 93 [lStr s] [lInt (pT s).1, lBool (pT s).2] [g1] := by
  refine sat_of_body mixed Tryz.func93 rfl (by kernel_rfl) (by kernel_rfl) (rs := [.tmp 2, .tmp 3]) rfl rfl rfl ?_
  unfold pT
  rcases d1 : ((s.size : Int) != 1)
  · have hs : s.size = 1 := by have : (s.size : Int) = 1 := by simpa using d1
                               omega
    rw [if_pos hs]
    have e0 : s.data.toList.getD 0 0 = chr0 s := rfl
    have hlt : (chr0 s).toNat < 256 := UInt8.toNat_lt _
    have ix := idx_letter ⟨(chr0 s).toNat, hlt⟩
    have ec : (((chr0 s).toNat : Nat) : Int).toNat.toUInt8 = chr0 s := by simp
    simp only [Nat.toUInt8, UInt8.ofNat_toNat] at ix
    generalize chr0 s = c at e0 hlt ix ec ⊢
    have hsz : 0 < s.size := by omega
    have hv : (∃ n : Nat, n < 4 ∧ Lib.indexByte [120, 121, 122, 119] c = n ∧ p1 c.toNat = ((n : Int), true)) ∨ (Lib.indexByte [120, 121, 122, 119] c = -1 ∧ p1 c.toNat = if 48 ≤ c.toNat ∧ c.toNat ≤ 57 then (47 - (c.toNat : Int), true) else (0, false)) := by
      rw [ix]
      unfold p1
      split
      · exact .inl ⟨0, by omega, rfl, rfl⟩
      split
      · exact .inl ⟨1, by omega, rfl, rfl⟩
      split
      · exact .inl ⟨2, by omega, rfl, rfl⟩
      split
      · exact .inl ⟨3, by omega, rfl, rfl⟩
      exact .inr ⟨rfl, rfl⟩
    rcases hv with ⟨n, hn, e1, e2⟩ | ⟨e1, e2⟩
    · have d2 : decide ((0 : Int) ≤ (n : Int)) = true := decide_eq_true (by omega)
      have d3 : decide ((n : Int) ≥ 0) = true := decide_eq_true (by omega)
      rw [e2]
      simp -implicitDefEqProofs (maxSteps := 2000000) only [go_sem, d1, hsz, e0]
      refine call_of (stringsIndexByte_sat ⟨#[120, 121, 122, 119]⟩ c.toNat) (by simp -implicitDefEqProofs (maxSteps := 2000000) only [go_sem, e0, hsz, ec, e1, d2, d3]) (by kernel_rfl) (by simp -implicitDefEqProofs (maxSteps := 2000000) only [go_sem, e0, hsz, ec, e1, d2, d3]) ?_
      simp -implicitDefEqProofs (maxSteps := 2000000) only [go_sem, e0, hsz, ec, e1, d2, d3]
      first | done | rfl | exact ⟨rfl, rfl⟩ | exact ⟨rfl, rfl, rfl⟩ | (refine tr_and ?_ ?_ <;> first | rfl | exact ⟨rfl, rfl⟩ | kernel_rfl)
    · rw [e2]
      rcases d4 : decide (((c.toNat : Nat) : Int) ≥ 48)
      · rw [if_neg (by have := of_decide_eq_false d4; omega)]
        simp -implicitDefEqProofs (maxSteps := 2000000) only [go_sem, d1, hsz, e0]
        refine call_of (stringsIndexByte_sat ⟨#[120, 121, 122, 119]⟩ c.toNat) (by simp -implicitDefEqProofs (maxSteps := 2000000) only [go_sem, e0, hsz, ec, e1, d4]) (by kernel_rfl) (by simp -implicitDefEqProofs (maxSteps := 2000000) only [go_sem, e0, hsz, ec, e1, d4]) ?_
        simp -implicitDefEqProofs (maxSteps := 2000000) only [go_sem, e0, hsz, ec, e1, d4]
      rcases d5 : decide (((c.toNat : Nat) : Int) ≤ 57)
      · rw [if_neg (by have := of_decide_eq_false d5; omega)]
        simp -implicitDefEqProofs (maxSteps := 2000000) only [go_sem, d1, hsz, e0]
        refine call_of (stringsIndexByte_sat ⟨#[120, 121, 122, 119]⟩ c.toNat) (by simp -implicitDefEqProofs (maxSteps := 2000000) only [go_sem, e0, hsz, ec, e1, d4, d5]) (by kernel_rfl) (by simp -implicitDefEqProofs (maxSteps := 2000000) only [go_sem, e0, hsz, ec, e1, d4, d5]) ?_
        simp -implicitDefEqProofs (maxSteps := 2000000) only [go_sem, e0, hsz, ec, e1, d4, d5]
      · have h4 := of_decide_eq_true d4
        have h5 := of_decide_eq_true d5
        have wu : IntKind.u8.wrap (((c.toNat : Nat) : Int) - 48) = ((c.toNat - 48 : Nat) : Int) := by rw [IntWalk.u8_in _ (by omega)]; omega
        have wi : IntKind.i64.wrap ((c.toNat - 48 : Nat) : Int) = ((c.toNat - 48 : Nat) : Int) := IntWalk.i64_in _ (by omega)
        rw [if_pos (by omega), show 47 - ((c.toNat : Nat) : Int) = -1 - ((c.toNat - 48 : Nat) : Int) by omega]
        simp -implicitDefEqProofs (maxSteps := 2000000) only [go_sem, d1, hsz, e0]
        refine call_of (stringsIndexByte_sat ⟨#[120, 121, 122, 119]⟩ c.toNat) (by simp -implicitDefEqProofs (maxSteps := 2000000) only [go_sem, e0, hsz, ec, e1, d4, d5, wu, wi]) (by kernel_rfl) (by simp -implicitDefEqProofs (maxSteps := 2000000) only [go_sem, e0, hsz, ec, e1, d4, d5, wu, wi]) ?_
        simp -implicitDefEqProofs (maxSteps := 2000000) only [go_sem, e0, hsz, ec, e1, d4, d5, wu, wi]
        refine call_of (constantT_sat ((c.toNat - 48 : Nat) : Int) (by omega)) (by simp -implicitDefEqProofs (maxSteps := 2000000) only [go_sem]) (by kernel_rfl) (by simp -implicitDefEqProofs (maxSteps := 2000000) only [go_sem]) ?_
        simp -implicitDefEqProofs (maxSteps := 2000000) only [go_sem]
  · have hs : ¬ s.size = 1 := by intro e; rw [e] at d1; simp at d1
    rw [if_neg hs]
    simp -implicitDefEqProofs (maxSteps := 2000000) only [go_sem, d1]
    first | done | rfl | exact ⟨rfl, rfl⟩ | exact ⟨rfl, rfl, rfl⟩ | (refine tr_and ?_ ?_ <;> first | rfl | exact ⟨rfl, rfl⟩ | kernel_rfl)
end Go.Proofs.YtedciihjgbkjgabGreatDoor.A


/- A TERM's TEXT, the program's. Conditions: none. -/
namespace Go.Proofs.YtedciihjgbkjgabGreatDoor.A
open Go
set_option linter.unusedSimpArgs false
set_option linter.unusedVariables false
set_option maxRecDepth 100000

theorem dec_dig : ∀ n : Fin 10, (⟨(Lib.decDigits n.val).toArray⟩ : ByteArray) = digT (n.val : Int) := by decide +kernel
theorem implFormatInt_sat (v : Nat) (h : v ≤ 9) : Sat Tryz.prog 41 [lInt v] [lStr (digT v)] [g1] := by
  refine sat_of_body mixed Tryz.func41 rfl (by kernel_rfl) (by kernel_rfl) (rs := [.tmp 2]) rfl rfl rfl ?_
  rw [← dec_dig ⟨v, by omega⟩]
  simp -implicitDefEqProofs (maxSteps := 2000000) only [go_sem]
  refine call_of (strconvItoa_sat v (by omega)) (by simp -implicitDefEqProofs (maxSteps := 2000000) only [go_sem]) (by kernel_rfl) (by simp -implicitDefEqProofs (maxSteps := 2000000) only [go_sem]) ?_
  simp -implicitDefEqProofs (maxSteps := 2000000) only [go_sem]
  first | done | rfl | exact ⟨rfl, rfl⟩ | exact ⟨rfl, rfl, rfl⟩ | (refine tr_and ?_ ?_ <;> first | rfl | exact ⟨rfl, rfl⟩ | kernel_rfl)
theorem implTermValue_sat (t : Int) (ht : -9223372036854775808 ≤ t ∧ t ≤ 9223372036854775807) : Sat Tryz.prog 164 [lInt t] [lInt (if tvOk t then -1 - t else 0), lBool (tvOk t)] [g1] := by
  refine sat_of_body mixed Tryz.func164 rfl (by kernel_rfl) (by kernel_rfl) (rs := [.tmp 2, .tmp 3]) rfl rfl rfl ?_
  have e : inB t (-10) (-1) = tvOk t := rfl
  rcases d2 : tvOk t
  · rw [d2] at e
    simp -implicitDefEqProofs (maxSteps := 2000000) only [go_sem]
    refine call_of (inW_sat t (-10) (-1)) (by simp -implicitDefEqProofs (maxSteps := 2000000) only [go_sem, e]) (by kernel_rfl) (by simp -implicitDefEqProofs (maxSteps := 2000000) only [go_sem, e]) ?_
    simp -implicitDefEqProofs (maxSteps := 2000000) only [go_sem, e]
    first | done | rfl | exact ⟨rfl, rfl⟩ | exact ⟨rfl, rfl, rfl⟩ | (refine tr_and ?_ ?_ <;> first | rfl | exact ⟨rfl, rfl⟩ | kernel_rfl)
  · rw [d2] at e
    have h1 := inB_of e
    have w1 : IntKind.i64.wrap (-1 - t) = -1 - t := IntWalk.i64_in _ (by omega)
    simp -implicitDefEqProofs (maxSteps := 2000000) only [go_sem]
    refine call_of (inW_sat t (-10) (-1)) (by simp -implicitDefEqProofs (maxSteps := 2000000) only [go_sem, e, w1]) (by kernel_rfl) (by simp -implicitDefEqProofs (maxSteps := 2000000) only [go_sem, e, w1]) ?_
    simp -implicitDefEqProofs (maxSteps := 2000000) only [go_sem, e, w1]
    first | done | rfl | exact ⟨rfl, rfl⟩ | exact ⟨rfl, rfl, rfl⟩ | (refine tr_and ?_ ?_ <;> first | rfl | exact ⟨rfl, rfl⟩ | kernel_rfl)
theorem implFormatTerm_sat (t : Int) (ht : -9223372036854775808 ≤ t ∧ t ≤ 9223372036854775807) : Sat Tryz.prog 139 [lInt t] [lStr (fmtT t)] [g1] := by
  refine sat_of_body mixed Tryz.func139 rfl (by kernel_rfl) (by kernel_rfl) (rs := [.tmp 2]) rfl rfl rfl ?_
  rcases d1 : tvOk t
  · simp -implicitDefEqProofs (maxSteps := 2000000) only [go_sem]
    refine call_of (implTermValue_sat t ht) (by simp -implicitDefEqProofs (maxSteps := 2000000) only [go_sem, d1]) (by kernel_rfl) (by simp -implicitDefEqProofs (maxSteps := 2000000) only [go_sem, d1]) ?_
    simp -implicitDefEqProofs (maxSteps := 2000000) only [go_sem, d1]
    rcases d2 : inB t 0 3
    · have e : fmtT t = ⟨#[]⟩ := by
        have : isT t = false := by
          unfold isT inB; unfold tvOk inB at d1; unfold inB at d2
          rw [Bool.and_eq_false_iff] at d1 d2 ⊢
          simp only [decide_eq_false_iff_not] at d1 d2 ⊢
          omega
        rw [fmtT, this]; rfl
      rw [e]
      refine call_of (inW_sat t 0 3) (by simp -implicitDefEqProofs (maxSteps := 2000000) only [go_sem, d2]) (by kernel_rfl) (by simp -implicitDefEqProofs (maxSteps := 2000000) only [go_sem, d2]) ?_
      simp -implicitDefEqProofs (maxSteps := 2000000) only [go_sem, d2]
      first | done | rfl | exact ⟨rfl, rfl⟩ | exact ⟨rfl, rfl, rfl⟩ | (refine tr_and ?_ ?_ <;> first | rfl | exact ⟨rfl, rfl⟩ | kernel_rfl)
    · obtain ⟨n, rfl⟩ : ∃ n : Nat, t = n := ⟨t.toNat, by have := inB_of d2; omega⟩
      have hn : n < 4 := by have := inB_of d2; omega
      have w1 : IntKind.i64.wrap ((n : Int) + 1) = ((n + 1 : Nat) : Int) := i64_succ (by omega)
      refine call_of (inW_sat n 0 3) (by simp -implicitDefEqProofs (maxSteps := 2000000) only [go_sem, d2, w1]) (by kernel_rfl) (by simp -implicitDefEqProofs (maxSteps := 2000000) only [go_sem, d2, w1]) ?_
      simp -implicitDefEqProofs (maxSteps := 2000000) only [go_sem, d2, w1]
      refine ⟨by omega, by omega, ?_⟩
      rw [letters ⟨n, hn⟩]
  · obtain ⟨v, hv⟩ : ∃ v : Nat, -1 - t = v := ⟨(-1 - t).toNat, by have := inB_of d1; omega⟩
    have hv9 : v ≤ 9 := by have := inB_of d1; omega
    have e : fmtT t = digT v := by
      have h1 := inB_of d1
      have : isT t = true := by unfold isT inB; simp; omega
      rw [fmtT, this, if_pos rfl, letT, if_pos (by omega), digT, show 48 + (v : Int) = 47 - t by omega]
    rw [e]
    simp -implicitDefEqProofs (maxSteps := 2000000) only [go_sem]
    refine call_of (implTermValue_sat t ht) (by simp -implicitDefEqProofs (maxSteps := 2000000) only [go_sem, d1, hv]) (by kernel_rfl) (by simp -implicitDefEqProofs (maxSteps := 2000000) only [go_sem, d1, hv]) ?_
    simp -implicitDefEqProofs (maxSteps := 2000000) only [go_sem, d1, hv]
    refine call_of (implFormatInt_sat v hv9) (by simp -implicitDefEqProofs (maxSteps := 2000000) only [go_sem]) (by kernel_rfl) (by simp -implicitDefEqProofs (maxSteps := 2000000) only [go_sem]) ?_
    simp -implicitDefEqProofs (maxSteps := 2000000) only [go_sem]
    first | done | rfl | exact ⟨rfl, rfl⟩ | exact ⟨rfl, rfl, rfl⟩ | (refine tr_and ?_ ?_ <;> first | rfl | exact ⟨rfl, rfl⟩ | kernel_rfl)
end Go.Proofs.YtedciihjgbkjgabGreatDoor.A


/- THE TEXT OF A CONSTRAINT. Conditions: none. -/
namespace Go.Proofs.YtedciihjgbkjgabGreatDoor.A
open Go
set_option linter.unusedSimpArgs false
set_option linter.unusedVariables false
set_option maxRecDepth 100000

theorem byt_size (a b : ByteArray) : (a ++ b).size = a.size + b.size := by
  rw [show ∀ c : ByteArray, c.size = c.data.toList.length from fun c => (Array.length_toList ..).symm, byt_app, List.length_append]; rfl
theorem digT_size (v : Int) : (digT v).size = 1 := rfl
structure GoodDen (d : Db) (x : Den) (n m a b c e : Nat) : Prop where
  fr : x.fr = n
  sr : x.sr = m
  fj : x.fj = a
  sj : x.sj = b
  fc : x.fc = c
  sc : x.sc = e
  hn : n < d.rels.length
  hm : m < d.rels.length
  ha : a ≤ 9
  hb : b ≤ 9
  hc : c ≤ 9
  he : e ≤ 9
  sn : (d.rels.getD n default).name.size = 1
  sm : (d.rels.getD m default).name.size = 1
def denText (d : Db) (x : Den) : ByteArray := if goodDen d x then (⟨#[110, 111, 116, 32]⟩ : ByteArray) ++ (d.rels.getD x.fr.toNat default).name ++ digT x.fj ++ (⟨#[61]⟩ : ByteArray) ++ (d.rels.getD x.sr.toNat default).name ++ digT x.sj ++ (⟨#[32]⟩ : ByteArray) ++ digT x.fc ++ (if x.cp == 2 then (⟨#[60]⟩ : ByteArray) else ⟨#[61]⟩) ++ digT x.sc else ⟨#[]⟩
theorem good_name {d : Db} (g : goodDb d = true) {n : Nat} (h : n < d.rels.length) : (d.rels.getD n default).name.size = 1 ∧ (d.rels.getD n default).ar ≤ 3 := by
  unfold goodDb at g
  simp only [Bool.and_eq_true] at g
  have g1 := g.1
  unfold goodRels at g1
  simp only [Bool.and_eq_true] at g1
  have h3 := upTo_at g1.1 h
  unfold relOk goodRel at h3
  simp only [Bool.and_eq_true, beq_iff_eq] at h3
  have h4 := inB_of h3.1.2.2.2.1
  exact ⟨by have := h3.1.1; omega, h4.2⟩
theorem goodDen_parts {d : Db} {x : Den} (h : goodDen d x = true) : ∃ n m a b c e : Nat, GoodDen d x n m a b c e := by
  unfold goodDen at h
  simp only [Bool.and_eq_true] at h
  obtain ⟨g, h1, h2, h3, h4, h5, h6, h7⟩ := h
  have h1 := inB_of h1
  have h2 := inB_of h2
  have h3 := inB_of h3
  have h4 := inB_of h4
  have h5 := inB_of h5
  have h6 := inB_of h6
  simp only [arOf] at h3 h4 h5 h6
  have n1 := good_name g (n := x.fr.toNat) (by omega)
  have n2 := good_name g (n := x.sr.toNat) (by omega)
  refine ⟨x.fr.toNat, x.sr.toNat, x.fj.toNat, x.sj.toNat, x.fc.toNat, x.sc.toNat, ⟨by omega, by omega, by omega, by omega, by omega, by omega, by omega, by omega, by omega, by omega, by omega, by omega, n1.1, n2.1⟩⟩
theorem implFormatConstraint_sat (d : Db) (x : Den) (h : d.fit) : Sat Tryz.prog 12 [lDb d, lDen x] [lStr (denText d x)] [g2, g7] := by
  refine sat_of_body mixed Tryz.func12 rfl (by kernel_rfl) (by kernel_rfl) (rs := [.tmp 4]) rfl rfl rfl ?_
  unfold denText
  rcases g : goodDen d x
  · rw [if_neg (by simp)]
    simp -implicitDefEqProofs (maxSteps := 2000000) only [go_sem]
    refine call_of (implIsValidConstraint_sat d x h) (by simp -implicitDefEqProofs (maxSteps := 2000000) only [go_sem, g]) (by kernel_rfl) (by simp -implicitDefEqProofs (maxSteps := 2000000) only [go_sem, g]) ?_
    simp -implicitDefEqProofs (maxSteps := 2000000) only [go_sem, g]
    first | done | rfl | exact ⟨rfl, rfl⟩ | exact ⟨rfl, rfl, rfl⟩ | (refine tr_and ?_ ?_ <;> first | rfl | exact ⟨rfl, rfl⟩ | kernel_rfl)
  obtain ⟨n, m, a, b, c, e, G⟩ := goodDen_parts g
  rw [if_pos rfl]
  rcases x with ⟨fr, sr, fj, sj, fc, sc, cp⟩
  obtain ⟨e1, e2, e3, e4, e5, e6, hn, hm, ha, hb, hc, he, sn, sm⟩ := G
  simp only at e1 e2 e3 e4 e5 e6
  subst e1 e2 e3 e4 e5 e6
  simp only [Int.toNat_natCast]
  rcases k : (cp == 2)
  · simp -implicitDefEqProofs (maxSteps := 2000000) only [go_sem]
    refine call_of (implIsValidConstraint_sat d ⟨n, m, a, b, c, e, cp⟩ h) (by simp -implicitDefEqProofs (maxSteps := 2000000) only [go_sem, g, k, hn, hm, sn, sm, byt_size, digT_size]) (by kernel_rfl) (by simp -implicitDefEqProofs (maxSteps := 2000000) only [go_sem, g, k, hn, hm, sn, sm, byt_size, digT_size]) ?_
    simp -implicitDefEqProofs (maxSteps := 2000000) only [go_sem, g, k, hn, hm, sn, sm, byt_size, digT_size]
    refine call_of (implFormatInt_sat a ha) (by simp -implicitDefEqProofs (maxSteps := 2000000) only [go_sem, g, k, hn, hm, sn, sm, byt_size, digT_size]) (by kernel_rfl) (by simp -implicitDefEqProofs (maxSteps := 2000000) only [go_sem, g, k, hn, hm, sn, sm, byt_size, digT_size]) ?_
    simp -implicitDefEqProofs (maxSteps := 2000000) only [go_sem, g, k, hn, hm, sn, sm, byt_size, digT_size]
    refine call_of (implFormatInt_sat b hb) (by simp -implicitDefEqProofs (maxSteps := 2000000) only [go_sem, g, k, hn, hm, sn, sm, byt_size, digT_size]) (by kernel_rfl) (by simp -implicitDefEqProofs (maxSteps := 2000000) only [go_sem, g, k, hn, hm, sn, sm, byt_size, digT_size]) ?_
    simp -implicitDefEqProofs (maxSteps := 2000000) only [go_sem, g, k, hn, hm, sn, sm, byt_size, digT_size]
    refine call_of (implFormatInt_sat c hc) (by simp -implicitDefEqProofs (maxSteps := 2000000) only [go_sem, g, k, hn, hm, sn, sm, byt_size, digT_size]) (by kernel_rfl) (by simp -implicitDefEqProofs (maxSteps := 2000000) only [go_sem, g, k, hn, hm, sn, sm, byt_size, digT_size]) ?_
    simp -implicitDefEqProofs (maxSteps := 2000000) only [go_sem, g, k, hn, hm, sn, sm, byt_size, digT_size]
    refine call_of (implFormatInt_sat e he) (by simp -implicitDefEqProofs (maxSteps := 2000000) only [go_sem, g, k, hn, hm, sn, sm, byt_size, digT_size]) (by kernel_rfl) (by simp -implicitDefEqProofs (maxSteps := 2000000) only [go_sem, g, k, hn, hm, sn, sm, byt_size, digT_size]) ?_
    simp -implicitDefEqProofs (maxSteps := 2000000) only [go_sem, g, k, hn, hm, sn, sm, byt_size, digT_size]
  · simp -implicitDefEqProofs (maxSteps := 2000000) only [go_sem]
    refine call_of (implIsValidConstraint_sat d ⟨n, m, a, b, c, e, cp⟩ h) (by simp -implicitDefEqProofs (maxSteps := 2000000) only [go_sem, g, k, hn, hm, sn, sm, byt_size, digT_size]) (by kernel_rfl) (by simp -implicitDefEqProofs (maxSteps := 2000000) only [go_sem, g, k, hn, hm, sn, sm, byt_size, digT_size]) ?_
    simp -implicitDefEqProofs (maxSteps := 2000000) only [go_sem, g, k, hn, hm, sn, sm, byt_size, digT_size]
    refine call_of (implFormatInt_sat a ha) (by simp -implicitDefEqProofs (maxSteps := 2000000) only [go_sem, g, k, hn, hm, sn, sm, byt_size, digT_size]) (by kernel_rfl) (by simp -implicitDefEqProofs (maxSteps := 2000000) only [go_sem, g, k, hn, hm, sn, sm, byt_size, digT_size]) ?_
    simp -implicitDefEqProofs (maxSteps := 2000000) only [go_sem, g, k, hn, hm, sn, sm, byt_size, digT_size]
    refine call_of (implFormatInt_sat b hb) (by simp -implicitDefEqProofs (maxSteps := 2000000) only [go_sem, g, k, hn, hm, sn, sm, byt_size, digT_size]) (by kernel_rfl) (by simp -implicitDefEqProofs (maxSteps := 2000000) only [go_sem, g, k, hn, hm, sn, sm, byt_size, digT_size]) ?_
    simp -implicitDefEqProofs (maxSteps := 2000000) only [go_sem, g, k, hn, hm, sn, sm, byt_size, digT_size]
    refine call_of (implFormatInt_sat c hc) (by simp -implicitDefEqProofs (maxSteps := 2000000) only [go_sem, g, k, hn, hm, sn, sm, byt_size, digT_size]) (by kernel_rfl) (by simp -implicitDefEqProofs (maxSteps := 2000000) only [go_sem, g, k, hn, hm, sn, sm, byt_size, digT_size]) ?_
    simp -implicitDefEqProofs (maxSteps := 2000000) only [go_sem, g, k, hn, hm, sn, sm, byt_size, digT_size]
    refine call_of (implFormatInt_sat e he) (by simp -implicitDefEqProofs (maxSteps := 2000000) only [go_sem, g, k, hn, hm, sn, sm, byt_size, digT_size]) (by kernel_rfl) (by simp -implicitDefEqProofs (maxSteps := 2000000) only [go_sem, g, k, hn, hm, sn, sm, byt_size, digT_size]) ?_
    simp -implicitDefEqProofs (maxSteps := 2000000) only [go_sem, g, k, hn, hm, sn, sm, byt_size, digT_size]
end Go.Proofs.YtedciihjgbkjgabGreatDoor.A


/- THE WALK OF THE LAW FnDenialConstraints. Conditions: none. -/
namespace Go.Proofs.YtedciihjgbkjgabGreatDoor.A
open Go
set_option linter.unusedSimpArgs false
set_option linter.unusedVariables false
set_option maxRecDepth 100000
theorem bigD_sat (b : List Int) (h : b.length ≤ 9223372036854775807) : Sat Tryz.prog 5 [lBys b] [lBool (decide ((b.length : Int) > 1048576))] [g1] := by
  refine sat_of_body mixed Tryz.func5 rfl (by kernel_rfl) (by kernel_rfl) (rs := [.tmp 2]) rfl rfl rfl ?_
  simp -implicitDefEqProofs (maxSteps := 2000000) only [go_sem]
theorem goodSet_nil {n : Int} {l : List Edge} (h : goodEds n l = true) : goodSet n l [] = true := by
  unfold goodSet ixs indep
  rw [h, Bool.true_and]
  refine Bool.and_eq_true_iff.mpr ⟨rfl, upTo_all fun k hk => ?_⟩
  unfold edNo
  simp
theorem denText_ne (d : Db) (x : Den) : decide (denText d x = (⟨#[]⟩ : ByteArray)) = !goodDen d x := by
  unfold denText
  rcases g : goodDen d x
  · rw [if_neg (by simp)]; rfl
  · rw [if_pos rfl, Bool.not_true, decide_eq_false_iff_not]
    intro h
    have h1 := congrArg ByteArray.size h
    simp only [byt_size] at h1
    have h2 : (⟨#[110, 111, 116, 32]⟩ : ByteArray).size = 4 := rfl
    have h3 : (⟨#[]⟩ : ByteArray).size = 0 := rfl
    omega
set_option maxHeartbeats 8000000 in
/-- THE LAW FnDenialConstraints. -/
theorem lawDenialConstraints_sat (b : List Int) (h : b.length ≤ 9223372036854775807) : Sat Tryz.prog 3 [lBys b] [lBool true] [g1] := by
  refine sat_of_body mixed Tryz.func3 rfl (by kernel_rfl) (by kernel_rfl) (rs := [.tmp 2]) rfl rfl rfl ?_
  simp -implicitDefEqProofs (maxSteps := 2000000) only [go_sem]
  refine call_of (bigD_sat b h) (by simp -implicitDefEqProofs (maxSteps := 2000000) only [go_sem]) (by kernel_rfl) (by simp -implicitDefEqProofs (maxSteps := 2000000) only [go_sem]) ?_
  simp -implicitDefEqProofs (maxSteps := 2000000) only [go_sem]
  refine cond_split (fun e0 => ?_) fun e0 => ?_
  · simp -implicitDefEqProofs (maxSteps := 2000000) only [go_sem]
  have o0 : b.length ≤ 1048576 := by have := of_decide_eq_false e0; omega
  simp -implicitDefEqProofs (maxSteps := 2000000) only [go_sem]
  obtain ⟨d, l, hd, hl, s0⟩ := drawCE_ex b o0
  have hok := hd.ok (m := 13) (by decide)
  have hf := hok.fit
  have hll : l.length ≤ 9223372036854775807 := by omega
  have hE := edgesOf_len d l
  have eN : ∀ n : Nat, (((n : Nat) : Int) != ((n : Nat) : Int)) = false := fun n => by simp
  have eP : ∀ x y : Int, (!(x == x && y == y)) = false := fun x y => by simp
  have hB : ∀ t : Bool, (t != t) = false := fun t => by cases t <;> rfl
  have hQ : ∀ t : Bool, (t == t) = true := fun t => by cases t <;> rfl
  refine call_of (s0) (by simp -implicitDefEqProofs (maxSteps := 2000000) only [go_sem]) (by kernel_rfl) (by simp -implicitDefEqProofs (maxSteps := 2000000) only [go_sem]) ?_
  simp -implicitDefEqProofs (maxSteps := 2000000) only [go_sem]
  refine call_of (implConflictEdges_sat d l hf hll) (by simp -implicitDefEqProofs (maxSteps := 2000000) only [go_sem]) (callOk_still (by kernel_rfl) (by simp only [List.all_cons, List.all_nil, LV.still, LV.leaves, Leaf.still, ints_still, ris_still, eds_still, rels_still, iss_still, ems_still, Bool.and_self, Bool.and_true])) (by simp -implicitDefEqProofs (maxSteps := 2000000) only [go_sem]) ?_
  simp -implicitDefEqProofs (maxSteps := 2000000) only [go_sem]
  refine call_of (specConflictEdges_sat d l hf hll) (by simp -implicitDefEqProofs (maxSteps := 2000000) only [go_sem, eN]) (callOk_still (by kernel_rfl) (by simp only [List.all_cons, List.all_nil, LV.still, LV.leaves, Leaf.still, ints_still, ris_still, eds_still, rels_still, iss_still, ems_still, Bool.and_self, Bool.and_true])) (by simp -implicitDefEqProofs (maxSteps := 2000000) only [go_sem, eN]) ?_
  simp -implicitDefEqProofs (maxSteps := 2000000) only [go_sem, eN]
  generalize hEE : edgesOf d l = E at hE ⊢
  refine awp_loop Nat (fun k => mkSt [(3, .one (.vad 1512 0)), (4, .one (.im 7 (dens l))), (5, .one (.im 2 (eds E))), (6, .one (.im 2 (eds E))), (7, .sc (.int .i64 k))] [(1512, sDb d)] [] 8000)
    (fun k => k ≤ E.length) (fun k => E.length - k) 0 (by omega) (le_st' _ _ [] [1272, 1832, 2088] _ (by simp -implicitDefEqProofs (maxSteps := 2000000) only [go_sem, ris_frz, dens_frz, eds_frz] <;> and_intros <;> first | rfl | exact List.mem_singleton_self _ | decide | (refine ⟨_, rfl, Eq.symm ?_⟩; simp -implicitDefEqProofs (maxSteps := 2000000) only [go_sem, ris_frz, dens_frz, eds_frz]; done) | (refine ⟨_, rfl, Eq.symm ?_⟩; simp -implicitDefEqProofs (maxSteps := 2000000) only [go_sem, ris_frz, dens_frz, eds_frz]; rfl)) (by simp -implicitDefEqProofs (maxSteps := 2000000) only [go_sem, ris_frz, dens_frz, eds_frz] <;> and_intros <;> first | rfl | exact List.mem_singleton_self _ | decide | (refine ⟨_, rfl, Eq.symm ?_⟩; simp -implicitDefEqProofs (maxSteps := 2000000) only [go_sem, ris_frz, dens_frz, eds_frz]; done) | (refine ⟨_, rfl, Eq.symm ?_⟩; simp -implicitDefEqProofs (maxSteps := 2000000) only [go_sem, ris_frz, dens_frz, eds_frz]; rfl)) (by simp -implicitDefEqProofs (maxSteps := 2000000) only [go_sem, ris_frz, dens_frz, eds_frz] <;> and_intros <;> rfl) (by rfl)) ?_
  rintro k q1
  by_cases c1 : k < E.length
  · have wk : IntKind.i64.wrap ((k : Int) + 1) = ((k + 1 : Nat) : Int) := i64_succ (by omega)
    simp -implicitDefEqProofs (maxSteps := 2000000) only [go_sem, c1, eP]
    first | (with_reducible refine tr_and ?_ ?_; focus kernel_rfl) | (with_reducible refine tr_only ?_; kernel_rfl) | skip
    rw [wk]
    exact ⟨k + 1, c1, by omega, (le_st _ _ [] [] _ rfl (by simp -implicitDefEqProofs (maxSteps := 2000000) only [go_sem] <;> rfl) (by simp -implicitDefEqProofs (maxSteps := 2000000) only [go_sem] <;> rfl) (by simp -implicitDefEqProofs (maxSteps := 2000000) only [go_sem] <;> rfl))⟩
  obtain rfl : k = E.length := by omega
  rcases g : goodDb d
  · have hz : E.length = 0 := by rw [← hEE]; unfold edgesOf; rw [g]; rfl
    simp -implicitDefEqProofs (maxSteps := 2000000) only [go_sem, c1]
    refine call_of (specIsValidDatabase_sat d hf) (by simp -implicitDefEqProofs (maxSteps := 2000000) only [go_sem, g, hz]) (by kernel_rfl) (by simp -implicitDefEqProofs (maxSteps := 2000000) only [go_sem, g, hz]) ?_
    simp -implicitDefEqProofs (maxSteps := 2000000) only [go_sem, g, hz]
    first | done | rfl | exact ⟨rfl, rfl⟩ | exact ⟨rfl, rfl, rfl⟩ | (refine tr_and ?_ ?_ <;> first | rfl | exact ⟨rfl, rfl⟩ | kernel_rfl)
  simp -implicitDefEqProofs (maxSteps := 2000000) only [go_sem, c1]
  refine call_of (specIsValidDatabase_sat d hf) (by simp -implicitDefEqProofs (maxSteps := 2000000) only [go_sem, g]) (by kernel_rfl) (by simp -implicitDefEqProofs (maxSteps := 2000000) only [go_sem, g]) ?_
  simp -implicitDefEqProofs (maxSteps := 2000000) only [go_sem, g]
  have hgE : goodEds d.facts.length E = true := by rw [← hEE]; exact edgesOf_good g
  obtain ⟨x1, x2, -⟩ := extM_ok (goodSet_nil hgE)
  have x3 := extM_len d.facts.length E [] (by simp)
  have x4 : isMax d.facts.length (edgesOf d l) (extM d.facts.length E []).1 = true := by rw [hEE]; exact x2
  have y1 := (den_sel g x4).1
  have y2 := den_sat g x4
  have y3 : satB d l = (((E.length : Nat) : Int) == 0) := by unfold satB; rw [g, hEE]; rfl
  refine awp_loop Nat (fun k => mkSt [(3, .one (.vad 1512 0)), (4, .one (.im 7 (dens l))), (5, .one (.im 2 (eds E))), (8, .sc (.int .i64 k))] [(1512, sDb d)] [] 20000)
    (fun k => k ≤ l.length) (fun k => l.length - k) 0 (by omega) (le_st _ _ [] [] _ rfl (by simp -implicitDefEqProofs (maxSteps := 2000000) only [go_sem] <;> rfl) (by simp -implicitDefEqProofs (maxSteps := 2000000) only [go_sem] <;> rfl) (by simp -implicitDefEqProofs (maxSteps := 2000000) only [go_sem] <;> rfl)) ?_
  rintro k q2
  by_cases c2 : k < l.length
  · have wk : IntKind.i64.wrap ((k : Int) + 1) = ((k + 1 : Nat) : Int) := i64_succ (by omega)
    have hne := denText_ne d (l.getD k default)
    simp -implicitDefEqProofs (maxSteps := 2000000) only [go_sem, c2]
    refine call_of (implIsValidConstraint_sat d (l.getD k default) hf) (by simp -implicitDefEqProofs (maxSteps := 2000000) only [go_sem, c2]) (by kernel_rfl) (by simp -implicitDefEqProofs (maxSteps := 2000000) only [go_sem, c2]) ?_
    simp -implicitDefEqProofs (maxSteps := 2000000) only [go_sem, c2]
    refine call_of (specIsValidConstraint_sat d (l.getD k default) hf) (by simp -implicitDefEqProofs (maxSteps := 2000000) only [go_sem, c2, hB]) (by kernel_rfl) (by simp -implicitDefEqProofs (maxSteps := 2000000) only [go_sem, c2, hB]) ?_
    simp -implicitDefEqProofs (maxSteps := 2000000) only [go_sem, c2, hB]
    refine call_of (implFormatConstraint_sat d (l.getD k default) hf) (by simp -implicitDefEqProofs (maxSteps := 2000000) only [go_sem, c2, hB, hne]) (by kernel_rfl) (by simp -implicitDefEqProofs (maxSteps := 2000000) only [go_sem, c2, hB, hne]) ?_
    simp -implicitDefEqProofs (maxSteps := 2000000) only [go_sem, c2, hB, hne]
    refine call_of (specIsValidConstraint_sat d (l.getD k default) hf) (by simp -implicitDefEqProofs (maxSteps := 2000000) only [go_sem, c2, hB, hne, Bool.not_not]) (by kernel_rfl) (by simp -implicitDefEqProofs (maxSteps := 2000000) only [go_sem, c2, hB, hne, Bool.not_not]) ?_
    simp -implicitDefEqProofs (maxSteps := 2000000) only [go_sem, c2, hB, hne, Bool.not_not]
    first | (with_reducible refine tr_and ?_ ?_; focus kernel_rfl) | (with_reducible refine tr_only ?_; kernel_rfl) | skip
    rw [wk]
    exact ⟨k + 1, c2, by omega, (le_st _ _ [] [] _ rfl (by simp -implicitDefEqProofs (maxSteps := 2000000) only [go_sem] <;> rfl) (by simp -implicitDefEqProofs (maxSteps := 2000000) only [go_sem] <;> rfl) (by simp -implicitDefEqProofs (maxSteps := 2000000) only [go_sem] <;> rfl))⟩
  obtain rfl : k = l.length := by omega
  have dok : d.facts.length ≤ 9223372036854775807 := by have := hd.facts; omega
  simp -implicitDefEqProofs (maxSteps := 2000000) only [go_sem, c2]
  refine call_of (implExtendToMaximal_sat d.facts.length E [] (by omega) (by simp)) (by simp -implicitDefEqProofs (maxSteps := 2000000) only [go_sem, x1]) (callOk_still (by kernel_rfl) (by simp only [List.all_cons, List.all_nil, LV.still, LV.leaves, Leaf.still, ints_still, ris_still, eds_still, rels_still, iss_still, ems_still, Bool.and_self, Bool.and_true])) (by simp -implicitDefEqProofs (maxSteps := 2000000) only [go_sem, x1]) ?_
  simp -implicitDefEqProofs (maxSteps := 2000000) only [go_sem, x1]
  have s14 := mis_small _ (mis_all x2)
  have sok := selD_ok (extM d.facts.length E []).1 hok (by omega)
  generalize (extM d.facts.length E []).1 = S at s14 sok y1 y2 ⊢
  refine call_of (specSelectFacts_sat d S hok (by omega)) (by simp -implicitDefEqProofs (maxSteps := 2000000) only [go_sem, y1]) (callOk_still (by kernel_rfl) (by simp only [List.all_cons, List.all_nil, LV.still, LV.leaves, Leaf.still, ints_still, ris_still, eds_still, rels_still, iss_still, ems_still, Bool.and_self, Bool.and_true])) (by simp -implicitDefEqProofs (maxSteps := 2000000) only [go_sem, y1]) ?_
  simp -implicitDefEqProofs (maxSteps := 2000000) only [go_sem, y1]
  refine call_of (implSatisfiesConstraints_sat (selD d S) l sok.fit hll) (by simp -implicitDefEqProofs (maxSteps := 2000000) only [go_sem, y2]) (by kernel_rfl) (by simp -implicitDefEqProofs (maxSteps := 2000000) only [go_sem, y2]) ?_
  simp -implicitDefEqProofs (maxSteps := 2000000) only [go_sem, y2]
  refine call_of (specSatisfiesConstraints_sat (selD d S) l sok.fit hll) (by simp -implicitDefEqProofs (maxSteps := 2000000) only [go_sem, y2]) (by kernel_rfl) (by simp -implicitDefEqProofs (maxSteps := 2000000) only [go_sem, y2]) ?_
  simp -implicitDefEqProofs (maxSteps := 2000000) only [go_sem, y2]
  refine call_of (implSatisfiesConstraints_sat d l hf hll) (by simp -implicitDefEqProofs (maxSteps := 2000000) only [go_sem, y3, hQ]) (by kernel_rfl) (by simp -implicitDefEqProofs (maxSteps := 2000000) only [go_sem, y3, hQ]) ?_
  simp -implicitDefEqProofs (maxSteps := 2000000) only [go_sem, y3, hQ]
  first | done | rfl | exact ⟨rfl, rfl⟩ | exact ⟨rfl, rfl, rfl⟩ | (refine tr_and ?_ ?_ <;> first | rfl | exact ⟨rfl, rfl⟩ | kernel_rfl)
end Go.Proofs.YtedciihjgbkjgabGreatDoor.A


/- BYTES READ. Conditions: none. -/
namespace Go.Proofs.YtedciihjgbkjgabGreatDoor.A
open Go
set_option linter.unusedVariables false
theorem readsC_byte {H : Type} {enc : TypeId × Value → H} {P : Program} {W : World} {t : TypeId} (ht : P.underlying t = some (.int .u8)) : ReadsC enc P W t cBy (fun _ => True) := by
  intro n cs x h
  obtain ⟨z, rfl⟩ := trod_int ht h
  exact ⟨z, trivial, ⟨rfl, rfl⟩, trivial⟩
end Go.Proofs.YtedciihjgbkjgabGreatDoor.A


/- THE LAW FnDenialConstraints: for every input it returns true, and the input reads as it did. Conditions: none. -/
namespace Go.Proofs.YtedciihjgbkjgabGreatDoor.lawDenialConstraints
open Go.ChangeShapes Go.WideShapes Go.ChangeAt Go.RowKit
open Go.Proofs.YtedciihjgbkjgabGreatDoor.A
set_option linter.unusedVariables false
theorem own : ownKnob Tryz.prog.godebug = none := by kernel_rfl
theorem laid : laidOutB Tryz.prog = true := by kernel_rfl
theorem rowed : mapsRowed Tryz.prog = true := by kernel_rfl
theorem full : ((List.range Tryz.prog.types.size).all fun t => match Tryz.prog.underlying t with | some (.slice e) => decide (0 < Tryz.prog.cellsOf e) | _ => true) = true := by kernel_rfl
set_option maxRecDepth 100000 in
theorem lifted (os : Os) (started : os.Started) (H : Type) (enc : TypeId × Value → H) :
    ReturnsInHanded {} Tryz.checked os 3 .any (fun w args => (Rows.fnDenialConstraintsSpec.pre enc Tryz.prog Tryz.f3 Rows.fnDenialConstraintsRow.domain false w args ∧ laidMetH Tryz.prog Rows.fnDenialConstraintsRow.laid w) ∧ sizedMet enc Tryz.prog Tryz.f3 (OpenSpec.ofChange Rows.fnDenialConstraintsSpec) false w args)
      (Rows.fnDenialConstraintsSpec.post enc Tryz.prog Tryz.f3 false true false false) := by
  refine returnsInHanded_of_change_and (C := Tryz.checked) (X := fun w _ => laidMetH Tryz.prog Rows.fnDenialConstraintsRow.laid w) (fun _ _ _ hh h => h.of_heap hh) own started (by kernel_rfl) Tryz.func3
    (ChangeSpec.witness_shaped (enc := enc) (C := Tryz.checked) (os := os) (X := fun w _ => laidMetH Tryz.prog Rows.fnDenialConstraintsRow.laid w) false (World.laidAll Tryz.prog os Rows.fnDenialConstraintsRow.laid) #[.slice none 0 0] 8 (World.laidAll_os _ _ _)
      (World.shaped_of_ZipB (by kernel_rfl) (by kernel_rfl)) (by kernel_rfl) (by kernel_rfl) (by kernel_rfl)
      (by rw [MakeChecks.laidMetH_plain _ _ _ (by kernel_rfl)]; exact laidMet_laidAll _ (by kernel_rfl) (by kernel_rfl))) ?_
  intro W base args ds gs before hval hW _ _ _ _
  obtain ⟨p, q, hA, hV, hpq, _⟩ := id hW
  rw [Tryz.params3] at hA hval
  obtain ⟨v0, vs0, d0, ds0, p0, q0, e0, rfl, rfl, h0, r0⟩ := trodAll_cons hA
  obtain ⟨rfl, rfl, rfl⟩ := trodAll_nil r0
  obtain ⟨rfl, _⟩ := trodVars_none hV
  obtain rfl : args = #[v0] := by cases args; simp_all
  have rB := readsC_byte (enc := enc) (W := W) und5
  have lBs := readsL_rows (w := 1) rB und22 (by kernel_rfl) (by omega) (fun _ => rfl) bys (fun _ => rfl)
  obtain ⟨a0, g0, l0⟩ := arg_one lBs (okWide_slice_ne und22 (hval 0 _ v0 rfl rfl)) h0
  exact law_calls laid rowed full Tryz.func3 rfl (by kernel_rfl) rfl rfl (by kernel_rfl) rfl und4 hW (lawDenialConstraints_sat a0 g0.1) ⟨l0 _, trivial⟩ rfl rfl rfl
theorem over : Rows.fnDenialConstraintsRow.holds Tryz.pinned (OpenSpec.ofChange Rows.fnDenialConstraintsSpec) :=
  OpenClaim.holds_of_wide 3 Tryz.f3 rfl rfl rfl rfl rfl rfl rfl ⟨rfl, rfl, rfl, rfl, rfl⟩ rfl rfl rfl rfl rfl (by kernel_rfl) Tryz.func3 (by kernel_rfl)
    (of_decide_eq_true (by kernel_rfl)) (by unfold Func.isWrapper; first | (rw [if_pos (by decide +kernel)]; kernel_rfl) | (rw [if_neg (by decide +kernel)]; exact ⟨rfl, rfl⟩))
    (fun os started H enc _ => lifted os started H enc)
end Go.Proofs.YtedciihjgbkjgabGreatDoor.lawDenialConstraints
namespace Go.Proofs.YtedciihjgbkjgabGreatDoor
/-- The card. -/
theorem fnDenialConstraints_holds : Rows.FnDenialConstraintsCardSaid :=
  Claim7.holds_tied_plain_at .later [] [.data, .data, .data] true (true, "5ff05c5738d009ee7e2eae950b9bf82769956d847d041028b8d83f87bb5b57bf") false lawDenialConstraints.over (fun _ h => by cases h) (by kernel_rfl) (fun _ h => by cases h) fnDenialConstraints_row_tie rfl ⟨rfl, rfl⟩ (by kernel_rfl) rfl
    (fun f fn hf hfn => by
      obtain rfl : f = 3 := Option.some.inj ((show Tryz.prog.funcNamed "loop.example/g01918/laws.FnDenialConstraints" = some 3 by kernel_rfl).symm.trans hf) |>.symm
      obtain rfl : fn = Tryz.f3 := (Option.some.inj (Tryz.func3.symm.trans hfn)).symm
      refine ⟨by kernel_rfl, fun j t ht => ?_⟩
      have hall : (Tryz.f3.params.all fun u => !Tryz.prog.wantsStandIn u) = true := by kernel_rfl
      have hm := Array.mem_of_getElem? ht
      exact (show Tryz.prog.wantsStandIn t = false by simpa using (Array.all_eq_true_iff_forall_mem.mp hall) t hm))
    (by kernel_rfl)
#print axioms fnDenialConstraints_holds
end Go.Proofs.YtedciihjgbkjgabGreatDoor
