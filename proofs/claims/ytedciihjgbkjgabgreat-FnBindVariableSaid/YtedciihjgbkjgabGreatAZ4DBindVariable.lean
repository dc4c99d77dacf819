/- Packed by pack.py: FBindP F4 WDBindVariable LKB2 LDBindVariable -/
import Derived.Test.YtedciihjgbkjgabGreatAZ3DBindVariable
import Derived.Test.YtedciihjgbkjgabGreatAZ1DBindVariable
import Derived.Test.YtedciihjgbkjgabGreatAZ2DBindVariable
import Derived.Test.YtedciihjgbkjgabGreatRows

/- A VARIABLE IS BOUND: its embeddings. Conditions: none. (No program in sight.) -/
namespace Go.Proofs.YtedciihjgbkjgabGreat.A
open Go
set_option linter.unusedSimpArgs false
set_option linter.unusedVariables false

theorem bindT_eq {w : Nat} {c t : Int} (h1 : -10 ≤ t) (h2 : t < 100) : bindT w c t = if t = w then -1 - c else if t > w then t - 1 else t := by
  unfold bindT
  rw [IntWalk.i64_in (t - 1) (by omega)]
theorem get_erase (x : List Int) (w v : Nat) : (x.eraseIdx w).getD v 0 = if v < w then x.getD v 0 else x.getD (v + 1) 0 := by
  rw [List.getD_eq_getElem?_getD, List.getElem?_eraseIdx]
  split <;> rw [List.getD_eq_getElem?_getD]
theorem erase_set_lt {x : List Int} {w t : Nat} {f : Int} (h : t < w) : (x.set t f).eraseIdx w = (x.eraseIdx w).set t f := by
  refine List.ext_getElem? fun m => ?_
  rw [List.getElem?_eraseIdx, List.getElem?_set, List.getElem?_set, List.getElem?_set, List.getElem?_eraseIdx, List.length_eraseIdx]
  rcases Nat.lt_trichotomy m t with h1 | h1 | h1
  · rw [if_pos (by omega), if_neg (by omega), if_neg (by omega), if_pos (by omega)]
  · subst h1
    rw [if_pos (by omega), if_pos rfl, if_pos rfl]
    by_cases h2 : m < x.length
    · rw [if_pos h2, if_pos (by split <;> omega)]
    · rw [if_neg h2, if_neg (by split <;> omega)]
  · by_cases h2 : m < w
    · rw [if_pos h2, if_neg (by omega), if_neg (by omega), if_pos h2]
    · rw [if_neg h2, if_neg (by omega), if_neg (by omega), if_neg h2]
theorem erase_set_gt {x : List Int} {w t : Nat} {f : Int} (h : w < t + 1) : (x.set (t + 1) f).eraseIdx w = (x.eraseIdx w).set t f := by
  refine List.ext_getElem? fun m => ?_
  rw [List.getElem?_eraseIdx, List.getElem?_set, List.getElem?_set, List.getElem?_set, List.getElem?_eraseIdx, List.length_eraseIdx]
  by_cases h1 : m < w
  · rw [if_pos h1, if_neg (by omega), if_neg (by omega), if_pos h1]
  · rw [if_neg h1]
    by_cases h2 : t = m
    · subst h2
      rw [if_pos rfl, if_pos rfl]
      by_cases h3 : t + 1 < x.length
      · rw [if_pos h3, if_pos (by split <;> omega)]
      · rw [if_neg h3, if_neg (by split <;> omega)]
    · rw [if_neg (by omega), if_neg h2, if_neg h1]
theorem erase_set_eq {x : List Int} {w : Nat} {f : Int} : (x.set w f).eraseIdx w = x.eraseIdx w := by
  refine List.ext_getElem? fun m => ?_
  rw [List.getElem?_eraseIdx, List.getElem?_eraseIdx]
  split
  · rw [List.getElem?_set_ne (by omega)]
  · rw [List.getElem?_set_ne (by omega)]
/-- The bound variable has no value yet, or its own. -/
def goodW (w : Nat) (c : Int) (x : List Int) : Bool := decide (x.getD w 0 < 0) || decide (x.getD w 0 = c)
def cutW (w : Nat) (c : Int) (x : List Int) : Option (List Int) := if goodW w c x then some (x.eraseIdx w) else none
theorem goodW_no {w : Nat} {c : Int} {x : List Int} (h : goodW w c x = false) : 0 ≤ x.getD w 0 ∧ x.getD w 0 ≠ c := by
  unfold goodW at h
  rw [Bool.or_eq_false_iff, decide_eq_false_iff_not, decide_eq_false_iff_not] at h
  exact ⟨by omega, h.2⟩
theorem cutW_keeps {w : Nat} {c : Int} {x y : List Int} (h : goodW w c x = false) (hk : y.getD w 0 = x.getD w 0) : cutW w c y = none := by
  unfold cutW goodW
  unfold goodW at h
  rw [hk, h]; rfl
theorem stepU_neg {x : List Int} {t f : Int} (h : t < 0) : stepU x t f = if -1 - t = f then some x else none := by unfold stepU; rw [if_pos h]
theorem stepU_nat {x : List Int} {n : Nat} {f : Int} : stepU x (n : Int) f = if x.getD n 0 < 0 then some (x.set n f) else if x.getD n 0 = f then some x else none := by
  unfold stepU
  rw [if_neg (show ¬ ((n : Nat) : Int) < 0 by omega), Int.toNat_natCast]
theorem stepU_cut {w : Nat} {c : Int} {x : List Int} {t f : Int} (hc : 0 ≤ c) (hf : 0 ≤ f) (hw : w < x.length) (h1 : -10 ≤ t) (h2 : t < x.length) (h3 : x.length ≤ 100) (hg : goodW w c x = true) :
    stepU (x.eraseIdx w) (bindT w c t) f = (stepU x t f).bind (cutW w c) := by
  have hcx : cutW w c x = some (x.eraseIdx w) := by unfold cutW; rw [hg]; rfl
  rw [bindT_eq h1 (by omega)]
  by_cases e : t = w
  · subst e
    rw [if_pos rfl, stepU_neg (show -1 - c < 0 by omega), stepU_nat, show -1 - (-1 - c) = c by omega]
    by_cases hx : x.getD w 0 < 0
    · rw [if_pos hx, Option.bind_some]
      have hset : (x.set w f).getD w 0 = f := by rw [List.getD_eq_getElem?_getD, List.getElem?_set_self hw]; rfl
      unfold cutW goodW
      rw [hset, decide_eq_false (show ¬ f < 0 by omega), Bool.false_or, erase_set_eq]
      by_cases hcf : c = f
      · rw [if_pos hcf, decide_eq_true hcf.symm, if_pos rfl]
      · rw [if_neg hcf, decide_eq_false (fun h => hcf h.symm), if_neg (by simp)]
    · have hxc : x.getD w 0 = c := by
        unfold goodW at hg
        rw [decide_eq_false hx, Bool.false_or] at hg
        exact of_decide_eq_true hg
      rw [if_neg hx, hxc]
      by_cases hcf : c = f
      · rw [if_pos hcf, if_pos hcf, Option.bind_some, hcx]
      · rw [if_neg hcf, if_neg hcf]; rfl
  · rw [if_neg e]
    by_cases e0 : t < 0
    · rw [if_neg (show ¬ t > ((w : Nat) : Int) by omega), stepU_neg e0, stepU_neg e0]
      by_cases hcf : -1 - t = f
      · rw [if_pos hcf, if_pos hcf, Option.bind_some, hcx]
      · rw [if_neg hcf, if_neg hcf]; rfl
    · obtain ⟨n, rfl⟩ : ∃ n : Nat, t = n := ⟨t.toNat, by omega⟩
      have hnw : n ≠ w := by omega
      have key : ∀ (m : Nat), (x.eraseIdx w).getD m 0 = x.getD n 0 → (x.set n f).eraseIdx w = (x.eraseIdx w).set m f → stepU (x.eraseIdx w) (m : Int) f = (stepU x n f).bind (cutW w c) := by
        intro m k1 k2
        rw [stepU_nat, stepU_nat, k1]
        by_cases hx : x.getD n 0 < 0
        · rw [if_pos hx, if_pos hx, Option.bind_some]
          have hk : (x.set n f).getD w 0 = x.getD w 0 := by rw [List.getD_eq_getElem?_getD, List.getElem?_set_ne hnw, ← List.getD_eq_getElem?_getD]
          unfold cutW goodW
          unfold goodW at hg
          rw [hk, hg, if_pos rfl, k2]
        · rw [if_neg hx, if_neg hx]
          by_cases hcf : x.getD n 0 = f
          · rw [if_pos hcf, if_pos hcf, Option.bind_some, hcx]
          · rw [if_neg hcf, if_neg hcf]; rfl
      by_cases e1 : (n : Int) > w
      · rw [if_pos e1]
        obtain ⟨m, rfl⟩ : ∃ m, n = m + 1 := ⟨n - 1, by omega⟩
        rw [show ((m + 1 : Nat) : Int) - 1 = m by omega]
        exact key m (by rw [get_erase, if_neg (by omega)]) (erase_set_gt (by omega))
      · rw [if_neg e1]
        exact key n (by rw [get_erase, if_pos (by omega)]) (erase_set_lt (by omega))
theorem stepU_bad {w : Nat} {c : Int} {x : List Int} {t f : Int} (h : goodW w c x = false) : (stepU x t f).bind (cutW w c) = none := by
  rcases e : stepU x t f with _ | y
  · rfl
  · rw [Option.bind_some]
    exact cutW_keeps h (stepU_keeps e (goodW_no h).1)
theorem uniS_cut {w : Nat} {c : Int} {ts fs vs : List Int} (hc : 0 ≤ c) (hf : ∀ j, 0 ≤ fs.getD j 0) (hw : w < vs.length) (hts : tsOk vs.length ts) (h3 : vs.length ≤ 100) (hg : goodW w c vs = true) :
    ∀ k, k ≤ ts.length → uniS (ts.map (bindT w c)) fs (vs.eraseIdx w) k = (uniS ts fs vs k).bind (cutW w c)
  | 0, _ => by
    show some _ = (some vs).bind _
    rw [Option.bind_some, cutW, hg, if_pos rfl]
  | k + 1, hk => by
    rw [uniS, uniS, uniS_cut hc hf hw hts h3 hg k (by omega), map_getI (by omega)]
    rcases e : uniS ts fs vs k with _ | y
    · rfl
    · have hl := uniS_len e
      obtain ⟨t1, t2⟩ := hts k (by omega)
      rw [Option.bind_some, Option.bind_some]
      rcases hy : goodW w c y
      · rw [show cutW w c y = none by rw [cutW, hy]; rfl, stepU_bad hy]; rfl
      · rw [show cutW w c y = some (y.eraseIdx w) by rw [cutW, hy]; rfl, Option.bind_some]
        exact stepU_cut hc (hf k) (by omega) t1 (by rw [hl]; exact t2) (by omega) hy
theorem meet_cut {w : Nat} {c : Int} {a f : RI} {vs : List Int} (hc : 0 ≤ c) (hf : ∀ j, 0 ≤ f.l.getD j 0) (hw : w < vs.length) (hts : tsOk vs.length a.l) (h3 : vs.length ≤ 100) (hg : goodW w c vs = true) :
    meet (bindA w c a) f (vs.eraseIdx w) = (meet a f vs).bind (cutW w c) := by
  unfold meet bindA
  simp only [List.length_map]
  split
  · exact uniS_cut hc hf hw hts h3 hg _ (Nat.le_refl _)
  · rfl
def hasW (w : Nat) (c : Int) (e : Emb) : Bool := decide (e.vs.getD w 0 = c)
def dropW (w : Nat) (e : Emb) : Emb := ⟨e.vs.eraseIdx w, e.fs⟩
theorem flatMap_eq {α β : Type} {f g : α → List β} : ∀ (l : List α), (∀ a ∈ l, f a = g a) → l.flatMap f = l.flatMap g
  | [], _ => rfl
  | a :: l, h => by
    rw [List.flatMap_cons, List.flatMap_cons, h a (List.mem_cons_self ..), flatMap_eq l fun b hb => h b (List.mem_cons_of_mem _ hb)]
theorem tsOk_len {n m : Nat} {ts : List Int} (h : tsOk n ts) (e : n = m) : tsOk m ts := e ▸ h
theorem walkE_cut {ds ats : List RI} {n w : Nat} {c : Int} (hc : 0 ≤ c) (hw : w < n) (hn : n ≤ 100) (hts : ∀ k, k < ats.length → tsOk n (ats.getD k default).l) (hfs : ∀ i j, 0 ≤ (ds.getD i default).l.getD j 0)
    (hlen : ∀ k i, k < ats.length → i < ds.length → (ds.getD i default).r = (ats.getD k default).r → (ds.getD i default).l.length = (ats.getD k default).l.length) :
    ∀ {m : Nat} {vs fs : List Int}, m ≤ ats.length → vs.length = n → goodW w c vs = true → (vs.getD w 0 = c ∨ ∃ k, ats.length - m ≤ k ∧ k < ats.length ∧ ((w : Nat) : Int) ∈ (ats.getD k default).l) →
      walkE ds (ats.map (bindA w c)) m (vs.eraseIdx w) fs = ((walkE ds ats m vs fs).filter (hasW w c)).map (dropW w)
  | 0, vs, fs, _, hv, hg, ho => by
    have hvc : vs.getD w 0 = c := by
      rcases ho with h | ⟨k, h1, h2, _⟩
      · exact h
      · omega
    simp only [walkE]
    rw [List.filter_cons_of_pos (by unfold hasW; exact decide_eq_true hvc), List.filter_nil, List.map_singleton]
    rfl
  | m + 1, vs, fs, hm, hv, hg, ho => by
    rw [walkE_succ, walkE_succ]
    unfold found
    rw [List.filter_flatMap, List.map_flatMap]
    refine flatMap_eq _ fun i hi => ?_
    have hi : i < ds.length := by simpa using hi
    have hat : atomAt (ats.map (bindA w c)) m = bindA w c (atomAt ats m) := by
      unfold atomAt
      rw [List.length_map, map_getA (by omega)]
    have hk : ats.length - (m + 1) < ats.length := by omega
    have hmc := meet_cut (w := w) (c := c) (a := atomAt ats m) (f := ds.getD i default) (vs := vs) hc (hfs i) (by omega) (tsOk_len (hts _ hk) hv.symm) (by omega) hg
    unfold oneE
    rw [hat, hmc]
    rcases hx : meet (atomAt ats m) (ds.getD i default) vs with _ | x
    · rfl
    · rw [Option.bind_some]
      have hxl := meet_len hx
      have hmr := meet_rel hx
      have hu : uniS (atomAt ats m).l (ds.getD i default).l vs (atomAt ats m).l.length = some x := by
        unfold meet at hx; rw [if_pos hmr] at hx; exact hx
      have hkx := uniS_keeps hu
      rcases hgx : goodW w c x
      · rw [show cutW w c x = none by rw [cutW, hgx]; rfl]
        simp only
        have : (walkE ds ats m x (fs ++ [(i : Int)])).filter (hasW w c) = [] := by
          rw [List.filter_eq_nil_iff]
          intro e he
          obtain ⟨a1, _, _⟩ := walkE_ag hts hfs (show m ≤ ats.length by omega) (by rw [hxl]; exact hv) e he
          obtain ⟨b1, b2⟩ := goodW_no hgx
          unfold hasW
          rw [a1 w b1]
          simpa using b2
        rw [this]; rfl
      · rw [show cutW w c x = some (x.eraseIdx w) by rw [cutW, hgx]; rfl]
        simp only
        refine walkE_cut hc hw hn hts hfs hlen (by omega) (by rw [hxl]; exact hv) hgx ?_
        have fin : 0 ≤ x.getD w 0 → x.getD w 0 = c := by
          intro h
          unfold goodW at hgx
          rw [Bool.or_eq_true, decide_eq_true_iff, decide_eq_true_iff] at hgx
          rcases hgx with h' | h'
          · omega
          · exact h'
        rcases ho with h | ⟨k, h1, h2, h3⟩
        · exact .inl (by rw [hkx w (by omega)]; exact h)
        · rcases Nat.lt_or_ge k (ats.length - m) with h4 | h4
          · obtain rfl : k = ats.length - (m + 1) := by omega
            left
            obtain ⟨j, hj, hjw⟩ := getD_in h3
            have := uniS_ag (tsOk_len (hts _ hk) hv.symm) (hfs i) (Nat.le_refl _) hu j hj
            rw [hjw] at this
            have h5 := this.2 (by omega)
            rw [Int.toNat_natCast] at h5
            exact fin (by rw [h5]; exact hfs i j)
          · exact .inr ⟨k, h4, h2, h3⟩
section bound
variable {l : List Rel} {q : Qu} {w : Nat} {c : Int} (h : goodQu l q = true) (hw : (w : Int) < q.vc) (hc : 0 ≤ c ∧ c ≤ 9)
include h hw hc
theorem bindOk_yes : bindOk q w c = true := by
  have hp := goodQu_parts h
  unfold bindOk inB
  rw [IntWalk.i64_in (q.vc - 1) (by omega)]
  simp; omega
theorem bindQ_yes : bindQ q w c = ⟨q.vc - 1, q.atoms.map (bindA w c), freeB w q.free⟩ := by
  have hp := goodQu_parts h
  unfold bindQ
  rw [bindOk_yes h hw hc, if_pos rfl, IntWalk.i64_in (q.vc - 1) (by omega)]
omit hw hc in
theorem freeB_mem {x : Int} : ∀ {a : List Int}, (∀ y ∈ a, 0 ≤ y ∧ y < q.vc) → x ∈ freeB w a → (∃ y ∈ a, y ≠ w ∧ x = if y > w then y - 1 else y)
  | [], _, hx => by cases hx
  | t :: a, ha, hx => by
    have ht := ha t (List.mem_cons_self ..)
    have hp := goodQu_parts h
    rw [freeB] at hx
    split at hx
    · obtain ⟨y, h1, h2⟩ := freeB_mem (fun y hy => ha y (List.mem_cons_of_mem _ hy)) hx
      exact ⟨y, List.mem_cons_of_mem _ h1, h2⟩
    · rename_i hne
      rcases List.mem_cons.mp hx with e | hx
      · refine ⟨t, List.mem_cons_self .., hne, ?_⟩
        rw [e, bindF, IntWalk.i64_in (t - 1) (by omega)]
      · obtain ⟨y, h1, h2⟩ := freeB_mem (fun y hy => ha y (List.mem_cons_of_mem _ hy)) hx
        exact ⟨y, List.mem_cons_of_mem _ h1, h2⟩
omit hw hc in
theorem freeB_asc : ∀ {a : List Int}, (∀ y ∈ a, 0 ≤ y ∧ y < q.vc) → a.Pairwise (· < ·) → (freeB w a).Pairwise (· < ·)
  | [], _, _ => List.Pairwise.nil
  | t :: a, ha, hp => by
    have ha' : ∀ y ∈ a, 0 ≤ y ∧ y < q.vc := fun y hy => ha y (List.mem_cons_of_mem _ hy)
    have ht := ha t (List.mem_cons_self ..)
    have hq := goodQu_parts h
    rw [List.pairwise_cons] at hp
    rw [freeB]
    split
    · exact freeB_asc ha' hp.2
    · rename_i hne
      rw [List.pairwise_cons]
      refine ⟨fun x hx => ?_, freeB_asc ha' hp.2⟩
      obtain ⟨y, h1, h2, h3⟩ := freeB_mem h ha' hx
      have h4 := hp.1 y h1
      rw [h3, bindF, IntWalk.i64_in (t - 1) (by omega)]
      split <;> split <;> omega
theorem bound_good : goodQu l (bindQ q w c) = true := by
  have hp := goodQu_parts h
  have hg := h
  unfold goodQu at hg
  simp only [Bool.and_eq_true] at hg
  obtain ⟨g1, g2, g3, g4, g5, g6⟩ := hg
  rw [bindQ_yes h hw hc]
  unfold goodQu
  simp only [Bool.and_eq_true, List.length_map]
  have hfl : ∀ y ∈ q.free, 0 ≤ y ∧ y < q.vc := by
    intro y hy
    obtain ⟨i, hi, rfl⟩ := getD_in hy
    exact idxs_at g4 hi
  have hfa : q.free.Pairwise (· < ·) := by
    rw [List.pairwise_iff_getElem]
    intro i j hi hj hij
    have := idxs_lt g4 j i hj hij
    simpa [List.getD_eq_getElem?_getD, hi, hj] using this
  refine ⟨g1, by unfold inB; simp; omega, g3, idxs_of (freeB_asc h hfl hfa) (fun x hx => ?_), upTo_true fun k hk => ?_, upTo_true fun v hv => ?_⟩
  · obtain ⟨y, h1, h2, h3⟩ := freeB_mem h hfl hx
    have := hfl y h1
    rw [h3]; split <;> omega
  · have hk' := goodQu_at h hk
    unfold atomOk at hk' ⊢
    simp only [Bool.and_eq_true] at hk' ⊢
    obtain ⟨a1, a2, a3⟩ := hk'
    rw [map_getA hk]
    refine ⟨?_, upTo_true fun j hj => ?_, upTo_true fun j hj => ?_⟩
    · unfold relAt bindA at *
      simp only [List.length_map]
      exact a1
    · have := upTo_at a2 hj
      unfold newRel at this ⊢
      simp only
      rw [map_getA hk, map_getA (by omega)]
      exact this
    · simp only [bindA, List.length_map] at hj ⊢
      have := upTo_at a3 hj
      unfold termOk at this ⊢
      have hb := inB_of this
      rw [map_getI hj, bindT_eq hb.1 (by omega)]
      unfold inB
      rw [Bool.and_eq_true, decide_eq_true_iff, decide_eq_true_iff]
      split
      · omega
      · split <;> omega
  · have hv : v < (q.vc - 1).toNat := hv
    have occ : ∀ u : Nat, u < q.vc.toNat → ∃ a ∈ q.atoms, ((u : Nat) : Int) ∈ a.l := by
      intro u hu
      have := upTo_at g6 hu
      unfold occurs at this
      rw [List.take_length, List.any_eq_true] at this
      obtain ⟨a, h1, h2⟩ := this
      exact ⟨a, h1, of_decide_eq_true h2⟩
    unfold occurs
    simp only
    rw [← List.length_map (f := bindA w c), List.take_length, List.any_eq_true]
    rcases Nat.lt_or_ge v w with h1 | h1
    · obtain ⟨a, h2, h3⟩ := occ v (by omega)
      refine ⟨bindA w c a, List.mem_map_of_mem h2, decide_eq_true ?_⟩
      refine List.mem_map.mpr ⟨v, h3, ?_⟩
      rw [bindT_eq (by omega) (by omega), if_neg (by omega), if_neg (by omega)]
    · obtain ⟨a, h2, h3⟩ := occ (v + 1) (by omega)
      refine ⟨bindA w c a, List.mem_map_of_mem h2, decide_eq_true ?_⟩
      refine List.mem_map.mpr ⟨((v + 1 : Nat) : Int), h3, ?_⟩
      rw [bindT_eq (by omega) (by omega), if_neg (by omega), if_pos (by omega)]
      omega
end bound
theorem erase_rep (n w : Nat) (h : w < n) : (List.replicate n (-1 : Int)).eraseIdx w = List.replicate (n - 1) (-1) := by
  refine List.ext_getElem? fun m => ?_
  rw [List.getElem?_eraseIdx, List.getElem?_replicate, List.getElem?_replicate, List.getElem?_replicate]
  by_cases h1 : m < w
  · rw [if_pos h1, if_pos (show m < n by omega), if_pos (show m < n - 1 by omega)]
  · rw [if_neg h1]
    by_cases h2 : m + 1 < n
    · rw [if_pos h2, if_pos (show m < n - 1 by omega)]
    · rw [if_neg h2, if_neg (show ¬ m < n - 1 by omega)]
theorem bound_embs {d : Db} {q : Qu} {w : Nat} {c : Int} (g : queryFor d q = true) (hw : (w : Int) < q.vc) (hc : 0 ≤ c ∧ c ≤ 9) : (embs d (bindQ q w c)).length = ((embs d q).filter (hasW w c)).length := by
  have hq := queryFor_qu g
  have hd := queryFor_db g
  have hp := goodQu_parts hq
  have g2 : queryFor d (bindQ q w c) = true := by
    unfold queryFor at g ⊢
    rw [Bool.and_eq_true] at g ⊢
    exact ⟨g.1, bound_good hq hw hc⟩
  unfold embs
  rw [if_pos g2, if_pos g, bindQ_yes hq hw hc]
  simp only [List.length_map]
  have hocc : ∃ k, q.atoms.length - q.atoms.length ≤ k ∧ k < q.atoms.length ∧ ((w : Nat) : Int) ∈ (q.atoms.getD k default).l := by
    have hg := hq
    unfold goodQu at hg
    simp only [Bool.and_eq_true] at hg
    have := upTo_at hg.2.2.2.2.2 (show w < q.vc.toNat by omega)
    unfold occurs at this
    rw [List.take_length, List.any_eq_true] at this
    obtain ⟨a, h1, h2⟩ := this
    obtain ⟨k, hk, e⟩ := List.mem_iff_getElem.mp h1
    refine ⟨k, by omega, hk, ?_⟩
    rw [List.getD_eq_getElem?_getD, List.getElem?_eq_getElem hk, Option.getD_some, e]
    exact of_decide_eq_true h2
  have hgw : goodW w c (List.replicate q.vc.toNat (-1)) = true := by
    unfold goodW
    rw [List.getD_eq_getElem?_getD, List.getElem?_replicate, if_pos (by omega)]; rfl
  have key := walkE_cut (ds := d.facts) (ats := q.atoms) (n := q.vc.toNat) (w := w) (c := c) hc.1 (by omega) (by omega) (fun k hk => tsOk_at hq hk) (fact_nonneg hd)
    (fun k i hk hi e => meet_lens g hk hi e) (m := q.atoms.length) (vs := List.replicate q.vc.toNat (-1)) (fs := []) (Nat.le_refl _) (by rw [List.length_replicate]) hgw (.inr hocc)
  rw [erase_rep _ _ (by omega)] at key
  rw [show (q.vc - 1).toNat = q.vc.toNat - 1 by omega, key, List.length_map]
end Go.Proofs.YtedciihjgbkjgabGreat.A


/- EqualQueries. Conditions: none. -/
namespace Go.Proofs.YtedciihjgbkjgabGreat.A
open Go
set_option linter.unusedSimpArgs false
set_option linter.unusedVariables false
set_option maxRecDepth 100000

theorem specEqualQueries_sat (a b : Qu) (h : a.fit) : Sat Tryz.prog 10 [lQu a, lQu b] [lBool (decide (a = b))] [g3, g3] := by
  refine sat_of_body mixed Tryz.func10 rfl (by kernel_rfl) (by kernel_rfl) (rs := [.tmp 4]) rfl rfl rfl ?_
  rw [Qu.eq_iff]
  simp -implicitDefEqProofs (maxSteps := 2000000) only [go_sem]
  rcases d1 : a.vc != b.vc
  case true =>
    have e1 : ¬ a.vc = b.vc := by simpa using d1
    simp -implicitDefEqProofs (maxSteps := 2000000) only [go_sem, d1, e1, decide_false]
  have e1 : decide (a.vc = b.vc) = true := by simpa using d1
  simp -implicitDefEqProofs (maxSteps := 2000000) only [go_sem, d1, e1]
  refine call_of (l3Ints_sat a.free b.free h.2) (by simp -implicitDefEqProofs (maxSteps := 2000000) only [go_sem]) (by kernel_rfl) (by simp -implicitDefEqProofs (maxSteps := 2000000) only [go_sem]) ?_
  simp -implicitDefEqProofs (maxSteps := 2000000) only [go_sem]
  rw [cmp_bne]
  rcases d2 : decide (a.free = b.free)
  · simp -implicitDefEqProofs (maxSteps := 2000000) only [go_sem, d2]
  simp -implicitDefEqProofs (maxSteps := 2000000) only [go_sem, d2]
  refine cond_split (fun d3 => ?_) fun d3 => ?_
  · simp -implicitDefEqProofs (maxSteps := 2000000) only [go_sem]
    have d3 : ¬ (a.atoms.length : Int) = b.atoms.length := by simpa using d3
    rw [decide_eq_false (fun h => d3 (by rw [h]))]
  have d3 : a.atoms.length = b.atoms.length := cast_ne d3
  simp -implicitDefEqProofs (maxSteps := 2000000) only [go_sem]
  refine awp_loop Nat (fun k => mkSt [(2, .one (.vad 1000 0)), (3, .one (.vad 1064 0)), (5, .sc (.int .i64 k))] [(1000, sQu a), (1064, sQu b)] [] 2000)
    (fun k => k ≤ a.atoms.length ∧ a.atoms.take k = b.atoms.take k) (fun k => a.atoms.length - k) 0 ⟨by omega, rfl⟩ (le_st _ _ [] [] _ rfl (by simp -implicitDefEqProofs (maxSteps := 2000000) only [go_sem] <;> rfl) (by simp -implicitDefEqProofs (maxSteps := 2000000) only [go_sem] <;> rfl) (by simp -implicitDefEqProofs (maxSteps := 2000000) only [go_sem] <;> rfl)) ?_
  rintro k ⟨h1, h2⟩
  by_cases c1 : k < a.atoms.length
  · have c2 : k < b.atoms.length := by omega
    simp -implicitDefEqProofs (maxSteps := 2000000) only [go_sem, c1, c2]
    rcases d4 : (a.atoms.getD k default).r != (b.atoms.getD k default).r
    case true =>
      simp -implicitDefEqProofs (maxSteps := 2000000) only [go_sem, d4]
      rw [decide_eq_false (list_ne (d := default) (k := k) (fun h => by rw [h] at d4; simp at d4))]
    simp -implicitDefEqProofs (maxSteps := 2000000) only [go_sem, d4, c1, c2]
    refine call_of (l3Ints_sat (a.atoms.getD k default).l (b.atoms.getD k default).l (h.1.2 _ (mem_getD _ c1))) (by simp -implicitDefEqProofs (maxSteps := 2000000) only [go_sem, d4, c1, c2]) (by kernel_rfl) (by simp -implicitDefEqProofs (maxSteps := 2000000) only [go_sem, d4, c1, c2]) ?_
    simp -implicitDefEqProofs (maxSteps := 2000000) only [go_sem, d4, c1, c2]
    rw [cmp_bne]
    rcases d5 : decide ((a.atoms.getD k default).l = (b.atoms.getD k default).l)
    · simp -implicitDefEqProofs (maxSteps := 2000000) only [go_sem, d5]
      rw [decide_eq_false (list_ne (d := default) (k := k) (fun h => by rw [h] at d5; simp at d5))]
    simp -implicitDefEqProofs (maxSteps := 2000000) only [go_sem, d5]
    rw [i64_succ (by have := h.1.1; omega)]
    refine ⟨k + 1, ⟨c1, list_step default c1 c2 h2 ?_⟩, by omega, (le_st _ _ [] [] _ rfl (by simp -implicitDefEqProofs (maxSteps := 2000000) only [go_sem] <;> rfl) (by simp -implicitDefEqProofs (maxSteps := 2000000) only [go_sem] <;> rfl) (by simp -implicitDefEqProofs (maxSteps := 2000000) only [go_sem] <;> rfl))⟩
    have h := RI.eq_iff (a.atoms.getD k default) (b.atoms.getD k default)
    rw [d5, show decide ((a.atoms.getD k default).r = (b.atoms.getD k default).r) = true by simpa using d4] at h
    simpa using h
  · simp -implicitDefEqProofs (maxSteps := 2000000) only [go_sem, c1]
    rw [List.take_of_length_le (by omega), List.take_of_length_le (by omega)] at h2
    rw [decide_eq_true h2]
end Go.Proofs.YtedciihjgbkjgabGreat.A


/- THE WALK OF THE LAW FnBindVariable. Conditions: none. -/
namespace Go.Proofs.YtedciihjgbkjgabGreat.A
open Go
set_option linter.unusedSimpArgs false
set_option linter.unusedVariables false
set_option maxRecDepth 100000
abbrev sQb (q : Qu) : List SV := [.sc (.int .i64 q.vc), .im 2 (ris 0 q.atoms), .im 1 (ints q.free)]
theorem bigB_sat (b : List Int) (h : b.length ≤ 9223372036854775807) : Sat Tryz.prog 5 [lBys b] [lBool (decide ((b.length : Int) > 1048576))] [g1] := by
  refine sat_of_body mixed Tryz.func5 rfl (by kernel_rfl) (by kernel_rfl) (rs := [.tmp 2]) rfl rfl rfl ?_
  simp -implicitDefEqProofs (maxSteps := 2000000) only [go_sem]
def bndL : List Int := [0, 1, 9, 10, -1]
set_option maxHeartbeats 4000000 in
theorem drawBV_ex (b : List Int) (h : b.length ≤ 1048576) : ∃ (q : Qu) (v w : Int), QuD 201 q ∧
    Sat Tryz.prog 7 [lBys b] [oQu q, lInt v, lInt w] [g1] := by
  obtain ⟨c0, c1, q, hq, k1, s0⟩ := l11Both_ex b h
  have b1 := beV_lt c1 (n := 6) (by decide)
  refine ⟨q, ((beV c1 6 : Nat) : Int) - 1, bndL.getD (beV (byC c1) 5) 0, hq, ?_⟩
  have k2 := byC_ok k1
  have w1 : IntKind.i64.wrap (((beV c1 6 : Nat) : Int) - 1) = ((beV c1 6 : Nat) : Int) - 1 := IntWalk.i64_in _ (by omega)
  have eL : (((((List.replicate 5 (0 : Int)).set 0 0).set 1 1).set 2 9).set 3 10).set 4 (-1) = bndL := rfl
  have el : bndL.length = 5 := rfl
  refine sat_of_body mixed Tryz.func7 rfl (by kernel_rfl) (by kernel_rfl) (rs := [.cell 2 31, .tmp 3, .tmp 4]) rfl rfl rfl ?_
  simp -implicitDefEqProofs (maxSteps := 2000000) only [go_sem]
  refine call_of (s0) (by simp -implicitDefEqProofs (maxSteps := 2000000) only [go_sem]) (by kernel_rfl) (by simp -implicitDefEqProofs (maxSteps := 2000000) only [go_sem]) ?_
  simp -implicitDefEqProofs (maxSteps := 2000000) only [go_sem]
  refine call_of (l1Below_sat c1 6 k1 (by decide) (by decide)) (by simp -implicitDefEqProofs (maxSteps := 2000000) only [go_sem, w1] <;> and_intros <;> rfl) (by kernel_rfl) (by simp -implicitDefEqProofs (maxSteps := 2000000) only [go_sem, w1]) ?_
  simp -implicitDefEqProofs (maxSteps := 2000000) only [go_sem, w1]
  refine call_of (l1PickInt_own (byC c1) bndL k2 (by decide) (by decide)) (by simp -implicitDefEqProofs (maxSteps := 2000000) only [go_sem, eL, el, w1]) (by kernel_rfl) (by simp -implicitDefEqProofs (maxSteps := 2000000) only [go_sem, eL, el, w1]) ?_
  simp -implicitDefEqProofs (maxSteps := 2000000) only [go_sem, eL, el, w1]
  first | (with_reducible refine tr_and ?_ ?_; focus kernel_rfl) | (with_reducible refine tr_only ?_; kernel_rfl) | skip
  and_intros <;> rfl
def cntW (w : Nat) (c : Int) (l : List Emb) (i : Nat) : Nat := ((l.take i).filter (hasW w c)).length
theorem cntW_step {w : Nat} {c : Int} {l : List Emb} {i : Nat} (h : i < l.length) : cntW w c l (i + 1) = cntW w c l i + if hasW w c (l.getD i default) then 1 else 0 := by
  unfold cntW
  rw [take_snoc default h, List.filter_append, List.length_append]
  rcases e : hasW w c (l.getD i default)
  · rw [List.filter_cons_of_neg (by rw [e]; simp), if_neg (by simp)]; rfl
  · rw [List.filter_cons_of_pos e, if_pos rfl]; rfl
theorem cntW_le (w : Nat) (c : Int) (l : List Emb) (i : Nat) : cntW w c l i ≤ l.length := by
  unfold cntW
  have h1 := List.length_filter_le (hasW w c) (l.take i)
  have h2 : (l.take i).length ≤ l.length := by rw [List.length_take]; omega
  omega
theorem cntW_all (w : Nat) (c : Int) (l : List Emb) : cntW w c l l.length = (l.filter (hasW w c)).length := by unfold cntW; rw [List.take_length]
set_option maxHeartbeats 8000000 in
/-- THE LAW FnBindVariable. -/
theorem lawDBindVariable_sat (b : List Int) (h : b.length ≤ 9223372036854775807) (hb : bytesOk b) : Sat Tryz.prog 3 [lBys b] [lBool true] [g1] := by
  refine sat_of_body mixed Tryz.func3 rfl (by kernel_rfl) (by kernel_rfl) (rs := [.tmp 2]) rfl rfl rfl ?_
  simp -implicitDefEqProofs (maxSteps := 2000000) only [go_sem]
  refine call_of (bigB_sat b h) (by simp -implicitDefEqProofs (maxSteps := 2000000) only [go_sem]) (by kernel_rfl) (by simp -implicitDefEqProofs (maxSteps := 2000000) only [go_sem]) ?_
  simp -implicitDefEqProofs (maxSteps := 2000000) only [go_sem]
  refine cond_split (fun e0 => ?_) fun e0 => ?_
  · simp -implicitDefEqProofs (maxSteps := 2000000) only [go_sem]
  have o0 : b.length ≤ 1048576 := by have := of_decide_eq_false e0; omega
  simp -implicitDefEqProofs (maxSteps := 2000000) only [go_sem]
  obtain ⟨d, q, hd, hq, s0⟩ := drawFE_ex b o0
  obtain ⟨p, v, x, hp, s1⟩ := drawBV_ex b o0
  have hok := hd.ok (m := 13) (by decide)
  have hf := hok.fit
  have qok := hq.ok (by decide)
  have qf := qok.fit
  have pok := hp.ok (by decide)
  have bok := bindQ_ok v x pok
  have bf := bok.fit
  have hB : ∀ t : Bool, (t != t) = false := fun t => by cases t <;> rfl
  refine call_of (s0) (by simp -implicitDefEqProofs (maxSteps := 2000000) only [go_sem]) (by kernel_rfl) (by simp -implicitDefEqProofs (maxSteps := 2000000) only [go_sem]) ?_
  simp -implicitDefEqProofs (maxSteps := 2000000) only [go_sem]
  refine call_of (s1) (by simp -implicitDefEqProofs (maxSteps := 2000000) only [go_sem]) (by kernel_rfl) (by simp -implicitDefEqProofs (maxSteps := 2000000) only [go_sem]) ?_
  simp -implicitDefEqProofs (maxSteps := 2000000) only [go_sem]
  refine call_of (implBindVariable_sat p v x pok) (by simp -implicitDefEqProofs (maxSteps := 2000000) only [go_sem]) (callOk_still (by kernel_rfl) (by simp only [List.all_cons, List.all_nil, LV.still, LV.leaves, Leaf.still, ints_still, ris_still, eds_still, rels_still, iss_still, ems_still, Bool.and_self, Bool.and_true])) (by simp -implicitDefEqProofs (maxSteps := 2000000) only [go_sem]) ?_
  simp -implicitDefEqProofs (maxSteps := 2000000) only [go_sem]
  refine call_of (specBindVariable_sat p v x pok) (by simp -implicitDefEqProofs (maxSteps := 2000000) only [go_sem]) (callOk_still (by kernel_rfl) (by simp only [List.all_cons, List.all_nil, LV.still, LV.leaves, Leaf.still, ints_still, ris_still, eds_still, rels_still, iss_still, ems_still, Bool.and_self, Bool.and_true])) (by simp -implicitDefEqProofs (maxSteps := 2000000) only [go_sem]) ?_
  simp -implicitDefEqProofs (maxSteps := 2000000) only [go_sem]
  refine call_of (specEqualQueries_sat (bindQ p v x) (bindQ p v x) bf) (by simp -implicitDefEqProofs (maxSteps := 2000000) only [go_sem, hB]) (by kernel_rfl) (by simp -implicitDefEqProofs (maxSteps := 2000000) only [go_sem, hB]) ?_
  simp -implicitDefEqProofs (maxSteps := 2000000) only [go_sem, hB]
  rcases g : queryFor d q
  · refine call_of (specIsQueryFor_sat d q hf qf) (by simp -implicitDefEqProofs (maxSteps := 2000000) only [go_sem, g]) (by kernel_rfl) (by simp -implicitDefEqProofs (maxSteps := 2000000) only [go_sem, g]) ?_
    simp -implicitDefEqProofs (maxSteps := 2000000) only [go_sem, g]
    first | done | rfl | exact ⟨rfl, rfl⟩ | exact ⟨rfl, rfl, rfl⟩ | (refine tr_and ?_ ?_ <;> first | rfl | exact ⟨rfl, rfl⟩ | kernel_rfl)
  rcases z : (q.vc == 0)
  case true =>
    refine call_of (specIsQueryFor_sat d q hf qf) (by simp -implicitDefEqProofs (maxSteps := 2000000) only [go_sem, g, z]) (by kernel_rfl) (by simp -implicitDefEqProofs (maxSteps := 2000000) only [go_sem, g, z]) ?_
    simp -implicitDefEqProofs (maxSteps := 2000000) only [go_sem, g, z]
    first | done | rfl | exact ⟨rfl, rfl⟩ | exact ⟨rfl, rfl, rfl⟩ | (refine tr_and ?_ ?_ <;> first | rfl | exact ⟨rfl, rfl⟩ | kernel_rfl)
  have hp2 := goodQu_parts (queryFor_qu g)
  have hz : q.vc ≠ 0 := by rw [beq_eq_false_iff_ne] at z; exact z
  obtain ⟨n, hn⟩ : ∃ n : Nat, q.vc = n := ⟨q.vc.toNat, by omega⟩
  obtain ⟨a, ha, s2⟩ := at_ex b 0 o0 hb (by decide)
  obtain ⟨a2, ha2, s3⟩ := at_ex b 1 o0 hb (by decide)
  have wm : Int.tmod ((a : Nat) : Int) q.vc = ((a % n : Nat) : Int) := by rw [hn]; exact tmodN a n
  have wc : Int.tmod ((a2 : Nat) : Int) 4 = ((a2 % 4 : Nat) : Int) := tmodN a2 4
  have hw : ((a % n : Nat) : Int) < q.vc := by rw [hn]; exact Int.ofNat_lt.mpr (Nat.mod_lt _ (by omega))
  have hc : 0 ≤ ((a2 % 4 : Nat) : Int) ∧ ((a2 % 4 : Nat) : Int) ≤ 9 := by omega
  have gok := bindQ_ok ((a % n : Nat) : Int) ((a2 % 4 : Nat) : Int) qok
  have gf := gok.fit
  have r1 := bindOk_yes (queryFor_qu g) hw hc
  have r2 := bound_good (queryFor_qu g) hw hc
  have r3 := bound_embs g hw hc
  have nv := embs_len d q
  generalize a % n = w at wm hw gok gf r1 r2 r3
  generalize ((a2 % 4 : Nat) : Int) = c at wc hc gok gf r1 r2 r3
  refine call_of (specIsQueryFor_sat d q hf qf) (by simp -implicitDefEqProofs (maxSteps := 2000000) only [go_sem, g, z]) (by kernel_rfl) (by simp -implicitDefEqProofs (maxSteps := 2000000) only [go_sem, g, z]) ?_
  simp -implicitDefEqProofs (maxSteps := 2000000) only [go_sem, g, z]
  refine call_of (s2) (by simp -implicitDefEqProofs (maxSteps := 2000000) only [go_sem, wm] <;> and_intros <;> rfl) (by kernel_rfl) (by simp -implicitDefEqProofs (maxSteps := 2000000) only [go_sem, wm]) ?_
  simp -implicitDefEqProofs (maxSteps := 2000000) only [go_sem, wm]
  refine ⟨hz, ?_⟩
  refine call_of (s3) (by simp -implicitDefEqProofs (maxSteps := 2000000) only [go_sem, wc] <;> and_intros <;> rfl) (by kernel_rfl) (by simp -implicitDefEqProofs (maxSteps := 2000000) only [go_sem, wc]) ?_
  simp -implicitDefEqProofs (maxSteps := 2000000) only [go_sem, wc]
  refine ⟨by decide, ?_⟩
  refine call_of (implBindVariable_sat q w c qok) (by simp -implicitDefEqProofs (maxSteps := 2000000) only [go_sem, r1]) (callOk_still (by kernel_rfl) (by simp only [List.all_cons, List.all_nil, LV.still, LV.leaves, Leaf.still, ints_still, ris_still, eds_still, rels_still, iss_still, ems_still, Bool.and_self, Bool.and_true])) (by simp -implicitDefEqProofs (maxSteps := 2000000) only [go_sem, r1]) ?_
  simp -implicitDefEqProofs (maxSteps := 2000000) only [go_sem, r1]
  refine call_of (specFindEmbeddings_sat d q hf qf) (by simp -implicitDefEqProofs (maxSteps := 2000000) only [go_sem]) (callOk_still (by kernel_rfl) (by simp only [List.all_cons, List.all_nil, LV.still, LV.leaves, Leaf.still, ints_still, ris_still, eds_still, rels_still, iss_still, ems_still, Bool.and_self, Bool.and_true])) (by simp -implicitDefEqProofs (maxSteps := 2000000) only [go_sem]) ?_
  simp -implicitDefEqProofs (maxSteps := 2000000) only [go_sem]
  have hag := embs_ag (d := d) (q := q)
  have ht := cntW_all w c (embs d q)
  have hle := cntW_le w c (embs d q)
  have h0 : cntW w c (embs d q) 0 = 0 := rfl
  have r4 : ((((embs d (bindQ q w c)).length : Nat) : Int) == ((cntW w c (embs d q) (embs d q).length : Nat) : Int)) = true := by rw [ht, r3]; exact beq_self_eq_true _
  generalize embs d q = E at nv hag ht hle h0 r4 ⊢
  generalize bindQ q w c = G at gok gf r1 r2 r4 ⊢
  refine awp_loop Nat (fun k => mkSt [(3, .one (.vad 1512 0)), (12, .sc (.int .i64 w)), (13, .sc (.int .i64 c)), (14, .one (.vad 5928 0)), (15, .sc (.bool true)), (16, .sc (.int .i64 (cntW w c E k))), (17, .one (.im 2 (ems 0 E))), (18, .sc (.int .i64 k))] [(1512, sDb d), (5928, sQb G)] [] 20000)
    (fun k => k ≤ E.length) (fun k => E.length - k) 0 (by omega) (le_st' _ _ [] [5673, 5674, 6312] _ (by simp -implicitDefEqProofs (maxSteps := 2000000) only [go_sem, ris_frz, ems_frz, ints_frz, h0] <;> and_intros <;> first | rfl | exact List.mem_singleton_self _ | decide | (refine ⟨_, rfl, Eq.symm ?_⟩; simp -implicitDefEqProofs (maxSteps := 2000000) only [go_sem, ris_frz, ems_frz, ints_frz, h0]; done) | (refine ⟨_, rfl, Eq.symm ?_⟩; simp -implicitDefEqProofs (maxSteps := 2000000) only [go_sem, ris_frz, ems_frz, ints_frz, h0]; rfl)) (by simp -implicitDefEqProofs (maxSteps := 2000000) only [go_sem, ris_frz, ems_frz, ints_frz, h0] <;> and_intros <;> first | rfl | exact List.mem_singleton_self _ | decide | (refine ⟨_, rfl, Eq.symm ?_⟩; simp -implicitDefEqProofs (maxSteps := 2000000) only [go_sem, ris_frz, ems_frz, ints_frz, h0]; done) | (refine ⟨_, rfl, Eq.symm ?_⟩; simp -implicitDefEqProofs (maxSteps := 2000000) only [go_sem, ris_frz, ems_frz, ints_frz, h0]; rfl)) (by simp -implicitDefEqProofs (maxSteps := 2000000) only [go_sem, ris_frz, ems_frz, ints_frz, h0] <;> and_intros <;> rfl) (by rfl)) ?_
  rintro k q1
  by_cases c1 : k < E.length
  · have wk : IntKind.i64.wrap ((k : Int) + 1) = ((k + 1 : Nat) : Int) := i64_succ (by omega)
    obtain ⟨-, -, vl, -⟩ := hag _ (mem_getD (default : Emb) c1)
    have hk := hle k
    have wc2 : IntKind.i64.wrap (((cntW w c E k : Nat) : Int) + 1) = ((cntW w c E k + 1 : Nat) : Int) := i64_succ (by omega)
    have hst := cntW_step (w := w) (c := c) c1
    have c2 : w < (E.getD k default).vs.length := by omega
    rcases hq : hasW w c (E.getD k default)
    · have d1 : ((E.getD k default).vs.getD w 0 == c) = false := by unfold hasW at hq; rw [beq_eq_false_iff_ne]; exact of_decide_eq_false hq
      rw [hq, if_neg (by simp), Nat.add_zero] at hst
      simp -implicitDefEqProofs (maxSteps := 2000000) only [go_sem, c1, c2, d1, wk]
      exact ⟨k + 1, c1, by omega, (le_st _ _ [] [] _ rfl (by simp -implicitDefEqProofs (maxSteps := 2000000) only [go_sem, hst] <;> rfl) (by simp -implicitDefEqProofs (maxSteps := 2000000) only [go_sem, hst] <;> rfl) (by simp -implicitDefEqProofs (maxSteps := 2000000) only [go_sem, hst] <;> rfl))⟩
    · have d1 : ((E.getD k default).vs.getD w 0 == c) = true := by unfold hasW at hq; rw [beq_iff_eq]; exact of_decide_eq_true hq
      rw [hq, if_pos rfl] at hst
      simp -implicitDefEqProofs (maxSteps := 2000000) only [go_sem, c1, c2, d1, wk, wc2]
      exact ⟨k + 1, c1, by omega, (le_st _ _ [] [] _ rfl (by simp -implicitDefEqProofs (maxSteps := 2000000) only [go_sem, hst] <;> rfl) (by simp -implicitDefEqProofs (maxSteps := 2000000) only [go_sem, hst] <;> rfl) (by simp -implicitDefEqProofs (maxSteps := 2000000) only [go_sem, hst] <;> rfl))⟩
  · obtain rfl : k = E.length := by omega
    simp -implicitDefEqProofs (maxSteps := 2000000) only [go_sem, c1]
    refine call_of (specIsValidQuery_sat d.rels G hf.1.1 gf) (by simp -implicitDefEqProofs (maxSteps := 2000000) only [go_sem, r2]) (by kernel_rfl) (by simp -implicitDefEqProofs (maxSteps := 2000000) only [go_sem, r2]) ?_
    simp -implicitDefEqProofs (maxSteps := 2000000) only [go_sem, r2]
    refine call_of (implFindEmbeddings_sat d G hf gok) (by simp -implicitDefEqProofs (maxSteps := 2000000) only [go_sem, r4]) (callOk_still (by kernel_rfl) (by simp only [List.all_cons, List.all_nil, LV.still, LV.leaves, Leaf.still, ints_still, ris_still, eds_still, rels_still, iss_still, ems_still, Bool.and_self, Bool.and_true])) (by simp -implicitDefEqProofs (maxSteps := 2000000) only [go_sem, r4]) ?_
    simp -implicitDefEqProofs (maxSteps := 2000000) only [go_sem, r4]
    first | done | rfl | exact ⟨rfl, rfl⟩ | exact ⟨rfl, rfl, rfl⟩ | (refine tr_and ?_ ?_ <;> first | rfl | exact ⟨rfl, rfl⟩ | kernel_rfl)
end Go.Proofs.YtedciihjgbkjgabGreat.A


/- BYTES READ, with their range. Conditions: none. -/
namespace Go.Proofs.YtedciihjgbkjgabGreat.A
open Go
set_option linter.unusedVariables false
theorem trod_u8 {H : Type} {enc : TypeId × Value → H} {P : Program} {W : World} {t : TypeId} (ht : P.underlying t = some (.int .u8)) {n : Nat} {cs : List Value} {x : DataW H × List MemPlace} (h : DataW.trod enc P W 0 (fun _ => true) true n t cs = some x) : ∃ z, cs = [.int .u8 z] ∧ (Lit.int .u8 z).wf = true := by
  obtain ⟨z, rfl⟩ := trod_int ht h
  refine ⟨z, rfl, ?_⟩
  cases n with
  | zero => simp [DataW.trod] at h
  | succ n =>
    unfold DataW.trod at h
    rw [ht] at h
    simp only [true_and] at h
    split at h
    · assumption
    · cases h
theorem readsC_byteR {H : Type} {enc : TypeId × Value → H} {P : Program} {W : World} {t : TypeId} (ht : P.underlying t = some (.int .u8)) : ReadsC enc P W t cBy (fun z => 0 ≤ z ∧ z ≤ 255) := by
  intro n cs x h
  obtain ⟨z, rfl, hz⟩ := trod_u8 ht h
  refine ⟨z, ?_, ⟨rfl, rfl⟩, trivial⟩
  simp only [Lit.wf, Bool.and_eq_true, decide_eq_true_eq] at hz
  have e1 : IntKind.u8.min = 0 := by decide
  have e2 : IntKind.u8.max = 255 := by decide
  rw [e1, e2] at hz
  exact hz
end Go.Proofs.YtedciihjgbkjgabGreat.A


/- THE LAW FnBindVariable: for every input it returns true, and the input reads as it did. Conditions: none. -/
namespace Go.Proofs.YtedciihjgbkjgabGreat.lawBindVariable
open Go.ChangeShapes Go.WideShapes Go.ChangeAt Go.RowKit
open Go.Proofs.YtedciihjgbkjgabGreat.A
set_option linter.unusedVariables false
theorem own : ownKnob Tryz.prog.godebug = none := by kernel_rfl
theorem laid : laidOutB Tryz.prog = true := by kernel_rfl
theorem rowed : mapsRowed Tryz.prog = true := by kernel_rfl
theorem full : ((List.range Tryz.prog.types.size).all fun t => match Tryz.prog.underlying t with | some (.slice e) => decide (0 < Tryz.prog.cellsOf e) | _ => true) = true := by kernel_rfl
set_option maxRecDepth 100000 in
theorem lifted (os : Os) (started : os.Started) (H : Type) (enc : TypeId × Value → H) :
    ReturnsInHanded {} Tryz.checked os 3 .any (Rows.fnBindVariableSpec.pre6 enc Tryz.prog Tryz.f3 Rows.fnBindVariableRow.domain false) (Rows.fnBindVariableSpec.post enc Tryz.prog Tryz.f3 false true false false) := by
  refine returnsInHanded_of_change_sized (C := Tryz.checked) own started (by kernel_rfl) Tryz.func3
    (ChangeSpec.witness6 (enc := enc) (C := Tryz.checked) false ⟨#[], #[.slice none 0 0], []⟩ 8 (by kernel_rfl) (by kernel_rfl) (by kernel_rfl) (by kernel_rfl)) ?_
  intro W base args ds gs before hval hW _ _ _
  obtain ⟨p, q, hA, hV, hpq, _⟩ := id hW
  rw [Tryz.params3] at hA hval
  obtain ⟨v0, vs0, d0, ds0, p0, q0, e0, rfl, rfl, h0, r0⟩ := trodAll_cons hA
  obtain ⟨rfl, rfl, rfl⟩ := trodAll_nil r0
  obtain ⟨rfl, _⟩ := trodVars_none hV
  obtain rfl : args = #[v0] := by cases args; simp_all
  have rB := readsC_byteR (enc := enc) (W := W) und5
  have lBs := readsL_rows (w := 1) rB und22 (by kernel_rfl) (by omega) (fun _ => rfl) bys (fun _ => rfl)
  obtain ⟨a0, g0, l0⟩ := arg_one lBs (okWide_slice_ne und22 (hval 0 _ v0 rfl rfl)) h0
  exact law_calls laid rowed full Tryz.func3 rfl (by kernel_rfl) rfl rfl (by kernel_rfl) rfl und4 hW (lawDBindVariable_sat a0 g0.1 g0.2) ⟨l0 _, trivial⟩ rfl rfl rfl
theorem over : Rows.fnBindVariableRow.holds Tryz.pinned (OpenSpec.ofChange Rows.fnBindVariableSpec) :=
  OpenClaim.holds_of_wide 3 Tryz.f3 rfl rfl rfl rfl rfl rfl rfl ⟨rfl, rfl, rfl, rfl, rfl⟩ rfl rfl rfl rfl rfl (by kernel_rfl) Tryz.func3 (by kernel_rfl)
    (of_decide_eq_true (by kernel_rfl)) (by unfold Func.isWrapper; first | (rw [if_pos (by decide +kernel)]; kernel_rfl) | (rw [if_neg (by decide +kernel)]; exact ⟨rfl, rfl⟩))
    (fun os started H enc _ => lifted os started H enc)
end Go.Proofs.YtedciihjgbkjgabGreat.lawBindVariable
namespace Go.Proofs.YtedciihjgbkjgabGreat
/-- The row, under a short name, for the claim. -/
theorem fnBindVariable_holds : Rows.FnBindVariableSaid := lawBindVariable.over
#print axioms fnBindVariable_holds
end Go.Proofs.YtedciihjgbkjgabGreat
