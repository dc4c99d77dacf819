/- THE ABSTRACT SEMANTICS IS SOUND, twenty-sixth part: code. Conditions: none. -/
import Derived.Test.YtkcbnbbbijlhcaiA29
import Derived.LoopN
namespace Go.Proofs.Ytkcbnbbbijlhcai.A
open Go
set_option linter.unusedSimpArgs false
set_option linter.unusedVariables false

def okOp (n : Nat) (o : Oper) : Bool := match o.dst with
  | some d => decide (d < n)
  | none => true
def okCode (n : Nat) : Code → Bool
  | .region _ ops draw => ops.toList.all (okOp n) && (!draw || stOk ops.toList)
  | .seq a b => okCode n a && okCode n b
  | .cond _ a b => okCode n a && okCode n b
  | .block _ b => okCode n b
  | .loop b => okCode n b
  | _ => true

section code
variable {P : Program} {cx : Cx}

theorem okOps {n : Nat} {ops : Array Oper} (h : ops.toList.all (okOp n) = true) : ∀ o ∈ ops.toList, ∀ d', o.dst = some d' → d' < n := by
  intro o ho d' hd
  have := List.all_eq_true.mp h o ho
  simpa [okOp, hd] using this

/-- A region in the text's order. -/
theorem region_sound (hpins : ∀ q ∈ cx.pins, q.1 < 1000) {id : Nat} {ops : Array Oper} (hok : ops.toList.all (okOp cx.n) = true) {st : St} {a : Act} {W : World} (h : Inv cx st a W) {K : St → Prop} (hK : Rg P ops false st K) {Q : Exit → Act → World → Prop}
    (hQ : ∀ st' a' W', K st' → Inv cx st' a' W' → Q .normal a' W') : (Code.region id ops false).wp P Q a W := by
  obtain ⟨sh, h⟩ := h
  refine wp_region ?_
  have e : List.range ops.size = List.range' 0 ops.toList.length := by rw [List.range_eq_range', Array.length_toList]
  rw [e]
  refine run_sound hpins (okOps hok) ops.toList 0 (by simp) (by simp) (h.less fun q hq => by simpa using hq) hK (fun st' sh' a' W' hK' h' => ?_)
  refine hQ _ a' W' hK' ⟨sh', ?_⟩
  exact h'.next hpins _

theorem awp_sound (hpins : ∀ q ∈ cx.pins, q.1 < 960) (hdraw : ∀ {id : Nat} {ops : Array Oper} (_ : ops.toList.all (okOp cx.n) = true) (_ : stOk ops.toList = true) {st : St} {a : Act} {W : World} (_ : Inv cx st a W) {K : St → Prop} (_ : Rg P ops true st K) {Q : Exit → Act → World → Prop}
    (_ : ∀ st' a' W', K st' → Inv cx st' a' W' → Q .normal a' W'), (Code.region id ops true).wp P Q a W) :
    ∀ (c : Code) {st : St} {a : Act} {W : World} {R : Exit → St → Prop} {Q : Exit → Act → World → Prop}, okCode cx.n c = true → Inv cx st a W → Awp P c R st → (∀ e st' a' W', R e st' → Inv cx st' a' W' → Q e a' W') → c.wp P Q a W
  | .skip, st, a, W, R, Q, _, h, hA, hQ => wp_skip (hQ _ _ _ _ hA h)
  | .region id ops draw, st, a, W, R, Q, hok, h, hA, hQ => by
    simp only [okCode, Bool.and_eq_true] at hok
    obtain ⟨hok, hst⟩ := hok
    cases draw with
    | false => exact region_sound (fun q hq => by have := hpins q hq; omega) hok h hA (fun st' a' W' hK hi => hQ _ _ _ _ hK hi)
    | true => exact hdraw hok (by simpa using hst) h hA (fun st' a' W' hK hi => hQ _ _ _ _ hK hi)
  | .seq x y, st, a, W, R, Q, hok, h, hA, hQ => by
    simp only [okCode, Bool.and_eq_true] at hok
    refine wp_seq (awp_sound hpins hdraw x hok.1 h hA fun e st' a' W' hR hi => ?_)
    cases e with
    | normal => exact awp_sound hpins hdraw y hok.2 hi hR hQ
    | _ => exact hQ _ _ _ _ hR hi
  | .cond c x y, st, a, W, R, Q, hok, h, hA, hQ => by
    simp only [okCode, Bool.and_eq_true] at hok
    unfold Awp at hA
    split at hA
    · rename_i t hc
      obtain ⟨sh, hi⟩ := h
      have ec := hi.ev c
      rw [hc] at ec
      have ec : a.eval c = .bool t := ec
      refine wp_cond ec ?_
      cases t with
      | true => exact awp_sound hpins hdraw x hok.1 ⟨sh, hi⟩ (by simpa using hA) hQ
      | false => exact awp_sound hpins hdraw y hok.2 ⟨sh, hi⟩ (by simpa using hA) hQ
    · exact hA.elim
  | .block id b, st, a, W, R, Q, hok, h, hA, hQ => by
    refine wp_block (awp_sound hpins hdraw b hok h hA fun e st' a' W' hR hi => ?_)
    cases e with
    | exit id' =>
      simp only [Exit.blk] at hR
      unfold Exit.inBlock
      split at hR <;> rename_i e
      · subst e; simp; exact hQ _ _ _ _ hR hi
      · simp [e]; exact hQ _ _ _ _ hR hi
    | _ => exact hQ _ _ _ _ hR hi
  | .loop b, st, a, W, R, Q, hok, h, hA, hQ => by
    obtain ⟨ι, S, good, μ, ⟨i0, hg0, hl0⟩, hround⟩ := hA
    have key : ∀ (n : Nat) (i : ι) (a : Act) (W : World), μ i < n → good i → Inv cx (S i) a W → Code.rounds P b Q n a W := by
      intro n
      induction n with
      | zero => intro i a W hlt; omega
      | succ n ih =>
        intro i a W hlt hg hi
        refine awp_sound hpins hdraw b hok hi (hround i hg) fun e st' a' W' hR hi' => ?_
        cases e with
        | normal =>
          obtain ⟨i', hg', hlt', hle⟩ := hR
          exact ih i' a' W' (by omega) hg' (hle cx a' W' hpins hi')
        | _ => exact hQ _ _ _ _ hR hi'
    exact wp_loop_rounds (μ i0 + 1) (key _ i0 a W (by omega) hg0 (hl0 cx a W hpins h))
  | .exit id, st, a, W, R, Q, _, h, hA, hQ => wp_exit (hQ _ _ _ _ hA h)
  | .ret, st, a, W, R, Q, _, h, hA, hQ => wp_ret (hQ _ _ _ _ hA h)
end code
end Go.Proofs.Ytkcbnbbbijlhcai.A
