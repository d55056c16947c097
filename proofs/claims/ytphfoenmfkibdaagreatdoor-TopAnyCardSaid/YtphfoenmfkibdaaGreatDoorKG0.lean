/- What is known of calls holds. -/
import Derived.Test.YtphfoenmfkibdaaGreatDoorKE
import Derived.Test.YtphfoenmfkibdaaGreatDoorTA
set_option linter.unusedSectionVars false
set_option linter.unusedVariables false
set_option linter.unusedSimpArgs false
set_option maxRecDepth 1000000
namespace Go.FX
open Go.Proofs Lt

/-! ### What is known of calls holds -/
variable (raw : Nat → Nat) (hraw : ∀ i, raw i < 18446744073709551616) (h9 : ∀ i, 9 ≤ i → raw i = 0)
theorem base_ok (memo : FuncId → Option (List HEnt)) (hm : ∀ f l, memo f = some l → ∀ e ∈ l, e.f = f ∧ @EntOk (symOf raw hraw h9) Tryz.prog 9 e) : @KnownOk (symOf raw hraw h9) Tryz.prog 9 (qOf memo) := by
  letI := symOf raw hraw h9
  intro f c hc r fr
  unfold qOf at hc
  dsimp only at hc
  cases h1 : Nat.beq f 245 with
  | true =>
    rw [h1, cond_true] at hc; cases hc
    cases Nat.eq_of_beq_eq_true h1
    exact pure_call (E := E0) env_ok eqs_ok names_ok rfl shaL_all r
  | false =>
  cases h2 : Nat.beq f 157 with
  | true =>
    rw [h1, h2, cond_false, cond_true] at hc; cases hc
    cases Nat.eq_of_beq_eq_true h2
    exact pure_call (E := E0) env_ok eqs_ok names_ok rfl powL_all r
  | false =>
  cases h3 : Nat.beq f 82 with
  | true =>
    rw [h1, h2, h3, cond_false, cond_false, cond_true] at hc; cases hc
    cases Nat.eq_of_beq_eq_true h3
    exact of_call raw hraw h9 9 r
  | false =>
  cases h4 : Nat.beq f 49 with
  | true =>
    rw [h1, h2, h3, h4, cond_false, cond_false, cond_false, cond_true] at hc; cases hc
    cases Nat.eq_of_beq_eq_true h4
    exact add_call raw hraw h9 9 r
  | false =>
  cases h5 : Nat.beq f 50 with
  | true =>
    rw [h1, h2, h3, h4, h5, cond_false, cond_false, cond_false, cond_false, cond_true] at hc; cases hc
    cases Nat.eq_of_beq_eq_true h5
    exact mul_call raw hraw h9 9 r
  | false =>
  cases h6 : Nat.beq f 147 with
  | true =>
    rw [h1, h2, h3, h4, h5, h6, cond_false, cond_false, cond_false, cond_false, cond_false, cond_true] at hc; cases hc
    cases Nat.eq_of_beq_eq_true h6
    exact ins_call 9 r
  | false =>
  rw [h1, h2, h3, h4, h5, h6, cond_false, cond_false, cond_false, cond_false, cond_false, cond_false] at hc
  split at hc
  · rename_i l hl
    cases hc
    exact memo_call (E := E0) env_ok eqs_ok names_ok (hm f l hl) r fr
  · cases hc
theorem ent_ok {q : Known} (hq : @KnownOk (symOf raw hraw h9) Tryz.prog 9 q) {e : HEnt} (w1 : T.wf dH e.hin.t) (w2 : T.wf dH e.hout.t) (hc : chunkB E0 q e = true) : @EntOk (symOf raw hraw h9) Tryz.prog 9 e := by
  letI := symOf raw hraw h9
  exact chunk_ok (E := E0) env_ok eqs_ok names_ok hq w1 w2 hc
theorem q0_ok : @KnownOk (symOf raw hraw h9) Tryz.prog 9 (qOf memo0) := base_ok raw hraw h9 _ fun f l h => by cases h
end Go.FX
