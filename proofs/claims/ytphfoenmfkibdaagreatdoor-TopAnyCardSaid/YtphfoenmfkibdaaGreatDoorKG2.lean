/- The fixed world ends well wherever the table of sha lies. -/
import Derived.Test.YtphfoenmfkibdaaGreatDoorKG0
import Derived.Test.YtphfoenmfkibdaaGreatDoorKG1
import Derived.Test.YtphfoenmfkibdaaGreatDoorKX0s0
import Derived.Test.YtphfoenmfkibdaaGreatDoorKX0s1
import Derived.Test.YtphfoenmfkibdaaGreatDoorKX0s2
import Derived.Test.YtphfoenmfkibdaaGreatDoorKX0s3
import Derived.Test.YtphfoenmfkibdaaGreatDoorKX1s0
import Derived.Test.YtphfoenmfkibdaaGreatDoorKX1s1
set_option linter.unusedSectionVars false
set_option linter.unusedVariables false
set_option linter.unusedSimpArgs false
set_option maxRecDepth 1000000
namespace Go.FX
open Go.Proofs Lt
variable (raw : Nat → Nat) (hraw : ∀ i, raw i < 18446744073709551616) (h9 : ∀ i, 9 ≤ i → raw i = 0)
theorem mem32_ok : ∀ e ∈ mem32, e.f = 32 ∧ @EntOk (symOf raw hraw h9) Tryz.prog 9 e := by
  simp only [mem32, List.forall_mem_cons, List.not_mem_nil, false_imp_iff, implies_true, and_true]
  exact ⟨⟨rfl, ent_ok raw hraw h9 (q0_ok raw hraw h9) (heapOf_wf _ _) (heapOf_wf _ _) ent3_run⟩, ⟨rfl, ent_ok raw hraw h9 (q0_ok raw hraw h9) (heapOf_wf _ _) (heapOf_wf _ _) ent4_run⟩, ⟨rfl, ent_ok raw hraw h9 (q0_ok raw hraw h9) (heapOf_wf _ _) (heapOf_wf _ _) ent7_run⟩, ⟨rfl, ent_ok raw hraw h9 (q0_ok raw hraw h9) (heapOf_wf _ _) (heapOf_wf _ _) ent8_run⟩, ⟨rfl, ent_ok raw hraw h9 (q0_ok raw hraw h9) (heapOf_wf _ _) (heapOf_wf _ _) ent11_run⟩, ⟨rfl, ent_ok raw hraw h9 (q0_ok raw hraw h9) (heapOf_wf _ _) (heapOf_wf _ _) ent12_run⟩, ⟨rfl, ent_ok raw hraw h9 (q0_ok raw hraw h9) (heapOf_wf _ _) (heapOf_wf _ _) ent15_run⟩, ⟨rfl, ent_ok raw hraw h9 (q0_ok raw hraw h9) (heapOf_wf _ _) (heapOf_wf _ _) ent16_run⟩, ⟨rfl, ent_ok raw hraw h9 (q0_ok raw hraw h9) (heapOf_wf _ _) (heapOf_wf _ _) ent19_run⟩, ⟨rfl, ent_ok raw hraw h9 (q0_ok raw hraw h9) (heapOf_wf _ _) (heapOf_wf _ _) ent20_run⟩, ⟨rfl, ent_ok raw hraw h9 (q0_ok raw hraw h9) (heapOf_wf _ _) (heapOf_wf _ _) ent23_run⟩, ⟨rfl, ent_ok raw hraw h9 (q0_ok raw hraw h9) (heapOf_wf _ _) (heapOf_wf _ _) ent26_run⟩, ⟨rfl, ent_ok raw hraw h9 (q0_ok raw hraw h9) (heapOf_wf _ _) (heapOf_wf _ _) ent33_run⟩, ⟨rfl, ent_ok raw hraw h9 (q0_ok raw hraw h9) (heapOf_wf _ _) (heapOf_wf _ _) ent36_run⟩, ⟨rfl, ent_ok raw hraw h9 (q0_ok raw hraw h9) (heapOf_wf _ _) (heapOf_wf _ _) ent37_run⟩, ⟨rfl, ent_ok raw hraw h9 (q0_ok raw hraw h9) (heapOf_wf _ _) (heapOf_wf _ _) ent40_run⟩, ⟨rfl, ent_ok raw hraw h9 (q0_ok raw hraw h9) (heapOf_wf _ _) (heapOf_wf _ _) ent41_run⟩, ⟨rfl, ent_ok raw hraw h9 (q0_ok raw hraw h9) (heapOf_wf _ _) (heapOf_wf _ _) ent44_run⟩, ⟨rfl, ent_ok raw hraw h9 (q0_ok raw hraw h9) (heapOf_wf _ _) (heapOf_wf _ _) ent49_run⟩⟩
theorem mem63_ok : ∀ e ∈ mem63, e.f = 63 ∧ @EntOk (symOf raw hraw h9) Tryz.prog 9 e := by
  simp only [mem63, List.forall_mem_cons, List.not_mem_nil, false_imp_iff, implies_true, and_true]
  exact ⟨rfl, ent_ok raw hraw h9 (q0_ok raw hraw h9) (heapOf_wf _ _) (heapOf_wf _ _) ent1_run⟩
theorem q1_ok : @KnownOk (symOf raw hraw h9) Tryz.prog 9 (qOf memo1) := base_ok raw hraw h9 _ fun f l h => by
  unfold memo1 at h
  cases h1 : Nat.beq f 32 with
  | true =>
    rw [h1, cond_true] at h; cases h
    cases Nat.eq_of_beq_eq_true h1
    exact mem32_ok raw hraw h9
  | false =>
  cases h2 : Nat.beq f 63 with
  | true =>
    rw [h1, h2, cond_false, cond_true] at h; cases h
    cases Nat.eq_of_beq_eq_true h2
    exact mem63_ok raw hraw h9
  | false => rw [h1, h2, cond_false, cond_false] at h; cases h
theorem mem14_ok : ∀ e ∈ mem14, e.f = 14 ∧ @EntOk (symOf raw hraw h9) Tryz.prog 9 e := by
  simp only [mem14, List.forall_mem_cons, List.not_mem_nil, false_imp_iff, implies_true, and_true]
  exact ⟨⟨rfl, ent_ok raw hraw h9 (q1_ok raw hraw h9) (heapOf_wf _ _) (heapOf_wf _ _) ent2_run⟩, ⟨rfl, ent_ok raw hraw h9 (q1_ok raw hraw h9) (heapOf_wf _ _) (heapOf_wf _ _) ent5_run⟩, ⟨rfl, ent_ok raw hraw h9 (q1_ok raw hraw h9) (heapOf_wf _ _) (heapOf_wf _ _) ent6_run⟩, ⟨rfl, ent_ok raw hraw h9 (q1_ok raw hraw h9) (heapOf_wf _ _) (heapOf_wf _ _) ent9_run⟩, ⟨rfl, ent_ok raw hraw h9 (q1_ok raw hraw h9) (heapOf_wf _ _) (heapOf_wf _ _) ent10_run⟩, ⟨rfl, ent_ok raw hraw h9 (q1_ok raw hraw h9) (heapOf_wf _ _) (heapOf_wf _ _) ent13_run⟩, ⟨rfl, ent_ok raw hraw h9 (q1_ok raw hraw h9) (heapOf_wf _ _) (heapOf_wf _ _) ent14_run⟩, ⟨rfl, ent_ok raw hraw h9 (q1_ok raw hraw h9) (heapOf_wf _ _) (heapOf_wf _ _) ent17_run⟩, ⟨rfl, ent_ok raw hraw h9 (q1_ok raw hraw h9) (heapOf_wf _ _) (heapOf_wf _ _) ent18_run⟩, ⟨rfl, ent_ok raw hraw h9 (q1_ok raw hraw h9) (heapOf_wf _ _) (heapOf_wf _ _) ent21_run⟩, ⟨rfl, ent_ok raw hraw h9 (q1_ok raw hraw h9) (heapOf_wf _ _) (heapOf_wf _ _) ent22_run⟩, ⟨rfl, ent_ok raw hraw h9 (q1_ok raw hraw h9) (heapOf_wf _ _) (heapOf_wf _ _) ent24_run⟩, ⟨rfl, ent_ok raw hraw h9 (q1_ok raw hraw h9) (heapOf_wf _ _) (heapOf_wf _ _) ent25_run⟩, ⟨rfl, ent_ok raw hraw h9 (q1_ok raw hraw h9) (heapOf_wf _ _) (heapOf_wf _ _) ent27_run⟩, ⟨rfl, ent_ok raw hraw h9 (q1_ok raw hraw h9) (heapOf_wf _ _) (heapOf_wf _ _) ent28_run⟩, ⟨rfl, ent_ok raw hraw h9 (q1_ok raw hraw h9) (heapOf_wf _ _) (heapOf_wf _ _) ent29_run⟩, ⟨rfl, ent_ok raw hraw h9 (q1_ok raw hraw h9) (heapOf_wf _ _) (heapOf_wf _ _) ent30_run⟩, ⟨rfl, ent_ok raw hraw h9 (q1_ok raw hraw h9) (heapOf_wf _ _) (heapOf_wf _ _) ent31_run⟩, ⟨rfl, ent_ok raw hraw h9 (q1_ok raw hraw h9) (heapOf_wf _ _) (heapOf_wf _ _) ent32_run⟩, ⟨rfl, ent_ok raw hraw h9 (q1_ok raw hraw h9) (heapOf_wf _ _) (heapOf_wf _ _) ent34_run⟩, ⟨rfl, ent_ok raw hraw h9 (q1_ok raw hraw h9) (heapOf_wf _ _) (heapOf_wf _ _) ent35_run⟩, ⟨rfl, ent_ok raw hraw h9 (q1_ok raw hraw h9) (heapOf_wf _ _) (heapOf_wf _ _) ent38_run⟩, ⟨rfl, ent_ok raw hraw h9 (q1_ok raw hraw h9) (heapOf_wf _ _) (heapOf_wf _ _) ent39_run⟩, ⟨rfl, ent_ok raw hraw h9 (q1_ok raw hraw h9) (heapOf_wf _ _) (heapOf_wf _ _) ent42_run⟩, ⟨rfl, ent_ok raw hraw h9 (q1_ok raw hraw h9) (heapOf_wf _ _) (heapOf_wf _ _) ent43_run⟩, ⟨rfl, ent_ok raw hraw h9 (q1_ok raw hraw h9) (heapOf_wf _ _) (heapOf_wf _ _) ent45_run⟩, ⟨rfl, ent_ok raw hraw h9 (q1_ok raw hraw h9) (heapOf_wf _ _) (heapOf_wf _ _) ent46_run⟩, ⟨rfl, ent_ok raw hraw h9 (q1_ok raw hraw h9) (heapOf_wf _ _) (heapOf_wf _ _) ent47_run⟩, ⟨rfl, ent_ok raw hraw h9 (q1_ok raw hraw h9) (heapOf_wf _ _) (heapOf_wf _ _) ent48_run⟩, ⟨rfl, ent_ok raw hraw h9 (q1_ok raw hraw h9) (heapOf_wf _ _) (heapOf_wf _ _) ent50_run⟩, ⟨rfl, ent_ok raw hraw h9 (q1_ok raw hraw h9) (heapOf_wf _ _) (heapOf_wf _ _) ent51_run⟩, ⟨rfl, ent_ok raw hraw h9 (q1_ok raw hraw h9) (heapOf_wf _ _) (heapOf_wf _ _) ent52_run⟩, ⟨rfl, ent_ok raw hraw h9 (q1_ok raw hraw h9) (heapOf_wf _ _) (heapOf_wf _ _) ent53_run⟩, ⟨rfl, ent_ok raw hraw h9 (q1_ok raw hraw h9) (heapOf_wf _ _) (heapOf_wf _ _) ent54_run⟩, ⟨rfl, ent_ok raw hraw h9 (q1_ok raw hraw h9) (heapOf_wf _ _) (heapOf_wf _ _) ent55_run⟩, ⟨rfl, ent_ok raw hraw h9 (q1_ok raw hraw h9) (heapOf_wf _ _) (heapOf_wf _ _) ent56_run⟩, ⟨rfl, ent_ok raw hraw h9 (q1_ok raw hraw h9) (heapOf_wf _ _) (heapOf_wf _ _) ent57_run⟩, ⟨rfl, ent_ok raw hraw h9 (q1_ok raw hraw h9) (heapOf_wf _ _) (heapOf_wf _ _) ent58_run⟩, ⟨rfl, ent_ok raw hraw h9 (q1_ok raw hraw h9) (heapOf_wf _ _) (heapOf_wf _ _) ent59_run⟩, ⟨rfl, ent_ok raw hraw h9 (q1_ok raw hraw h9) (heapOf_wf _ _) (heapOf_wf _ _) ent60_run⟩, ⟨rfl, ent_ok raw hraw h9 (q1_ok raw hraw h9) (heapOf_wf _ _) (heapOf_wf _ _) ent61_run⟩, ⟨rfl, ent_ok raw hraw h9 (q1_ok raw hraw h9) (heapOf_wf _ _) (heapOf_wf _ _) ent62_run⟩, ⟨rfl, ent_ok raw hraw h9 (q1_ok raw hraw h9) (heapOf_wf _ _) (heapOf_wf _ _) ent63_run⟩, ⟨rfl, ent_ok raw hraw h9 (q1_ok raw hraw h9) (heapOf_wf _ _) (heapOf_wf _ _) ent64_run⟩, ⟨rfl, ent_ok raw hraw h9 (q1_ok raw hraw h9) (heapOf_wf _ _) (heapOf_wf _ _) ent65_run⟩, ⟨rfl, ent_ok raw hraw h9 (q1_ok raw hraw h9) (heapOf_wf _ _) (heapOf_wf _ _) ent66_run⟩, ⟨rfl, ent_ok raw hraw h9 (q1_ok raw hraw h9) (heapOf_wf _ _) (heapOf_wf _ _) ent67_run⟩, ⟨rfl, ent_ok raw hraw h9 (q1_ok raw hraw h9) (heapOf_wf _ _) (heapOf_wf _ _) ent68_run⟩, ⟨rfl, ent_ok raw hraw h9 (q1_ok raw hraw h9) (heapOf_wf _ _) (heapOf_wf _ _) ent69_run⟩, ⟨rfl, ent_ok raw hraw h9 (q1_ok raw hraw h9) (heapOf_wf _ _) (heapOf_wf _ _) ent70_run⟩, ⟨rfl, ent_ok raw hraw h9 (q1_ok raw hraw h9) (heapOf_wf _ _) (heapOf_wf _ _) ent71_run⟩, ⟨rfl, ent_ok raw hraw h9 (q1_ok raw hraw h9) (heapOf_wf _ _) (heapOf_wf _ _) ent72_run⟩, ⟨rfl, ent_ok raw hraw h9 (q1_ok raw hraw h9) (heapOf_wf _ _) (heapOf_wf _ _) ent73_run⟩, ⟨rfl, ent_ok raw hraw h9 (q1_ok raw hraw h9) (heapOf_wf _ _) (heapOf_wf _ _) ent74_run⟩, ⟨rfl, ent_ok raw hraw h9 (q1_ok raw hraw h9) (heapOf_wf _ _) (heapOf_wf _ _) ent75_run⟩, ⟨rfl, ent_ok raw hraw h9 (q1_ok raw hraw h9) (heapOf_wf _ _) (heapOf_wf _ _) ent76_run⟩, ⟨rfl, ent_ok raw hraw h9 (q1_ok raw hraw h9) (heapOf_wf _ _) (heapOf_wf _ _) ent77_run⟩, ⟨rfl, ent_ok raw hraw h9 (q1_ok raw hraw h9) (heapOf_wf _ _) (heapOf_wf _ _) ent78_run⟩, ⟨rfl, ent_ok raw hraw h9 (q1_ok raw hraw h9) (heapOf_wf _ _) (heapOf_wf _ _) ent79_run⟩, ⟨rfl, ent_ok raw hraw h9 (q1_ok raw hraw h9) (heapOf_wf _ _) (heapOf_wf _ _) ent80_run⟩⟩
theorem mem27_ok : ∀ e ∈ mem27, e.f = 27 ∧ @EntOk (symOf raw hraw h9) Tryz.prog 9 e := by
  simp only [mem27, List.forall_mem_cons, List.not_mem_nil, false_imp_iff, implies_true, and_true]
  exact ⟨rfl, ent_ok raw hraw h9 (q1_ok raw hraw h9) (heapOf_wf _ _) (heapOf_wf _ _) ent0_run⟩
theorem q2_ok : @KnownOk (symOf raw hraw h9) Tryz.prog 9 (qOf memo2) := base_ok raw hraw h9 _ fun f l h => by
  unfold memo2 at h
  cases h1 : Nat.beq f 14 with
  | true =>
    rw [h1, cond_true] at h; cases h
    cases Nat.eq_of_beq_eq_true h1
    exact mem14_ok raw hraw h9
  | false =>
  cases h2 : Nat.beq f 27 with
  | true =>
    rw [h1, h2, cond_false, cond_true] at h; cases h
    cases Nat.eq_of_beq_eq_true h2
    exact mem27_ok raw hraw h9
  | false => rw [h1, h2, cond_false, cond_false] at h; cases h
theorem hR_wf : T.wf dH hR.t := heapOf_wf [(0, roundsB)] 9
/-- sure() answers true, on sha's table alone. -/
theorem sure_ok : @EntOk (symOf raw hraw h9) Tryz.prog 9 entS := ent_ok raw hraw h9 (q2_ok raw hraw h9) hR_wf (heapOf_wf _ _) entS_run
/-- sure() answers true wherever sha's table lies. -/
theorem sure_call (r : FR) : @CallS (symOf raw hraw h9) Tryz.prog 9 ((loneK [] (.b true)).g r) 10 := by
  letI := symOf raw hraw h9
  refine loneK_call rfl rfl rfl (fun ρ args w hg ha hr => ?_) r
  obtain ⟨c1, c2⟩ := (sure_ok raw hraw h9).call ρ args w hg ha hr
  refine ⟨c1, Calls.mono c2 ?_⟩
  rintro e w' ⟨v', rfl, ρ', q1, q2, q3⟩
  exact ⟨v', rfl, ρ', _, q1, q3⟩
end Go.FX
