/- TopAny run with symbols for its numbers: up to three numbers of chance. -/
import Derived.Test.YtphfoenmfkibdaaGreatDoorK8
set_option linter.unusedSectionVars false
set_option linter.unusedVariables false
set_option linter.unusedSimpArgs false
set_option maxRecDepth 1000000
namespace Go.FX
open Go.Proofs Lt

/-! ### TopAny: runs -/

noncomputable def q8 : Known := ⟨fun f => bif Nat.beq f 157 then some (pureK invL) else bif Nat.beq f 82 then some ofK else bif Nat.beq f 49 then some addK else bif Nat.beq f 50 then some mulK else
  bif Nat.beq f 10 then some (loneK [] (.b true)) else none⟩
/-- The first symbols. -/
def syms : Nat → Nat → List Value
  | 0, _ => []
  | n + 1, i => .chan (some (2 * i)) :: syms n (i + 1)
noncomputable def hT (n : Nat) : Heap := heapOf [(0, roundsB), (8, .cells (syms n 0) 27 1000 false)] 9
def secT : FV := .o (.agg ⟨[.chan (some 12), .chan (some 14)]⟩)
noncomputable def topB (c : Nat) (s : FV) (h : Heap) : Bool := match (compFP E0 (skipC 121 c) 5 7).go (run E0 q8 200) [secT, s, .o (.chan none)] h out1 with
  | some l => l.all fun x => fvEq (.b true) x.1
  | none => false
theorem top_nil' (c : Nat) : topB c (.o (.slice none 0 0)) hR = true := by kernel_rfl
theorem top_nil : topB 0 (.o (.slice none 0 0)) hR = true := top_nil' 0
theorem top_0 (c cap : Nat) : topB c (.s 8 0 0 cap) hR = true := by kernel_rfl
theorem top_big (c m cap : Nat) : topB c (.s 8 0 (m + 7) cap) hR = true := by kernel_rfl
theorem top_1_0 (cap : Nat) : topB 0 (.s 8 0 1 cap) (hT 1) = true := by kernel_rfl
theorem top_1_1 (cap : Nat) : topB 1 (.s 8 0 1 cap) (hT 1) = true := by kernel_rfl
theorem top_1_2 (cap : Nat) : topB 2 (.s 8 0 1 cap) (hT 1) = true := by kernel_rfl
theorem top_2_0 (cap : Nat) : topB 0 (.s 8 0 2 cap) (hT 2) = true := by kernel_rfl
theorem top_2_1 (cap : Nat) : topB 1 (.s 8 0 2 cap) (hT 2) = true := by kernel_rfl
theorem top_2_2 (cap : Nat) : topB 2 (.s 8 0 2 cap) (hT 2) = true := by kernel_rfl
theorem top_3_0 (cap : Nat) : topB 0 (.s 8 0 3 cap) (hT 3) = true := by kernel_rfl
theorem top_3_1 (cap : Nat) : topB 1 (.s 8 0 3 cap) (hT 3) = true := by kernel_rfl
theorem top_3_2 (cap : Nat) : topB 2 (.s 8 0 3 cap) (hT 3) = true := by kernel_rfl
end Go.FX
