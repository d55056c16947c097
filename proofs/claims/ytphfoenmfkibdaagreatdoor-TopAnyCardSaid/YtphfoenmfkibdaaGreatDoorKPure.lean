/- Powers in the field reckoned in the kernel. -/
import Derived.Test.YtphfoenmfkibdaaGreatDoorKSha0
import Derived.Test.YtphfoenmfkibdaaGreatDoorKSha1
import Derived.Test.YtphfoenmfkibdaaGreatDoorKSha2
import Derived.Test.YtphfoenmfkibdaaGreatDoorKSha3
set_option linter.unusedSectionVars false
set_option linter.unusedVariables false
set_option linter.unusedSimpArgs false
set_option maxRecDepth 1000000
namespace Go.FX
open Go.Proofs Lt
def shaL : List PEnt := [sha0, sha1, sha2, sha3, sha4, sha5, sha6, sha7, sha8, sha9, sha10, sha11, sha12, sha13, sha14, sha15, sha16, sha17, sha18, sha19, sha20, sha21, sha22, sha23, sha24, sha25, sha26, sha27, sha28, sha29, sha30, sha31, sha32, sha33, sha34, sha35, sha36, sha37, sha38, sha39, sha40, sha41, sha42, sha43, sha44, sha45, sha46, sha47, sha48, sha49, sha50, sha51]
def pow0 : PEnt := powE 3 997830077244663228 1073178840519329128
theorem pow0_ok : pureB E0 pow0 = true := by decide +kernel
def pow1 : PEnt := powE 3 2261552039492016230 997458288009786922
theorem pow1_ok : pureB E0 pow1 = true := by decide +kernel
def pow2 : PEnt := powE 1073178840519329128 997830077244663228 2101529133859075558
theorem pow2_ok : pureB E0 pow2 = true := by decide +kernel
def pow3 : PEnt := powE 997458288009786922 997830077244663228 303631249309239855
theorem pow3_ok : pureB E0 pow3 = true := by decide +kernel
def pow4 : PEnt := powE 1073178840519329128 2261552039492016230 303631249309239855
theorem pow4_ok : pureB E0 pow4 = true := by decide +kernel
def pow5 : PEnt := powE 997458288009786922 2261552039492016230 1585426587587430884
theorem pow5_ok : pureB E0 pow5 = true := by decide +kernel
def pow6 : PEnt := powE 2305843009213693949 2305843009213693949 1152921504606846975
theorem pow6_ok : pureB E0 pow6 = true := by decide +kernel
def pow7 : PEnt := powE 2 2305843009213693949 1152921504606846976
theorem pow7_ok : pureB E0 pow7 = true := by decide +kernel
def powL : List PEnt := [pow0, pow1, pow2, pow3, pow4, pow5, pow6, pow7]
theorem shaL_all : ∀ e ∈ shaL, e.f = 245 ∧ pureB E0 e = true := by
  simp only [shaL, List.forall_mem_cons, List.not_mem_nil, false_imp_iff, implies_true, and_true]
  exact ⟨⟨rfl, sha0_ok⟩, ⟨rfl, sha1_ok⟩, ⟨rfl, sha2_ok⟩, ⟨rfl, sha3_ok⟩, ⟨rfl, sha4_ok⟩, ⟨rfl, sha5_ok⟩, ⟨rfl, sha6_ok⟩, ⟨rfl, sha7_ok⟩, ⟨rfl, sha8_ok⟩, ⟨rfl, sha9_ok⟩, ⟨rfl, sha10_ok⟩, ⟨rfl, sha11_ok⟩, ⟨rfl, sha12_ok⟩, ⟨rfl, sha13_ok⟩, ⟨rfl, sha14_ok⟩, ⟨rfl, sha15_ok⟩, ⟨rfl, sha16_ok⟩, ⟨rfl, sha17_ok⟩, ⟨rfl, sha18_ok⟩, ⟨rfl, sha19_ok⟩, ⟨rfl, sha20_ok⟩, ⟨rfl, sha21_ok⟩, ⟨rfl, sha22_ok⟩, ⟨rfl, sha23_ok⟩, ⟨rfl, sha24_ok⟩, ⟨rfl, sha25_ok⟩, ⟨rfl, sha26_ok⟩, ⟨rfl, sha27_ok⟩, ⟨rfl, sha28_ok⟩, ⟨rfl, sha29_ok⟩, ⟨rfl, sha30_ok⟩, ⟨rfl, sha31_ok⟩, ⟨rfl, sha32_ok⟩, ⟨rfl, sha33_ok⟩, ⟨rfl, sha34_ok⟩, ⟨rfl, sha35_ok⟩, ⟨rfl, sha36_ok⟩, ⟨rfl, sha37_ok⟩, ⟨rfl, sha38_ok⟩, ⟨rfl, sha39_ok⟩, ⟨rfl, sha40_ok⟩, ⟨rfl, sha41_ok⟩, ⟨rfl, sha42_ok⟩, ⟨rfl, sha43_ok⟩, ⟨rfl, sha44_ok⟩, ⟨rfl, sha45_ok⟩, ⟨rfl, sha46_ok⟩, ⟨rfl, sha47_ok⟩, ⟨rfl, sha48_ok⟩, ⟨rfl, sha49_ok⟩, ⟨rfl, sha50_ok⟩, ⟨rfl, sha51_ok⟩⟩
theorem powL_all : ∀ e ∈ powL, e.f = 157 ∧ pureB E0 e = true := by
  simp only [powL, List.forall_mem_cons, List.not_mem_nil, false_imp_iff, implies_true, and_true]
  exact ⟨⟨rfl, pow0_ok⟩, ⟨rfl, pow1_ok⟩, ⟨rfl, pow2_ok⟩, ⟨rfl, pow3_ok⟩, ⟨rfl, pow4_ok⟩, ⟨rfl, pow5_ok⟩, ⟨rfl, pow6_ok⟩, ⟨rfl, pow7_ok⟩⟩
end Go.FX
