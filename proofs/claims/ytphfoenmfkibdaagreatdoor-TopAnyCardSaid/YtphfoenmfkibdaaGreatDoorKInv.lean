/- Inverses in the field reckoned in the kernel. -/
import Derived.Test.YtphfoenmfkibdaaGreatDoorTC
set_option linter.unusedSectionVars false
set_option linter.unusedVariables false
set_option linter.unusedSimpArgs false
set_option maxRecDepth 1000000
namespace Go.FX
open Go.Proofs Lt
def inv0 : PEnt := powE 1 2305843009213693949 1
theorem inv0_ok : pureB E0 inv0 = true := by decide +kernel
def inv1 : PEnt := powE 10 2305843009213693949 2075258708292324556
theorem inv1_ok : pureB E0 inv1 = true := by decide +kernel
def inv2 : PEnt := powE 12 2305843009213693949 960767920505705813
theorem inv2_ok : pureB E0 inv2 = true := by decide +kernel
def inv3 : PEnt := powE 120 2305843009213693949 1710166898500156347
theorem inv3_ok : pureB E0 inv3 = true := by decide +kernel
def inv4 : PEnt := powE 144 2305843009213693949 272217577476616647
theorem inv4_ok : pureB E0 inv4 = true := by decide +kernel
def inv5 : PEnt := powE 16 2305843009213693949 144115188075855872
theorem inv5_ok : pureB E0 inv5 = true := by decide +kernel
def inv6 : PEnt := powE 168 2305843009213693949 562735496296199119
theorem inv6_ok : pureB E0 inv6 = true := by decide +kernel
def inv7 : PEnt := powE 2 2305843009213693949 1152921504606846976
theorem inv7_ok : pureB E0 inv7 = true := by decide +kernel
def inv8 : PEnt := powE 20 2305843009213693949 1037629354146162278
theorem inv8_ok : pureB E0 inv8 = true := by decide +kernel
def inv9 : PEnt := powE 20160 2305843009213693949 1368979909587237247
theorem inv9_ok : pureB E0 inv9 = true := by decide +kernel
def inv10 : PEnt := powE 2305843009213691431 2305843009213693949 577375769370571779
theorem inv10_ok : pureB E0 inv10 = true := by decide +kernel
def inv11 : PEnt := powE 2305843009213693231 2305843009213693949 867893688190154251
theorem inv11_ok : pureB E0 inv11 = true := by decide +kernel
def inv12 : PEnt := powE 2305843009213693591 2305843009213693949 1735787376380308502
theorem inv12_ok : pureB E0 inv12 = true := by decide +kernel
def inv13 : PEnt := powE 2305843009213693711 2305843009213693949 297838055356768802
theorem inv13_ok : pureB E0 inv13 = true := by decide +kernel
def inv14 : PEnt := powE 2305843009213693783 2305843009213693949 1743107512917494832
theorem inv14_ok : pureB E0 inv14 = true := by decide +kernel
def inv15 : PEnt := powE 2305843009213693807 2305843009213693949 2033625431737077304
theorem inv15_ok : pureB E0 inv15 = true := by decide +kernel
def inv16 : PEnt := powE 2305843009213693831 2305843009213693949 595676110713537604
theorem inv16_ok : pureB E0 inv16 = true := by decide +kernel
def inv17 : PEnt := powE 2305843009213693891 2305843009213693949 1191352221427075208
theorem inv17_ok : pureB E0 inv17 = true := by decide +kernel
def inv18 : PEnt := powE 2305843009213693903 2305843009213693949 1489190276783844010
theorem inv18_ok : pureB E0 inv18 = true := by decide +kernel
def inv19 : PEnt := powE 2305843009213693915 2305843009213693949 1216972699307227363
theorem inv19_ok : pureB E0 inv19 = true := by decide +kernel
def inv20 : PEnt := powE 2305843009213693921 2305843009213693949 76861433640456465
theorem inv20_ok : pureB E0 inv20 = true := by decide +kernel
def inv21 : PEnt := powE 2305843009213693927 2305843009213693949 672537544353994069
theorem inv21_ok : pureB E0 inv21 = true := by decide +kernel
def inv22 : PEnt := powE 2305843009213693933 2305843009213693949 128102389400760775
theorem inv22_ok : pureB E0 inv22 = true := by decide +kernel
def inv23 : PEnt := powE 2305843009213693939 2305843009213693949 1345075088707988138
theorem inv23_ok : pureB E0 inv23 = true := by decide +kernel
def inv24 : PEnt := powE 2305843009213693941 2305843009213693949 230584300921369395
theorem inv24_ok : pureB E0 inv24 = true := by decide +kernel
def inv25 : PEnt := powE 2305843009213693943 2305843009213693949 2017612633061982207
theorem inv25_ok : pureB E0 inv25 = true := by decide +kernel
def inv26 : PEnt := powE 2305843009213693945 2305843009213693949 384307168202282325
theorem inv26_ok : pureB E0 inv26 = true := by decide +kernel
def inv27 : PEnt := powE 2305843009213693947 2305843009213693949 1729382256910270463
theorem inv27_ok : pureB E0 inv27 = true := by decide +kernel
def inv28 : PEnt := powE 2305843009213693948 2305843009213693949 768614336404564650
theorem inv28_ok : pureB E0 inv28 = true := by decide +kernel
def inv29 : PEnt := powE 2305843009213693949 2305843009213693949 1152921504606846975
theorem inv29_ok : pureB E0 inv29 = true := by decide +kernel
def inv30 : PEnt := powE 2305843009213693950 2305843009213693949 2305843009213693950
theorem inv30_ok : pureB E0 inv30 = true := by decide +kernel
def inv31 : PEnt := powE 24 2305843009213693949 1633305464859699882
theorem inv31_ok : pureB E0 inv31 = true := by decide +kernel
def inv32 : PEnt := powE 3 2305843009213693949 1537228672809129301
theorem inv32_ok : pureB E0 inv32 = true := by decide +kernel
def inv33 : PEnt := powE 30 2305843009213693949 2228981575573237486
theorem inv33_ok : pureB E0 inv33 = true := by decide +kernel
def inv34 : PEnt := powE 36 2305843009213693949 1088870309906466588
theorem inv34_ok : pureB E0 inv34 = true := by decide +kernel
def inv35 : PEnt := powE 360 2305843009213693949 570055632833385449
theorem inv35_ok : pureB E0 inv35 = true := by decide +kernel
def inv36 : PEnt := powE 4 2305843009213693949 576460752303423488
theorem inv36_ok : pureB E0 inv36 = true := by decide +kernel
def inv37 : PEnt := powE 48 2305843009213693949 816652732429849941
theorem inv37_ok : pureB E0 inv37 = true := by decide +kernel
def inv38 : PEnt := powE 5040 2305843009213693949 864233619921561086
theorem inv38_ok : pureB E0 inv38 = true := by decide +kernel
def inv39 : PEnt := powE 6 2305843009213693949 1921535841011411626
theorem inv39_ok : pureB E0 inv39 = true := by decide +kernel
def inv40 : PEnt := powE 60 2305843009213693949 1114490787786618743
theorem inv40_ok : pureB E0 inv40 = true := by decide +kernel
def inv41 : PEnt := powE 72 2305843009213693949 544435154953233294
theorem inv41_ok : pureB E0 inv41 = true := by decide +kernel
def inv42 : PEnt := powE 720 2305843009213693949 1437949321023539700
theorem inv42_ok : pureB E0 inv42 = true := by decide +kernel
def inv43 : PEnt := powE 8 2305843009213693949 288230376151711744
theorem inv43_ok : pureB E0 inv43 = true := by decide +kernel
def inv44 : PEnt := powE 840 2305843009213693949 573715701101978614
theorem inv44_ok : pureB E0 inv44 = true := by decide +kernel
def inv45 : PEnt := powE 96 2305843009213693949 1561247870821771946
theorem inv45_ok : pureB E0 inv45 = true := by decide +kernel
def inv46 : PEnt := powE 960 2305843009213693949 1078461990767654775
theorem inv46_ok : pureB E0 inv46 = true := by decide +kernel
def invL : List PEnt := [inv0, inv1, inv2, inv3, inv4, inv5, inv6, inv7, inv8, inv9, inv10, inv11, inv12, inv13, inv14, inv15, inv16, inv17, inv18, inv19, inv20, inv21, inv22, inv23, inv24, inv25, inv26, inv27, inv28, inv29, inv30, inv31, inv32, inv33, inv34, inv35, inv36, inv37, inv38, inv39, inv40, inv41, inv42, inv43, inv44, inv45, inv46]
theorem invL_all : ∀ e ∈ invL, e.f = 157 ∧ pureB E0 e = true := by
  simp only [invL, List.forall_mem_cons, List.not_mem_nil, false_imp_iff, implies_true, and_true]
  exact ⟨⟨rfl, inv0_ok⟩, ⟨rfl, inv1_ok⟩, ⟨rfl, inv2_ok⟩, ⟨rfl, inv3_ok⟩, ⟨rfl, inv4_ok⟩, ⟨rfl, inv5_ok⟩, ⟨rfl, inv6_ok⟩, ⟨rfl, inv7_ok⟩, ⟨rfl, inv8_ok⟩, ⟨rfl, inv9_ok⟩, ⟨rfl, inv10_ok⟩, ⟨rfl, inv11_ok⟩, ⟨rfl, inv12_ok⟩, ⟨rfl, inv13_ok⟩, ⟨rfl, inv14_ok⟩, ⟨rfl, inv15_ok⟩, ⟨rfl, inv16_ok⟩, ⟨rfl, inv17_ok⟩, ⟨rfl, inv18_ok⟩, ⟨rfl, inv19_ok⟩, ⟨rfl, inv20_ok⟩, ⟨rfl, inv21_ok⟩, ⟨rfl, inv22_ok⟩, ⟨rfl, inv23_ok⟩, ⟨rfl, inv24_ok⟩, ⟨rfl, inv25_ok⟩, ⟨rfl, inv26_ok⟩, ⟨rfl, inv27_ok⟩, ⟨rfl, inv28_ok⟩, ⟨rfl, inv29_ok⟩, ⟨rfl, inv30_ok⟩, ⟨rfl, inv31_ok⟩, ⟨rfl, inv32_ok⟩, ⟨rfl, inv33_ok⟩, ⟨rfl, inv34_ok⟩, ⟨rfl, inv35_ok⟩, ⟨rfl, inv36_ok⟩, ⟨rfl, inv37_ok⟩, ⟨rfl, inv38_ok⟩, ⟨rfl, inv39_ok⟩, ⟨rfl, inv40_ok⟩, ⟨rfl, inv41_ok⟩, ⟨rfl, inv42_ok⟩, ⟨rfl, inv43_ok⟩, ⟨rfl, inv44_ok⟩, ⟨rfl, inv45_ok⟩, ⟨rfl, inv46_ok⟩⟩
end Go.FX
