/- The steps of that world: what is called on what heap, with what answer. -/
import Derived.Test.YtphfoenmfkibdaaGreatDoorKPure
import Derived.Test.YtphfoenmfkibdaaGreatDoorKD0
import Derived.Test.YtphfoenmfkibdaaGreatDoorKD1
set_option linter.unusedSectionVars false
set_option linter.unusedVariables false
set_option linter.unusedSimpArgs false
set_option maxRecDepth 1000000
namespace Go.FX
open Go.Proofs Lt
noncomputable def ent0 : HEnt := ⟨27, [(.o (ag [(I 1),(s 67 0 2 2),(s 71 0 1 1),(I 1),(I 9)])), (.s 60 0 2 2), (fU 5)], heapOf hp2 72, (.o (tu [(p 130 0),i0])), heapOf hp3 960⟩
noncomputable def ent1 : HEnt := ⟨63, [(.o (ag [(I 1),(s 67 0 2 2),(s 71 0 1 1),(I 1),(I 9)]))], heapOf hp0 234, (.o (tu [(p 556 0),i0])), heapOf hp1 608⟩
noncomputable def ent2 : HEnt := ⟨14, [(.p 130 0), (.o (ag [(B 6),(I 0),s0]))], heapOf hp3 960, (.o (tu [])), heapOf hp6 2873⟩
noncomputable def ent3 : HEnt := ⟨32, [(.p 130 0), (fI 0)], heapOf hp4 1058, (.o (tu [])), heapOf hp5 1965⟩
noncomputable def ent4 : HEnt := ⟨32, [(.p 130 0), (fI 0)], heapOf hp5 1965, (.o (tu [])), heapOf hp6 2873⟩
noncomputable def ent5 : HEnt := ⟨14, [(.p 130 0), (.o (ag [(B 3),(I 0),s0]))], heapOf hp6 2873, (.o (tu [])), heapOf hp7 2886⟩
noncomputable def ent6 : HEnt := ⟨14, [(.p 130 0), (.o (ag [(B 6),(I 0),s0]))], heapOf hp7 2886, (.o (tu [])), heapOf hp11 3423⟩
noncomputable def ent7 : HEnt := ⟨32, [(.p 130 0), (fI 0)], heapOf hp8 2939, (.o (tu [])), heapOf hp9 3046⟩
noncomputable def ent8 : HEnt := ⟨32, [(.p 130 0), (fI 0)], heapOf hp10 3072, (.o (tu [])), heapOf hp11 3423⟩
noncomputable def ent9 : HEnt := ⟨14, [(.p 130 0), (.o (ag [(B 3),(I 0),s0]))], heapOf hp11 3423, (.o (tu [])), heapOf hp12 3436⟩
noncomputable def ent10 : HEnt := ⟨14, [(.p 130 0), (.o (ag [(B 6),(I 0),s0]))], heapOf hp12 3436, (.o (tu [])), heapOf hp16 5297⟩
noncomputable def ent11 : HEnt := ⟨32, [(.p 130 0), (fI 0)], heapOf hp13 3463, (.o (tu [])), heapOf hp14 4367⟩
noncomputable def ent12 : HEnt := ⟨32, [(.p 130 0), (fI 0)], heapOf hp15 4393, (.o (tu [])), heapOf hp16 5297⟩
noncomputable def ent13 : HEnt := ⟨14, [(.p 130 0), (.o (ag [(B 3),(I 0),s0]))], heapOf hp16 5297, (.o (tu [])), heapOf hp17 5310⟩
noncomputable def ent14 : HEnt := ⟨14, [(.p 130 0), (.o (ag [(B 6),(I 0),s0]))], heapOf hp17 5310, (.o (tu [])), heapOf hp21 5852⟩
noncomputable def ent15 : HEnt := ⟨32, [(.p 130 0), (fI 0)], heapOf hp18 5337, (.o (tu [])), heapOf hp19 5443⟩
noncomputable def ent16 : HEnt := ⟨32, [(.p 130 0), (fI 0)], heapOf hp20 5469, (.o (tu [])), heapOf hp21 5852⟩
noncomputable def ent17 : HEnt := ⟨14, [(.p 130 0), (.o (ag [(B 3),(I 0),s0]))], heapOf hp21 5852, (.o (tu [])), heapOf hp22 5865⟩
noncomputable def ent18 : HEnt := ⟨14, [(.p 130 0), (.o (ag [(B 6),(I 0),s0]))], heapOf hp22 5865, (.o (tu [])), heapOf hp26 8354⟩
noncomputable def ent19 : HEnt := ⟨32, [(.p 130 0), (fI 0)], heapOf hp23 5892, (.o (tu [])), heapOf hp24 7110⟩
noncomputable def ent20 : HEnt := ⟨32, [(.p 130 0), (fI 0)], heapOf hp25 7136, (.o (tu [])), heapOf hp26 8354⟩
noncomputable def ent21 : HEnt := ⟨14, [(.p 130 0), (.o (ag [(B 3),(I 0),s0]))], heapOf hp26 8354, (.o (tu [])), heapOf hp27 8367⟩
noncomputable def ent22 : HEnt := ⟨14, [(.p 130 0), (.o (ag [(B 6),(I 0),s0]))], heapOf hp27 8367, (.o (tu [])), heapOf hp29 8814⟩
noncomputable def ent23 : HEnt := ⟨32, [(.p 130 0), (fI 0)], heapOf hp28 8527, (.o (tu [])), heapOf hp29 8814⟩
noncomputable def ent24 : HEnt := ⟨14, [(.p 130 0), (.o (ag [(B 3),(I 0),s0]))], heapOf hp29 8814, (.o (tu [])), heapOf hp30 8827⟩
noncomputable def ent25 : HEnt := ⟨14, [(.p 130 0), (.o (ag [(B 6),(I 0),s0]))], heapOf hp30 8827, (.o (tu [])), heapOf hp32 9250⟩
noncomputable def ent26 : HEnt := ⟨32, [(.p 130 0), (fI 0)], heapOf hp31 8880, (.o (tu [])), heapOf hp32 9250⟩
noncomputable def ent27 : HEnt := ⟨14, [(.p 130 0), (.o (ag [(B 3),(I 0),s0]))], heapOf hp32 9250, (.o (tu [])), heapOf hp33 9263⟩
noncomputable def ent28 : HEnt := ⟨14, [(.p 130 0), (.o (ag [(B 6),(I 0),s0]))], heapOf hp33 9263, (.o (tu [])), heapOf hp34 9379⟩
noncomputable def ent29 : HEnt := ⟨14, [(.p 130 0), (.o (ag [(B 3),(I 0),s0]))], heapOf hp34 9379, (.o (tu [])), heapOf hp35 9392⟩
noncomputable def ent30 : HEnt := ⟨14, [(.p 130 0), (.o (ag [(B 6),(I 0),s0]))], heapOf hp35 9392, (.o (tu [])), heapOf hp36 9453⟩
noncomputable def ent31 : HEnt := ⟨14, [(.p 130 0), (.o (ag [(B 3),(I 0),s0]))], heapOf hp36 9453, (.o (tu [])), heapOf hp37 9466⟩
noncomputable def ent32 : HEnt := ⟨14, [(.p 130 0), (.o (ag [(B 6),(I 0),s0]))], heapOf hp37 9466, (.o (tu [])), heapOf hp38 9742⟩
noncomputable def ent33 : HEnt := ⟨32, [(.p 130 0), (fI 0)], heapOf hp37 9467, (.o (tu [])), heapOf hp38 9742⟩
noncomputable def ent34 : HEnt := ⟨14, [(.p 130 0), (.o (ag [(B 3),(I 0),s0]))], heapOf hp38 9742, (.o (tu [])), heapOf hp39 9755⟩
noncomputable def ent35 : HEnt := ⟨14, [(.p 130 0), (.o (ag [(B 6),(I 0),s0]))], heapOf hp39 9755, (.o (tu [])), heapOf hp42 10198⟩
noncomputable def ent36 : HEnt := ⟨32, [(.p 130 0), (fI 0)], heapOf hp39 9756, (.o (tu [])), heapOf hp40 9964⟩
noncomputable def ent37 : HEnt := ⟨32, [(.p 130 0), (fI 0)], heapOf hp40 9964, (.o (tu [])), heapOf hp41 10172⟩
noncomputable def ent38 : HEnt := ⟨14, [(.p 130 0), (.o (ag [(B 3),(I 0),s0]))], heapOf hp42 10198, (.o (tu [])), heapOf hp43 10211⟩
noncomputable def ent39 : HEnt := ⟨14, [(.p 130 0), (.o (ag [(B 6),(I 0),s0]))], heapOf hp43 10211, (.o (tu [])), heapOf hp47 10639⟩
noncomputable def ent40 : HEnt := ⟨32, [(.p 130 0), (fI 0)], heapOf hp44 10238, (.o (tu [])), heapOf hp45 10442⟩
noncomputable def ent41 : HEnt := ⟨32, [(.p 130 0), (fI 0)], heapOf hp46 10468, (.o (tu [])), heapOf hp47 10639⟩
noncomputable def ent42 : HEnt := ⟨14, [(.p 130 0), (.o (ag [(B 3),(I 0),s0]))], heapOf hp47 10639, (.o (tu [])), heapOf hp48 10652⟩
noncomputable def ent43 : HEnt := ⟨14, [(.p 130 0), (.o (ag [(B 6),(I 0),s0]))], heapOf hp48 10652, (.o (tu [])), heapOf hp51 10816⟩
noncomputable def ent44 : HEnt := ⟨32, [(.p 130 0), (fI 0)], heapOf hp49 10679, (.o (tu [])), heapOf hp50 10790⟩
noncomputable def ent45 : HEnt := ⟨14, [(.p 130 0), (.o (ag [(B 3),(I 0),s0]))], heapOf hp51 10816, (.o (tu [])), heapOf hp52 10829⟩
noncomputable def ent46 : HEnt := ⟨14, [(.p 130 0), (.o (ag [(B 6),(I 0),s0]))], heapOf hp52 10829, (.o (tu [])), heapOf hp53 10890⟩
noncomputable def ent47 : HEnt := ⟨14, [(.p 130 0), (.o (ag [(B 3),(I 0),s0]))], heapOf hp53 10890, (.o (tu [])), heapOf hp54 10903⟩
noncomputable def ent48 : HEnt := ⟨14, [(.p 130 0), (.o (ag [(B 6),(I 0),s0]))], heapOf hp54 10903, (.o (tu [])), heapOf hp55 11455⟩
noncomputable def ent49 : HEnt := ⟨32, [(.p 130 0), (fI 0)], heapOf hp54 10904, (.o (tu [])), heapOf hp55 11455⟩
noncomputable def ent50 : HEnt := ⟨14, [(.p 130 0), (.o (ag [(B 3),(I 0),s0]))], heapOf hp55 11455, (.o (tu [])), heapOf hp56 11468⟩
noncomputable def ent51 : HEnt := ⟨14, [(.p 130 0), (.o (ag [(B 6),(I 0),s0]))], heapOf hp56 11468, (.o (tu [])), heapOf hp57 11495⟩
noncomputable def ent52 : HEnt := ⟨14, [(.p 130 0), (.o (ag [(B 3),(I 0),s0]))], heapOf hp57 11495, (.o (tu [])), heapOf hp57 11508⟩
noncomputable def ent53 : HEnt := ⟨14, [(.p 130 0), (.o (ag [(B 6),(I 0),s0]))], heapOf hp57 11508, (.o (tu [])), heapOf hp57 11509⟩
noncomputable def ent54 : HEnt := ⟨14, [(.p 130 0), (.o (ag [(B 3),(I 0),s0]))], heapOf hp57 11509, (.o (tu [])), heapOf hp57 11522⟩
noncomputable def ent55 : HEnt := ⟨14, [(.p 130 0), (.o (ag [(B 6),(I 0),s0]))], heapOf hp57 11522, (.o (tu [])), heapOf hp57 11523⟩
noncomputable def ent56 : HEnt := ⟨14, [(.p 130 0), (.o (ag [(B 3),(I 0),s0]))], heapOf hp57 11523, (.o (tu [])), heapOf hp57 11536⟩
noncomputable def ent57 : HEnt := ⟨14, [(.p 130 0), (.o (ag [(B 6),(I 0),s0]))], heapOf hp57 11536, (.o (tu [])), heapOf hp57 11537⟩
noncomputable def ent58 : HEnt := ⟨14, [(.p 130 0), (.o (ag [(B 3),(I 0),s0]))], heapOf hp57 11537, (.o (tu [])), heapOf hp57 11550⟩
noncomputable def ent59 : HEnt := ⟨14, [(.p 130 0), (.o (ag [(B 6),(I 0),s0]))], heapOf hp57 11550, (.o (tu [])), heapOf hp57 11551⟩
noncomputable def ent60 : HEnt := ⟨14, [(.p 130 0), (.o (ag [(B 3),(I 0),s0]))], heapOf hp57 11551, (.o (tu [])), heapOf hp57 11564⟩
noncomputable def ent61 : HEnt := ⟨14, [(.p 130 0), (.o (ag [(B 6),(I 0),s0]))], heapOf hp57 11564, (.o (tu [])), heapOf hp57 11565⟩
noncomputable def ent62 : HEnt := ⟨14, [(.p 130 0), (.o (ag [(B 3),(I 0),s0]))], heapOf hp57 11565, (.o (tu [])), heapOf hp57 11578⟩
noncomputable def ent63 : HEnt := ⟨14, [(.p 130 0), (.o (ag [(B 6),(I 0),s0]))], heapOf hp57 11578, (.o (tu [])), heapOf hp57 11579⟩
noncomputable def ent64 : HEnt := ⟨14, [(.p 130 0), (.o (ag [(B 3),(I 0),s0]))], heapOf hp57 11579, (.o (tu [])), heapOf hp57 11592⟩
noncomputable def ent65 : HEnt := ⟨14, [(.p 130 0), (.o (ag [(B 6),(I 0),s0]))], heapOf hp57 11592, (.o (tu [])), heapOf hp57 11593⟩
noncomputable def ent66 : HEnt := ⟨14, [(.p 130 0), (.o (ag [(B 3),(I 0),s0]))], heapOf hp57 11593, (.o (tu [])), heapOf hp57 11606⟩
noncomputable def ent67 : HEnt := ⟨14, [(.p 130 0), (.o (ag [(B 6),(I 0),s0]))], heapOf hp57 11606, (.o (tu [])), heapOf hp57 11607⟩
noncomputable def ent68 : HEnt := ⟨14, [(.p 130 0), (.o (ag [(B 3),(I 0),s0]))], heapOf hp57 11607, (.o (tu [])), heapOf hp57 11620⟩
noncomputable def ent69 : HEnt := ⟨14, [(.p 130 0), (.o (ag [(B 6),(I 0),s0]))], heapOf hp57 11620, (.o (tu [])), heapOf hp57 11621⟩
noncomputable def ent70 : HEnt := ⟨14, [(.p 130 0), (.o (ag [(B 3),(I 0),s0]))], heapOf hp57 11621, (.o (tu [])), heapOf hp57 11634⟩
noncomputable def ent71 : HEnt := ⟨14, [(.p 130 0), (.o (ag [(B 6),(I 0),s0]))], heapOf hp57 11634, (.o (tu [])), heapOf hp57 11635⟩
noncomputable def ent72 : HEnt := ⟨14, [(.p 130 0), (.o (ag [(B 3),(I 0),s0]))], heapOf hp57 11635, (.o (tu [])), heapOf hp57 11648⟩
noncomputable def ent73 : HEnt := ⟨14, [(.p 130 0), (.o (ag [(B 6),(I 0),s0]))], heapOf hp57 11648, (.o (tu [])), heapOf hp57 11649⟩
noncomputable def ent74 : HEnt := ⟨14, [(.p 130 0), (.o (ag [(B 3),(I 0),s0]))], heapOf hp57 11649, (.o (tu [])), heapOf hp57 11662⟩
noncomputable def ent75 : HEnt := ⟨14, [(.p 130 0), (.o (ag [(B 6),(I 0),s0]))], heapOf hp57 11662, (.o (tu [])), heapOf hp57 11663⟩
noncomputable def ent76 : HEnt := ⟨14, [(.p 130 0), (.o (ag [(B 3),(I 0),s0]))], heapOf hp57 11663, (.o (tu [])), heapOf hp57 11676⟩
noncomputable def ent77 : HEnt := ⟨14, [(.p 130 0), (.o (ag [(B 6),(I 0),s0]))], heapOf hp57 11676, (.o (tu [])), heapOf hp57 11677⟩
noncomputable def ent78 : HEnt := ⟨14, [(.p 130 0), (.o (ag [(B 3),(I 0),s0]))], heapOf hp57 11677, (.o (tu [])), heapOf hp57 11690⟩
noncomputable def ent79 : HEnt := ⟨14, [(.p 130 0), (.o (ag [(B 6),(I 0),s0]))], heapOf hp57 11690, (.o (tu [])), heapOf hp58 11691⟩
noncomputable def ent80 : HEnt := ⟨14, [(.p 130 0), (.o (ag [(B 3),(I 0),s0]))], heapOf hp58 11691, (.o (tu [])), heapOf hp59 11704⟩
noncomputable def mem27 : List HEnt := [ent0]
noncomputable def mem63 : List HEnt := [ent1]
noncomputable def mem14 : List HEnt := [ent2, ent5, ent6, ent9, ent10, ent13, ent14, ent17, ent18, ent21, ent22, ent24, ent25, ent27, ent28, ent29, ent30, ent31, ent32, ent34, ent35, ent38, ent39, ent42, ent43, ent45, ent46, ent47, ent48, ent50, ent51, ent52, ent53, ent54, ent55, ent56, ent57, ent58, ent59, ent60, ent61, ent62, ent63, ent64, ent65, ent66, ent67, ent68, ent69, ent70, ent71, ent72, ent73, ent74, ent75, ent76, ent77, ent78, ent79, ent80]
noncomputable def mem32 : List HEnt := [ent3, ent4, ent7, ent8, ent11, ent12, ent15, ent16, ent19, ent20, ent23, ent26, ent33, ent36, ent37, ent40, ent41, ent44, ent49]
/-- What is known of calls: with what was reckoned ahead. -/
noncomputable def qOf (memo : FuncId → Option (List HEnt)) : Known := ⟨fun f =>
  bif Nat.beq f 245 then some (pureK shaL) else bif Nat.beq f 157 then some (pureK powL) else bif Nat.beq f 82 then some ofK else bif Nat.beq f 49 then some addK else bif Nat.beq f 50 then some mulK else bif Nat.beq f 147 then some (insK 9) else
  match memo f with | some l => some (memoK E0 f l) | none => none⟩
def memo0 : FuncId → Option (List HEnt) := fun _ => none
noncomputable def memo1 : FuncId → Option (List HEnt) := fun f => bif Nat.beq f 32 then some mem32 else bif Nat.beq f 63 then some mem63 else none
noncomputable def memo2 : FuncId → Option (List HEnt) := fun f => bif Nat.beq f 14 then some mem14 else bif Nat.beq f 27 then some mem27 else none
end Go.FX
