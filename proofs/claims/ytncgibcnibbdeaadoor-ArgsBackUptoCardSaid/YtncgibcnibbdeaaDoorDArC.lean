/- The small machine's codes of some functions. Printed by dec.py. -/
import Derived.Test.YtncgibcnibbdeaaDoorLib1
import Derived.Test.YtncgibcnibbdeaaDoorProg
namespace Go.Proofs.YtncgibcnibbdeaaDoor.Pm
set_option maxRecDepth 1000000
set_option maxHeartbeats 20000000
set_option linter.unusedVariables false
def p17_14 : List PO := [⟨(.some 2), (.nilS 3 1), .none⟩, ⟨(.some 3), (.mov (.const (.int .i64 0))), .none⟩]
def p17_15 : List PO := [⟨(.some 10), (.mov (.tmp 0)), .none⟩, ⟨(.some 11), (.call 33 [(.tmp 10), (.const (.string ⟨#[48, 49, 50, 51, 52, 53, 54, 55, 56, 57, 59]⟩))]), .none⟩, ⟨(.some 12), (.strO .neq (.tmp 11) (.const (.string ⟨#[]⟩))), .none⟩]
def p17_16 : List PO := [⟨(.some 2), (.nilS 3 1), .none⟩, ⟨(.some 3), (.mov (.const (.int .i64 4))), .none⟩]
def p17_17 : List PO := [⟨(.some 13), (.mov (.tmp 0)), .none⟩, ⟨(.some 14), (.len .true (.tmp 13)), .none⟩, ⟨(.some 15), (.mov (.const (.int .i64 0))), .none⟩]
def p17_18 : List PO := [⟨(.some 16), (.cmpI .lss (.tmp 15) (.tmp 14)), .none⟩]
def p17_19 : List PO := [⟨(.some 17), (.mov (.tmp 15)), .none⟩, ⟨(.some 4), (.mov (.tmp 17)), .none⟩]
def p17_20 : List PO := [⟨(.some 18), (.mov (.tmp 0)), .none⟩, ⟨(.some 19), (.mov (.tmp 4)), .none⟩, ⟨(.some 20), (.ixStr (.tmp 18) (.tmp 19)), .none⟩, ⟨(.some 21), (.cmpI .neq (.tmp 20) (.const (.int .u8 59))), .none⟩, ⟨(.some 22), (.mov (.tmp 21)), .none⟩, ⟨(.some 23), (.mov (.tmp 0)), (.some (22, .true))⟩, ⟨(.some 24), (.mov (.tmp 4)), (.some (22, .true))⟩, ⟨(.some 25), (.ixStr (.tmp 23) (.tmp 24)), (.some (22, .true))⟩, ⟨(.some 26), (.cmpI .lss (.tmp 25) (.const (.int .u8 48))), (.some (22, .true))⟩, ⟨(.some 27), (.mov (.tmp 26)), (.some (22, .true))⟩, ⟨(.some 28), (.mov (.tmp 0)), (.some (27, .false))⟩, ⟨(.some 29), (.mov (.tmp 4)), (.some (27, .false))⟩, ⟨(.some 30), (.ixStr (.tmp 28) (.tmp 29)), (.some (27, .false))⟩, ⟨(.some 31), (.cmpI .gtr (.tmp 30) (.const (.int .u8 57))), (.some (27, .false))⟩, ⟨(.some 32), (.pick (.tmp 27) (.const (.bool .true)) (.tmp 31)), (.some (22, .true))⟩, ⟨(.some 33), (.pick (.tmp 22) (.tmp 32) (.const (.bool .false))), .none⟩]
def p17_21 : List PO := [⟨(.some 2), (.nilS 3 1), .none⟩, ⟨(.some 3), (.mov (.const (.int .i64 4))), .none⟩]
def p17_22 : List PO := [⟨(.some 34), (.arI .add (.tmp 15) (.const (.int .i64 1))), .none⟩, ⟨(.some 15), (.mov (.tmp 34)), .none⟩]
def c17_10 : PCode := (.keep [0, 14, 15] [] [] (.seq (.block 1 (.seq (.reg p17_19) (.seq (.reg p17_20) (.cond (.tmp 33) (.seq (.reg p17_21) .ret) .skip)))) (.reg p17_22)))
def c17_11 : PCode := (.keep [0, 14, 15, 16] [] [] (.seq (.cond (.tmp 16) .skip (.keep [0] [] [] (.exit 0))) c17_10))
def c17_12 : PCode := (.keep [0, 14, 15] [] [] (.seq (.reg p17_18) c17_11))
def p17_23 : List PO := [⟨(.some 5), (.nilS 3 1), .none⟩]
def p17_24 : List PO := [⟨(.some 35), (.mov (.tmp 0)), .none⟩, ⟨(.some 36), (.call 13 [(.tmp 35), (.const (.string ⟨#[59]⟩))]), .none⟩, ⟨(.some 37), (.len .false (.tmp 36)), .none⟩, ⟨(.some 38), (.mov (.const (.int .i64 0))), .none⟩]
def p17_25 : List PO := [⟨(.some 39), (.cmpI .lss (.tmp 38) (.tmp 37)), .none⟩]
def p17_26 : List PO := [⟨(.some 40), (.ixS 9 1 (.tmp 36) (.tmp 38)), .none⟩, ⟨(.some 41), (.load .false 1 (.tmp 40)), .none⟩, ⟨(.some 7), (.mov (.tmp 41)), .none⟩]
def p17_27 : List PO := [⟨(.some 42), (.mov (.tmp 5)), .none⟩, ⟨(.some 43), (.len .false (.tmp 42)), .none⟩, ⟨(.some 44), (.cmpI .eql (.tmp 43) (.const (.int .i64 32))), .none⟩]
def p17_28 : List PO := [⟨(.some 8), (.mov (.const (.int .i64 (-1)))), .none⟩]
def p17_29 : List PO := [⟨(.some 45), (.mov (.tmp 7)), .none⟩, ⟨(.some 46), (.len .true (.tmp 45)), .none⟩, ⟨(.some 47), (.mov (.const (.int .i64 0))), .none⟩]
def p17_30 : List PO := [⟨(.some 48), (.cmpI .lss (.tmp 47) (.tmp 46)), .none⟩]
def p17_31 : List PO := [⟨(.some 49), (.mov (.tmp 47)), .none⟩, ⟨(.some 9), (.mov (.tmp 49)), .none⟩]
def p17_32 : List PO := [⟨(.some 50), (.mov (.tmp 8)), .none⟩, ⟨(.some 51), (.mx [(.tmp 50), (.const (.int .i64 0))]), .none⟩, ⟨(.some 52), (.arI .mul (.tmp 51) (.const (.int .i64 10))), .none⟩, ⟨(.some 53), (.mov (.tmp 7)), .none⟩, ⟨(.some 54), (.mov (.tmp 9)), .none⟩, ⟨(.some 55), (.ixStr (.tmp 53) (.tmp 54)), .none⟩, ⟨(.some 56), (.arI .sub (.tmp 55) (.const (.int .u8 48))), .none⟩, ⟨(.some 57), (.cvI .i64 (.tmp 56)), .none⟩, ⟨(.some 58), (.arI .add (.tmp 52) (.tmp 57)), .none⟩, ⟨(.some 59), (.mn [(.tmp 58), (.const (.int .i64 16383))]), .none⟩, ⟨(.some 8), (.mov (.tmp 59)), .none⟩]
def p17_33 : List PO := [⟨(.some 60), (.arI .add (.tmp 47) (.const (.int .i64 1))), .none⟩, ⟨(.some 47), (.mov (.tmp 60)), .none⟩]
def c17_1 : PCode := (.keep [5, 7, 8, 36, 37, 38, 46, 47] [(48, .id 48)] [] (.seq (.block 5 (.seq (.reg p17_31) (.reg p17_32))) (.reg p17_33)))
def c17_2 : PCode := (.keep [5, 7, 8, 36, 37, 38, 46, 47, 48] [(48, .id 48)] [] (.seq (.cond (.tmp 48) .skip (.keep [5, 8, 36, 37, 38] [(48, .id 48)] [] (.exit 4))) c17_1))
def c17_3 : PCode := (.keep [5, 7, 8, 36, 37, 38, 46, 47] [(48, .id 48)] [] (.seq (.reg p17_30) c17_2))
def p17_34 : List PO := [⟨(.some 61), (.mov (.tmp 5)), .none⟩, ⟨(.some 62), (.mov (.tmp 8)), .none⟩, ⟨(.some 63), (.bsl 3 1 1 [(1, (.int .i64 0))] [(0, (1, (.tmp 62)))]), .none⟩, ⟨(.some 64), (.app 3 1 8 (.tmp 61) (.tmp 63)), .none⟩, ⟨(.some 5), (.mov (.tmp 64)), .none⟩]
def c17_4 : PCode := (.keep [5, 7, 36, 37, 38] [(48, .id 48)] [] (.seq (.reg p17_28) (.seq (.seq (.reg p17_29) (.block 4 (.loop c17_3))) (.reg p17_34))))
def p17_35 : List PO := [⟨(.some 65), (.arI .add (.tmp 38) (.const (.int .i64 1))), .none⟩, ⟨(.some 38), (.mov (.tmp 65)), .none⟩]
def c17_5 : PCode := (.reg p17_35)
def c17_6 : PCode := (.keep [5, 36, 37, 38] [(48, .id 48)] [] (.seq (.block 3 (.seq (.reg p17_26) (.seq (.seq (.reg p17_27) (.cond (.tmp 44) (.keep [5] [(48, .id 48)] [] (.exit 2)) .skip)) c17_4))) c17_5))
def c17_7 : PCode := (.keep [5, 36, 37, 38, 39] [(48, .id 48)] [] (.seq (.cond (.tmp 39) .skip (.keep [5] [(48, .id 48)] [] (.exit 2))) c17_6))
def c17_8 : PCode := (.keep [5, 36, 37, 38] [(48, .id 48)] [] (.seq (.reg p17_25) c17_7))
def p17_36 : List PO := [⟨(.some 66), (.mov (.tmp 5)), .none⟩, ⟨(.some 2), (.mov (.tmp 66)), .none⟩, ⟨(.some 3), (.mov (.const (.int .i64 0))), .none⟩]
def c17_9 : PCode := (.keep [0] [] [] (.seq (.reg p17_23) (.seq (.seq (.reg p17_24) (.block 2 (.loop c17_8))) (.seq (.reg p17_36) .ret))))
def c17_13 : PCode := (.keep [0] [] [] (.seq (.seq (.reg p17_17) (.block 0 (.loop c17_12))) c17_9))
def c17_b : PCode := (.seq (.reg p17_14) (.seq (.seq (.reg p17_15) (.cond (.tmp 12) (.seq (.reg p17_16) .ret) .skip)) c17_13))
def c17 : FCode := ⟨67, c17_b, [(.tmp 2), (.tmp 3)], some ([2, 3], [(569, (.slot 2 none))], []), false⟩
theorem c17_ok : compF Go.Proofs.Tryd.prog [] 17 = some (eraseF c17) := by kernel_rfl
def p20_5 : List PO := [⟨(.some 4), (.mov (.const (.bool .false))), .none⟩]
def p20_6 : List PO := [⟨(.some 6), (.mov (.tmp 0)), .none⟩, ⟨(.some 7), (.len .false (.tmp 6)), .none⟩, ⟨(.some 8), (.mov (.tmp 1)), .none⟩, ⟨(.some 9), (.len .false (.tmp 8)), .none⟩, ⟨(.some 10), (.cmpI .neq (.tmp 7) (.tmp 9)), .none⟩]
def p20_7 : List PO := [⟨(.some 4), (.mov (.const (.bool .false))), .none⟩]
def p20_8 : List PO := [⟨(.some 11), (.mov (.tmp 0)), .none⟩, ⟨(.some 12), (.len .false (.tmp 11)), .none⟩, ⟨(.some 13), (.mov (.const (.int .i64 0))), .none⟩]
def p20_9 : List PO := [⟨(.some 14), (.cmpI .lss (.tmp 13) (.tmp 12)), .none⟩]
def p20_10 : List PO := [⟨(.some 15), (.mov (.tmp 13)), .none⟩, ⟨(.some 5), (.mov (.tmp 15)), .none⟩]
def p20_11 : List PO := [⟨(.some 16), (.mov (.tmp 0)), .none⟩, ⟨(.some 17), (.mov (.tmp 5)), .none⟩, ⟨(.some 18), (.ixS 3 1 (.tmp 16) (.tmp 17)), .none⟩, ⟨(.some 19), (.load .false 1 (.tmp 18)), .none⟩, ⟨(.some 20), (.mov (.tmp 1)), .none⟩, ⟨(.some 21), (.mov (.tmp 5)), .none⟩, ⟨(.some 22), (.ixS 3 1 (.tmp 20) (.tmp 21)), .none⟩, ⟨(.some 23), (.load .false 1 (.tmp 22)), .none⟩, ⟨(.some 24), (.cmpI .neq (.tmp 19) (.tmp 23)), .none⟩]
def p20_12 : List PO := [⟨(.some 4), (.mov (.const (.bool .false))), .none⟩]
def p20_13 : List PO := [⟨(.some 25), (.arI .add (.tmp 13) (.const (.int .i64 1))), .none⟩, ⟨(.some 13), (.mov (.tmp 25)), .none⟩]
def c20_1 : PCode := (.keep [0, 1, 12, 13] [] [] (.seq (.block 1 (.seq (.reg p20_10) (.seq (.regD p20_11 []) (.cond (.tmp 24) (.seq (.reg p20_12) .ret) .skip)))) (.reg p20_13)))
def c20_2 : PCode := (.keep [0, 1, 12, 13, 14] [] [] (.seq (.cond (.tmp 14) .skip (.keep [] [] [] (.exit 0))) c20_1))
def c20_3 : PCode := (.keep [0, 1, 12, 13] [] [] (.seq (.reg p20_9) c20_2))
def p20_14 : List PO := [⟨(.some 4), (.mov (.const (.bool .true))), .none⟩]
def c20_4 : PCode := (.keep [0, 1] [] [] (.seq (.seq (.reg p20_8) (.block 0 (.loop c20_3))) (.seq (.reg p20_14) .ret)))
def c20_b : PCode := (.seq (.reg p20_5) (.seq (.seq (.reg p20_6) (.cond (.tmp 10) (.seq (.reg p20_7) .ret) .skip)) c20_4))
def c20 : FCode := ⟨26, c20_b, [(.tmp 4)], some ([4], [], []), false⟩
theorem c20_ok : compF Go.Proofs.Tryd.prog [] 20 = some (eraseF c20) := by kernel_rfl
def p34_1 : List PO := [⟨(.some 6), (.mov (.const (.int .i64 0))), .none⟩]
def p34_2 : List PO := [⟨(.some 7), (.mov (.tmp 1)), .none⟩, ⟨(.some 8), (.cmpI .lss (.tmp 7) (.const (.int .i64 0))), .none⟩, ⟨(.some 9), (.mov (.tmp 8)), .none⟩, ⟨(.some 10), (.mov (.tmp 1)), (.some (9, .false))⟩, ⟨(.some 11), (.mov (.tmp 0)), (.some (9, .false))⟩, ⟨(.some 12), (.len .false (.tmp 11)), (.some (9, .false))⟩, ⟨(.some 13), (.cmpI .geq (.tmp 10) (.tmp 12)), (.some (9, .false))⟩, ⟨(.some 14), (.pick (.tmp 9) (.const (.bool .true)) (.tmp 13)), .none⟩, ⟨(.some 15), (.mov (.tmp 14)), .none⟩, ⟨(.some 16), (.mov (.tmp 0)), (.some (15, .false))⟩, ⟨(.some 17), (.mov (.tmp 1)), (.some (15, .false))⟩, ⟨(.some 18), (.ixS 3 1 (.tmp 16) (.tmp 17)), (.some (15, .false))⟩, ⟨(.some 19), (.load .false 1 (.tmp 18)), (.some (15, .false))⟩, ⟨(.some 20), (.cmpI .eql (.tmp 19) (.const (.int .i64 (-1)))), (.some (15, .false))⟩, ⟨(.some 21), (.pick (.tmp 15) (.const (.bool .true)) (.tmp 20)), .none⟩]
def p34_3 : List PO := [⟨(.some 22), (.mov (.tmp 2)), .none⟩, ⟨(.some 6), (.mov (.tmp 22)), .none⟩]
def p34_4 : List PO := [⟨(.some 23), (.mov (.tmp 0)), .none⟩, ⟨(.some 24), (.mov (.tmp 1)), .none⟩, ⟨(.some 25), (.ixS 3 1 (.tmp 23) (.tmp 24)), .none⟩, ⟨(.some 26), (.load .false 1 (.tmp 25)), .none⟩, ⟨(.some 6), (.mov (.tmp 26)), .none⟩]
def c34_b : PCode := (.seq (.reg p34_1) (.seq (.seq (.reg p34_2) (.cond (.tmp 21) (.seq (.reg p34_3) .ret) .skip)) (.seq (.reg p34_4) .ret)))
def c34 : FCode := ⟨27, c34_b, [(.tmp 6)], some ([6], [], []), false⟩
theorem c34_ok : compF Go.Proofs.Tryd.prog [] 34 = some (eraseF c34) := by kernel_rfl
def p18_1 : List PO := [⟨(.some 0), (.mov (.const (.bool .false))), .none⟩]
def p18_2 : List PO := [⟨(.some 4), (.call 17 [(.const (.string ⟨#[55, 59, 59, 57, 57, 57, 57, 57]⟩))]), .none⟩, ⟨(.some 3), (.mov (.tmp 4)), .none⟩, ⟨(.some 5), (.ext (.tmp 3) 0), .none⟩, ⟨(.some 6), (.ext (.tmp 3) 1), .none⟩, ⟨(.some 1), (.mov (.tmp 5)), .none⟩, ⟨(.some 2), (.mov (.tmp 6)), .none⟩]
def p18_3 : List PO := [⟨(.some 7), (.mov (.tmp 2)), .none⟩, ⟨(.some 8), (.cmpI .eql (.tmp 7) (.const (.int .i64 0))), .none⟩, ⟨(.some 9), (.mov (.tmp 8)), .none⟩, ⟨(.some 10), (.mov (.tmp 1)), (.some (9, .true))⟩, ⟨(.some 11), (.bsl 3 1 3 [(3, (.int .i64 0))] [(0, (1, (.const (.int .i64 7)))), (1, (1, (.const (.int .i64 (-1))))), (2, (1, (.const (.int .i64 16383))))]), (.some (9, .true))⟩, ⟨(.some 12), (.call 20 [(.tmp 10), (.tmp 11)]), (.some (9, .true))⟩, ⟨(.some 13), (.pick (.tmp 9) (.tmp 12) (.const (.bool .false))), .none⟩, ⟨(.some 14), (.mov (.tmp 13)), .none⟩, ⟨(.some 15), (.mov (.tmp 1)), (.some (14, .true))⟩, ⟨(.some 16), (.call 34 [(.tmp 15), (.const (.int .i64 1)), (.const (.int .i64 5))]), (.some (14, .true))⟩, ⟨(.some 17), (.cmpI .eql (.tmp 16) (.const (.int .i64 5))), (.some (14, .true))⟩, ⟨(.some 18), (.pick (.tmp 14) (.tmp 17) (.const (.bool .false))), .none⟩, ⟨(.some 0), (.mov (.tmp 18)), .none⟩]
def c18_b : PCode := (.seq (.reg p18_1) (.seq (.reg p18_2) (.seq (.reg p18_3) .ret)))
def c18 : FCode := ⟨19, c18_b, [(.tmp 0)], some ([0], [], []), false⟩
theorem c18_ok : compF Go.Proofs.Tryd.prog [] 18 = some (eraseF c18) := by kernel_rfl
def p19_1 : List PO := [⟨(.some 2), (.nilS 3 1), .none⟩]
def p19_2 : List PO := [⟨(.some 3), (.mov (.tmp 0)), .none⟩, ⟨(.some 4), (.isN .false (.tmp 3)), .none⟩]
def p19_3 : List PO := [⟨(.some 2), (.nilS 3 1), .none⟩]
def p19_4 : List PO := [⟨(.some 5), (.bsl 3 1 0 [] []), .none⟩, ⟨(.some 6), (.mov (.tmp 0)), .none⟩, ⟨(.some 7), (.app 3 1 8 (.tmp 5) (.tmp 6)), .none⟩, ⟨(.some 2), (.mov (.tmp 7)), .none⟩]
def c19_b : PCode := (.seq (.reg p19_1) (.seq (.seq (.reg p19_2) (.cond (.tmp 4) (.seq (.reg p19_3) .ret) .skip)) (.seq (.reg p19_4) .ret)))
def c19 : FCode := ⟨8, c19_b, [(.tmp 2)], some ([2], [(97, (.slot 2 none))], []), true⟩
theorem c19_ok : compF Go.Proofs.Tryd.prog [] 19 = some (eraseF c19) := by kernel_rfl
def p6_3 : List PO := [⟨(.some 4), (.mov (.const (.bool .false))), .none⟩]
def p6_4 : List PO := [⟨(.some 13), (.mov (.tmp 0)), .none⟩, ⟨(.some 14), (.call 17 [(.tmp 13)]), .none⟩, ⟨(.some 12), (.mov (.tmp 14)), .none⟩, ⟨(.some 15), (.ext (.tmp 12) 0), .none⟩, ⟨(.some 16), (.ext (.tmp 12) 1), .none⟩, ⟨(.some 5), (.mov (.tmp 15)), .none⟩, ⟨(.some 6), (.mov (.tmp 16)), .none⟩]
def p6_5 : List PO := [⟨(.some 18), (.mov (.tmp 1)), .none⟩, ⟨(.some 19), (.call 17 [(.tmp 18)]), .none⟩, ⟨(.some 17), (.mov (.tmp 19)), .none⟩, ⟨(.some 20), (.ext (.tmp 17) 0), .none⟩, ⟨(.some 21), (.ext (.tmp 17) 1), .none⟩, ⟨(.some 7), (.mov (.tmp 20)), .none⟩, ⟨(.some 8), (.mov (.tmp 21)), .none⟩]
def p6_6 : List PO := [⟨(.some 23), (.mov (.tmp 0)), .none⟩, ⟨(.some 24), (.strO .add (.tmp 23) (.const (.string ⟨#[59]⟩))), .none⟩, ⟨(.some 25), (.mov (.tmp 1)), .none⟩, ⟨(.some 26), (.strO .add (.tmp 24) (.tmp 25)), .none⟩, ⟨(.some 27), (.call 17 [(.tmp 26)]), .none⟩, ⟨(.some 22), (.mov (.tmp 27)), .none⟩, ⟨(.some 28), (.ext (.tmp 22) 0), .none⟩, ⟨(.some 29), (.ext (.tmp 22) 1), .none⟩, ⟨(.some 9), (.mov (.tmp 28)), .none⟩, ⟨(.some 10), (.mov (.tmp 29)), .none⟩]
def p6_7 : List PO := [⟨(.some 30), (.call 18 []), .none⟩, ⟨(.some 31), (.un .not (.tmp 30)), .none⟩, ⟨(.some 32), (.mov (.tmp 31)), .none⟩, ⟨(.some 33), (.mov (.tmp 6)), (.some (32, .false))⟩, ⟨(.some 34), (.cmpI .neq (.tmp 33) (.const (.int .i64 0))), (.some (32, .false))⟩, ⟨(.some 35), (.pick (.tmp 32) (.const (.bool .true)) (.tmp 34)), .none⟩, ⟨(.some 36), (.mov (.tmp 35)), .none⟩, ⟨(.some 37), (.mov (.tmp 8)), (.some (36, .false))⟩, ⟨(.some 38), (.cmpI .neq (.tmp 37) (.const (.int .i64 0))), (.some (36, .false))⟩, ⟨(.some 39), (.pick (.tmp 36) (.const (.bool .true)) (.tmp 38)), .none⟩]
def p6_8 : List PO := [⟨(.some 40), (.call 18 []), .none⟩, ⟨(.some 41), (.mov (.tmp 40)), .none⟩, ⟨(.some 42), (.mov (.tmp 10)), (.some (41, .true))⟩, ⟨(.some 43), (.cmpI .eql (.tmp 42) (.const (.int .i64 4))), (.some (41, .true))⟩, ⟨(.some 44), (.pick (.tmp 41) (.tmp 43) (.const (.bool .false))), .none⟩, ⟨(.some 4), (.mov (.tmp 44)), .none⟩]
def c6_2 : PCode := (.keep [10] [] [] (.seq (.reg p6_8) .ret))
def p6_9 : List PO := [⟨(.some 45), (.mov (.tmp 5)), .none⟩, ⟨(.some 46), (.call 19 [(.tmp 45)]), .none⟩, ⟨(.some 47), (.mov (.tmp 7)), .none⟩, ⟨(.some 48), (.app 3 1 8 (.tmp 46) (.tmp 47)), .none⟩, ⟨(.some 11), (.mov (.tmp 48)), .none⟩]
def p6_10 : List PO := [⟨(.some 49), (.mov (.tmp 10)), .none⟩, ⟨(.some 50), (.cmpI .eql (.tmp 49) (.const (.int .i64 0))), .none⟩, ⟨(.some 51), (.mov (.tmp 50)), .none⟩, ⟨(.some 52), (.mov (.tmp 9)), (.some (51, .true))⟩, ⟨(.some 53), (.mov (.tmp 11)), (.some (51, .true))⟩, ⟨(.some 54), (.mov (.tmp 11)), (.some (51, .true))⟩, ⟨(.some 55), (.len .false (.tmp 54)), (.some (51, .true))⟩, ⟨(.some 56), (.mn [(.tmp 55), (.const (.int .i64 32))]), (.some (51, .true))⟩, ⟨(.some 57), (.slS 3 1 (.tmp 53) .none (.some (.tmp 56))), (.some (51, .true))⟩, ⟨(.some 58), (.call 20 [(.tmp 52), (.tmp 57)]), (.some (51, .true))⟩, ⟨(.some 59), (.pick (.tmp 51) (.tmp 58) (.const (.bool .false))), .none⟩, ⟨(.some 4), (.mov (.tmp 59)), .none⟩]
def c6_1 : PCode := (.keep [5, 7, 9, 10] [(120, .id 120), (160, .id 160), (224, .id 224)] [] (.seq (.reg p6_9) (.seq (.reg p6_10) .ret)))
def c6_b : PCode := (.seq (.reg p6_3) (.seq (.reg p6_4) (.seq (.reg p6_5) (.seq (.reg p6_6) (.seq (.seq (.reg p6_7) (.cond (.tmp 39) c6_2 .skip)) c6_1)))))
def c6 : FCode := ⟨60, c6_b, [(.tmp 4)], some ([4], [], []), false⟩
theorem c6_ok : compF Go.Proofs.Tryd.prog [] 6 = some (eraseF c6) := by kernel_rfl
def p36_1 : List PO := [⟨(.some 2), (.mov (.const (.bool .false))), .none⟩]
def p36_2 : List PO := [⟨(.some 3), (.mov (.tmp 0)), .none⟩, ⟨(.some 4), (.cmpI .lss (.tmp 3) (.const (.int .i64 (-1)))), .none⟩, ⟨(.some 5), (.mov (.tmp 4)), .none⟩, ⟨(.some 6), (.mov (.tmp 0)), (.some (5, .false))⟩, ⟨(.some 7), (.cmpI .gtr (.tmp 6) (.const (.int .i64 16383))), (.some (5, .false))⟩, ⟨(.some 8), (.pick (.tmp 5) (.const (.bool .true)) (.tmp 7)), .none⟩, ⟨(.some 2), (.mov (.tmp 8)), .none⟩]
def c36_b : PCode := (.seq (.reg p36_1) (.seq (.reg p36_2) .ret))
def c36 : FCode := ⟨9, c36_b, [(.tmp 2)], some ([2], [], []), false⟩
theorem c36_ok : compF Go.Proofs.Tryd.prog [] 36 = some (eraseF c36) := by kernel_rfl
def p51_4 : List PO := [⟨(.some 4), (.mov (.const (.int .i64 0))), .none⟩]
def p51_5 : List PO := [⟨(.some 6), (.mov (.tmp 0)), .none⟩, ⟨(.some 7), (.len .false (.tmp 6)), .none⟩, ⟨(.some 8), (.mov (.const (.int .i64 0))), .none⟩]
def p51_6 : List PO := [⟨(.some 9), (.cmpI .lss (.tmp 8) (.tmp 7)), .none⟩]
def p51_7 : List PO := [⟨(.some 10), (.mov (.tmp 8)), .none⟩, ⟨(.some 5), (.mov (.tmp 10)), .none⟩]
def p51_8 : List PO := [⟨(.some 11), (.mov (.tmp 1)), .none⟩, ⟨(.some 12), (.mov (.tmp 0)), .none⟩, ⟨(.some 13), (.mov (.tmp 5)), .none⟩, ⟨(.some 14), (.ixS 3 1 (.tmp 12) (.tmp 13)), .none⟩, ⟨(.some 15), (.load .false 1 (.tmp 14)), .none⟩, ⟨(.some 16), (.callv (.tmp 11) [(.tmp 15)]), .none⟩]
def p51_9 : List PO := [⟨(.some 17), (.mov (.tmp 5)), .none⟩, ⟨(.some 4), (.mov (.tmp 17)), .none⟩]
def p51_10 : List PO := [⟨(.some 18), (.arI .add (.tmp 8) (.const (.int .i64 1))), .none⟩, ⟨(.some 8), (.mov (.tmp 18)), .none⟩]
def c51_1 : PCode := (.keep [0, 1, 7, 8] [] [] (.seq (.block 1 (.seq (.reg p51_7) (.seq (.reg p51_8) (.cond (.tmp 16) (.seq (.reg p51_9) .ret) .skip)))) (.reg p51_10)))
def c51_2 : PCode := (.keep [0, 1, 7, 8, 9] [] [] (.seq (.cond (.tmp 9) .skip (.keep [] [] [] (.exit 0))) c51_1))
def c51_3 : PCode := (.keep [0, 1, 7, 8] [] [] (.seq (.reg p51_6) c51_2))
def p51_11 : List PO := [⟨(.some 4), (.mov (.const (.int .i64 (-1)))), .none⟩]
def c51_b : PCode := (.seq (.reg p51_4) (.seq (.seq (.reg p51_5) (.block 0 (.loop c51_3))) (.seq (.reg p51_11) .ret)))
def c51 : FCode := ⟨19, c51_b, [(.tmp 4)], some ([4], [], []), false⟩
theorem c51_ok : compF Go.Proofs.Tryd.prog [] 51 = some (eraseF c51) := by kernel_rfl
def p35_1 : List PO := [⟨(.some 4), (.mov (.const (.bool .false))), .none⟩]
def p35_2 : List PO := [⟨(.some 5), (.mov (.tmp 0)), .none⟩, ⟨(.some 6), (.mov (.tmp 1)), .none⟩, ⟨(.some 7), (.call 51 [(.tmp 5), (.tmp 6)]), .none⟩, ⟨(.some 8), (.cmpI .geq (.tmp 7) (.const (.int .i64 0))), .none⟩, ⟨(.some 4), (.mov (.tmp 8)), .none⟩]
def c35_b : PCode := (.seq (.reg p35_1) (.seq (.reg p35_2) .ret))
def c35 : FCode := ⟨9, c35_b, [(.tmp 4)], some ([4], [], []), false⟩
theorem c35_ok : compF Go.Proofs.Tryd.prog [] 35 = some (eraseF c35) := by kernel_rfl
def p21_6 : List PO := [⟨(.some 2), (.mov (.const (.string ⟨#[]⟩))), .none⟩, ⟨(.some 3), (.mov (.const (.int .i64 0))), .none⟩]
def p21_7 : List PO := [⟨(.some 7), (.mov (.tmp 0)), .none⟩, ⟨(.some 8), (.len .false (.tmp 7)), .none⟩, ⟨(.some 9), (.cmpI .eql (.tmp 8) (.const (.int .i64 0))), .none⟩, ⟨(.some 10), (.mov (.tmp 9)), .none⟩, ⟨(.some 11), (.mov (.tmp 0)), (.some (10, .false))⟩, ⟨(.some 12), (.call 35 [(.tmp 11), (.func 36)]), (.some (10, .false))⟩, ⟨(.some 13), (.pick (.tmp 10) (.const (.bool .true)) (.tmp 12)), .none⟩]
def p21_8 : List PO := [⟨(.some 2), (.mov (.const (.string ⟨#[]⟩))), .none⟩, ⟨(.some 3), (.mov (.const (.int .i64 1))), .none⟩]
def p21_9 : List PO := [⟨(.some 14), (.mov (.tmp 0)), .none⟩, ⟨(.some 15), (.len .false (.tmp 14)), .none⟩, ⟨(.some 16), (.cmpI .gtr (.tmp 15) (.const (.int .i64 32))), .none⟩]
def p21_10 : List PO := [⟨(.some 2), (.mov (.const (.string ⟨#[]⟩))), .none⟩, ⟨(.some 3), (.mov (.const (.int .i64 2))), .none⟩]
def p21_11 : List PO := [⟨(.some 4), (.nilS 9 1), .none⟩]
def p21_12 : List PO := [⟨(.some 17), (.mov (.tmp 0)), .none⟩, ⟨(.some 18), (.len .false (.tmp 17)), .none⟩, ⟨(.some 19), (.mov (.const (.int .i64 0))), .none⟩]
def p21_13 : List PO := [⟨(.some 20), (.cmpI .lss (.tmp 19) (.tmp 18)), .none⟩]
def p21_14 : List PO := [⟨(.some 21), (.ixS 3 1 (.tmp 17) (.tmp 19)), .none⟩, ⟨(.some 22), (.load .false 1 (.tmp 21)), .none⟩, ⟨(.some 6), (.mov (.tmp 22)), .none⟩]
def p21_15 : List PO := [⟨(.some 23), (.mov (.tmp 6)), .none⟩, ⟨(.some 24), (.cmpI .lss (.tmp 23) (.const (.int .i64 0))), .none⟩]
def p21_16 : List PO := [⟨(.some 25), (.mov (.tmp 4)), .none⟩, ⟨(.some 26), (.bsl 9 1 1 [(1, (.string ⟨#[]⟩))] [(0, (1, (.const (.string ⟨#[]⟩))))]), .none⟩, ⟨(.some 27), (.app 9 1 16 (.tmp 25) (.tmp 26)), .none⟩, ⟨(.some 4), (.mov (.tmp 27)), .none⟩]
def p21_17 : List PO := [⟨(.some 28), (.mov (.tmp 4)), .none⟩, ⟨(.some 29), (.mov (.tmp 6)), .none⟩, ⟨(.some 30), (.call 37 [(.tmp 29)]), .none⟩, ⟨(.some 31), (.bsl 9 1 1 [(1, (.string ⟨#[]⟩))] [(0, (1, (.tmp 30)))]), .none⟩, ⟨(.some 32), (.app 9 1 16 (.tmp 28) (.tmp 31)), .none⟩, ⟨(.some 4), (.mov (.tmp 32)), .none⟩]
def p21_18 : List PO := [⟨(.some 33), (.arI .add (.tmp 19) (.const (.int .i64 1))), .none⟩, ⟨(.some 19), (.mov (.tmp 33)), .none⟩]
def c21_1 : PCode := (.keep [4, 17, 18, 19] [(40, .id 40)] [] (.seq (.block 1 (.seq (.reg p21_14) (.seq (.reg p21_15) (.cond (.tmp 24) (.reg p21_16) (.reg p21_17))))) (.reg p21_18)))
def c21_2 : PCode := (.keep [4, 17, 18, 19, 20] [(40, .id 40)] [] (.seq (.cond (.tmp 20) .skip (.keep [4] [(40, .id 40)] [] (.exit 0))) c21_1))
def c21_3 : PCode := (.keep [4, 17, 18, 19] [(40, .id 40)] [] (.seq (.reg p21_13) c21_2))
def p21_19 : List PO := [⟨(.some 34), (.mov (.tmp 4)), .none⟩, ⟨(.some 35), (.call 11 [(.tmp 34), (.const (.string ⟨#[59]⟩))]), .none⟩, ⟨(.some 2), (.mov (.tmp 35)), .none⟩, ⟨(.some 3), (.mov (.const (.int .i64 0))), .none⟩]
def c21_4 : PCode := (.keep [0] [] [] (.seq (.reg p21_11) (.seq (.seq (.reg p21_12) (.block 0 (.loop c21_3))) (.seq (.reg p21_19) .ret))))
def c21_5 : PCode := (.keep [0] [] [] (.seq (.seq (.reg p21_9) (.cond (.tmp 16) (.seq (.reg p21_10) .ret) .skip)) c21_4))
def c21_b : PCode := (.seq (.reg p21_6) (.seq (.seq (.reg p21_7) (.cond (.tmp 13) (.seq (.reg p21_8) .ret) .skip)) c21_5))
def c21 : FCode := ⟨36, c21_b, [(.tmp 2), (.tmp 3)], some ([2, 3], [], []), false⟩
theorem c21_ok : compF Go.Proofs.Tryd.prog [] 21 = some (eraseF c21) := by kernel_rfl
def p7_4 : List PO := [⟨(.some 4), (.mov (.const (.bool .false))), .none⟩]
def p7_5 : List PO := [⟨(.some 15), (.mov (.tmp 0)), .none⟩, ⟨(.some 16), (.call 21 [(.tmp 15)]), .none⟩, ⟨(.some 14), (.mov (.tmp 16)), .none⟩, ⟨(.some 17), (.ext (.tmp 14) 0), .none⟩, ⟨(.some 18), (.ext (.tmp 14) 1), .none⟩, ⟨(.some 5), (.mov (.tmp 17)), .none⟩, ⟨(.some 6), (.mov (.tmp 18)), .none⟩]
def p7_6 : List PO := [⟨(.some 19), (.mov (.tmp 6)), .none⟩, ⟨(.some 20), (.cmpI .eql (.tmp 19) (.const (.int .i64 0))), .none⟩]
def p7_7 : List PO := [⟨(.some 22), (.mov (.tmp 5)), .none⟩, ⟨(.some 23), (.call 17 [(.tmp 22)]), .none⟩, ⟨(.some 21), (.mov (.tmp 23)), .none⟩, ⟨(.some 24), (.ext (.tmp 21) 0), .none⟩, ⟨(.some 25), (.ext (.tmp 21) 1), .none⟩, ⟨(.some 7), (.mov (.tmp 24)), .none⟩, ⟨(.some 8), (.mov (.tmp 25)), .none⟩]
def p7_8 : List PO := [⟨(.some 26), (.mov (.tmp 8)), .none⟩, ⟨(.some 27), (.cmpI .neq (.tmp 26) (.const (.int .i64 0))), .none⟩, ⟨(.some 28), (.mov (.tmp 27)), .none⟩, ⟨(.some 29), (.mov (.tmp 7)), (.some (28, .false))⟩, ⟨(.some 30), (.mov (.tmp 0)), (.some (28, .false))⟩, ⟨(.some 31), (.call 20 [(.tmp 29), (.tmp 30)]), (.some (28, .false))⟩, ⟨(.some 32), (.un .not (.tmp 31)), (.some (28, .false))⟩, ⟨(.some 33), (.pick (.tmp 28) (.const (.bool .true)) (.tmp 32)), .none⟩]
def p7_9 : List PO := [⟨(.some 4), (.mov (.const (.bool .false))), .none⟩]
def p7_10 : List PO := [⟨(.some 35), (.mov (.tmp 1)), .none⟩, ⟨(.some 36), (.call 17 [(.tmp 35)]), .none⟩, ⟨(.some 34), (.mov (.tmp 36)), .none⟩, ⟨(.some 37), (.ext (.tmp 34) 0), .none⟩, ⟨(.some 38), (.ext (.tmp 34) 1), .none⟩, ⟨(.some 9), (.mov (.tmp 37)), .none⟩, ⟨(.some 10), (.mov (.tmp 38)), .none⟩]
def p7_11 : List PO := [⟨(.some 39), (.call 18 []), .none⟩, ⟨(.some 40), (.un .not (.tmp 39)), .none⟩, ⟨(.some 41), (.mov (.tmp 40)), .none⟩, ⟨(.some 42), (.mov (.tmp 10)), (.some (41, .false))⟩, ⟨(.some 43), (.cmpI .neq (.tmp 42) (.const (.int .i64 0))), (.some (41, .false))⟩, ⟨(.some 44), (.pick (.tmp 41) (.const (.bool .true)) (.tmp 43)), .none⟩]
def p7_12 : List PO := [⟨(.some 45), (.call 18 []), .none⟩, ⟨(.some 46), (.mov (.tmp 45)), .none⟩, ⟨(.some 47), (.mov (.tmp 9)), (.some (46, .true))⟩, ⟨(.some 48), (.len .false (.tmp 47)), (.some (46, .true))⟩, ⟨(.some 49), (.cmpI .eql (.tmp 48) (.const (.int .i64 0))), (.some (46, .true))⟩, ⟨(.some 50), (.pick (.tmp 46) (.tmp 49) (.const (.bool .false))), .none⟩, ⟨(.some 4), (.mov (.tmp 50)), .none⟩]
def c7_2 : PCode := (.keep [9] [(296, .id 296)] [] (.seq (.reg p7_12) .ret))
def p7_13 : List PO := [⟨(.some 52), (.mov (.tmp 9)), .none⟩, ⟨(.some 53), (.call 21 [(.tmp 52)]), .none⟩, ⟨(.some 51), (.mov (.tmp 53)), .none⟩, ⟨(.some 54), (.ext (.tmp 51) 0), .none⟩, ⟨(.some 55), (.ext (.tmp 51) 1), .none⟩, ⟨(.some 11), (.mov (.tmp 54)), .none⟩, ⟨(.some 10), (.mov (.tmp 55)), .none⟩]
def p7_14 : List PO := [⟨(.some 57), (.mov (.tmp 11)), .none⟩, ⟨(.some 58), (.call 17 [(.tmp 57)]), .none⟩, ⟨(.some 56), (.mov (.tmp 58)), .none⟩, ⟨(.some 59), (.ext (.tmp 56) 0), .none⟩, ⟨(.some 60), (.ext (.tmp 56) 1), .none⟩, ⟨(.some 12), (.mov (.tmp 59)), .none⟩, ⟨(.some 13), (.mov (.tmp 60)), .none⟩]
def p7_15 : List PO := [⟨(.some 61), (.mov (.tmp 10)), .none⟩, ⟨(.some 62), (.cmpI .eql (.tmp 61) (.const (.int .i64 0))), .none⟩, ⟨(.some 63), (.mov (.tmp 62)), .none⟩, ⟨(.some 64), (.mov (.tmp 13)), (.some (63, .true))⟩, ⟨(.some 65), (.cmpI .eql (.tmp 64) (.const (.int .i64 0))), (.some (63, .true))⟩, ⟨(.some 66), (.pick (.tmp 63) (.tmp 65) (.const (.bool .false))), .none⟩, ⟨(.some 67), (.mov (.tmp 66)), .none⟩, ⟨(.some 68), (.mov (.tmp 9)), (.some (67, .true))⟩, ⟨(.some 69), (.mov (.tmp 12)), (.some (67, .true))⟩, ⟨(.some 70), (.call 20 [(.tmp 68), (.tmp 69)]), (.some (67, .true))⟩, ⟨(.some 71), (.pick (.tmp 67) (.tmp 70) (.const (.bool .false))), .none⟩, ⟨(.some 72), (.mov (.tmp 71)), .none⟩, ⟨(.some 73), (.mov (.tmp 9)), (.some (72, .true))⟩, ⟨(.some 74), (.len .false (.tmp 73)), (.some (72, .true))⟩, ⟨(.some 75), (.cmpI .geq (.tmp 74) (.const (.int .i64 1))), (.some (72, .true))⟩, ⟨(.some 76), (.pick (.tmp 72) (.tmp 75) (.const (.bool .false))), .none⟩, ⟨(.some 77), (.mov (.tmp 76)), .none⟩, ⟨(.some 78), (.mov (.tmp 9)), (.some (77, .true))⟩, ⟨(.some 79), (.len .false (.tmp 78)), (.some (77, .true))⟩, ⟨(.some 80), (.cmpI .leq (.tmp 79) (.const (.int .i64 32))), (.some (77, .true))⟩, ⟨(.some 81), (.pick (.tmp 77) (.tmp 80) (.const (.bool .false))), .none⟩, ⟨(.some 4), (.mov (.tmp 81)), .none⟩]
def c7_1 : PCode := (.keep [9] [(296, .id 296)] [] (.seq (.reg p7_13) (.seq (.reg p7_14) (.seq (.reg p7_15) .ret))))
def c7_3 : PCode := (.keep [1] [] [] (.seq (.reg p7_10) (.seq (.seq (.reg p7_11) (.cond (.tmp 44) c7_2 .skip)) c7_1)))
def c7_b : PCode := (.seq (.reg p7_4) (.seq (.seq (.reg p7_5) (.seq (.reg p7_6) (.cond (.tmp 20) (.seq (.reg p7_7) (.seq (.reg p7_8) (.cond (.tmp 33) (.seq (.reg p7_9) .ret) .skip))) .skip))) c7_3))
def c7 : FCode := ⟨82, c7_b, [(.tmp 4)], some ([4], [], []), false⟩
theorem c7_ok : compF Go.Proofs.Tryd.prog [] 7 = some (eraseF c7) := by kernel_rfl
def codes : Nat → Option FCode
  | 6 => some c6
  | 7 => some c7
  | 17 => some c17
  | 18 => some c18
  | 19 => some c19
  | 20 => some c20
  | 21 => some c21
  | 34 => some c34
  | 35 => some c35
  | 36 => some c36
  | 51 => some c51
  | _ => none
theorem codes_ok : ∀ f fc, codes f = some fc → compF Go.Proofs.Tryd.prog [] f = some (eraseF fc) := by
  intro f fc h
  unfold codes at h
  split at h
  · cases h; exact c6_ok
  · cases h; exact c7_ok
  · cases h; exact c17_ok
  · cases h; exact c18_ok
  · cases h; exact c19_ok
  · cases h; exact c20_ok
  · cases h; exact c21_ok
  · cases h; exact c34_ok
  · cases h; exact c35_ok
  · cases h; exact c36_ok
  · cases h; exact c51_ok
  · cases h
theorem codes6 : codes 6 = some c6 := rfl
theorem codes7 : codes 7 = some c7 := rfl
theorem codes17 : codes 17 = some c17 := rfl
theorem codes18 : codes 18 = some c18 := rfl
theorem codes19 : codes 19 = some c19 := rfl
theorem codes20 : codes 20 = some c20 := rfl
theorem codes21 : codes 21 = some c21 := rfl
theorem codes34 : codes 34 = some c34 := rfl
theorem codes35 : codes 35 = some c35 := rfl
theorem codes36 : codes 36 = some c36 := rfl
theorem codes51 : codes 51 = some c51 := rfl
noncomputable def libs : List (Nat × (List PV → Option PV)) := [(33, ossS libTrim), (13, ossL libSplit), (37, oiS libItoaL), (11, oSsS libJoin)]
noncomputable abbrev baseL : Orc := libO libs
end Go.Proofs.YtncgibcnibbdeaaDoor.Pm
