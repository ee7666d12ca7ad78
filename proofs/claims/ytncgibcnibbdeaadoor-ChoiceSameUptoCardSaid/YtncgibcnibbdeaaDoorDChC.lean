/- The small machine's codes of some functions. Printed by dec.py. -/
import Derived.Test.YtncgibcnibbdeaaDoorLib1
import Derived.Test.YtncgibcnibbdeaaDoorProg
namespace Go.Proofs.YtncgibcnibbdeaaDoor.Pm
set_option maxRecDepth 1000000
set_option maxHeartbeats 20000000
set_option linter.unusedVariables false
def p24_5 : List PO := [⟨(.some 2), (.mov (.const (.bool .false))), .none⟩]
def p24_6 : List PO := [⟨(.some 4), (.mov (.tmp 0)), .none⟩, ⟨(.some 5), (.len .true (.tmp 4)), .none⟩, ⟨(.some 6), (.mov (.const (.int .i64 0))), .none⟩]
def p24_7 : List PO := [⟨(.some 7), (.cmpI .lss (.tmp 6) (.tmp 5)), .none⟩]
def p24_8 : List PO := [⟨(.some 8), (.mov (.tmp 6)), .none⟩, ⟨(.some 3), (.mov (.tmp 8)), .none⟩]
def p24_9 : List PO := [⟨(.some 9), (.mov (.tmp 0)), .none⟩, ⟨(.some 10), (.mov (.tmp 3)), .none⟩, ⟨(.some 11), (.ixStr (.tmp 9) (.tmp 10)), .none⟩, ⟨(.some 12), (.cmpI .lss (.tmp 11) (.const (.int .u8 33))), .none⟩, ⟨(.some 13), (.mov (.tmp 12)), .none⟩, ⟨(.some 14), (.mov (.tmp 0)), (.some (13, .false))⟩, ⟨(.some 15), (.mov (.tmp 3)), (.some (13, .false))⟩, ⟨(.some 16), (.ixStr (.tmp 14) (.tmp 15)), (.some (13, .false))⟩, ⟨(.some 17), (.cmpI .gtr (.tmp 16) (.const (.int .u8 126))), (.some (13, .false))⟩, ⟨(.some 18), (.pick (.tmp 13) (.const (.bool .true)) (.tmp 17)), .none⟩]
def p24_10 : List PO := [⟨(.some 2), (.mov (.const (.bool .false))), .none⟩]
def p24_11 : List PO := [⟨(.some 19), (.arI .add (.tmp 6) (.const (.int .i64 1))), .none⟩, ⟨(.some 6), (.mov (.tmp 19)), .none⟩]
def c24_2 : PCode := (.keep [0, 5, 6] [] [] (.seq (.block 1 (.seq (.reg p24_8) (.seq (.reg p24_9) (.cond (.tmp 18) (.seq (.reg p24_10) .ret) .skip)))) (.reg p24_11)))
def c24_3 : PCode := (.keep [0, 5, 6, 7] [] [] (.seq (.cond (.tmp 7) .skip (.keep [0] [] [] (.exit 0))) c24_2))
def c24_4 : PCode := (.keep [0, 5, 6] [] [] (.seq (.reg p24_7) c24_3))
def p24_12 : List PO := [⟨(.some 20), (.mov (.tmp 0)), .none⟩, ⟨(.some 21), (.strO .neq (.tmp 20) (.const (.string ⟨#[]⟩))), .none⟩, ⟨(.some 22), (.mov (.tmp 21)), .none⟩, ⟨(.some 23), (.mov (.tmp 0)), (.some (22, .true))⟩, ⟨(.some 24), (.len .true (.tmp 23)), (.some (22, .true))⟩, ⟨(.some 25), (.cmpI .leq (.tmp 24) (.const (.int .i64 40))), (.some (22, .true))⟩, ⟨(.some 26), (.pick (.tmp 22) (.tmp 25) (.const (.bool .false))), .none⟩, ⟨(.some 2), (.mov (.tmp 26)), .none⟩]
def c24_1 : PCode := (.keep [0] [] [] (.seq (.reg p24_12) .ret))
def c24_b : PCode := (.seq (.reg p24_5) (.seq (.seq (.reg p24_6) (.block 0 (.loop c24_4))) c24_1))
def c24 : FCode := ⟨27, c24_b, [(.tmp 2)], some ([2], [], []), false⟩
theorem c24_ok : compF Go.Proofs.Tryd.prog [] 24 = some (eraseF c24) := by kernel_rfl
def p23_1 : List PO := [⟨(.some 2), (.mov (.const (.bool .false))), .none⟩]
def p23_2 : List PO := [⟨(.some 3), (.mov (.tmp 0)), .none⟩, ⟨(.some 4), (.call 24 [(.tmp 3)]), .none⟩, ⟨(.some 5), (.un .not (.tmp 4)), .none⟩, ⟨(.some 2), (.mov (.tmp 5)), .none⟩]
def c23_b : PCode := (.seq (.reg p23_1) (.seq (.reg p23_2) .ret))
def c23 : FCode := ⟨6, c23_b, [(.tmp 2)], some ([2], [], []), false⟩
theorem c23_ok : compF Go.Proofs.Tryd.prog [] 23 = some (eraseF c23) := by kernel_rfl
def p38_4 : List PO := [⟨(.some 4), (.mov (.const (.int .i64 0))), .none⟩]
def p38_5 : List PO := [⟨(.some 6), (.mov (.tmp 0)), .none⟩, ⟨(.some 7), (.len .false (.tmp 6)), .none⟩, ⟨(.some 8), (.mov (.const (.int .i64 0))), .none⟩]
def p38_6 : List PO := [⟨(.some 9), (.cmpI .lss (.tmp 8) (.tmp 7)), .none⟩]
def p38_7 : List PO := [⟨(.some 10), (.mov (.tmp 8)), .none⟩, ⟨(.some 5), (.mov (.tmp 10)), .none⟩]
def p38_8 : List PO := [⟨(.some 11), (.mov (.tmp 1)), .none⟩, ⟨(.some 12), (.mov (.tmp 0)), .none⟩, ⟨(.some 13), (.mov (.tmp 5)), .none⟩, ⟨(.some 14), (.ixS 9 1 (.tmp 12) (.tmp 13)), .none⟩, ⟨(.some 15), (.load .false 1 (.tmp 14)), .none⟩, ⟨(.some 16), (.callv (.tmp 11) [(.tmp 15)]), .none⟩]
def p38_9 : List PO := [⟨(.some 17), (.mov (.tmp 5)), .none⟩, ⟨(.some 4), (.mov (.tmp 17)), .none⟩]
def p38_10 : List PO := [⟨(.some 18), (.arI .add (.tmp 8) (.const (.int .i64 1))), .none⟩, ⟨(.some 8), (.mov (.tmp 18)), .none⟩]
def c38_1 : PCode := (.keep [0, 1, 7, 8] [] [] (.seq (.block 1 (.seq (.reg p38_7) (.seq (.reg p38_8) (.cond (.tmp 16) (.seq (.reg p38_9) .ret) .skip)))) (.reg p38_10)))
def c38_2 : PCode := (.keep [0, 1, 7, 8, 9] [] [] (.seq (.cond (.tmp 9) .skip (.keep [] [] [] (.exit 0))) c38_1))
def c38_3 : PCode := (.keep [0, 1, 7, 8] [] [] (.seq (.reg p38_6) c38_2))
def p38_11 : List PO := [⟨(.some 4), (.mov (.const (.int .i64 (-1)))), .none⟩]
def c38_b : PCode := (.seq (.reg p38_4) (.seq (.seq (.reg p38_5) (.block 0 (.loop c38_3))) (.seq (.reg p38_11) .ret)))
def c38 : FCode := ⟨19, c38_b, [(.tmp 4)], some ([4], [], []), false⟩
theorem c38_ok : compF Go.Proofs.Tryd.prog [] 38 = some (eraseF c38) := by kernel_rfl
def p22_1 : List PO := [⟨(.some 4), (.mov (.const (.bool .false))), .none⟩]
def p22_2 : List PO := [⟨(.some 5), (.mov (.tmp 0)), .none⟩, ⟨(.some 6), (.mov (.tmp 1)), .none⟩, ⟨(.some 7), (.call 38 [(.tmp 5), (.tmp 6)]), .none⟩, ⟨(.some 8), (.cmpI .geq (.tmp 7) (.const (.int .i64 0))), .none⟩, ⟨(.some 4), (.mov (.tmp 8)), .none⟩]
def c22_b : PCode := (.seq (.reg p22_1) (.seq (.reg p22_2) .ret))
def c22 : FCode := ⟨9, c22_b, [(.tmp 4)], some ([4], [], []), false⟩
theorem c22_ok : compF Go.Proofs.Tryd.prog [] 22 = some (eraseF c22) := by kernel_rfl
def p25_1 : List PO := [⟨(.some 3), (.mov (.const (.bool .false))), .none⟩]
def p25_2 : List PO := [⟨(.some 4), (.mov (.tmp 0)), .none⟩, ⟨(.some 5), (.load .false 1 (.tmp 1)), .none⟩, ⟨(.some 6), (.call 10 [(.tmp 4), (.tmp 5)]), .none⟩, ⟨(.some 3), (.mov (.tmp 6)), .none⟩]
def c25_b : PCode := (.seq (.reg p25_1) (.seq (.reg p25_2) .ret))
def c25 : FCode := ⟨7, c25_b, [(.tmp 3)], some ([3], [], []), false⟩
theorem c25_ok : compF Go.Proofs.Tryd.prog [] 25 = some (eraseF c25) := by kernel_rfl
def p8_5 : List PO := [⟨(.some 2), (.mov (.const (.string ⟨#[]⟩))), .none⟩, ⟨(.some 3), (.mov (.const (.int .i64 0))), .none⟩]
def p8_6 : List PO := [⟨(.some 6), (.mov (.tmp 0)), .none⟩, ⟨(.some 7), (.len .false (.tmp 6)), .none⟩, ⟨(.some 8), (.cmpI .lss (.tmp 7) (.const (.int .i64 1))), .none⟩, ⟨(.some 9), (.mov (.tmp 8)), .none⟩, ⟨(.some 10), (.mov (.tmp 0)), (.some (9, .false))⟩, ⟨(.some 11), (.len .false (.tmp 10)), (.some (9, .false))⟩, ⟨(.some 12), (.cmpI .gtr (.tmp 11) (.const (.int .i64 8))), (.some (9, .false))⟩, ⟨(.some 13), (.pick (.tmp 9) (.const (.bool .true)) (.tmp 12)), .none⟩]
def p8_7 : List PO := [⟨(.some 2), (.mov (.const (.string ⟨#[]⟩))), .none⟩, ⟨(.some 3), (.mov (.const (.int .i64 1))), .none⟩]
def p8_8 : List PO := [⟨(.some 14), (.mov (.tmp 0)), .none⟩, ⟨(.some 15), (.call 22 [(.tmp 14), (.func 23)]), .none⟩]
def p8_9 : List PO := [⟨(.some 2), (.mov (.const (.string ⟨#[]⟩))), .none⟩, ⟨(.some 3), (.mov (.const (.int .i64 4))), .none⟩]
def p8_10 : List PO := [⟨(.some 4), (.mov (.const (.int .u8 33))), .none⟩]
def p8_11 : List PO := [⟨(.some 16), (.mov (.tmp 4)), .none⟩, ⟨(.some 17), (.cmpI .leq (.tmp 16) (.const (.int .u8 47))), .none⟩]
def p8_12 : List PO := [⟨(.some 20), (.mov (.tmp 4)), .none⟩, ⟨(.some 21), (.cvI .i32 (.tmp 20)), .none⟩, ⟨(.some 22), (.cvIS (.tmp 21)), .none⟩, ⟨(.some 5), (.alloc [(1, (.string ⟨#[]⟩))]), .none⟩, ⟨.none, (.store 1 (.tmp 5) (.tmp 22)), .none⟩]
def p8_13 : List PO := [⟨(.some 23), (.mov (.tmp 0)), .none⟩, ⟨(.some 24), (.mkF 25 [(.tmp 5)]), .none⟩, ⟨(.some 25), (.call 22 [(.tmp 23), (.tmp 24)]), .none⟩, ⟨(.some 26), (.un .not (.tmp 25)), .none⟩]
def p8_14 : List PO := [⟨(.some 27), (.load .false 1 (.tmp 5)), .none⟩, ⟨(.some 28), (.strO .add (.const (.string ⟨#[1]⟩)) (.tmp 27)), .none⟩, ⟨(.some 29), (.mov (.tmp 0)), .none⟩, ⟨(.some 30), (.load .false 1 (.tmp 5)), .none⟩, ⟨(.some 31), (.call 11 [(.tmp 29), (.tmp 30)]), .none⟩, ⟨(.some 32), (.strO .add (.tmp 28) (.tmp 31)), .none⟩, ⟨(.some 2), (.mov (.tmp 32)), .none⟩, ⟨(.some 3), (.mov (.const (.int .i64 0))), .none⟩]
def p8_15 : List PO := [⟨(.some 18), (.mov (.tmp 4)), .none⟩, ⟨(.some 19), (.arI .add (.tmp 18) (.const (.int .u8 1))), .none⟩, ⟨(.some 4), (.mov (.tmp 19)), .none⟩]
def c8_1 : PCode := (.keep [0, 4] [] [] (.seq (.block 1 (.seq (.reg p8_12) (.seq (.reg p8_13) (.cond (.tmp 26) (.seq (.regD p8_14 [(0, 4)]) .ret) .skip)))) (.reg p8_15)))
def c8_2 : PCode := (.keep [0, 4] [] [] (.seq (.seq (.reg p8_11) (.cond (.tmp 17) .skip (.keep [] [] [] (.exit 0)))) c8_1))
def p8_16 : List PO := [⟨(.some 2), (.mov (.const (.string ⟨#[]⟩))), .none⟩, ⟨(.some 3), (.mov (.const (.int .i64 5))), .none⟩]
def c8_3 : PCode := (.keep [0] [] [] (.seq (.seq (.reg p8_10) (.block 0 (.loop c8_2))) (.seq (.reg p8_16) .ret)))
def c8_4 : PCode := (.keep [0] [] [] (.seq (.seq (.reg p8_8) (.cond (.tmp 15) (.seq (.reg p8_9) .ret) .skip)) c8_3))
def c8_b : PCode := (.seq (.reg p8_5) (.seq (.seq (.reg p8_6) (.cond (.tmp 13) (.seq (.reg p8_7) .ret) .skip)) c8_4))
def c8 : FCode := ⟨33, c8_b, [(.tmp 2), (.tmp 3)], some ([2, 3], [], []), false⟩
theorem c8_ok : compF Go.Proofs.Tryd.prog [] 8 = some (eraseF c8) := by kernel_rfl
def p31_1 : List PO := [⟨(.some 2), (.mov (.const (.bool .false))), .none⟩]
def p31_2 : List PO := [⟨(.some 3), (.mov (.tmp 0)), .none⟩, ⟨(.some 4), (.call 24 [(.tmp 3)]), .none⟩, ⟨(.some 5), (.un .not (.tmp 4)), .none⟩, ⟨(.some 2), (.mov (.tmp 5)), .none⟩]
def c31_b : PCode := (.seq (.reg p31_1) (.seq (.reg p31_2) .ret))
def c31 : FCode := ⟨6, c31_b, [(.tmp 2)], some ([2], [], []), false⟩
theorem c31_ok : compF Go.Proofs.Tryd.prog [] 31 = some (eraseF c31) := by kernel_rfl
def p32_4 : List PO := [⟨(.some 2), (.mov (.const (.string ⟨#[]⟩))), .none⟩]
def p32_5 : List PO := [⟨(.some 6), (.mov (.tmp 0)), .none⟩, ⟨(.some 7), (.cvSO 5 (.tmp 6)), .none⟩, ⟨(.some 3), (.mov (.tmp 7)), .none⟩]
def p32_6 : List PO := [⟨(.some 8), (.mov (.tmp 3)), .none⟩, ⟨(.some 9), (.len .false (.tmp 8)), .none⟩, ⟨(.some 10), (.mov (.const (.int .i64 0))), .none⟩]
def p32_7 : List PO := [⟨(.some 11), (.cmpI .lss (.tmp 10) (.tmp 9)), .none⟩]
def p32_8 : List PO := [⟨(.some 12), (.mov (.tmp 10)), .none⟩, ⟨(.some 13), (.ixS 5 1 (.tmp 8) (.tmp 10)), .none⟩, ⟨(.some 14), (.load .false 1 (.tmp 13)), .none⟩, ⟨(.some 4), (.mov (.tmp 12)), .none⟩, ⟨(.some 5), (.mov (.tmp 14)), .none⟩]
def p32_9 : List PO := [⟨(.some 15), (.mov (.tmp 5)), .none⟩, ⟨(.some 16), (.cmpI .geq (.tmp 15) (.const (.int .u8 97))), .none⟩, ⟨(.some 17), (.mov (.tmp 16)), .none⟩, ⟨(.some 18), (.mov (.tmp 5)), (.some (17, .true))⟩, ⟨(.some 19), (.cmpI .leq (.tmp 18) (.const (.int .u8 122))), (.some (17, .true))⟩, ⟨(.some 20), (.pick (.tmp 17) (.tmp 19) (.const (.bool .false))), .none⟩]
def p32_10 : List PO := [⟨(.some 21), (.mov (.tmp 3)), .none⟩, ⟨(.some 22), (.mov (.tmp 4)), .none⟩, ⟨(.some 23), (.mov (.tmp 5)), .none⟩, ⟨(.some 24), (.arI .sub (.tmp 23) (.const (.int .u8 32))), .none⟩, ⟨(.some 25), (.ixS 5 1 (.tmp 21) (.tmp 22)), .none⟩, ⟨.none, (.store 1 (.tmp 25) (.tmp 24)), .none⟩]
def p32_11 : List PO := [⟨(.some 26), (.arI .add (.tmp 10) (.const (.int .i64 1))), .none⟩, ⟨(.some 10), (.mov (.tmp 26)), .none⟩]
def c32_1 : PCode := (.keep [3, 8, 9, 10] [(64, .id 64)] [] (.seq (.block 1 (.seq (.reg p32_8) (.seq (.reg p32_9) (.cond (.tmp 20) (.reg p32_10) .skip)))) (.reg p32_11)))
def c32_2 : PCode := (.keep [3, 8, 9, 10, 11] [(64, .id 64)] [] (.seq (.cond (.tmp 11) .skip (.keep [3] [(64, .id 64)] [] (.exit 0))) c32_1))
def c32_3 : PCode := (.keep [3, 8, 9, 10] [(64, .id 64)] [] (.seq (.reg p32_7) c32_2))
def p32_12 : List PO := [⟨(.some 27), (.mov (.tmp 3)), .none⟩, ⟨(.some 28), (.cvBS (.tmp 27)), .none⟩, ⟨(.some 2), (.mov (.tmp 28)), .none⟩]
def c32_b : PCode := (.seq (.reg p32_4) (.seq (.reg p32_5) (.seq (.seq (.reg p32_6) (.block 0 (.loop c32_3))) (.seq (.reg p32_12) .ret))))
def c32 : FCode := ⟨29, c32_b, [(.tmp 2)], some ([2], [], []), false⟩
theorem c32_ok : compF Go.Proofs.Tryd.prog [] 32 = some (eraseF c32) := by kernel_rfl
def p14_10 : List PO := [⟨(.some 4), (.mov (.const (.string ⟨#[]⟩))), .none⟩, ⟨(.some 5), (.mov (.const (.string ⟨#[]⟩))), .none⟩, ⟨(.some 6), (.mov (.const (.int .i64 0))), .none⟩]
def p14_11 : List PO := [⟨(.some 12), (.mov (.tmp 1)), .none⟩, ⟨(.some 13), (.len .true (.tmp 12)), .none⟩, ⟨(.some 14), (.cmpI .lss (.tmp 13) (.const (.int .i64 2))), .none⟩, ⟨(.some 15), (.mov (.tmp 14)), .none⟩, ⟨(.some 16), (.mov (.tmp 1)), (.some (15, .false))⟩, ⟨(.some 17), (.ixStr (.tmp 16) (.const (.int .i64 0))), (.some (15, .false))⟩, ⟨(.some 18), (.cmpI .neq (.tmp 17) (.const (.int .u8 1))), (.some (15, .false))⟩, ⟨(.some 19), (.pick (.tmp 15) (.const (.bool .true)) (.tmp 18)), .none⟩, ⟨(.some 20), (.mov (.tmp 19)), .none⟩, ⟨(.some 21), (.mov (.tmp 1)), (.some (20, .false))⟩, ⟨(.some 22), (.ixStr (.tmp 21) (.const (.int .i64 1))), (.some (20, .false))⟩, ⟨(.some 23), (.cmpI .lss (.tmp 22) (.const (.int .u8 33))), (.some (20, .false))⟩, ⟨(.some 24), (.pick (.tmp 20) (.const (.bool .true)) (.tmp 23)), .none⟩, ⟨(.some 25), (.mov (.tmp 24)), .none⟩, ⟨(.some 26), (.mov (.tmp 1)), (.some (25, .false))⟩, ⟨(.some 27), (.ixStr (.tmp 26) (.const (.int .i64 1))), (.some (25, .false))⟩, ⟨(.some 28), (.cmpI .gtr (.tmp 27) (.const (.int .u8 126))), (.some (25, .false))⟩, ⟨(.some 29), (.pick (.tmp 25) (.const (.bool .true)) (.tmp 28)), .none⟩]
def p14_12 : List PO := [⟨(.some 4), (.mov (.const (.string ⟨#[]⟩))), .none⟩, ⟨(.some 5), (.mov (.const (.string ⟨#[]⟩))), .none⟩, ⟨(.some 6), (.mov (.const (.int .i64 4))), .none⟩]
def p14_13 : List PO := [⟨(.some 30), (.mov (.tmp 1)), .none⟩, ⟨(.some 31), (.slStr (.tmp 30) (.some (.const (.int .i64 2))) .none), .none⟩, ⟨(.some 32), (.mov (.tmp 1)), .none⟩, ⟨(.some 33), (.slStr (.tmp 32) (.some (.const (.int .i64 1))) (.some (.const (.int .i64 2)))), .none⟩, ⟨(.some 34), (.call 13 [(.tmp 31), (.tmp 33)]), .none⟩, ⟨(.some 7), (.mov (.tmp 34)), .none⟩]
def p14_14 : List PO := [⟨(.some 35), (.mov (.tmp 7)), .none⟩, ⟨(.some 36), (.call 22 [(.tmp 35), (.func 31)]), .none⟩]
def p14_15 : List PO := [⟨(.some 4), (.mov (.const (.string ⟨#[]⟩))), .none⟩, ⟨(.some 5), (.mov (.const (.string ⟨#[]⟩))), .none⟩, ⟨(.some 6), (.mov (.const (.int .i64 4))), .none⟩]
def p14_16 : List PO := [⟨(.some 37), (.mov (.tmp 7)), .none⟩, ⟨(.some 38), (.len .false (.tmp 37)), .none⟩, ⟨(.some 39), (.cmpI .gtr (.tmp 38) (.const (.int .i64 8))), .none⟩]
def p14_17 : List PO := [⟨(.some 4), (.mov (.const (.string ⟨#[]⟩))), .none⟩, ⟨(.some 5), (.mov (.const (.string ⟨#[]⟩))), .none⟩, ⟨(.some 6), (.mov (.const (.int .i64 2))), .none⟩]
def p14_18 : List PO := [⟨(.some 40), (.mov (.tmp 7)), .none⟩, ⟨(.some 41), (.len .false (.tmp 40)), .none⟩, ⟨(.some 42), (.mov (.const (.int .i64 0))), .none⟩]
def p14_19 : List PO := [⟨(.some 43), (.cmpI .lss (.tmp 42) (.tmp 41)), .none⟩]
def p14_20 : List PO := [⟨(.some 44), (.ixS 9 1 (.tmp 40) (.tmp 42)), .none⟩, ⟨(.some 45), (.load .false 1 (.tmp 44)), .none⟩, ⟨(.some 9), (.mov (.tmp 45)), .none⟩]
def p14_21 : List PO := [⟨(.some 46), (.mov (.tmp 0)), .none⟩, ⟨(.some 47), (.len .false (.tmp 46)), .none⟩, ⟨(.some 48), (.mov (.const (.int .i64 0))), .none⟩]
def p14_22 : List PO := [⟨(.some 49), (.cmpI .lss (.tmp 48) (.tmp 47)), .none⟩]
def p14_23 : List PO := [⟨(.some 50), (.ixS 9 1 (.tmp 46) (.tmp 48)), .none⟩, ⟨(.some 51), (.load .false 1 (.tmp 50)), .none⟩, ⟨(.some 11), (.mov (.tmp 51)), .none⟩]
def p14_24 : List PO := [⟨(.some 52), (.mov (.tmp 9)), .none⟩, ⟨(.some 53), (.call 32 [(.tmp 52)]), .none⟩, ⟨(.some 54), (.mov (.tmp 11)), .none⟩, ⟨(.some 55), (.call 32 [(.tmp 54)]), .none⟩, ⟨(.some 56), (.strO .eql (.tmp 53) (.tmp 55)), .none⟩]
def p14_25 : List PO := [⟨(.some 57), (.mov (.tmp 9)), .none⟩, ⟨(.some 58), (.strO .add (.const (.string ⟨#[2]⟩)) (.tmp 57)), .none⟩, ⟨(.some 59), (.mov (.tmp 11)), .none⟩, ⟨(.some 4), (.mov (.tmp 58)), .none⟩, ⟨(.some 5), (.mov (.tmp 59)), .none⟩, ⟨(.some 6), (.mov (.const (.int .i64 0))), .none⟩]
def p14_26 : List PO := [⟨(.some 60), (.arI .add (.tmp 48) (.const (.int .i64 1))), .none⟩, ⟨(.some 48), (.mov (.tmp 60)), .none⟩]
def c14_1 : PCode := (.keep [0, 9, 40, 41, 42, 46, 47, 48] [] [] (.seq (.block 3 (.seq (.reg p14_23) (.seq (.reg p14_24) (.cond (.tmp 56) (.seq (.reg p14_25) .ret) .skip)))) (.reg p14_26)))
def c14_2 : PCode := (.keep [0, 9, 40, 41, 42, 46, 47, 48, 49] [] [] (.seq (.cond (.tmp 49) .skip (.keep [0, 40, 41, 42] [] [] (.exit 2))) c14_1))
def c14_3 : PCode := (.keep [0, 9, 40, 41, 42, 46, 47, 48] [] [] (.seq (.reg p14_22) c14_2))
def p14_27 : List PO := [⟨(.some 61), (.arI .add (.tmp 42) (.const (.int .i64 1))), .none⟩, ⟨(.some 42), (.mov (.tmp 61)), .none⟩]
def c14_4 : PCode := (.keep [0, 40, 41, 42] [] [] (.seq (.block 1 (.seq (.reg p14_20) (.seq (.reg p14_21) (.block 2 (.loop c14_3))))) (.reg p14_27)))
def c14_5 : PCode := (.keep [0, 40, 41, 42, 43] [] [] (.seq (.cond (.tmp 43) .skip (.keep [] [] [] (.exit 0))) c14_4))
def c14_6 : PCode := (.keep [0, 40, 41, 42] [] [] (.seq (.reg p14_19) c14_5))
def p14_28 : List PO := [⟨(.some 4), (.mov (.const (.string ⟨#[3]⟩))), .none⟩, ⟨(.some 5), (.mov (.const (.string ⟨#[]⟩))), .none⟩, ⟨(.some 6), (.mov (.const (.int .i64 0))), .none⟩]
def c14_7 : PCode := (.keep [0, 7] [] [] (.seq (.seq (.reg p14_18) (.block 0 (.loop c14_6))) (.seq (.reg p14_28) .ret)))
def c14_8 : PCode := (.keep [0, 7] [] [] (.seq (.seq (.reg p14_16) (.cond (.tmp 39) (.seq (.reg p14_17) .ret) .skip)) c14_7))
def c14_9 : PCode := (.keep [0, 1] [] [] (.seq (.regD p14_13 []) (.seq (.seq (.reg p14_14) (.cond (.tmp 36) (.seq (.reg p14_15) .ret) .skip)) c14_8)))
def c14_b : PCode := (.seq (.reg p14_10) (.seq (.seq (.reg p14_11) (.cond (.tmp 29) (.seq (.reg p14_12) .ret) .skip)) c14_9))
def c14 : FCode := ⟨62, c14_b, [(.tmp 4), (.tmp 5), (.tmp 6)], some ([4, 5, 6], [], []), false⟩
theorem c14_ok : compF Go.Proofs.Tryd.prog [] 14 = some (eraseF c14) := by kernel_rfl
def p9_1 : List PO := [⟨(.some 0), (.mov (.const (.bool .false))), .none⟩]
def p9_2 : List PO := [⟨(.some 7), (.bsl 9 1 2 [(2, (.string ⟨#[]⟩))] [(0, (1, (.const (.string ⟨#[85, 84, 70, 45, 56]⟩)))), (1, (1, (.const (.string ⟨#[65, 83, 67, 73, 73, 33]⟩))))]), .none⟩, ⟨(.some 8), (.call 8 [(.tmp 7)]), .none⟩, ⟨(.some 6), (.mov (.tmp 8)), .none⟩, ⟨(.some 9), (.ext (.tmp 6) 0), .none⟩, ⟨(.some 10), (.ext (.tmp 6) 1), .none⟩, ⟨(.some 1), (.mov (.tmp 9)), .none⟩, ⟨(.some 2), (.mov (.tmp 10)), .none⟩]
def p9_3 : List PO := [⟨(.some 12), (.bsl 9 1 1 [(1, (.string ⟨#[]⟩))] [(0, (1, (.const (.string ⟨#[97, 115, 99, 105, 105, 33]⟩))))]), .none⟩, ⟨(.some 13), (.mov (.tmp 1)), .none⟩, ⟨(.some 14), (.call 14 [(.tmp 12), (.tmp 13)]), .none⟩, ⟨(.some 11), (.mov (.tmp 14)), .none⟩, ⟨(.some 15), (.ext (.tmp 11) 0), .none⟩, ⟨(.some 16), (.ext (.tmp 11) 1), .none⟩, ⟨(.some 17), (.ext (.tmp 11) 2), .none⟩, ⟨(.some 3), (.mov (.tmp 15)), .none⟩, ⟨(.some 4), (.mov (.tmp 16)), .none⟩, ⟨(.some 5), (.mov (.tmp 17)), .none⟩]
def p9_4 : List PO := [⟨(.some 18), (.mov (.tmp 2)), .none⟩, ⟨(.some 19), (.cmpI .eql (.tmp 18) (.const (.int .i64 0))), .none⟩, ⟨(.some 20), (.mov (.tmp 19)), .none⟩, ⟨(.some 21), (.mov (.tmp 5)), (.some (20, .true))⟩, ⟨(.some 22), (.cmpI .eql (.tmp 21) (.const (.int .i64 0))), (.some (20, .true))⟩, ⟨(.some 23), (.pick (.tmp 20) (.tmp 22) (.const (.bool .false))), .none⟩, ⟨(.some 24), (.mov (.tmp 23)), .none⟩, ⟨(.some 25), (.mov (.tmp 1)), (.some (24, .true))⟩, ⟨(.some 26), (.strO .eql (.tmp 25) (.const (.string ⟨#[1, 34, 85, 84, 70, 45, 56, 34, 65, 83, 67, 73, 73, 33]⟩))), (.some (24, .true))⟩, ⟨(.some 27), (.pick (.tmp 24) (.tmp 26) (.const (.bool .false))), .none⟩, ⟨(.some 28), (.mov (.tmp 27)), .none⟩, ⟨(.some 29), (.mov (.tmp 3)), (.some (28, .true))⟩, ⟨(.some 30), (.strO .eql (.tmp 29) (.const (.string ⟨#[2, 65, 83, 67, 73, 73, 33]⟩))), (.some (28, .true))⟩, ⟨(.some 31), (.pick (.tmp 28) (.tmp 30) (.const (.bool .false))), .none⟩, ⟨(.some 32), (.mov (.tmp 31)), .none⟩, ⟨(.some 33), (.mov (.tmp 4)), (.some (32, .true))⟩, ⟨(.some 34), (.strO .eql (.tmp 33) (.const (.string ⟨#[97, 115, 99, 105, 105, 33]⟩))), (.some (32, .true))⟩, ⟨(.some 35), (.pick (.tmp 32) (.tmp 34) (.const (.bool .false))), .none⟩, ⟨(.some 0), (.mov (.tmp 35)), .none⟩]
def c9_b : PCode := (.seq (.reg p9_1) (.seq (.reg p9_2) (.seq (.reg p9_3) (.seq (.reg p9_4) .ret))))
def c9 : FCode := ⟨36, c9_b, [(.tmp 0)], some ([0], [], []), false⟩
theorem c9_ok : compF Go.Proofs.Tryd.prog [] 9 = some (eraseF c9) := by kernel_rfl
def p12_5 : List PO := [⟨(.some 4), (.mov (.const (.bool .false))), .none⟩]
def p12_6 : List PO := [⟨(.some 6), (.mov (.tmp 0)), .none⟩, ⟨(.some 7), (.len .false (.tmp 6)), .none⟩, ⟨(.some 8), (.mov (.tmp 1)), .none⟩, ⟨(.some 9), (.len .false (.tmp 8)), .none⟩, ⟨(.some 10), (.cmpI .neq (.tmp 7) (.tmp 9)), .none⟩]
def p12_7 : List PO := [⟨(.some 4), (.mov (.const (.bool .false))), .none⟩]
def p12_8 : List PO := [⟨(.some 11), (.mov (.tmp 0)), .none⟩, ⟨(.some 12), (.len .false (.tmp 11)), .none⟩, ⟨(.some 13), (.mov (.const (.int .i64 0))), .none⟩]
def p12_9 : List PO := [⟨(.some 14), (.cmpI .lss (.tmp 13) (.tmp 12)), .none⟩]
def p12_10 : List PO := [⟨(.some 15), (.mov (.tmp 13)), .none⟩, ⟨(.some 5), (.mov (.tmp 15)), .none⟩]
def p12_11 : List PO := [⟨(.some 16), (.mov (.tmp 0)), .none⟩, ⟨(.some 17), (.mov (.tmp 5)), .none⟩, ⟨(.some 18), (.ixS 9 1 (.tmp 16) (.tmp 17)), .none⟩, ⟨(.some 19), (.load .false 1 (.tmp 18)), .none⟩, ⟨(.some 20), (.mov (.tmp 1)), .none⟩, ⟨(.some 21), (.mov (.tmp 5)), .none⟩, ⟨(.some 22), (.ixS 9 1 (.tmp 20) (.tmp 21)), .none⟩, ⟨(.some 23), (.load .false 1 (.tmp 22)), .none⟩, ⟨(.some 24), (.strO .neq (.tmp 19) (.tmp 23)), .none⟩]
def p12_12 : List PO := [⟨(.some 4), (.mov (.const (.bool .false))), .none⟩]
def p12_13 : List PO := [⟨(.some 25), (.arI .add (.tmp 13) (.const (.int .i64 1))), .none⟩, ⟨(.some 13), (.mov (.tmp 25)), .none⟩]
def c12_1 : PCode := (.keep [0, 1, 12, 13] [] [] (.seq (.block 1 (.seq (.reg p12_10) (.seq (.regD p12_11 []) (.cond (.tmp 24) (.seq (.reg p12_12) .ret) .skip)))) (.reg p12_13)))
def c12_2 : PCode := (.keep [0, 1, 12, 13, 14] [] [] (.seq (.cond (.tmp 14) .skip (.keep [] [] [] (.exit 0))) c12_1))
def c12_3 : PCode := (.keep [0, 1, 12, 13] [] [] (.seq (.reg p12_9) c12_2))
def p12_14 : List PO := [⟨(.some 4), (.mov (.const (.bool .true))), .none⟩]
def c12_4 : PCode := (.keep [0, 1] [] [] (.seq (.seq (.reg p12_8) (.block 0 (.loop c12_3))) (.seq (.reg p12_14) .ret)))
def c12_b : PCode := (.seq (.reg p12_5) (.seq (.seq (.reg p12_6) (.cond (.tmp 10) (.seq (.reg p12_7) .ret) .skip)) c12_4))
def c12 : FCode := ⟨26, c12_b, [(.tmp 4)], some ([4], [], []), false⟩
theorem c12_ok : compF Go.Proofs.Tryd.prog [] 12 = some (eraseF c12) := by kernel_rfl
def p3_3 : List PO := [⟨(.some 2), (.mov (.const (.bool .false))), .none⟩]
def p3_4 : List PO := [⟨(.some 6), (.mov (.tmp 0)), .none⟩, ⟨(.some 7), (.call 8 [(.tmp 6)]), .none⟩, ⟨(.some 5), (.mov (.tmp 7)), .none⟩, ⟨(.some 8), (.ext (.tmp 5) 0), .none⟩, ⟨(.some 9), (.ext (.tmp 5) 1), .none⟩, ⟨(.some 3), (.mov (.tmp 8)), .none⟩, ⟨(.some 4), (.mov (.tmp 9)), .none⟩]
def p3_5 : List PO := [⟨(.some 10), (.call 9 []), .none⟩, ⟨(.some 11), (.un .not (.tmp 10)), .none⟩, ⟨(.some 12), (.mov (.tmp 11)), .none⟩, ⟨(.some 13), (.mov (.tmp 4)), (.some (12, .false))⟩, ⟨(.some 14), (.cmpI .neq (.tmp 13) (.const (.int .i64 0))), (.some (12, .false))⟩, ⟨(.some 15), (.pick (.tmp 12) (.const (.bool .true)) (.tmp 14)), .none⟩]
def p3_6 : List PO := [⟨(.some 16), (.call 9 []), .none⟩, ⟨(.some 17), (.mov (.tmp 16)), .none⟩, ⟨(.some 18), (.mov (.tmp 4)), (.some (17, .true))⟩, ⟨(.some 19), (.cmpI .eql (.tmp 18) (.const (.int .i64 1))), (.some (17, .true))⟩, ⟨(.some 20), (.mov (.tmp 19)), (.some (17, .true))⟩, ⟨(.some 21), (.mov (.tmp 4)), (.some (20, .false))⟩, ⟨(.some 22), (.cmpI .eql (.tmp 21) (.const (.int .i64 4))), (.some (20, .false))⟩, ⟨(.some 23), (.pick (.tmp 20) (.const (.bool .true)) (.tmp 22)), (.some (17, .true))⟩, ⟨(.some 24), (.mov (.tmp 23)), (.some (17, .true))⟩, ⟨(.some 25), (.mov (.tmp 4)), (.some (24, .false))⟩, ⟨(.some 26), (.cmpI .eql (.tmp 25) (.const (.int .i64 5))), (.some (24, .false))⟩, ⟨(.some 27), (.pick (.tmp 24) (.const (.bool .true)) (.tmp 26)), (.some (17, .true))⟩, ⟨(.some 28), (.pick (.tmp 17) (.tmp 27) (.const (.bool .false))), .none⟩, ⟨(.some 2), (.mov (.tmp 28)), .none⟩]
def c3_2 : PCode := (.keep [4] [] [] (.seq (.reg p3_6) .ret))
def p3_7 : List PO := [⟨(.some 29), (.mov (.tmp 3)), .none⟩, ⟨(.some 30), (.len .true (.tmp 29)), .none⟩, ⟨(.some 31), (.cmpI .gtr (.tmp 30) (.const (.int .i64 2))), .none⟩, ⟨(.some 32), (.mov (.tmp 31)), .none⟩, ⟨(.some 33), (.mov (.tmp 3)), (.some (32, .true))⟩, ⟨(.some 34), (.ixStr (.tmp 33) (.const (.int .i64 0))), (.some (32, .true))⟩, ⟨(.some 35), (.cmpI .eql (.tmp 34) (.const (.int .u8 1))), (.some (32, .true))⟩, ⟨(.some 36), (.pick (.tmp 32) (.tmp 35) (.const (.bool .false))), .none⟩, ⟨(.some 37), (.mov (.tmp 36)), .none⟩, ⟨(.some 38), (.mov (.tmp 0)), (.some (37, .true))⟩, ⟨(.some 39), (.call 11 [(.tmp 38), (.const (.string ⟨#[]⟩))]), (.some (37, .true))⟩, ⟨(.some 40), (.mov (.tmp 3)), (.some (37, .true))⟩, ⟨(.some 41), (.slStr (.tmp 40) (.some (.const (.int .i64 1))) (.some (.const (.int .i64 2)))), (.some (37, .true))⟩, ⟨(.some 42), (.call 10 [(.tmp 39), (.tmp 41)]), (.some (37, .true))⟩, ⟨(.some 43), (.un .not (.tmp 42)), (.some (37, .true))⟩, ⟨(.some 44), (.pick (.tmp 37) (.tmp 43) (.const (.bool .false))), .none⟩, ⟨(.some 45), (.mov (.tmp 44)), .none⟩, ⟨(.some 46), (.mov (.tmp 3)), (.some (45, .true))⟩, ⟨(.some 47), (.slStr (.tmp 46) (.some (.const (.int .i64 2))) .none), (.some (45, .true))⟩, ⟨(.some 48), (.mov (.tmp 3)), (.some (45, .true))⟩, ⟨(.some 49), (.slStr (.tmp 48) (.some (.const (.int .i64 1))) (.some (.const (.int .i64 2)))), (.some (45, .true))⟩, ⟨(.some 50), (.call 13 [(.tmp 47), (.tmp 49)]), (.some (45, .true))⟩, ⟨(.some 51), (.mov (.tmp 0)), (.some (45, .true))⟩, ⟨(.some 52), (.call 12 [(.tmp 50), (.tmp 51)]), (.some (45, .true))⟩, ⟨(.some 53), (.pick (.tmp 45) (.tmp 52) (.const (.bool .false))), .none⟩, ⟨(.some 2), (.mov (.tmp 53)), .none⟩]
def c3_1 : PCode := (.keep [0, 3] [] [] (.seq (.regD p3_7 []) .ret))
def c3_b : PCode := (.seq (.reg p3_3) (.seq (.reg p3_4) (.seq (.seq (.reg p3_5) (.cond (.tmp 15) c3_2 .skip)) c3_1)))
def c3 : FCode := ⟨54, c3_b, [(.tmp 2)], some ([2], [], []), false⟩
theorem c3_ok : compF Go.Proofs.Tryd.prog [] 3 = some (eraseF c3) := by kernel_rfl
def p15_5 : List PO := [⟨(.some 4), (.mov (.const (.string ⟨#[]⟩))), .none⟩, ⟨(.some 5), (.mov (.const (.int .i64 0))), .none⟩]
def p15_6 : List PO := [⟨(.some 8), (.mov (.tmp 1)), .none⟩, ⟨(.some 9), (.strO .eql (.tmp 8) (.const (.string ⟨#[]⟩))), .none⟩, ⟨(.some 10), (.mov (.tmp 9)), .none⟩, ⟨(.some 11), (.mov (.tmp 1)), (.some (10, .false))⟩, ⟨(.some 12), (.ixStr (.tmp 11) (.const (.int .i64 0))), (.some (10, .false))⟩, ⟨(.some 13), (.cmpI .neq (.tmp 12) (.const (.int .u8 2))), (.some (10, .false))⟩, ⟨(.some 14), (.mov (.tmp 13)), (.some (10, .false))⟩, ⟨(.some 15), (.mov (.tmp 1)), (.some (14, .true))⟩, ⟨(.some 16), (.strO .neq (.tmp 15) (.const (.string ⟨#[3]⟩))), (.some (14, .true))⟩, ⟨(.some 17), (.pick (.tmp 14) (.tmp 16) (.const (.bool .false))), (.some (10, .false))⟩, ⟨(.some 18), (.pick (.tmp 10) (.const (.bool .true)) (.tmp 17)), .none⟩]
def p15_7 : List PO := [⟨(.some 4), (.mov (.const (.string ⟨#[]⟩))), .none⟩, ⟨(.some 5), (.mov (.const (.int .i64 4))), .none⟩]
def p15_8 : List PO := [⟨(.some 19), (.mov (.tmp 1)), .none⟩, ⟨(.some 20), (.ixStr (.tmp 19) (.const (.int .i64 0))), .none⟩, ⟨(.some 21), (.cmpI .eql (.tmp 20) (.const (.int .u8 2))), .none⟩]
def p15_9 : List PO := [⟨(.some 22), (.mov (.tmp 0)), .none⟩, ⟨(.some 23), (.len .false (.tmp 22)), .none⟩, ⟨(.some 24), (.mov (.const (.int .i64 0))), .none⟩]
def p15_10 : List PO := [⟨(.some 25), (.cmpI .lss (.tmp 24) (.tmp 23)), .none⟩]
def p15_11 : List PO := [⟨(.some 26), (.ixS 9 1 (.tmp 22) (.tmp 24)), .none⟩, ⟨(.some 27), (.load .false 1 (.tmp 26)), .none⟩, ⟨(.some 7), (.mov (.tmp 27)), .none⟩]
def p15_12 : List PO := [⟨(.some 28), (.mov (.tmp 7)), .none⟩, ⟨(.some 29), (.call 32 [(.tmp 28)]), .none⟩, ⟨(.some 30), (.mov (.tmp 1)), .none⟩, ⟨(.some 31), (.slStr (.tmp 30) (.some (.const (.int .i64 1))) .none), .none⟩, ⟨(.some 32), (.call 32 [(.tmp 31)]), .none⟩, ⟨(.some 33), (.strO .eql (.tmp 29) (.tmp 32)), .none⟩]
def p15_13 : List PO := [⟨(.some 34), (.mov (.tmp 7)), .none⟩, ⟨(.some 4), (.mov (.tmp 34)), .none⟩, ⟨(.some 5), (.mov (.const (.int .i64 0))), .none⟩]
def p15_14 : List PO := [⟨(.some 35), (.arI .add (.tmp 24) (.const (.int .i64 1))), .none⟩, ⟨(.some 24), (.mov (.tmp 35)), .none⟩]
def c15_1 : PCode := (.keep [1, 22, 23, 24] [] [] (.seq (.block 1 (.seq (.reg p15_11) (.seq (.regD p15_12 []) (.cond (.tmp 33) (.seq (.reg p15_13) .ret) .skip)))) (.reg p15_14)))
def c15_2 : PCode := (.keep [1, 22, 23, 24, 25] [] [] (.seq (.cond (.tmp 25) .skip (.keep [] [] [] (.exit 0))) c15_1))
def c15_3 : PCode := (.keep [1, 22, 23, 24] [] [] (.seq (.reg p15_10) c15_2))
def p15_15 : List PO := [⟨(.some 4), (.mov (.const (.string ⟨#[]⟩))), .none⟩, ⟨(.some 5), (.mov (.const (.int .i64 6))), .none⟩]
def c15_4 : PCode := (.keep [0, 1] [] [] (.seq (.seq (.reg p15_8) (.cond (.tmp 21) (.seq (.reg p15_9) (.block 0 (.loop c15_3))) .skip)) (.seq (.reg p15_15) .ret)))
def c15_b : PCode := (.seq (.reg p15_5) (.seq (.seq (.reg p15_6) (.cond (.tmp 18) (.seq (.reg p15_7) .ret) .skip)) c15_4))
def c15 : FCode := ⟨36, c15_b, [(.tmp 4), (.tmp 5)], some ([4, 5], [], []), false⟩
theorem c15_ok : compF Go.Proofs.Tryd.prog [] 15 = some (eraseF c15) := by kernel_rfl
def p16_4 : List PO := [⟨(.some 2), (.mov (.const (.string ⟨#[]⟩))), .none⟩]
def p16_5 : List PO := [⟨(.some 6), (.mov (.tmp 0)), .none⟩, ⟨(.some 7), (.cvSO 5 (.tmp 6)), .none⟩, ⟨(.some 3), (.mov (.tmp 7)), .none⟩]
def p16_6 : List PO := [⟨(.some 8), (.mov (.tmp 3)), .none⟩, ⟨(.some 9), (.len .false (.tmp 8)), .none⟩, ⟨(.some 10), (.mov (.const (.int .i64 0))), .none⟩]
def p16_7 : List PO := [⟨(.some 11), (.cmpI .lss (.tmp 10) (.tmp 9)), .none⟩]
def p16_8 : List PO := [⟨(.some 12), (.mov (.tmp 10)), .none⟩, ⟨(.some 13), (.ixS 5 1 (.tmp 8) (.tmp 10)), .none⟩, ⟨(.some 14), (.load .false 1 (.tmp 13)), .none⟩, ⟨(.some 4), (.mov (.tmp 12)), .none⟩, ⟨(.some 5), (.mov (.tmp 14)), .none⟩]
def p16_9 : List PO := [⟨(.some 15), (.mov (.tmp 5)), .none⟩, ⟨(.some 16), (.cmpI .geq (.tmp 15) (.const (.int .u8 97))), .none⟩, ⟨(.some 17), (.mov (.tmp 16)), .none⟩, ⟨(.some 18), (.mov (.tmp 5)), (.some (17, .true))⟩, ⟨(.some 19), (.cmpI .leq (.tmp 18) (.const (.int .u8 122))), (.some (17, .true))⟩, ⟨(.some 20), (.pick (.tmp 17) (.tmp 19) (.const (.bool .false))), .none⟩]
def p16_10 : List PO := [⟨(.some 21), (.mov (.tmp 3)), .none⟩, ⟨(.some 22), (.mov (.tmp 4)), .none⟩, ⟨(.some 23), (.mov (.tmp 5)), .none⟩, ⟨(.some 24), (.arI .sub (.tmp 23) (.const (.int .u8 32))), .none⟩, ⟨(.some 25), (.ixS 5 1 (.tmp 21) (.tmp 22)), .none⟩, ⟨.none, (.store 1 (.tmp 25) (.tmp 24)), .none⟩]
def p16_11 : List PO := [⟨(.some 26), (.arI .add (.tmp 10) (.const (.int .i64 1))), .none⟩, ⟨(.some 10), (.mov (.tmp 26)), .none⟩]
def c16_1 : PCode := (.keep [3, 8, 9, 10] [(64, .id 64)] [] (.seq (.block 1 (.seq (.reg p16_8) (.seq (.reg p16_9) (.cond (.tmp 20) (.reg p16_10) .skip)))) (.reg p16_11)))
def c16_2 : PCode := (.keep [3, 8, 9, 10, 11] [(64, .id 64)] [] (.seq (.cond (.tmp 11) .skip (.keep [3] [(64, .id 64)] [] (.exit 0))) c16_1))
def c16_3 : PCode := (.keep [3, 8, 9, 10] [(64, .id 64)] [] (.seq (.reg p16_7) c16_2))
def p16_12 : List PO := [⟨(.some 27), (.mov (.tmp 3)), .none⟩, ⟨(.some 28), (.cvBS (.tmp 27)), .none⟩, ⟨(.some 2), (.mov (.tmp 28)), .none⟩]
def c16_b : PCode := (.seq (.reg p16_4) (.seq (.reg p16_5) (.seq (.seq (.reg p16_6) (.block 0 (.loop c16_3))) (.seq (.reg p16_12) .ret))))
def c16 : FCode := ⟨29, c16_b, [(.tmp 2)], some ([2], [], []), false⟩
theorem c16_ok : compF Go.Proofs.Tryd.prog [] 16 = some (eraseF c16) := by kernel_rfl
def p4_11 : List PO := [⟨(.some 4), (.mov (.const (.bool .false))), .none⟩]
def p4_12 : List PO := [⟨(.some 17), (.mov (.tmp 0)), .none⟩, ⟨(.some 18), (.call 8 [(.tmp 17)]), .none⟩, ⟨(.some 16), (.mov (.tmp 18)), .none⟩, ⟨(.some 19), (.ext (.tmp 16) 0), .none⟩, ⟨(.some 20), (.ext (.tmp 16) 1), .none⟩, ⟨(.some 5), (.mov (.tmp 19)), .none⟩, ⟨(.some 6), (.mov (.tmp 20)), .none⟩]
def p4_13 : List PO := [⟨(.some 21), (.call 9 []), .none⟩, ⟨(.some 22), (.un .not (.tmp 21)), .none⟩, ⟨(.some 23), (.mov (.tmp 22)), .none⟩, ⟨(.some 24), (.mov (.tmp 6)), (.some (23, .false))⟩, ⟨(.some 25), (.cmpI .neq (.tmp 24) (.const (.int .i64 0))), (.some (23, .false))⟩, ⟨(.some 26), (.pick (.tmp 23) (.const (.bool .true)) (.tmp 25)), .none⟩]
def p4_14 : List PO := [⟨(.some 27), (.call 9 []), .none⟩, ⟨(.some 28), (.mov (.tmp 27)), .none⟩, ⟨(.some 29), (.mov (.tmp 5)), (.some (28, .true))⟩, ⟨(.some 30), (.strO .eql (.tmp 29) (.const (.string ⟨#[]⟩))), (.some (28, .true))⟩, ⟨(.some 31), (.pick (.tmp 28) (.tmp 30) (.const (.bool .false))), .none⟩, ⟨(.some 4), (.mov (.tmp 31)), .none⟩]
def c4_10 : PCode := (.keep [5] [] [] (.seq (.reg p4_14) .ret))
def p4_15 : List PO := [⟨(.some 33), (.mov (.tmp 1)), .none⟩, ⟨(.some 34), (.mov (.tmp 5)), .none⟩, ⟨(.some 35), (.call 14 [(.tmp 33), (.tmp 34)]), .none⟩, ⟨(.some 32), (.mov (.tmp 35)), .none⟩, ⟨(.some 36), (.ext (.tmp 32) 0), .none⟩, ⟨(.some 37), (.ext (.tmp 32) 1), .none⟩, ⟨(.some 38), (.ext (.tmp 32) 2), .none⟩, ⟨(.some 7), (.mov (.tmp 36)), .none⟩, ⟨(.some 8), (.mov (.tmp 37)), .none⟩, ⟨(.some 9), (.mov (.tmp 38)), .none⟩]
def p4_16 : List PO := [⟨(.some 40), (.mov (.tmp 0)), .none⟩, ⟨(.some 41), (.mov (.tmp 7)), .none⟩, ⟨(.some 42), (.call 15 [(.tmp 40), (.tmp 41)]), .none⟩, ⟨(.some 39), (.mov (.tmp 42)), .none⟩, ⟨(.some 43), (.ext (.tmp 39) 0), .none⟩, ⟨(.some 44), (.ext (.tmp 39) 1), .none⟩, ⟨(.some 10), (.mov (.tmp 43)), .none⟩, ⟨(.some 11), (.mov (.tmp 44)), .none⟩]
def p4_17 : List PO := [⟨(.some 45), (.mov (.tmp 9)), .none⟩, ⟨(.some 46), (.cmpI .neq (.tmp 45) (.const (.int .i64 0))), .none⟩]
def p4_18 : List PO := [⟨(.some 4), (.mov (.const (.bool .false))), .none⟩]
def p4_19 : List PO := [⟨(.some 47), (.mov (.tmp 0)), .none⟩, ⟨(.some 48), (.len .false (.tmp 47)), .none⟩, ⟨(.some 49), (.mov (.const (.int .i64 0))), .none⟩]
def p4_20 : List PO := [⟨(.some 50), (.cmpI .lss (.tmp 49) (.tmp 48)), .none⟩]
def p4_21 : List PO := [⟨(.some 51), (.ixS 9 1 (.tmp 47) (.tmp 49)), .none⟩, ⟨(.some 52), (.load .false 1 (.tmp 51)), .none⟩, ⟨(.some 13), (.mov (.tmp 52)), .none⟩]
def p4_22 : List PO := [⟨(.some 53), (.mov (.tmp 1)), .none⟩, ⟨(.some 54), (.len .false (.tmp 53)), .none⟩, ⟨(.some 55), (.mov (.const (.int .i64 0))), .none⟩]
def p4_23 : List PO := [⟨(.some 56), (.cmpI .lss (.tmp 55) (.tmp 54)), .none⟩]
def p4_24 : List PO := [⟨(.some 57), (.ixS 9 1 (.tmp 53) (.tmp 55)), .none⟩, ⟨(.some 58), (.load .false 1 (.tmp 57)), .none⟩, ⟨(.some 15), (.mov (.tmp 58)), .none⟩]
def p4_25 : List PO := [⟨(.some 59), (.mov (.tmp 13)), .none⟩, ⟨(.some 60), (.call 16 [(.tmp 59)]), .none⟩, ⟨(.some 61), (.mov (.tmp 15)), .none⟩, ⟨(.some 62), (.call 16 [(.tmp 61)]), .none⟩, ⟨(.some 63), (.strO .eql (.tmp 60) (.tmp 62)), .none⟩]
def p4_26 : List PO := [⟨(.some 64), (.mov (.tmp 11)), .none⟩, ⟨(.some 65), (.cmpI .eql (.tmp 64) (.const (.int .i64 0))), .none⟩, ⟨(.some 66), (.mov (.tmp 65)), .none⟩, ⟨(.some 67), (.mov (.tmp 10)), (.some (66, .true))⟩, ⟨(.some 68), (.call 16 [(.tmp 67)]), (.some (66, .true))⟩, ⟨(.some 69), (.mov (.tmp 13)), (.some (66, .true))⟩, ⟨(.some 70), (.call 16 [(.tmp 69)]), (.some (66, .true))⟩, ⟨(.some 71), (.strO .eql (.tmp 68) (.tmp 70)), (.some (66, .true))⟩, ⟨(.some 72), (.pick (.tmp 66) (.tmp 71) (.const (.bool .false))), .none⟩, ⟨(.some 73), (.mov (.tmp 72)), .none⟩, ⟨(.some 74), (.mov (.tmp 8)), (.some (73, .true))⟩, ⟨(.some 75), (.mov (.tmp 15)), (.some (73, .true))⟩, ⟨(.some 76), (.strO .eql (.tmp 74) (.tmp 75)), (.some (73, .true))⟩, ⟨(.some 77), (.pick (.tmp 73) (.tmp 76) (.const (.bool .false))), .none⟩, ⟨(.some 4), (.mov (.tmp 77)), .none⟩]
def p4_27 : List PO := [⟨(.some 78), (.arI .add (.tmp 55) (.const (.int .i64 1))), .none⟩, ⟨(.some 55), (.mov (.tmp 78)), .none⟩]
def c4_2 : PCode := (.keep [1, 7, 8, 10, 11, 13, 47, 48, 49, 53, 54, 55] [] [] (.seq (.block 3 (.seq (.reg p4_24) (.seq (.reg p4_25) (.cond (.tmp 63) (.seq (.reg p4_26) .ret) .skip)))) (.reg p4_27)))
def c4_3 : PCode := (.keep [1, 7, 8, 10, 11, 13, 47, 48, 49, 53, 54, 55, 56] [] [] (.seq (.cond (.tmp 56) .skip (.keep [1, 7, 8, 10, 11, 47, 48, 49] [] [] (.exit 2))) c4_2))
def c4_4 : PCode := (.keep [1, 7, 8, 10, 11, 13, 47, 48, 49, 53, 54, 55] [] [] (.seq (.reg p4_23) c4_3))
def p4_28 : List PO := [⟨(.some 79), (.arI .add (.tmp 49) (.const (.int .i64 1))), .none⟩, ⟨(.some 49), (.mov (.tmp 79)), .none⟩]
def c4_5 : PCode := (.keep [1, 7, 8, 10, 11, 47, 48, 49] [] [] (.seq (.block 1 (.seq (.reg p4_21) (.seq (.reg p4_22) (.block 2 (.loop c4_4))))) (.reg p4_28)))
def c4_6 : PCode := (.keep [1, 7, 8, 10, 11, 47, 48, 49, 50] [] [] (.seq (.cond (.tmp 50) .skip (.keep [7, 8, 10, 11] [] [] (.exit 0))) c4_5))
def c4_7 : PCode := (.keep [1, 7, 8, 10, 11, 47, 48, 49] [] [] (.seq (.reg p4_20) c4_6))
def p4_29 : List PO := [⟨(.some 80), (.mov (.tmp 11)), .none⟩, ⟨(.some 81), (.cmpI .eql (.tmp 80) (.const (.int .i64 6))), .none⟩, ⟨(.some 82), (.mov (.tmp 81)), .none⟩, ⟨(.some 83), (.mov (.tmp 10)), (.some (82, .true))⟩, ⟨(.some 84), (.strO .eql (.tmp 83) (.const (.string ⟨#[]⟩))), (.some (82, .true))⟩, ⟨(.some 85), (.pick (.tmp 82) (.tmp 84) (.const (.bool .false))), .none⟩, ⟨(.some 86), (.mov (.tmp 85)), .none⟩, ⟨(.some 87), (.mov (.tmp 8)), (.some (86, .true))⟩, ⟨(.some 88), (.strO .eql (.tmp 87) (.const (.string ⟨#[]⟩))), (.some (86, .true))⟩, ⟨(.some 89), (.pick (.tmp 86) (.tmp 88) (.const (.bool .false))), .none⟩, ⟨(.some 90), (.mov (.tmp 89)), .none⟩, ⟨(.some 91), (.mov (.tmp 7)), (.some (90, .true))⟩, ⟨(.some 92), (.strO .eql (.tmp 91) (.const (.string ⟨#[3]⟩))), (.some (90, .true))⟩, ⟨(.some 93), (.pick (.tmp 90) (.tmp 92) (.const (.bool .false))), .none⟩, ⟨(.some 4), (.mov (.tmp 93)), .none⟩]
def c4_1 : PCode := (.keep [7, 8, 10, 11] [] [] (.seq (.reg p4_29) .ret))
def c4_8 : PCode := (.keep [0, 1, 7, 8, 10, 11] [] [] (.seq (.seq (.reg p4_19) (.block 0 (.loop c4_7))) c4_1))
def c4_9 : PCode := (.keep [0, 1, 5] [] [] (.seq (.reg p4_15) (.seq (.reg p4_16) (.seq (.seq (.reg p4_17) (.cond (.tmp 46) (.seq (.reg p4_18) .ret) .skip)) c4_8))))
def c4_b : PCode := (.seq (.reg p4_11) (.seq (.reg p4_12) (.seq (.seq (.reg p4_13) (.cond (.tmp 26) c4_10 .skip)) c4_9)))
def c4 : FCode := ⟨94, c4_b, [(.tmp 4)], some ([4], [], []), false⟩
theorem c4_ok : compF Go.Proofs.Tryd.prog [] 4 = some (eraseF c4) := by kernel_rfl
def p5_3 : List PO := [⟨(.some 6), (.mov (.const (.bool .false))), .none⟩]
def p5_4 : List PO := [⟨(.some 17), (.mov (.tmp 0)), .none⟩, ⟨(.some 18), (.mov (.tmp 1)), .none⟩, ⟨(.some 19), (.call 14 [(.tmp 17), (.tmp 18)]), .none⟩, ⟨(.some 16), (.mov (.tmp 19)), .none⟩, ⟨(.some 20), (.ext (.tmp 16) 0), .none⟩, ⟨(.some 21), (.ext (.tmp 16) 1), .none⟩, ⟨(.some 22), (.ext (.tmp 16) 2), .none⟩, ⟨(.some 7), (.mov (.tmp 20)), .none⟩, ⟨(.some 8), (.mov (.tmp 21)), .none⟩, ⟨(.some 9), (.mov (.tmp 22)), .none⟩]
def p5_5 : List PO := [⟨(.some 23), (.call 9 []), .none⟩, ⟨(.some 24), (.un .not (.tmp 23)), .none⟩, ⟨(.some 25), (.mov (.tmp 24)), .none⟩, ⟨(.some 26), (.mov (.tmp 1)), (.some (25, .false))⟩, ⟨(.some 27), (.len .true (.tmp 26)), (.some (25, .false))⟩, ⟨(.some 28), (.cmpI .lss (.tmp 27) (.const (.int .i64 2))), (.some (25, .false))⟩, ⟨(.some 29), (.pick (.tmp 25) (.const (.bool .true)) (.tmp 28)), .none⟩, ⟨(.some 30), (.mov (.tmp 29)), .none⟩, ⟨(.some 31), (.mov (.tmp 1)), (.some (30, .false))⟩, ⟨(.some 32), (.ixStr (.tmp 31) (.const (.int .i64 1))), (.some (30, .false))⟩, ⟨(.some 33), (.cmpI .geq (.tmp 32) (.const (.int .u8 65))), (.some (30, .false))⟩, ⟨(.some 34), (.pick (.tmp 30) (.const (.bool .true)) (.tmp 33)), .none⟩]
def p5_6 : List PO := [⟨(.some 35), (.call 9 []), .none⟩, ⟨(.some 6), (.mov (.tmp 35)), .none⟩]
def p5_7 : List PO := [⟨(.some 36), (.mov (.tmp 1)), .none⟩, ⟨(.some 37), (.call 16 [(.tmp 36)]), .none⟩, ⟨(.some 10), (.mov (.tmp 37)), .none⟩]
def p5_8 : List PO := [⟨(.some 39), (.mov (.tmp 0)), .none⟩, ⟨(.some 40), (.mov (.tmp 10)), .none⟩, ⟨(.some 41), (.call 14 [(.tmp 39), (.tmp 40)]), .none⟩, ⟨(.some 38), (.mov (.tmp 41)), .none⟩, ⟨(.some 42), (.ext (.tmp 38) 0), .none⟩, ⟨(.some 43), (.ext (.tmp 38) 1), .none⟩, ⟨(.some 44), (.ext (.tmp 38) 2), .none⟩, ⟨(.some 11), (.mov (.tmp 42)), .none⟩, ⟨(.some 12), (.mov (.tmp 43)), .none⟩, ⟨(.some 13), (.mov (.tmp 44)), .none⟩]
def p5_9 : List PO := [⟨(.some 45), (.mov (.tmp 2)), .none⟩]
def p5_10 : List PO := [⟨(.some 46), (.mov (.tmp 9)), .none⟩, ⟨(.some 47), (.mov (.tmp 13)), .none⟩, ⟨(.some 48), (.cmpI .eql (.tmp 46) (.tmp 47)), .none⟩, ⟨(.some 49), (.mov (.tmp 48)), .none⟩, ⟨(.some 50), (.mov (.tmp 8)), (.some (49, .true))⟩, ⟨(.some 51), (.mov (.tmp 12)), (.some (49, .true))⟩, ⟨(.some 52), (.strO .eql (.tmp 50) (.tmp 51)), (.some (49, .true))⟩, ⟨(.some 53), (.pick (.tmp 49) (.tmp 52) (.const (.bool .false))), .none⟩, ⟨(.some 54), (.mov (.tmp 53)), .none⟩, ⟨(.some 55), (.mov (.tmp 7)), (.some (54, .true))⟩, ⟨(.some 56), (.call 16 [(.tmp 55)]), (.some (54, .true))⟩, ⟨(.some 57), (.mov (.tmp 11)), (.some (54, .true))⟩, ⟨(.some 58), (.strO .eql (.tmp 56) (.tmp 57)), (.some (54, .true))⟩, ⟨(.some 59), (.pick (.tmp 54) (.tmp 58) (.const (.bool .false))), .none⟩, ⟨(.some 6), (.mov (.tmp 59)), .none⟩]
def p5_11 : List PO := [⟨(.some 61), (.mov (.tmp 0)), .none⟩, ⟨(.some 62), (.mov (.tmp 7)), .none⟩, ⟨(.some 63), (.call 15 [(.tmp 61), (.tmp 62)]), .none⟩, ⟨(.some 60), (.mov (.tmp 63)), .none⟩, ⟨(.some 64), (.ext (.tmp 60) 0), .none⟩, ⟨(.some 65), (.ext (.tmp 60) 1), .none⟩, ⟨(.some 14), (.mov (.tmp 64)), .none⟩, ⟨(.some 15), (.mov (.tmp 65)), .none⟩]
def p5_12 : List PO := [⟨(.some 66), (.mov (.tmp 9)), .none⟩, ⟨(.some 67), (.mov (.tmp 13)), .none⟩, ⟨(.some 68), (.cmpI .eql (.tmp 66) (.tmp 67)), .none⟩, ⟨(.some 69), (.mov (.tmp 68)), .none⟩, ⟨(.some 70), (.mov (.tmp 9)), (.some (69, .true))⟩, ⟨(.some 71), (.cmpI .neq (.tmp 70) (.const (.int .i64 0))), (.some (69, .true))⟩, ⟨(.some 72), (.mov (.tmp 71)), (.some (69, .true))⟩, ⟨(.some 73), (.mov (.tmp 15)), (.some (72, .false))⟩, ⟨(.some 74), (.cmpI .eql (.tmp 73) (.const (.int .i64 0))), (.some (72, .false))⟩, ⟨(.some 75), (.mov (.tmp 8)), (.some (72, .false))⟩, ⟨(.some 76), (.strO .neq (.tmp 75) (.const (.string ⟨#[]⟩))), (.some (72, .false))⟩, ⟨(.some 77), (.eqB .false (.tmp 74) (.tmp 76)), (.some (72, .false))⟩, ⟨(.some 78), (.pick (.tmp 72) (.const (.bool .true)) (.tmp 77)), (.some (69, .true))⟩, ⟨(.some 79), (.pick (.tmp 69) (.tmp 78) (.const (.bool .false))), .none⟩, ⟨(.some 6), (.mov (.tmp 79)), .none⟩]
def c5_1 : PCode := (.keep [0, 7, 8, 9, 13] [] [] (.seq (.reg p5_11) (.seq (.reg p5_12) .ret)))
def c5_2 : PCode := (.keep [0, 1, 2, 7, 8, 9] [] [] (.seq (.reg p5_7) (.seq (.reg p5_8) (.seq (.seq (.reg p5_9) (.cond (.tmp 45) (.seq (.reg p5_10) .ret) .skip)) c5_1))))
def c5_b : PCode := (.seq (.reg p5_3) (.seq (.reg p5_4) (.seq (.seq (.reg p5_5) (.cond (.tmp 34) (.seq (.reg p5_6) .ret) .skip)) c5_2)))
def c5 : FCode := ⟨80, c5_b, [(.tmp 6)], some ([6], [], []), false⟩
theorem c5_ok : compF Go.Proofs.Tryd.prog [] 5 = some (eraseF c5) := by kernel_rfl
def codes : Nat → Option FCode
  | 3 => some c3
  | 4 => some c4
  | 5 => some c5
  | 8 => some c8
  | 9 => some c9
  | 12 => some c12
  | 14 => some c14
  | 15 => some c15
  | 16 => some c16
  | 22 => some c22
  | 23 => some c23
  | 24 => some c24
  | 25 => some c25
  | 31 => some c31
  | 32 => some c32
  | 38 => some c38
  | _ => none
theorem codes_ok : ∀ f fc, codes f = some fc → compF Go.Proofs.Tryd.prog [] f = some (eraseF fc) := by
  intro f fc h
  unfold codes at h
  split at h
  · cases h; exact c3_ok
  · cases h; exact c4_ok
  · cases h; exact c5_ok
  · cases h; exact c8_ok
  · cases h; exact c9_ok
  · cases h; exact c12_ok
  · cases h; exact c14_ok
  · cases h; exact c15_ok
  · cases h; exact c16_ok
  · cases h; exact c22_ok
  · cases h; exact c23_ok
  · cases h; exact c24_ok
  · cases h; exact c25_ok
  · cases h; exact c31_ok
  · cases h; exact c32_ok
  · cases h; exact c38_ok
  · cases h
theorem codes3 : codes 3 = some c3 := rfl
theorem codes4 : codes 4 = some c4 := rfl
theorem codes5 : codes 5 = some c5 := rfl
theorem codes8 : codes 8 = some c8 := rfl
theorem codes9 : codes 9 = some c9 := rfl
theorem codes12 : codes 12 = some c12 := rfl
theorem codes14 : codes 14 = some c14 := rfl
theorem codes15 : codes 15 = some c15 := rfl
theorem codes16 : codes 16 = some c16 := rfl
theorem codes22 : codes 22 = some c22 := rfl
theorem codes23 : codes 23 = some c23 := rfl
theorem codes24 : codes 24 = some c24 := rfl
theorem codes25 : codes 25 = some c25 := rfl
theorem codes31 : codes 31 = some c31 := rfl
theorem codes32 : codes 32 = some c32 := rfl
theorem codes38 : codes 38 = some c38 := rfl
noncomputable def libs : List (Nat × (List PV → Option PV)) := [(10, ossB libContains), (11, oSsS libJoin), (13, ossL libSplit)]
noncomputable abbrev baseL : Orc := libO libs
end Go.Proofs.YtncgibcnibbdeaaDoor.Pm
