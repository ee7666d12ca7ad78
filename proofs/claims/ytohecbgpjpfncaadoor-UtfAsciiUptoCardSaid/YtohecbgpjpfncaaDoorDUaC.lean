/- The small machine's codes of some functions. Printed by dec.py. -/
import Derived.Test.YtohecbgpjpfncaaDoorLib1
import Derived.Test.YtohecbgpjpfncaaDoorProg
namespace Go.Proofs.YtohecbgpjpfncaaDoor.Pm
set_option maxRecDepth 1000000
set_option maxHeartbeats 20000000
set_option linter.unusedVariables false
def p22_4 : List PO := [⟨(.some 2), (.mov (.const (.int .i64 0))), .none⟩, ⟨(.some 3), (.mov (.const (.int .u8 0))), .none⟩, ⟨(.some 4), (.mov (.const (.int .u8 0))), .none⟩]
def p22_5 : List PO := [⟨(.some 6), (.mov (.tmp 0)), .none⟩, ⟨(.some 7), (.cmpI .geq (.tmp 6) (.const (.int .u8 194))), .none⟩, ⟨(.some 8), (.mov (.tmp 7)), .none⟩, ⟨(.some 9), (.mov (.tmp 0)), (.some (8, .true))⟩, ⟨(.some 10), (.cmpI .leq (.tmp 9) (.const (.int .u8 223))), (.some (8, .true))⟩, ⟨(.some 11), (.pick (.tmp 8) (.tmp 10) (.const (.bool .false))), .none⟩, ⟨(.some 5), (.mov (.tmp 11)), .none⟩]
def p22_6 : List PO := [⟨(.some 2), (.mov (.const (.int .i64 1))), .none⟩, ⟨(.some 3), (.mov (.const (.int .u8 128))), .none⟩, ⟨(.some 4), (.mov (.const (.int .u8 191))), .none⟩]
def p22_7 : List PO := [⟨(.some 13), (.mov (.tmp 0)), .none⟩, ⟨(.some 14), (.cmpI .eql (.tmp 13) (.const (.int .u8 224))), .none⟩, ⟨(.some 12), (.mov (.tmp 14)), .none⟩]
def p22_8 : List PO := [⟨(.some 2), (.mov (.const (.int .i64 2))), .none⟩, ⟨(.some 3), (.mov (.const (.int .u8 160))), .none⟩, ⟨(.some 4), (.mov (.const (.int .u8 191))), .none⟩]
def p22_9 : List PO := [⟨(.some 16), (.mov (.tmp 0)), .none⟩, ⟨(.some 17), (.cmpI .eql (.tmp 16) (.const (.int .u8 237))), .none⟩, ⟨(.some 15), (.mov (.tmp 17)), .none⟩]
def p22_10 : List PO := [⟨(.some 2), (.mov (.const (.int .i64 2))), .none⟩, ⟨(.some 3), (.mov (.const (.int .u8 128))), .none⟩, ⟨(.some 4), (.mov (.const (.int .u8 159))), .none⟩]
def p22_11 : List PO := [⟨(.some 19), (.mov (.tmp 0)), .none⟩, ⟨(.some 20), (.cmpI .geq (.tmp 19) (.const (.int .u8 225))), .none⟩, ⟨(.some 21), (.mov (.tmp 20)), .none⟩, ⟨(.some 22), (.mov (.tmp 0)), (.some (21, .true))⟩, ⟨(.some 23), (.cmpI .leq (.tmp 22) (.const (.int .u8 239))), (.some (21, .true))⟩, ⟨(.some 24), (.pick (.tmp 21) (.tmp 23) (.const (.bool .false))), .none⟩, ⟨(.some 18), (.mov (.tmp 24)), .none⟩]
def p22_12 : List PO := [⟨(.some 2), (.mov (.const (.int .i64 2))), .none⟩, ⟨(.some 3), (.mov (.const (.int .u8 128))), .none⟩, ⟨(.some 4), (.mov (.const (.int .u8 191))), .none⟩]
def p22_13 : List PO := [⟨(.some 26), (.mov (.tmp 0)), .none⟩, ⟨(.some 27), (.cmpI .eql (.tmp 26) (.const (.int .u8 240))), .none⟩, ⟨(.some 25), (.mov (.tmp 27)), .none⟩]
def p22_14 : List PO := [⟨(.some 2), (.mov (.const (.int .i64 3))), .none⟩, ⟨(.some 3), (.mov (.const (.int .u8 144))), .none⟩, ⟨(.some 4), (.mov (.const (.int .u8 191))), .none⟩]
def p22_15 : List PO := [⟨(.some 29), (.mov (.tmp 0)), .none⟩, ⟨(.some 30), (.cmpI .eql (.tmp 29) (.const (.int .u8 244))), .none⟩, ⟨(.some 28), (.mov (.tmp 30)), .none⟩]
def p22_16 : List PO := [⟨(.some 2), (.mov (.const (.int .i64 3))), .none⟩, ⟨(.some 3), (.mov (.const (.int .u8 128))), .none⟩, ⟨(.some 4), (.mov (.const (.int .u8 143))), .none⟩]
def p22_17 : List PO := [⟨(.some 32), (.mov (.tmp 0)), .none⟩, ⟨(.some 33), (.cmpI .geq (.tmp 32) (.const (.int .u8 241))), .none⟩, ⟨(.some 34), (.mov (.tmp 33)), .none⟩, ⟨(.some 35), (.mov (.tmp 0)), (.some (34, .true))⟩, ⟨(.some 36), (.cmpI .leq (.tmp 35) (.const (.int .u8 243))), (.some (34, .true))⟩, ⟨(.some 37), (.pick (.tmp 34) (.tmp 36) (.const (.bool .false))), .none⟩, ⟨(.some 31), (.mov (.tmp 37)), .none⟩]
def p22_18 : List PO := [⟨(.some 2), (.mov (.const (.int .i64 3))), .none⟩, ⟨(.some 3), (.mov (.const (.int .u8 128))), .none⟩, ⟨(.some 4), (.mov (.const (.int .u8 191))), .none⟩]
def c22_1 : PCode := (.keep [0] [] [] (.seq (.reg p22_13) (.cond (.tmp 25) (.seq (.reg p22_14) .ret) (.seq (.reg p22_15) (.cond (.tmp 28) (.seq (.reg p22_16) .ret) (.seq (.reg p22_17) (.cond (.tmp 31) (.seq (.reg p22_18) .ret) .skip)))))))
def c22_3 : PCode := (.keep [0] [] [] (.seq (.reg p22_7) (.cond (.tmp 12) (.seq (.reg p22_8) .ret) (.seq (.reg p22_9) (.cond (.tmp 15) (.seq (.reg p22_10) .ret) (.seq (.reg p22_11) (.cond (.tmp 18) (.seq (.reg p22_12) .ret) c22_1)))))))
def p22_19 : List PO := [⟨(.some 2), (.mov (.const (.int .i64 0))), .none⟩, ⟨(.some 3), (.mov (.const (.int .u8 0))), .none⟩, ⟨(.some 4), (.mov (.const (.int .u8 0))), .none⟩]
def c22_2 : PCode := (.seq (.reg p22_19) .ret)
def c22_b : PCode := (.seq (.reg p22_4) (.seq (.block 0 (.seq (.reg p22_5) (.cond (.tmp 5) (.seq (.reg p22_6) .ret) c22_3))) c22_2))
def c22 : FCode := ⟨38, c22_b, [(.tmp 2), (.tmp 3), (.tmp 4)], some ([2, 3, 4], [], []), false⟩
theorem c22_ok : compF Go.Proofs.Tryd.prog [200015, 15, 20, 24] 22 = some (eraseF c22) := by kernel_rfl
def p17_3 : List PO := [⟨(.some 2), (.mov (.const (.int .i64 0))), .none⟩, ⟨(.some 3), (.mov (.const (.bool .false))), .none⟩]
def p17_4 : List PO := [⟨(.some 9), (.mov (.tmp 0)), .none⟩, ⟨(.some 10), (.ixStr (.tmp 9) (.const (.int .i64 0))), .none⟩, ⟨(.some 11), (.call 22 [(.tmp 10)]), .none⟩, ⟨(.some 8), (.mov (.tmp 11)), .none⟩, ⟨(.some 12), (.ext (.tmp 8) 0), .none⟩, ⟨(.some 13), (.ext (.tmp 8) 1), .none⟩, ⟨(.some 14), (.ext (.tmp 8) 2), .none⟩, ⟨(.some 4), (.mov (.tmp 12)), .none⟩, ⟨(.some 5), (.mov (.tmp 13)), .none⟩, ⟨(.some 6), (.mov (.tmp 14)), .none⟩]
def p17_5 : List PO := [⟨(.some 15), (.mov (.tmp 4)), .none⟩, ⟨(.some 16), (.cmpI .eql (.tmp 15) (.const (.int .i64 0))), .none⟩]
def p17_6 : List PO := [⟨(.some 2), (.mov (.const (.int .i64 0))), .none⟩, ⟨(.some 3), (.mov (.const (.bool .false))), .none⟩]
def p17_7 : List PO := [⟨(.some 7), (.mov (.const (.int .i64 1))), .none⟩]
def p17_8 : List PO := [⟨(.some 17), (.mov (.tmp 7)), .none⟩, ⟨(.some 18), (.mov (.tmp 4)), .none⟩, ⟨(.some 19), (.cmpI .leq (.tmp 17) (.tmp 18)), .none⟩, ⟨(.some 20), (.mov (.tmp 19)), .none⟩, ⟨(.some 21), (.mov (.tmp 7)), (.some (20, .true))⟩, ⟨(.some 22), (.mov (.tmp 0)), (.some (20, .true))⟩, ⟨(.some 23), (.len .true (.tmp 22)), (.some (20, .true))⟩, ⟨(.some 24), (.cmpI .lss (.tmp 21) (.tmp 23)), (.some (20, .true))⟩, ⟨(.some 25), (.pick (.tmp 20) (.tmp 24) (.const (.bool .false))), .none⟩, ⟨(.some 26), (.mov (.tmp 25)), .none⟩, ⟨(.some 27), (.mov (.tmp 0)), (.some (26, .true))⟩, ⟨(.some 28), (.mov (.tmp 7)), (.some (26, .true))⟩, ⟨(.some 29), (.ixStr (.tmp 27) (.tmp 28)), (.some (26, .true))⟩, ⟨(.some 30), (.mov (.tmp 5)), (.some (26, .true))⟩, ⟨(.some 31), (.cmpI .geq (.tmp 29) (.tmp 30)), (.some (26, .true))⟩, ⟨(.some 32), (.pick (.tmp 26) (.tmp 31) (.const (.bool .false))), .none⟩, ⟨(.some 33), (.mov (.tmp 32)), .none⟩, ⟨(.some 34), (.mov (.tmp 0)), (.some (33, .true))⟩, ⟨(.some 35), (.mov (.tmp 7)), (.some (33, .true))⟩, ⟨(.some 36), (.ixStr (.tmp 34) (.tmp 35)), (.some (33, .true))⟩, ⟨(.some 37), (.mov (.tmp 6)), (.some (33, .true))⟩, ⟨(.some 38), (.cmpI .leq (.tmp 36) (.tmp 37)), (.some (33, .true))⟩, ⟨(.some 39), (.pick (.tmp 33) (.tmp 38) (.const (.bool .false))), .none⟩]
def p17_9 : List PO := [⟨(.some 5), (.mov (.const (.int .u8 128))), .none⟩, ⟨(.some 6), (.mov (.const (.int .u8 191))), .none⟩]
def p17_10 : List PO := [⟨(.some 40), (.mov (.tmp 7)), .none⟩, ⟨(.some 41), (.arI .add (.tmp 40) (.const (.int .i64 1))), .none⟩, ⟨(.some 7), (.mov (.tmp 41)), .none⟩]
def c17_1 : PCode := (.keep [0, 4, 5, 6, 7] [] [] (.seq (.seq (.reg p17_8) (.cond (.tmp 39) .skip (.keep [4, 7] [] [] (.exit 0)))) (.block 1 (.seq (.reg p17_9) (.reg p17_10)))))
def p17_11 : List PO := [⟨(.some 42), (.mov (.tmp 7)), .none⟩, ⟨(.some 43), (.mov (.tmp 7)), .none⟩, ⟨(.some 44), (.mov (.tmp 4)), .none⟩, ⟨(.some 45), (.cmpI .gtr (.tmp 43) (.tmp 44)), .none⟩, ⟨(.some 2), (.mov (.tmp 42)), .none⟩, ⟨(.some 3), (.mov (.tmp 45)), .none⟩]
def c17_2 : PCode := (.keep [0, 4, 5, 6] [] [] (.seq (.reg p17_7) (.seq (.block 0 (.loop c17_1)) (.seq (.reg p17_11) .ret))))
def c17_b : PCode := (.seq (.reg p17_3) (.seq (.reg p17_4) (.seq (.seq (.reg p17_5) (.cond (.tmp 16) (.seq (.reg p17_6) .ret) .skip)) c17_2)))
def c17 : FCode := ⟨46, c17_b, [(.tmp 2), (.tmp 3)], some ([2, 3], [], []), false⟩
theorem c17_ok : compF Go.Proofs.Tryd.prog [200015, 15, 20, 24] 17 = some (eraseF c17) := by kernel_rfl
def p11_2 : List PO := [⟨(.some 2), (.mov (.const (.int .i64 0))), .none⟩]
def p11_3 : List PO := [⟨(.some 5), (.mov (.tmp 0)), .none⟩, ⟨(.some 6), (.strO .eql (.tmp 5) (.const (.string ⟨#[]⟩))), .none⟩]
def p11_4 : List PO := [⟨(.some 2), (.mov (.const (.int .i64 0))), .none⟩]
def p11_5 : List PO := [⟨(.some 8), (.mov (.tmp 0)), .none⟩, ⟨(.some 9), (.call 17 [(.tmp 8)]), .none⟩, ⟨(.some 7), (.mov (.tmp 9)), .none⟩, ⟨(.some 10), (.ext (.tmp 7) 0), .none⟩, ⟨(.some 11), (.ext (.tmp 7) 1), .none⟩, ⟨(.some 3), (.mov (.tmp 10)), .none⟩, ⟨(.some 4), (.mov (.tmp 11)), .none⟩]
def p11_6 : List PO := [⟨(.some 12), (.mov (.tmp 4)), .none⟩, ⟨(.some 13), (.mov (.tmp 12)), .none⟩, ⟨(.some 14), (.mov (.tmp 3)), (.some (13, .false))⟩, ⟨(.some 15), (.mov (.tmp 0)), (.some (13, .false))⟩, ⟨(.some 16), (.len .true (.tmp 15)), (.some (13, .false))⟩, ⟨(.some 17), (.cmpI .neq (.tmp 14) (.tmp 16)), (.some (13, .false))⟩, ⟨(.some 18), (.pick (.tmp 13) (.const (.bool .true)) (.tmp 17)), .none⟩]
def p11_7 : List PO := [⟨(.some 2), (.mov (.const (.int .i64 4))), .none⟩]
def p11_8 : List PO := [⟨(.some 2), (.mov (.const (.int .i64 0))), .none⟩]
def c11_1 : PCode := (.keep [0] [] [] (.seq (.seq (.reg p11_5) (.seq (.reg p11_6) (.cond (.tmp 18) (.seq (.reg p11_7) .ret) .skip))) (.seq (.reg p11_8) .ret)))
def c11_b : PCode := (.seq (.reg p11_2) (.seq (.seq (.reg p11_3) (.cond (.tmp 6) (.seq (.reg p11_4) .ret) .skip)) c11_1))
def c11 : FCode := ⟨19, c11_b, [(.tmp 2)], some ([2], [], []), false⟩
theorem c11_ok : compF Go.Proofs.Tryd.prog [200015, 15, 20, 24] 11 = some (eraseF c11) := by kernel_rfl
def p7_7 : List PO := [⟨(.some 4), (.mov (.const (.string ⟨#[]⟩))), .none⟩, ⟨(.some 5), (.nilS 3 1), .none⟩, ⟨(.some 6), (.mov (.const (.int .i64 0))), .none⟩]
def p7_8 : List PO := [⟨(.some 13), (.mov (.tmp 0)), .none⟩, ⟨(.some 14), (.call 11 [(.tmp 13)]), .none⟩, ⟨(.some 7), (.mov (.tmp 14)), .none⟩]
def p7_9 : List PO := [⟨(.some 15), (.mov (.tmp 7)), .none⟩, ⟨(.some 16), (.cmpI .neq (.tmp 15) (.const (.int .i64 0))), .none⟩]
def p7_10 : List PO := [⟨(.some 17), (.mov (.tmp 7)), .none⟩, ⟨(.some 4), (.mov (.const (.string ⟨#[]⟩))), .none⟩, ⟨(.some 5), (.nilS 3 1), .none⟩, ⟨(.some 6), (.mov (.tmp 17)), .none⟩]
def p7_11 : List PO := [⟨(.some 8), (.nilS 3 1), .none⟩]
def p7_12 : List PO := [⟨(.some 18), (.mov (.tmp 0)), .none⟩, ⟨(.some 19), (.mov (.tmp 1)), .none⟩, ⟨(.some 20), (.strO .add (.tmp 18) (.tmp 19)), .none⟩, ⟨(.some 1), (.mov (.tmp 20)), .none⟩]
def p7_13 : List PO := [⟨(.some 21), (.mov (.tmp 1)), .none⟩, ⟨(.some 22), (.strO .neq (.tmp 21) (.const (.string ⟨#[]⟩))), .none⟩]
def p7_14 : List PO := [⟨(.some 23), (.mov (.tmp 1)), .none⟩, ⟨(.some 24), (.ixStr (.tmp 23) (.const (.int .i64 0))), .none⟩, ⟨(.some 25), (.cmpI .lss (.tmp 24) (.const (.int .u8 128))), .none⟩]
def p7_15 : List PO := [⟨(.some 26), (.mov (.tmp 8)), .none⟩, ⟨(.some 27), (.mov (.tmp 1)), .none⟩, ⟨(.some 28), (.ixStr (.tmp 27) (.const (.int .i64 0))), .none⟩, ⟨(.some 29), (.cvI .i64 (.tmp 28)), .none⟩, ⟨(.some 30), (.bsl 3 1 1 [(1, (.int .i64 0))] [(0, (1, (.tmp 29)))]), .none⟩, ⟨(.some 31), (.app 3 1 8 (.tmp 26) (.tmp 30)), .none⟩, ⟨(.some 32), (.mov (.tmp 1)), .none⟩, ⟨(.some 33), (.slStr (.tmp 32) (.some (.const (.int .i64 1))) .none), .none⟩, ⟨(.some 8), (.mov (.tmp 31)), .none⟩, ⟨(.some 1), (.mov (.tmp 33)), .none⟩]
def p7_16 : List PO := [⟨(.some 35), (.mov (.tmp 1)), .none⟩, ⟨(.some 36), (.call 17 [(.tmp 35)]), .none⟩, ⟨(.some 34), (.mov (.tmp 36)), .none⟩, ⟨(.some 37), (.ext (.tmp 34) 0), .none⟩, ⟨(.some 38), (.ext (.tmp 34) 1), .none⟩, ⟨(.some 9), (.mov (.tmp 37)), .none⟩, ⟨(.some 10), (.mov (.tmp 38)), .none⟩]
def p7_17 : List PO := [⟨(.some 43), (.mov (.tmp 10)), .none⟩, ⟨(.some 42), (.mov (.tmp 43)), .none⟩]
def p7_18 : List PO := [⟨(.some 45), (.mov (.tmp 1)), .none⟩, ⟨(.some 46), (.call 18 [(.tmp 45)]), .none⟩, ⟨(.some 44), (.mov (.tmp 46)), .none⟩, ⟨(.some 47), (.ext (.tmp 44) 0), .none⟩, ⟨(.some 48), (.ext (.tmp 44) 1), .none⟩, ⟨(.some 11), (.mov (.tmp 47)), .none⟩, ⟨(.some 12), (.mov (.tmp 48)), .none⟩]
def p7_19 : List PO := [⟨(.some 49), (.mov (.tmp 8)), .none⟩, ⟨(.some 50), (.mov (.tmp 11)), .none⟩, ⟨(.some 51), (.cvI .i64 (.tmp 50)), .none⟩, ⟨(.some 52), (.bsl 3 1 1 [(1, (.int .i64 0))] [(0, (1, (.tmp 51)))]), .none⟩, ⟨(.some 53), (.app 3 1 8 (.tmp 49) (.tmp 52)), .none⟩, ⟨(.some 8), (.mov (.tmp 53)), .none⟩]
def p7_20 : List PO := [⟨(.some 55), (.mov (.tmp 9)), .none⟩, ⟨(.some 56), (.cmpI .gtr (.tmp 55) (.const (.int .i64 0))), .none⟩, ⟨(.some 57), (.mov (.tmp 56)), .none⟩, ⟨(.some 58), (.mov (.tmp 9)), (.some (57, .true))⟩, ⟨(.some 59), (.mov (.tmp 1)), (.some (57, .true))⟩, ⟨(.some 60), (.len .true (.tmp 59)), (.some (57, .true))⟩, ⟨(.some 61), (.cmpI .eql (.tmp 58) (.tmp 60)), (.some (57, .true))⟩, ⟨(.some 62), (.pick (.tmp 57) (.tmp 61) (.const (.bool .false))), .none⟩, ⟨(.some 54), (.mov (.tmp 62)), .none⟩]
def p7_21 : List PO := [⟨(.some 63), (.mov (.tmp 1)), .none⟩, ⟨(.some 64), (.mov (.tmp 8)), .none⟩, ⟨(.some 4), (.mov (.tmp 63)), .none⟩, ⟨(.some 5), (.mov (.tmp 64)), .none⟩, ⟨(.some 6), (.mov (.const (.int .i64 0))), .none⟩]
def p7_22 : List PO := [⟨(.some 39), (.mov (.tmp 8)), .none⟩, ⟨(.some 40), (.bsl 3 1 1 [(1, (.int .i64 0))] [(0, (1, (.const (.int .i64 65533))))]), .none⟩, ⟨(.some 41), (.app 3 1 8 (.tmp 39) (.tmp 40)), .none⟩, ⟨(.some 8), (.mov (.tmp 41)), .none⟩]
def c7_1 : PCode := (.keep [1, 8, 9, 58, 59, 60, 61] [(72, .id 72)] [] (.reg p7_22))
def p7_23 : List PO := [⟨(.some 65), (.mov (.tmp 1)), .none⟩, ⟨(.some 66), (.mov (.tmp 9)), .none⟩, ⟨(.some 67), (.mx [(.tmp 66), (.const (.int .i64 1))]), .none⟩, ⟨(.some 68), (.slStr (.tmp 65) (.some (.tmp 67)) .none), .none⟩, ⟨(.some 1), (.mov (.tmp 68)), .none⟩]
def c7_2 : PCode := (.reg p7_23)
def c7_3 : PCode := (.keep [1, 8] [(72, .id 72)] [] (.seq (.reg p7_16) (.seq (.block 2 (.seq (.reg p7_17) (.cond (.tmp 42) (.seq (.reg p7_18) (.reg p7_19)) (.seq (.reg p7_20) (.cond (.tmp 54) (.seq (.reg p7_21) .ret) c7_1))))) c7_2)))
def c7_4 : PCode := (.keep [1, 8] [(72, .id 72)] [] (.block 1 (.seq (.seq (.reg p7_14) (.cond (.tmp 25) (.seq (.regD p7_15 []) (.exit 1)) .skip)) c7_3)))
def c7_5 : PCode := (.keep [1, 8] [(72, .id 72)] [] (.seq (.seq (.reg p7_13) (.cond (.tmp 22) .skip (.keep [8] [(72, .id 72)] [] (.exit 0)))) c7_4))
def p7_24 : List PO := [⟨(.some 69), (.mov (.tmp 8)), .none⟩, ⟨(.some 4), (.mov (.const (.string ⟨#[]⟩))), .none⟩, ⟨(.some 5), (.mov (.tmp 69)), .none⟩, ⟨(.some 6), (.mov (.const (.int .i64 0))), .none⟩]
def c7_6 : PCode := (.keep [0, 1] [] [] (.seq (.reg p7_11) (.seq (.seq (.reg p7_12) (.block 0 (.loop c7_5))) (.seq (.reg p7_24) .ret))))
def c7_b : PCode := (.seq (.reg p7_7) (.seq (.seq (.reg p7_8) (.seq (.reg p7_9) (.cond (.tmp 16) (.seq (.reg p7_10) .ret) .skip))) c7_6))
def c7 : FCode := ⟨70, c7_b, [(.tmp 4), (.tmp 5), (.tmp 6)], some ([4, 5, 6], [(593, (.slot 5 none))], []), false⟩
theorem c7_ok : compF Go.Proofs.Tryd.prog [200015, 15, 20, 24] 7 = some (eraseF c7) := by kernel_rfl
def p12_5 : List PO := [⟨(.some 4), (.mov (.const (.bool .false))), .none⟩]
def p12_6 : List PO := [⟨(.some 6), (.mov (.tmp 0)), .none⟩, ⟨(.some 7), (.len .false (.tmp 6)), .none⟩, ⟨(.some 8), (.mov (.tmp 1)), .none⟩, ⟨(.some 9), (.len .false (.tmp 8)), .none⟩, ⟨(.some 10), (.cmpI .neq (.tmp 7) (.tmp 9)), .none⟩]
def p12_7 : List PO := [⟨(.some 4), (.mov (.const (.bool .false))), .none⟩]
def p12_8 : List PO := [⟨(.some 11), (.mov (.tmp 0)), .none⟩, ⟨(.some 12), (.len .false (.tmp 11)), .none⟩, ⟨(.some 13), (.mov (.const (.int .i64 0))), .none⟩]
def p12_9 : List PO := [⟨(.some 14), (.cmpI .lss (.tmp 13) (.tmp 12)), .none⟩]
def p12_10 : List PO := [⟨(.some 15), (.mov (.tmp 13)), .none⟩, ⟨(.some 5), (.mov (.tmp 15)), .none⟩]
def p12_11 : List PO := [⟨(.some 16), (.mov (.tmp 0)), .none⟩, ⟨(.some 17), (.mov (.tmp 5)), .none⟩, ⟨(.some 18), (.ixS 3 1 (.tmp 16) (.tmp 17)), .none⟩, ⟨(.some 19), (.load .false 1 (.tmp 18)), .none⟩, ⟨(.some 20), (.mov (.tmp 1)), .none⟩, ⟨(.some 21), (.mov (.tmp 5)), .none⟩, ⟨(.some 22), (.ixS 3 1 (.tmp 20) (.tmp 21)), .none⟩, ⟨(.some 23), (.load .false 1 (.tmp 22)), .none⟩, ⟨(.some 24), (.cmpI .neq (.tmp 19) (.tmp 23)), .none⟩]
def p12_12 : List PO := [⟨(.some 4), (.mov (.const (.bool .false))), .none⟩]
def p12_13 : List PO := [⟨(.some 25), (.arI .add (.tmp 13) (.const (.int .i64 1))), .none⟩, ⟨(.some 13), (.mov (.tmp 25)), .none⟩]
def c12_1 : PCode := (.keep [0, 1, 12, 13] [] [] (.seq (.block 1 (.seq (.reg p12_10) (.seq (.regD p12_11 []) (.cond (.tmp 24) (.seq (.reg p12_12) .ret) .skip)))) (.reg p12_13)))
def c12_2 : PCode := (.keep [0, 1, 12, 13, 14] [] [] (.seq (.cond (.tmp 14) .skip (.keep [] [] [] (.exit 0))) c12_1))
def c12_3 : PCode := (.keep [0, 1, 12, 13] [] [] (.seq (.reg p12_9) c12_2))
def p12_14 : List PO := [⟨(.some 4), (.mov (.const (.bool .true))), .none⟩]
def c12_4 : PCode := (.keep [0, 1] [] [] (.seq (.seq (.reg p12_8) (.block 0 (.loop c12_3))) (.seq (.reg p12_14) .ret)))
def c12_b : PCode := (.seq (.reg p12_5) (.seq (.seq (.reg p12_6) (.cond (.tmp 10) (.seq (.reg p12_7) .ret) .skip)) c12_4))
def c12 : FCode := ⟨26, c12_b, [(.tmp 4)], some ([4], [], []), false⟩
theorem c12_ok : compF Go.Proofs.Tryd.prog [200015, 15, 20, 24] 12 = some (eraseF c12) := by kernel_rfl
def p24_2 : List PO := [⟨(.some 4), (.nilS 5 1), .none⟩]
def p24_3 : List PO := [⟨(.some 6), (.mov (.tmp 1)), .none⟩, ⟨(.some 7), (.cvI .u32 (.tmp 6)), .none⟩, ⟨(.some 5), (.mov (.tmp 7)), .none⟩]
def p24_4 : List PO := [⟨(.some 12), (.mov (.tmp 5)), .none⟩, ⟨(.some 13), (.cmpI .leq (.tmp 12) (.const (.int .u32 2047))), .none⟩, ⟨(.some 11), (.mov (.tmp 13)), .none⟩]
def p24_5 : List PO := [⟨(.some 14), (.mov (.tmp 0)), .none⟩, ⟨(.some 15), (.mov (.tmp 1)), .none⟩, ⟨(.some 16), (.sh .shr (.tmp 15) (.const (.int .u64 6))), .none⟩, ⟨(.some 17), (.cvI .u8 (.tmp 16)), .none⟩, ⟨(.some 18), (.arI .or (.const (.int .u8 192)) (.tmp 17)), .none⟩, ⟨(.some 19), (.mov (.tmp 1)), .none⟩, ⟨(.some 20), (.cvI .u8 (.tmp 19)), .none⟩, ⟨(.some 21), (.arI .and (.tmp 20) (.const (.int .u8 63))), .none⟩, ⟨(.some 22), (.arI .or (.const (.int .u8 128)) (.tmp 21)), .none⟩, ⟨(.some 23), (.bsl 5 1 2 [(2, (.int .u8 0))] [(0, (1, (.tmp 18))), (1, (1, (.tmp 22)))]), .none⟩, ⟨(.some 24), (.app 5 1 1 (.tmp 14) (.tmp 23)), .none⟩, ⟨(.some 4), (.mov (.tmp 24)), .none⟩]
def p24_6 : List PO := [⟨(.some 26), (.mov (.tmp 5)), .none⟩, ⟨(.some 27), (.cmpI .lss (.tmp 26) (.const (.int .u32 55296))), .none⟩, ⟨(.some 25), (.mov (.tmp 27)), .none⟩]
def p24_7 : List PO := [⟨(.some 28), (.mov (.tmp 5)), .none⟩, ⟨(.some 29), (.cmpI .lss (.const (.int .u32 57343)) (.tmp 28)), .none⟩, ⟨(.some 30), (.mov (.tmp 29)), .none⟩, ⟨(.some 31), (.mov (.tmp 5)), (.some (30, .true))⟩, ⟨(.some 32), (.cmpI .leq (.tmp 31) (.const (.int .u32 65535))), (.some (30, .true))⟩, ⟨(.some 33), (.pick (.tmp 30) (.tmp 32) (.const (.bool .false))), .none⟩, ⟨(.some 25), (.mov (.tmp 33)), .none⟩]
def p24_8 : List PO := [⟨(.some 34), (.mov (.tmp 0)), .none⟩, ⟨(.some 35), (.mov (.tmp 1)), .none⟩, ⟨(.some 36), (.sh .shr (.tmp 35) (.const (.int .u64 12))), .none⟩, ⟨(.some 37), (.cvI .u8 (.tmp 36)), .none⟩, ⟨(.some 38), (.arI .or (.const (.int .u8 224)) (.tmp 37)), .none⟩, ⟨(.some 39), (.mov (.tmp 1)), .none⟩, ⟨(.some 40), (.sh .shr (.tmp 39) (.const (.int .u64 6))), .none⟩, ⟨(.some 41), (.cvI .u8 (.tmp 40)), .none⟩, ⟨(.some 42), (.arI .and (.tmp 41) (.const (.int .u8 63))), .none⟩, ⟨(.some 43), (.arI .or (.const (.int .u8 128)) (.tmp 42)), .none⟩, ⟨(.some 44), (.mov (.tmp 1)), .none⟩, ⟨(.some 45), (.cvI .u8 (.tmp 44)), .none⟩, ⟨(.some 46), (.arI .and (.tmp 45) (.const (.int .u8 63))), .none⟩, ⟨(.some 47), (.arI .or (.const (.int .u8 128)) (.tmp 46)), .none⟩, ⟨(.some 48), (.bsl 5 1 3 [(3, (.int .u8 0))] [(0, (1, (.tmp 38))), (1, (1, (.tmp 43))), (2, (1, (.tmp 47)))]), .none⟩, ⟨(.some 49), (.app 5 1 1 (.tmp 34) (.tmp 48)), .none⟩, ⟨(.some 4), (.mov (.tmp 49)), .none⟩]
def p24_9 : List PO := [⟨(.some 51), (.mov (.tmp 5)), .none⟩, ⟨(.some 52), (.cmpI .gtr (.tmp 51) (.const (.int .u32 65535))), .none⟩, ⟨(.some 53), (.mov (.tmp 52)), .none⟩, ⟨(.some 54), (.mov (.tmp 5)), (.some (53, .true))⟩, ⟨(.some 55), (.cmpI .leq (.tmp 54) (.const (.int .u32 1114111))), (.some (53, .true))⟩, ⟨(.some 56), (.pick (.tmp 53) (.tmp 55) (.const (.bool .false))), .none⟩, ⟨(.some 50), (.mov (.tmp 56)), .none⟩]
def p24_10 : List PO := [⟨(.some 57), (.mov (.tmp 0)), .none⟩, ⟨(.some 58), (.mov (.tmp 1)), .none⟩, ⟨(.some 59), (.sh .shr (.tmp 58) (.const (.int .u64 18))), .none⟩, ⟨(.some 60), (.cvI .u8 (.tmp 59)), .none⟩, ⟨(.some 61), (.arI .or (.const (.int .u8 240)) (.tmp 60)), .none⟩, ⟨(.some 62), (.mov (.tmp 1)), .none⟩, ⟨(.some 63), (.sh .shr (.tmp 62) (.const (.int .u64 12))), .none⟩, ⟨(.some 64), (.cvI .u8 (.tmp 63)), .none⟩, ⟨(.some 65), (.arI .and (.tmp 64) (.const (.int .u8 63))), .none⟩, ⟨(.some 66), (.arI .or (.const (.int .u8 128)) (.tmp 65)), .none⟩, ⟨(.some 67), (.mov (.tmp 1)), .none⟩, ⟨(.some 68), (.sh .shr (.tmp 67) (.const (.int .u64 6))), .none⟩, ⟨(.some 69), (.cvI .u8 (.tmp 68)), .none⟩, ⟨(.some 70), (.arI .and (.tmp 69) (.const (.int .u8 63))), .none⟩, ⟨(.some 71), (.arI .or (.const (.int .u8 128)) (.tmp 70)), .none⟩, ⟨(.some 72), (.mov (.tmp 1)), .none⟩, ⟨(.some 73), (.cvI .u8 (.tmp 72)), .none⟩, ⟨(.some 74), (.arI .and (.tmp 73) (.const (.int .u8 63))), .none⟩, ⟨(.some 75), (.arI .or (.const (.int .u8 128)) (.tmp 74)), .none⟩, ⟨(.some 76), (.bsl 5 1 4 [(4, (.int .u8 0))] [(0, (1, (.tmp 61))), (1, (1, (.tmp 66))), (2, (1, (.tmp 71))), (3, (1, (.tmp 75)))]), .none⟩, ⟨(.some 77), (.app 5 1 1 (.tmp 57) (.tmp 76)), .none⟩, ⟨(.some 4), (.mov (.tmp 77)), .none⟩]
def p24_11 : List PO := [⟨(.some 8), (.mov (.tmp 0)), .none⟩, ⟨(.some 9), (.bsl 5 1 3 [(3, (.int .u8 0))] [(0, (1, (.const (.int .u8 239)))), (1, (1, (.const (.int .u8 191)))), (2, (1, (.const (.int .u8 189))))]), .none⟩, ⟨(.some 10), (.app 5 1 1 (.tmp 8) (.tmp 9)), .none⟩, ⟨(.some 4), (.mov (.tmp 10)), .none⟩]
def c24_1 : PCode := (.keep [0, 1, 5, 25] [(0, .id 0)] [] (.cond (.tmp 25) (.seq (.reg p24_8) .ret) (.seq (.reg p24_9) (.cond (.tmp 50) (.seq (.reg p24_10) .ret) (.seq (.reg p24_11) .ret)))))
def c24_b : PCode := (.seq (.reg p24_2) (.seq (.reg p24_3) (.block 0 (.seq (.reg p24_4) (.cond (.tmp 11) (.seq (.reg p24_5) .ret) (.seq (.seq (.reg p24_6) (.cond (.tmp 25) .skip (.reg p24_7))) c24_1))))))
def c24 : FCode := ⟨78, c24_b, [(.tmp 4)], some ([4], [(0, .id 0)], []), false⟩
theorem c24_ok : compF Go.Proofs.Tryd.prog [200015, 15, 20, 24] 24 = some (eraseF c24) := by kernel_rfl
def p20_1 : List PO := [⟨(.some 4), (.nilS 5 1), .none⟩]
def p20_2 : List PO := [⟨(.some 5), (.mov (.tmp 1)), .none⟩, ⟨(.some 6), (.cvI .u32 (.tmp 5)), .none⟩, ⟨(.some 7), (.cmpI .leq (.tmp 6) (.const (.int .u32 127))), .none⟩]
def p20_3 : List PO := [⟨(.some 8), (.mov (.tmp 0)), .none⟩, ⟨(.some 9), (.mov (.tmp 1)), .none⟩, ⟨(.some 10), (.cvI .u8 (.tmp 9)), .none⟩, ⟨(.some 11), (.bsl 5 1 1 [(1, (.int .u8 0))] [(0, (1, (.tmp 10)))]), .none⟩, ⟨(.some 12), (.app 5 1 1 (.tmp 8) (.tmp 11)), .none⟩, ⟨(.some 4), (.mov (.tmp 12)), .none⟩]
def p20_4 : List PO := [⟨(.some 13), (.mov (.tmp 0)), .none⟩, ⟨(.some 14), (.mov (.tmp 1)), .none⟩, ⟨(.some 15), (.callr 24 [(.tmp 13), (.tmp 14)]), .none⟩, ⟨(.some 4), (.mov (.tmp 15)), .none⟩]
def c20_b : PCode := (.seq (.reg p20_1) (.seq (.seq (.reg p20_2) (.cond (.tmp 7) (.seq (.reg p20_3) .ret) .skip)) (.seq (.reg p20_4) .ret)))
def c20 : FCode := ⟨16, c20_b, [(.tmp 4)], some ([4], [(0, .id 0)], []), false⟩
theorem c20_ok : compF Go.Proofs.Tryd.prog [200015, 15, 20, 24] 20 = some (eraseF c20) := by kernel_rfl
def p14_4 : List PO := [⟨(.some 2), (.mov (.const (.string ⟨#[]⟩))), .none⟩]
def p14_5 : List PO := [⟨(.some 3), (.nilS 5 1), .none⟩]
def p14_6 : List PO := [⟨(.some 6), (.mov (.tmp 0)), .none⟩, ⟨(.some 7), (.len .false (.tmp 6)), .none⟩, ⟨(.some 8), (.mov (.const (.int .i64 0))), .none⟩]
def p14_7 : List PO := [⟨(.some 9), (.cmpI .lss (.tmp 8) (.tmp 7)), .none⟩]
def p14_8 : List PO := [⟨(.some 10), (.ixS 3 1 (.tmp 6) (.tmp 8)), .none⟩, ⟨(.some 11), (.load .false 1 (.tmp 10)), .none⟩, ⟨(.some 5), (.mov (.tmp 11)), .none⟩]
def p14_9 : List PO := [⟨(.some 12), (.mov (.tmp 5)), .none⟩, ⟨(.some 13), (.cmpI .lss (.tmp 12) (.const (.int .i64 0))), .none⟩, ⟨(.some 14), (.mov (.tmp 13)), .none⟩, ⟨(.some 15), (.mov (.tmp 5)), (.some (14, .false))⟩, ⟨(.some 16), (.cmpI .gtr (.tmp 15) (.const (.int .i64 1114111))), (.some (14, .false))⟩, ⟨(.some 17), (.pick (.tmp 14) (.const (.bool .true)) (.tmp 16)), .none⟩, ⟨(.some 18), (.mov (.tmp 17)), .none⟩, ⟨(.some 19), (.mov (.tmp 5)), (.some (18, .false))⟩, ⟨(.some 20), (.cmpI .geq (.tmp 19) (.const (.int .i64 55296))), (.some (18, .false))⟩, ⟨(.some 21), (.mov (.tmp 20)), (.some (18, .false))⟩, ⟨(.some 22), (.mov (.tmp 5)), (.some (21, .true))⟩, ⟨(.some 23), (.cmpI .leq (.tmp 22) (.const (.int .i64 57343))), (.some (21, .true))⟩, ⟨(.some 24), (.pick (.tmp 21) (.tmp 23) (.const (.bool .false))), (.some (18, .false))⟩, ⟨(.some 25), (.pick (.tmp 18) (.const (.bool .true)) (.tmp 24)), .none⟩]
def p14_10 : List PO := [⟨(.some 5), (.mov (.const (.int .i64 65533))), .none⟩]
def p14_11 : List PO := [⟨(.some 26), (.mov (.tmp 3)), .none⟩, ⟨(.some 27), (.mov (.tmp 5)), .none⟩, ⟨(.some 28), (.cvI .i32 (.tmp 27)), .none⟩, ⟨(.some 29), (.callr 20 [(.tmp 26), (.tmp 28)]), .none⟩, ⟨(.some 3), (.mov (.tmp 29)), .none⟩]
def p14_12 : List PO := [⟨(.some 30), (.arI .add (.tmp 8) (.const (.int .i64 1))), .none⟩, ⟨(.some 8), (.mov (.tmp 30)), .none⟩]
def c14_1 : PCode := (.keep [3, 6, 7, 8] [(32, .id 32)] [] (.seq (.block 1 (.seq (.reg p14_8) (.seq (.seq (.reg p14_9) (.cond (.tmp 25) (.reg p14_10) .skip)) (.reg p14_11)))) (.reg p14_12)))
def c14_2 : PCode := (.keep [3, 6, 7, 8, 9] [(32, .id 32)] [] (.seq (.cond (.tmp 9) .skip (.keep [3] [(32, .id 32)] [] (.exit 0))) c14_1))
def c14_3 : PCode := (.keep [3, 6, 7, 8] [(32, .id 32)] [] (.seq (.reg p14_7) c14_2))
def p14_13 : List PO := [⟨(.some 31), (.mov (.tmp 3)), .none⟩, ⟨(.some 32), (.cvBS (.tmp 31)), .none⟩, ⟨(.some 2), (.mov (.tmp 32)), .none⟩]
def c14_b : PCode := (.seq (.reg p14_4) (.seq (.reg p14_5) (.seq (.seq (.reg p14_6) (.block 0 (.loop c14_3))) (.seq (.reg p14_13) .ret))))
def c14 : FCode := ⟨33, c14_b, [(.tmp 2)], some ([2], [], []), false⟩
theorem c14_ok : compF Go.Proofs.Tryd.prog [200015, 15, 20, 24] 14 = some (eraseF c14) := by kernel_rfl
def p8_1 : List PO := [⟨(.some 0), (.mov (.const (.bool .false))), .none⟩]
def p8_2 : List PO := [⟨(.some 5), (.call 7 [(.const (.string ⟨#[226]⟩)), (.const (.string ⟨#[130, 172, 226, 97, 240, 159]⟩))]), .none⟩, ⟨(.some 4), (.mov (.tmp 5)), .none⟩, ⟨(.some 6), (.ext (.tmp 4) 0), .none⟩, ⟨(.some 7), (.ext (.tmp 4) 1), .none⟩, ⟨(.some 8), (.ext (.tmp 4) 2), .none⟩, ⟨(.some 1), (.mov (.tmp 6)), .none⟩, ⟨(.some 2), (.mov (.tmp 7)), .none⟩, ⟨(.some 3), (.mov (.tmp 8)), .none⟩]
def p8_3 : List PO := [⟨(.some 9), (.mov (.tmp 3)), .none⟩, ⟨(.some 10), (.cmpI .eql (.tmp 9) (.const (.int .i64 0))), .none⟩, ⟨(.some 11), (.mov (.tmp 10)), .none⟩, ⟨(.some 12), (.mov (.tmp 1)), (.some (11, .true))⟩, ⟨(.some 13), (.strO .eql (.tmp 12) (.const (.string ⟨#[240, 159]⟩))), (.some (11, .true))⟩, ⟨(.some 14), (.pick (.tmp 11) (.tmp 13) (.const (.bool .false))), .none⟩, ⟨(.some 15), (.mov (.tmp 14)), .none⟩, ⟨(.some 16), (.mov (.tmp 2)), (.some (15, .true))⟩, ⟨(.some 17), (.bsl 3 1 3 [(3, (.int .i64 0))] [(0, (1, (.const (.int .i64 8364)))), (1, (1, (.const (.int .i64 65533)))), (2, (1, (.const (.int .i64 97))))]), (.some (15, .true))⟩, ⟨(.some 18), (.call 12 [(.tmp 16), (.tmp 17)]), (.some (15, .true))⟩, ⟨(.some 19), (.pick (.tmp 15) (.tmp 18) (.const (.bool .false))), .none⟩, ⟨(.some 20), (.mov (.tmp 19)), .none⟩, ⟨(.some 21), (.bsl 3 1 1 [(1, (.int .i64 0))] [(0, (1, (.const (.int .i64 8364))))]), (.some (20, .true))⟩, ⟨(.some 22), (.call 14 [(.tmp 21)]), (.some (20, .true))⟩, ⟨(.some 23), (.strO .eql (.tmp 22) (.const (.string ⟨#[226, 130, 172]⟩))), (.some (20, .true))⟩, ⟨(.some 24), (.pick (.tmp 20) (.tmp 23) (.const (.bool .false))), .none⟩, ⟨(.some 0), (.mov (.tmp 24)), .none⟩]
def c8_b : PCode := (.seq (.reg p8_1) (.seq (.reg p8_2) (.seq (.reg p8_3) .ret)))
def c8 : FCode := ⟨25, c8_b, [(.tmp 0)], some ([0], [], []), false⟩
theorem c8_ok : compF Go.Proofs.Tryd.prog [200015, 15, 20, 24] 8 = some (eraseF c8) := by kernel_rfl
def p13_1 : List PO := [⟨(.some 2), (.nilS 3 1), .none⟩]
def p13_2 : List PO := [⟨(.some 3), (.mov (.tmp 0)), .none⟩, ⟨(.some 4), (.isN .false (.tmp 3)), .none⟩]
def p13_3 : List PO := [⟨(.some 2), (.nilS 3 1), .none⟩]
def p13_4 : List PO := [⟨(.some 5), (.bsl 3 1 0 [] []), .none⟩, ⟨(.some 6), (.mov (.tmp 0)), .none⟩, ⟨(.some 7), (.app 3 1 8 (.tmp 5) (.tmp 6)), .none⟩, ⟨(.some 2), (.mov (.tmp 7)), .none⟩]
def c13_b : PCode := (.seq (.reg p13_1) (.seq (.seq (.reg p13_2) (.cond (.tmp 4) (.seq (.reg p13_3) .ret) .skip)) (.seq (.reg p13_4) .ret)))
def c13 : FCode := ⟨8, c13_b, [(.tmp 2)], some ([2], [(97, (.slot 2 none))], []), true⟩
theorem c13_ok : compF Go.Proofs.Tryd.prog [200015, 15, 20, 24] 13 = some (eraseF c13) := by kernel_rfl
def p16_1 : List PO := [⟨(.some 2), (.mov (.const (.bool .false))), .none⟩]
def p16_2 : List PO := [⟨(.some 3), (.mov (.tmp 0)), .none⟩, ⟨(.some 4), (.cmpI .geq (.tmp 3) (.const (.int .i64 128))), .none⟩, ⟨(.some 2), (.mov (.tmp 4)), .none⟩]
def c16_b : PCode := (.seq (.reg p16_1) (.seq (.reg p16_2) .ret))
def c16 : FCode := ⟨5, c16_b, [(.tmp 2)], some ([2], [], []), false⟩
theorem c16_ok : compF Go.Proofs.Tryd.prog [200015, 15, 20, 24] 16 = some (eraseF c16) := by kernel_rfl
def p21_4 : List PO := [⟨(.some 4), (.mov (.const (.int .i64 0))), .none⟩]
def p21_5 : List PO := [⟨(.some 6), (.mov (.tmp 0)), .none⟩, ⟨(.some 7), (.len .false (.tmp 6)), .none⟩, ⟨(.some 8), (.mov (.const (.int .i64 0))), .none⟩]
def p21_6 : List PO := [⟨(.some 9), (.cmpI .lss (.tmp 8) (.tmp 7)), .none⟩]
def p21_7 : List PO := [⟨(.some 10), (.mov (.tmp 8)), .none⟩, ⟨(.some 5), (.mov (.tmp 10)), .none⟩]
def p21_8 : List PO := [⟨(.some 11), (.mov (.tmp 1)), .none⟩, ⟨(.some 12), (.mov (.tmp 0)), .none⟩, ⟨(.some 13), (.mov (.tmp 5)), .none⟩, ⟨(.some 14), (.ixS 3 1 (.tmp 12) (.tmp 13)), .none⟩, ⟨(.some 15), (.load .false 1 (.tmp 14)), .none⟩, ⟨(.some 16), (.callv (.tmp 11) [(.tmp 15)]), .none⟩]
def p21_9 : List PO := [⟨(.some 17), (.mov (.tmp 5)), .none⟩, ⟨(.some 4), (.mov (.tmp 17)), .none⟩]
def p21_10 : List PO := [⟨(.some 18), (.arI .add (.tmp 8) (.const (.int .i64 1))), .none⟩, ⟨(.some 8), (.mov (.tmp 18)), .none⟩]
def c21_1 : PCode := (.keep [0, 1, 7, 8] [] [] (.seq (.block 1 (.seq (.reg p21_7) (.seq (.reg p21_8) (.cond (.tmp 16) (.seq (.reg p21_9) .ret) .skip)))) (.reg p21_10)))
def c21_2 : PCode := (.keep [0, 1, 7, 8, 9] [] [] (.seq (.cond (.tmp 9) .skip (.keep [] [] [] (.exit 0))) c21_1))
def c21_3 : PCode := (.keep [0, 1, 7, 8] [] [] (.seq (.reg p21_6) c21_2))
def p21_11 : List PO := [⟨(.some 4), (.mov (.const (.int .i64 (-1)))), .none⟩]
def c21_b : PCode := (.seq (.reg p21_4) (.seq (.seq (.reg p21_5) (.block 0 (.loop c21_3))) (.seq (.reg p21_11) .ret)))
def c21 : FCode := ⟨19, c21_b, [(.tmp 4)], some ([4], [], []), false⟩
theorem c21_ok : compF Go.Proofs.Tryd.prog [200015, 15, 20, 24] 21 = some (eraseF c21) := by kernel_rfl
def p15_5 : List PO := [⟨(.some 4), (.nilS 3 1), .none⟩]
def p15_6 : List PO := [⟨(.some 8), (.mov (.tmp 0)), .none⟩, ⟨(.some 9), (.mov (.tmp 1)), .none⟩, ⟨(.some 10), (.call 21 [(.tmp 8), (.tmp 9)]), .none⟩, ⟨(.some 5), (.mov (.tmp 10)), .none⟩]
def p15_7 : List PO := [⟨(.some 11), (.mov (.tmp 5)), .none⟩, ⟨(.some 12), (.cmpI .eql (.tmp 11) (.const (.int .i64 (-1)))), .none⟩]
def p15_8 : List PO := [⟨(.some 13), (.mov (.tmp 0)), .none⟩, ⟨(.some 4), (.mov (.tmp 13)), .none⟩]
def p15_9 : List PO := [⟨(.some 14), (.mov (.tmp 5)), .none⟩, ⟨(.some 15), (.arI .add (.tmp 14) (.const (.int .i64 1))), .none⟩, ⟨(.some 6), (.mov (.tmp 15)), .none⟩]
def p15_10 : List PO := [⟨(.some 16), (.mov (.tmp 6)), .none⟩, ⟨(.some 17), (.mov (.tmp 0)), .none⟩, ⟨(.some 18), (.len .false (.tmp 17)), .none⟩, ⟨(.some 19), (.cmpI .lss (.tmp 16) (.tmp 18)), .none⟩]
def p15_11 : List PO := [⟨(.some 22), (.mov (.tmp 0)), .none⟩, ⟨(.some 23), (.mov (.tmp 6)), .none⟩, ⟨(.some 24), (.ixS 3 1 (.tmp 22) (.tmp 23)), .none⟩, ⟨(.some 25), (.load .false 1 (.tmp 24)), .none⟩, ⟨(.some 7), (.mov (.tmp 25)), .none⟩]
def p15_12 : List PO := [⟨(.some 26), (.mov (.tmp 1)), .none⟩, ⟨(.some 27), (.mov (.tmp 7)), .none⟩, ⟨(.some 28), (.callv (.tmp 26) [(.tmp 27)]), .none⟩, ⟨(.some 29), (.un .not (.tmp 28)), .none⟩]
def p15_13 : List PO := [⟨(.some 30), (.mov (.tmp 0)), .none⟩, ⟨(.some 31), (.mov (.tmp 5)), .none⟩, ⟨(.some 32), (.mov (.tmp 7)), .none⟩, ⟨(.some 33), (.ixS 3 1 (.tmp 30) (.tmp 31)), .none⟩, ⟨.none, (.store 1 (.tmp 33) (.tmp 32)), .none⟩]
def p15_14 : List PO := [⟨(.some 34), (.mov (.tmp 5)), .none⟩, ⟨(.some 35), (.arI .add (.tmp 34) (.const (.int .i64 1))), .none⟩, ⟨(.some 5), (.mov (.tmp 35)), .none⟩]
def p15_15 : List PO := [⟨(.some 20), (.mov (.tmp 6)), .none⟩, ⟨(.some 21), (.arI .add (.tmp 20) (.const (.int .i64 1))), .none⟩, ⟨(.some 6), (.mov (.tmp 21)), .none⟩]
def c15_2 : PCode := (.keep [0, 1, 5, 6] [(0, .id 0)] [] (.seq (.block 1 (.seq (.reg p15_11) (.seq (.reg p15_12) (.cond (.tmp 29) (.seq (.reg p15_13) (.reg p15_14)) .skip)))) (.reg p15_15)))
def c15_3 : PCode := (.keep [0, 1, 5, 6] [(0, .id 0)] [] (.seq (.seq (.reg p15_10) (.cond (.tmp 19) .skip (.keep [0, 5] [(0, .id 0)] [] (.exit 0)))) c15_2))
def p15_16 : List PO := [⟨(.some 36), (.mov (.tmp 0)), .none⟩, ⟨(.some 37), (.mov (.tmp 5)), .none⟩, ⟨(.some 38), (.slS 3 1 (.tmp 36) (.some (.tmp 37)) .none), .none⟩, ⟨.none, (.clr 1 [(1, (.int .i64 0))] (.tmp 38)), .none⟩]
def p15_17 : List PO := [⟨(.some 39), (.mov (.tmp 0)), .none⟩, ⟨(.some 40), (.mov (.tmp 5)), .none⟩, ⟨(.some 41), (.slC 3 1 (.tmp 39) .none (.some (.tmp 40))), .none⟩, ⟨(.some 4), (.mov (.tmp 41)), .none⟩]
def c15_1 : PCode := (.keep [0, 5] [(0, .id 0)] [] (.seq (.reg p15_16) (.seq (.reg p15_17) .ret)))
def c15_4 : PCode := (.keep [0, 1, 5] [(0, .id 0)] [] (.seq (.seq (.reg p15_9) (.block 0 (.loop c15_3))) c15_1))
def c15_b : PCode := (.seq (.reg p15_5) (.seq (.reg p15_6) (.seq (.seq (.reg p15_7) (.cond (.tmp 12) (.seq (.reg p15_8) .ret) .skip)) c15_4)))
def c15 : FCode := ⟨42, c15_b, [(.tmp 4)], some ([4], [(0, .id 0)], []), false⟩
theorem c15_ok : compF Go.Proofs.Tryd.prog [200015, 15, 20, 24] 15 = some (eraseF c15) := by kernel_rfl
def p6_5 : List PO := [⟨(.some 4), (.mov (.const (.bool .false))), .none⟩]
def p6_6 : List PO := [⟨(.some 11), (.mov (.tmp 0)), .none⟩, ⟨(.some 12), (.mov (.tmp 1)), .none⟩, ⟨(.some 13), (.call 7 [(.tmp 11), (.tmp 12)]), .none⟩, ⟨(.some 10), (.mov (.tmp 13)), .none⟩, ⟨(.some 14), (.ext (.tmp 10) 0), .none⟩, ⟨(.some 15), (.ext (.tmp 10) 1), .none⟩, ⟨(.some 16), (.ext (.tmp 10) 2), .none⟩, ⟨(.some 5), (.mov (.tmp 14)), .none⟩, ⟨(.some 6), (.mov (.tmp 15)), .none⟩, ⟨(.some 7), (.mov (.tmp 16)), .none⟩]
def p6_7 : List PO := [⟨(.some 17), (.call 8 []), .none⟩, ⟨(.some 18), (.un .not (.tmp 17)), .none⟩, ⟨(.some 19), (.mov (.tmp 18)), .none⟩, ⟨(.some 20), (.mov (.tmp 7)), (.some (19, .false))⟩, ⟨(.some 21), (.cmpI .neq (.tmp 20) (.const (.int .i64 0))), (.some (19, .false))⟩, ⟨(.some 22), (.pick (.tmp 19) (.const (.bool .true)) (.tmp 21)), .none⟩]
def p6_8 : List PO := [⟨(.some 23), (.call 8 []), .none⟩, ⟨(.some 4), (.mov (.tmp 23)), .none⟩]
def p6_9 : List PO := [⟨(.some 8), (.nilS 3 1), .none⟩]
def p6_10 : List PO := [⟨(.some 24), (.mov (.tmp 1)), .none⟩, ⟨(.some 25), (.len .true (.tmp 24)), .none⟩, ⟨(.some 26), (.mov (.const (.int .i64 0))), .none⟩]
def p6_11 : List PO := [⟨(.some 27), (.cmpI .lss (.tmp 26) (.tmp 25)), .none⟩]
def p6_12 : List PO := [⟨(.some 28), (.mov (.tmp 26)), .none⟩, ⟨(.some 9), (.mov (.tmp 28)), .none⟩]
def p6_13 : List PO := [⟨(.some 29), (.mov (.tmp 1)), .none⟩, ⟨(.some 30), (.mov (.tmp 9)), .none⟩, ⟨(.some 31), (.ixStr (.tmp 29) (.tmp 30)), .none⟩, ⟨(.some 32), (.cmpI .lss (.tmp 31) (.const (.int .u8 128))), .none⟩]
def p6_14 : List PO := [⟨(.some 33), (.mov (.tmp 8)), .none⟩, ⟨(.some 34), (.mov (.tmp 1)), .none⟩, ⟨(.some 35), (.mov (.tmp 9)), .none⟩, ⟨(.some 36), (.ixStr (.tmp 34) (.tmp 35)), .none⟩, ⟨(.some 37), (.cvI .i64 (.tmp 36)), .none⟩, ⟨(.some 38), (.bsl 3 1 1 [(1, (.int .i64 0))] [(0, (1, (.tmp 37)))]), .none⟩, ⟨(.some 39), (.app 3 1 8 (.tmp 33) (.tmp 38)), .none⟩, ⟨(.some 8), (.mov (.tmp 39)), .none⟩]
def p6_15 : List PO := [⟨(.some 40), (.arI .add (.tmp 26) (.const (.int .i64 1))), .none⟩, ⟨(.some 26), (.mov (.tmp 40)), .none⟩]
def c6_1 : PCode := (.keep [1, 6, 8, 25, 26] [(112, .id 112), (72, .id 72)] [] (.seq (.block 1 (.seq (.reg p6_12) (.seq (.reg p6_13) (.cond (.tmp 32) (.reg p6_14) .skip)))) (.reg p6_15)))
def c6_2 : PCode := (.keep [1, 6, 8, 25, 26, 27] [(112, .id 112), (72, .id 72)] [] (.seq (.cond (.tmp 27) .skip (.keep [6, 8] [(112, .id 112), (72, .id 72)] [] (.exit 0))) c6_1))
def c6_3 : PCode := (.keep [1, 6, 8, 25, 26] [(112, .id 112), (72, .id 72)] [] (.seq (.reg p6_11) c6_2))
def p6_16 : List PO := [⟨(.some 41), (.mov (.tmp 6)), .none⟩, ⟨(.some 42), (.call 13 [(.tmp 41)]), .none⟩, ⟨(.some 43), (.callr 15 [(.tmp 42), (.func 16)]), .none⟩, ⟨(.some 44), (.mov (.tmp 8)), .none⟩, ⟨(.some 45), (.call 12 [(.tmp 43), (.tmp 44)]), .none⟩, ⟨(.some 4), (.mov (.tmp 45)), .none⟩]
def c6_4 : PCode := (.keep [1, 6] [(112, .id 112)] [] (.seq (.reg p6_9) (.seq (.seq (.reg p6_10) (.block 0 (.loop c6_3))) (.seq (.reg p6_16) .ret))))
def c6_b : PCode := (.seq (.reg p6_5) (.seq (.reg p6_6) (.seq (.seq (.reg p6_7) (.cond (.tmp 22) (.seq (.reg p6_8) .ret) .skip)) c6_4)))
def c6 : FCode := ⟨46, c6_b, [(.tmp 4)], some ([4], [], []), false⟩
theorem c6_ok : compF Go.Proofs.Tryd.prog [200015, 15, 20, 24] 6 = some (eraseF c6) := by kernel_rfl
def codes : Nat → Option FCode
  | 6 => some c6
  | 7 => some c7
  | 8 => some c8
  | 11 => some c11
  | 12 => some c12
  | 13 => some c13
  | 14 => some c14
  | 15 => some c15
  | 16 => some c16
  | 17 => some c17
  | 20 => some c20
  | 21 => some c21
  | 22 => some c22
  | 24 => some c24
  | _ => none
theorem codes_ok : ∀ f fc, codes f = some fc → compF Go.Proofs.Tryd.prog [200015, 15, 20, 24] f = some (eraseF fc) := by
  intro f fc h
  unfold codes at h
  split at h
  · cases h; exact c6_ok
  · cases h; exact c7_ok
  · cases h; exact c8_ok
  · cases h; exact c11_ok
  · cases h; exact c12_ok
  · cases h; exact c13_ok
  · cases h; exact c14_ok
  · cases h; exact c15_ok
  · cases h; exact c16_ok
  · cases h; exact c17_ok
  · cases h; exact c20_ok
  · cases h; exact c21_ok
  · cases h; exact c22_ok
  · cases h; exact c24_ok
  · cases h
theorem codes6 : codes 6 = some c6 := rfl
theorem codes7 : codes 7 = some c7 := rfl
theorem codes8 : codes 8 = some c8 := rfl
theorem codes11 : codes 11 = some c11 := rfl
theorem codes12 : codes 12 = some c12 := rfl
theorem codes13 : codes 13 = some c13 := rfl
theorem codes14 : codes 14 = some c14 := rfl
theorem codes15 : codes 15 = some c15 := rfl
theorem codes16 : codes 16 = some c16 := rfl
theorem codes17 : codes 17 = some c17 := rfl
theorem codes20 : codes 20 = some c20 := rfl
theorem codes21 : codes 21 = some c21 := rfl
theorem codes22 : codes 22 = some c22 := rfl
theorem codes24 : codes 24 = some c24 := rfl
noncomputable def libs : List (Nat × (List PV → Option PV)) := [(18, osT libDecodeRune)]
noncomputable abbrev baseL : Orc := libO libs
end Go.Proofs.YtohecbgpjpfncaaDoor.Pm
