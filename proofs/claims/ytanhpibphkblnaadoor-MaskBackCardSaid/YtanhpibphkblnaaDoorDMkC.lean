/- The small machine's codes of some functions. Printed by dec.py. -/
import Derived.Test.YtanhpibphkblnaaDoorLib1
import Derived.Test.YtanhpibphkblnaaDoorProg
namespace Go.Proofs.YtanhpibphkblnaaDoor.Pm
set_option maxRecDepth 1000000
set_option maxHeartbeats 20000000
set_option linter.unusedVariables false
structure GMask where
  Bits : Nat → Int
def p12_4 : List PO := [⟨(.some 2), (.alloc [(4, (.int .u64 0))]), .none⟩]
def p12_5 : List PO := [⟨(.some 3), (.alloc [(4, (.int .u64 0))]), .none⟩]
def p12_6 : List PO := [⟨(.some 5), (.mov (.tmp 0)), .none⟩, ⟨(.some 6), (.len .true (.tmp 5)), .none⟩, ⟨(.some 7), (.mov (.const (.int .i64 0))), .none⟩]
def p12_7 : List PO := [⟨(.some 8), (.cmpI .lss (.tmp 7) (.tmp 6)), .none⟩]
def p12_8 : List PO := [⟨(.some 9), (.mov (.tmp 7)), .none⟩, ⟨(.some 4), (.mov (.tmp 9)), .none⟩]
def p12_9 : List PO := [⟨(.some 10), (.mov (.tmp 0)), .none⟩, ⟨(.some 11), (.mov (.tmp 4)), .none⟩, ⟨(.some 12), (.ixStr (.tmp 10) (.tmp 11)), .none⟩, ⟨(.some 13), (.arI .quo (.tmp 12) (.const (.int .u8 64))), .none⟩, ⟨(.some 14), (.fld 0 (.tmp 3)), .none⟩, ⟨(.some 15), (.ixA 4 1 (.tmp 14) (.tmp 13)), .none⟩, ⟨(.some 16), (.load .false 1 (.tmp 15)), .none⟩, ⟨(.some 17), (.mov (.tmp 0)), .none⟩, ⟨(.some 18), (.mov (.tmp 4)), .none⟩, ⟨(.some 19), (.ixStr (.tmp 17) (.tmp 18)), .none⟩, ⟨(.some 20), (.arI .rem (.tmp 19) (.const (.int .u8 64))), .none⟩, ⟨(.some 21), (.sh .shl (.const (.int .u64 1)) (.tmp 20)), .none⟩, ⟨(.some 22), (.arI .or (.tmp 16) (.tmp 21)), .none⟩, ⟨(.some 23), (.fld 0 (.tmp 3)), .none⟩, ⟨(.some 24), (.ixA 4 1 (.tmp 23) (.tmp 13)), .none⟩, ⟨.none, (.store 1 (.tmp 24) (.tmp 22)), .none⟩]
def p12_10 : List PO := [⟨(.some 25), (.arI .add (.tmp 7) (.const (.int .i64 1))), .none⟩, ⟨(.some 7), (.mov (.tmp 25)), .none⟩]
def c12_1 : PCode := (.keep [0, 2, 3, 6, 7] [(24, .id 24), (32, .id 32)] [] (.seq (.block 1 (.seq (.reg p12_8) (.regD p12_9 []))) (.reg p12_10)))
def c12_2 : PCode := (.keep [0, 2, 3, 6, 7, 8] [(24, .id 24), (32, .id 32)] [] (.seq (.cond (.tmp 8) .skip (.keep [2, 3] [(24, .id 24), (32, .id 32)] [] (.exit 0))) c12_1))
def c12_3 : PCode := (.keep [0, 2, 3, 6, 7] [(24, .id 24), (32, .id 32)] [] (.seq (.reg p12_7) c12_2))
def p12_11 : List PO := [⟨(.some 26), (.load .true 4 (.tmp 3)), .none⟩, ⟨.none, (.store 4 (.tmp 2) (.tmp 26)), .none⟩]
def c12_b : PCode := (.seq (.reg p12_4) (.seq (.reg p12_5) (.seq (.seq (.reg p12_6) (.block 0 (.loop c12_3))) (.seq (.reg p12_11) .ret))))
def c12 : FCode := ⟨27, c12_b, [(.cell 2 .true 4)], some ([2], [(24, .id 24)], []), false⟩
theorem c12_ok : compF Go.Proofs.Tryd.prog [54, 67, 68, 69, 71, 91, 96] 12 = some (eraseF c12) := by kernel_rfl
def p15_1 : List PO := [⟨(.some 2), (.box 4 (.tmp 0)), .none⟩, ⟨(.some 4), (.mov (.const (.bool .false))), .none⟩]
def p15_2 : List PO := [⟨(.some 5), (.mov (.tmp 1)), .none⟩, ⟨(.some 6), (.arI .quo (.tmp 5) (.const (.int .u8 64))), .none⟩, ⟨(.some 7), (.fld 0 (.tmp 2)), .none⟩, ⟨(.some 8), (.ixA 4 1 (.tmp 7) (.tmp 6)), .none⟩, ⟨(.some 9), (.load .false 1 (.tmp 8)), .none⟩, ⟨(.some 10), (.mov (.tmp 1)), .none⟩, ⟨(.some 11), (.arI .rem (.tmp 10) (.const (.int .u8 64))), .none⟩, ⟨(.some 12), (.sh .shr (.tmp 9) (.tmp 11)), .none⟩, ⟨(.some 13), (.arI .and (.tmp 12) (.const (.int .u64 1))), .none⟩, ⟨(.some 14), (.cmpI .eql (.tmp 13) (.const (.int .u64 1))), .none⟩, ⟨(.some 4), (.mov (.tmp 14)), .none⟩]
def c15_b : PCode := (.seq (.reg p15_1) (.seq (.reg p15_2) .ret))
def c15 : FCode := ⟨15, c15_b, [(.tmp 4)], some ([4], [], []), false⟩
theorem c15_ok : compF Go.Proofs.Tryd.prog [54, 67, 68, 69, 71, 91, 96] 15 = some (eraseF c15) := by kernel_rfl
def p13_4 : List PO := [⟨(.some 1), (.box 4 (.tmp 0)), .none⟩, ⟨(.some 2), (.mov (.const (.string ⟨#[]⟩))), .none⟩]
def p13_5 : List PO := [⟨(.some 3), (.nilS 5 1), .none⟩]
def p13_6 : List PO := [⟨(.some 5), (.mov (.const (.int .i64 0))), .none⟩]
def p13_7 : List PO := [⟨(.some 6), (.cmpI .lss (.tmp 5) (.const (.int .i64 256))), .none⟩]
def p13_8 : List PO := [⟨(.some 7), (.mov (.tmp 5)), .none⟩, ⟨(.some 4), (.mov (.tmp 7)), .none⟩]
def p13_9 : List PO := [⟨(.some 8), (.load .true 4 (.tmp 1)), .none⟩, ⟨(.some 9), (.mov (.tmp 4)), .none⟩, ⟨(.some 10), (.cvI .u8 (.tmp 9)), .none⟩, ⟨(.some 11), (.call 15 [(.tmp 8), (.tmp 10)]), .none⟩]
def p13_10 : List PO := [⟨(.some 12), (.mov (.tmp 3)), .none⟩, ⟨(.some 13), (.mov (.tmp 4)), .none⟩, ⟨(.some 14), (.cvI .u8 (.tmp 13)), .none⟩, ⟨(.some 15), (.bsl 5 1 1 [(1, (.int .u8 0))] [(0, (1, (.tmp 14)))]), .none⟩, ⟨(.some 16), (.app 5 1 1 (.tmp 12) (.tmp 15)), .none⟩, ⟨(.some 3), (.mov (.tmp 16)), .none⟩]
def p13_11 : List PO := [⟨(.some 17), (.arI .add (.tmp 5) (.const (.int .i64 1))), .none⟩, ⟨(.some 5), (.mov (.tmp 17)), .none⟩]
def c13_1 : PCode := (.keep [1, 3, 5] [(16, .id 16), (32, .id 32)] [] (.seq (.block 1 (.seq (.reg p13_8) (.seq (.reg p13_9) (.cond (.tmp 11) (.reg p13_10) .skip)))) (.reg p13_11)))
def c13_2 : PCode := (.keep [1, 3, 5, 6] [(16, .id 16), (32, .id 32)] [] (.seq (.cond (.tmp 6) .skip (.keep [3] [(32, .id 32)] [] (.exit 0))) c13_1))
def c13_3 : PCode := (.keep [1, 3, 5] [(16, .id 16), (32, .id 32)] [] (.seq (.reg p13_7) c13_2))
def p13_12 : List PO := [⟨(.some 18), (.mov (.tmp 3)), .none⟩, ⟨(.some 19), (.cvBS (.tmp 18)), .none⟩, ⟨(.some 2), (.mov (.tmp 19)), .none⟩]
def c13_b : PCode := (.seq (.reg p13_4) (.seq (.reg p13_5) (.seq (.seq (.reg p13_6) (.block 0 (.loop c13_3))) (.seq (.reg p13_12) .ret))))
def c13 : FCode := ⟨20, c13_b, [(.tmp 2)], some ([2], [], []), false⟩
theorem c13_ok : compF Go.Proofs.Tryd.prog [54, 67, 68, 69, 71, 91, 96] 13 = some (eraseF c13) := by kernel_rfl
def p17_4 : List PO := [⟨(.some 1), (.box 4 (.tmp 0)), .none⟩, ⟨(.some 2), (.mov (.const (.string ⟨#[]⟩))), .none⟩]
def p17_5 : List PO := [⟨(.some 3), (.alloc [(32, (.int .u8 0))]), .none⟩]
def p17_6 : List PO := [⟨(.some 5), (.mov (.const (.int .i64 0))), .none⟩]
def p17_7 : List PO := [⟨(.some 6), (.cmpI .lss (.tmp 5) (.const (.int .i64 256))), .none⟩]
def p17_8 : List PO := [⟨(.some 7), (.mov (.tmp 5)), .none⟩, ⟨(.some 4), (.mov (.tmp 7)), .none⟩]
def p17_9 : List PO := [⟨(.some 8), (.load .true 4 (.tmp 1)), .none⟩, ⟨(.some 9), (.mov (.tmp 4)), .none⟩, ⟨(.some 10), (.cvI .u8 (.tmp 9)), .none⟩, ⟨(.some 11), (.call 15 [(.tmp 8), (.tmp 10)]), .none⟩]
def p17_10 : List PO := [⟨(.some 12), (.mov (.tmp 4)), .none⟩, ⟨(.some 13), (.arI .quo (.tmp 12) (.const (.int .i64 8))), .none⟩, ⟨(.some 14), (.ixA 32 1 (.tmp 3) (.tmp 13)), .none⟩, ⟨(.some 15), (.load .false 1 (.tmp 14)), .none⟩, ⟨(.some 16), (.mov (.tmp 4)), .none⟩, ⟨(.some 17), (.arI .rem (.tmp 16) (.const (.int .i64 8))), .none⟩, ⟨(.some 18), (.sh .shr (.const (.int .u8 128)) (.tmp 17)), .none⟩, ⟨(.some 19), (.arI .or (.tmp 15) (.tmp 18)), .none⟩, ⟨(.some 20), (.ixA 32 1 (.tmp 3) (.tmp 13)), .none⟩, ⟨.none, (.store 1 (.tmp 20) (.tmp 19)), .none⟩]
def p17_11 : List PO := [⟨(.some 21), (.arI .add (.tmp 5) (.const (.int .i64 1))), .none⟩, ⟨(.some 5), (.mov (.tmp 21)), .none⟩]
def c17_1 : PCode := (.keep [1, 3, 5] [(16, .id 16), (32, .id 32)] [] (.seq (.block 1 (.seq (.reg p17_8) (.seq (.reg p17_9) (.cond (.tmp 11) (.regD p17_10 []) .skip)))) (.reg p17_11)))
def c17_2 : PCode := (.keep [1, 3, 5, 6] [(16, .id 16), (32, .id 32)] [] (.seq (.cond (.tmp 6) .skip (.keep [3] [(32, .id 32)] [] (.exit 0))) c17_1))
def c17_3 : PCode := (.keep [1, 3, 5] [(16, .id 16), (32, .id 32)] [] (.seq (.reg p17_7) c17_2))
def p17_12 : List PO := [⟨(.some 22), (.slA 32 1 (.tmp 3) .none .none), .none⟩, ⟨(.some 23), (.cvBS (.tmp 22)), .none⟩, ⟨(.some 24), (.call 21 [(.tmp 23), (.const (.string ⟨#[0]⟩))]), .none⟩, ⟨(.some 2), (.mov (.tmp 24)), .none⟩]
def c17_b : PCode := (.seq (.reg p17_4) (.seq (.reg p17_5) (.seq (.seq (.reg p17_6) (.block 0 (.loop c17_3))) (.seq (.reg p17_12) .ret))))
def c17 : FCode := ⟨25, c17_b, [(.tmp 2)], some ([2], [], []), false⟩
theorem c17_ok : compF Go.Proofs.Tryd.prog [54, 67, 68, 69, 71, 91, 96] 17 = some (eraseF c17) := by kernel_rfl
def p14_1 : List PO := [⟨(.some 0), (.mov (.const (.bool .false))), .none⟩]
def p14_2 : List PO := [⟨(.some 2), (.call 12 [(.const (.string ⟨#[1, 10]⟩))]), .none⟩, ⟨(.some 1), (.alloc [(4, (.int .u64 0))]), .none⟩, ⟨.none, (.store 4 (.tmp 1) (.tmp 2)), .none⟩]
def p14_3 : List PO := [⟨(.some 3), (.load .true 4 (.tmp 1)), .none⟩, ⟨(.some 4), (.call 17 [(.tmp 3)]), .none⟩, ⟨(.some 5), (.strO .eql (.tmp 4) (.const (.string ⟨#[64, 32]⟩))), .none⟩, ⟨(.some 6), (.mov (.tmp 5)), .none⟩, ⟨(.some 7), (.load .true 4 (.tmp 1)), (.some (6, .true))⟩, ⟨(.some 8), (.call 15 [(.tmp 7), (.const (.int .u8 10))]), (.some (6, .true))⟩, ⟨(.some 9), (.pick (.tmp 6) (.tmp 8) (.const (.bool .false))), .none⟩, ⟨(.some 10), (.mov (.tmp 9)), .none⟩, ⟨(.some 11), (.load .true 4 (.tmp 1)), (.some (10, .true))⟩, ⟨(.some 12), (.call 15 [(.tmp 11), (.const (.int .u8 2))]), (.some (10, .true))⟩, ⟨(.some 13), (.un .not (.tmp 12)), (.some (10, .true))⟩, ⟨(.some 14), (.pick (.tmp 10) (.tmp 13) (.const (.bool .false))), .none⟩, ⟨(.some 0), (.mov (.tmp 14)), .none⟩]
def c14_b : PCode := (.seq (.reg p14_1) (.seq (.reg p14_2) (.seq (.reg p14_3) .ret)))
def c14 : FCode := ⟨15, c14_b, [(.tmp 0)], some ([0], [], []), false⟩
theorem c14_ok : compF Go.Proofs.Tryd.prog [54, 67, 68, 69, 71, 91, 96] 14 = some (eraseF c14) := by kernel_rfl
def p3_4 : List PO := [⟨(.some 6), (.mov (.const (.bool .false))), .none⟩]
def p3_5 : List PO := [⟨(.some 10), (.mov (.tmp 0)), .none⟩, ⟨(.some 11), (.mov (.tmp 1)), .none⟩, ⟨(.some 12), (.strO .add (.tmp 10) (.tmp 11)), .none⟩, ⟨(.some 13), (.call 12 [(.tmp 12)]), .none⟩, ⟨(.some 7), (.alloc [(4, (.int .u64 0))]), .none⟩, ⟨.none, (.store 4 (.tmp 7) (.tmp 13)), .none⟩]
def p3_6 : List PO := [⟨(.some 14), (.load .true 4 (.tmp 7)), .none⟩, ⟨(.some 15), (.call 13 [(.tmp 14)]), .none⟩, ⟨(.some 8), (.mov (.tmp 15)), .none⟩]
def p3_7 : List PO := [⟨(.some 9), (.mov (.const (.int .i64 1))), .none⟩]
def p3_8 : List PO := [⟨(.some 16), (.mov (.tmp 9)), .none⟩, ⟨(.some 17), (.mov (.tmp 8)), .none⟩, ⟨(.some 18), (.len .true (.tmp 17)), .none⟩, ⟨(.some 19), (.cmpI .lss (.tmp 16) (.tmp 18)), .none⟩]
def p3_9 : List PO := [⟨(.some 22), (.mov (.tmp 8)), .none⟩, ⟨(.some 23), (.mov (.tmp 9)), .none⟩, ⟨(.some 24), (.ixStr (.tmp 22) (.tmp 23)), .none⟩, ⟨(.some 25), (.mov (.tmp 8)), .none⟩, ⟨(.some 26), (.mov (.tmp 9)), .none⟩, ⟨(.some 27), (.arI .sub (.tmp 26) (.const (.int .i64 1))), .none⟩, ⟨(.some 28), (.ixStr (.tmp 25) (.tmp 27)), .none⟩, ⟨(.some 29), (.cmpI .leq (.tmp 24) (.tmp 28)), .none⟩]
def p3_10 : List PO := [⟨(.some 6), (.mov (.const (.bool .false))), .none⟩]
def p3_11 : List PO := [⟨(.some 20), (.mov (.tmp 9)), .none⟩, ⟨(.some 21), (.arI .add (.tmp 20) (.const (.int .i64 1))), .none⟩, ⟨(.some 9), (.mov (.tmp 21)), .none⟩]
def c3_2 : PCode := (.keep [0, 1, 2, 7, 8, 9] [(64, .id 64)] [] (.seq (.block 1 (.seq (.regD p3_9 []) (.cond (.tmp 29) (.seq (.reg p3_10) .ret) .skip))) (.reg p3_11)))
def c3_3 : PCode := (.keep [0, 1, 2, 7, 8, 9] [(64, .id 64)] [] (.seq (.seq (.reg p3_8) (.cond (.tmp 19) .skip (.keep [0, 1, 2, 7, 8] [(64, .id 64)] [] (.exit 0)))) c3_2))
def p3_12 : List PO := [⟨(.some 30), (.call 14 []), .none⟩, ⟨(.some 31), (.mov (.tmp 30)), .none⟩, ⟨(.some 32), (.load .true 4 (.tmp 7)), (.some (31, .true))⟩, ⟨(.some 33), (.mov (.tmp 2)), (.some (31, .true))⟩, ⟨(.some 34), (.call 15 [(.tmp 32), (.tmp 33)]), (.some (31, .true))⟩, ⟨(.some 35), (.mov (.tmp 0)), (.some (31, .true))⟩, ⟨(.some 36), (.call 12 [(.tmp 35)]), (.some (31, .true))⟩, ⟨(.some 37), (.mov (.tmp 2)), (.some (31, .true))⟩, ⟨(.some 38), (.call 15 [(.tmp 36), (.tmp 37)]), (.some (31, .true))⟩, ⟨(.some 39), (.mov (.tmp 38)), (.some (31, .true))⟩, ⟨(.some 40), (.mov (.tmp 1)), (.some (39, .false))⟩, ⟨(.some 41), (.call 12 [(.tmp 40)]), (.some (39, .false))⟩, ⟨(.some 42), (.mov (.tmp 2)), (.some (39, .false))⟩, ⟨(.some 43), (.call 15 [(.tmp 41), (.tmp 42)]), (.some (39, .false))⟩, ⟨(.some 44), (.pick (.tmp 39) (.const (.bool .true)) (.tmp 43)), (.some (31, .true))⟩, ⟨(.some 45), (.eqB .false (.tmp 34) (.tmp 44)), (.some (31, .true))⟩, ⟨(.some 46), (.pick (.tmp 31) (.tmp 45) (.const (.bool .false))), .none⟩, ⟨(.some 47), (.mov (.tmp 46)), .none⟩, ⟨(.some 48), (.load .true 4 (.tmp 7)), (.some (47, .true))⟩, ⟨(.some 49), (.mov (.tmp 2)), (.some (47, .true))⟩, ⟨(.some 50), (.call 15 [(.tmp 48), (.tmp 49)]), (.some (47, .true))⟩, ⟨(.some 51), (.mov (.tmp 8)), (.some (47, .true))⟩, ⟨(.some 52), (.mov (.tmp 2)), (.some (47, .true))⟩, ⟨(.some 53), (.bsl 5 1 1 [(1, (.int .u8 0))] [(0, (1, (.tmp 52)))]), (.some (47, .true))⟩, ⟨(.some 54), (.cvBS (.tmp 53)), (.some (47, .true))⟩, ⟨(.some 55), (.call 16 [(.tmp 51), (.tmp 54)]), (.some (47, .true))⟩, ⟨(.some 56), (.eqB .false (.tmp 50) (.tmp 55)), (.some (47, .true))⟩, ⟨(.some 57), (.pick (.tmp 47) (.tmp 56) (.const (.bool .false))), .none⟩, ⟨(.some 6), (.mov (.tmp 57)), .none⟩]
def c3_1 : PCode := (.keep [0, 1, 2, 7, 8] [(64, .id 64)] [] (.seq (.regD p3_12 [(18, 23), (20, 23), (20, 24)]) .ret))
def c3_b : PCode := (.seq (.reg p3_4) (.seq (.reg p3_5) (.seq (.reg p3_6) (.seq (.seq (.reg p3_7) (.block 0 (.loop c3_3))) c3_1))))
def c3 : FCode := ⟨58, c3_b, [(.tmp 6)], some ([6], [], []), false⟩
theorem c3_ok : compF Go.Proofs.Tryd.prog [54, 67, 68, 69, 71, 91, 96] 3 = some (eraseF c3) := by kernel_rfl
def p18_8 : List PO := [⟨(.some 2), (.alloc [(4, (.int .u64 0))]), .none⟩, ⟨(.some 3), (.mov (.const (.int .i64 0))), .none⟩]
def p18_9 : List PO := [⟨(.some 8), (.mov (.tmp 0)), .none⟩, ⟨(.some 9), (.len .true (.tmp 8)), .none⟩, ⟨(.some 10), (.cmpI .gtr (.tmp 9) (.const (.int .i64 32))), .none⟩]
def p18_10 : List PO := [⟨(.some 11), (.build [(4, (.int .u64 0))] []), .none⟩, ⟨.none, (.store 4 (.tmp 2) (.tmp 11)), .none⟩, ⟨(.some 3), (.mov (.const (.int .i64 2))), .none⟩]
def p18_11 : List PO := [⟨(.some 4), (.alloc [(4, (.int .u64 0))]), .none⟩]
def p18_12 : List PO := [⟨(.some 12), (.mov (.tmp 0)), .none⟩, ⟨(.some 13), (.len .true (.tmp 12)), .none⟩, ⟨(.some 14), (.mov (.const (.int .i64 0))), .none⟩]
def p18_13 : List PO := [⟨(.some 15), (.cmpI .lss (.tmp 14) (.tmp 13)), .none⟩]
def p18_14 : List PO := [⟨(.some 16), (.mov (.tmp 14)), .none⟩, ⟨(.some 5), (.mov (.tmp 16)), .none⟩]
def p18_15 : List PO := [⟨(.some 17), (.mov (.const (.int .i64 0))), .none⟩]
def p18_16 : List PO := [⟨(.some 18), (.cmpI .lss (.tmp 17) (.const (.int .i64 8))), .none⟩]
def p18_17 : List PO := [⟨(.some 19), (.mov (.tmp 17)), .none⟩, ⟨(.some 6), (.mov (.tmp 19)), .none⟩]
def p18_18 : List PO := [⟨(.some 20), (.mov (.tmp 0)), .none⟩, ⟨(.some 21), (.mov (.tmp 5)), .none⟩, ⟨(.some 22), (.ixStr (.tmp 20) (.tmp 21)), .none⟩, ⟨(.some 23), (.mov (.tmp 6)), .none⟩, ⟨(.some 24), (.sh .shr (.const (.int .u8 128)) (.tmp 23)), .none⟩, ⟨(.some 25), (.arI .and (.tmp 22) (.tmp 24)), .none⟩, ⟨(.some 26), (.cmpI .neq (.tmp 25) (.const (.int .u8 0))), .none⟩]
def p18_19 : List PO := [⟨(.some 27), (.mov (.tmp 5)), .none⟩, ⟨(.some 28), (.arI .mul (.const (.int .i64 8)) (.tmp 27)), .none⟩, ⟨(.some 29), (.mov (.tmp 6)), .none⟩, ⟨(.some 30), (.arI .add (.tmp 28) (.tmp 29)), .none⟩, ⟨(.some 7), (.mov (.tmp 30)), .none⟩]
def p18_20 : List PO := [⟨(.some 31), (.mov (.tmp 7)), .none⟩, ⟨(.some 32), (.arI .quo (.tmp 31) (.const (.int .i64 64))), .none⟩, ⟨(.some 33), (.fld 0 (.tmp 4)), .none⟩, ⟨(.some 34), (.ixA 4 1 (.tmp 33) (.tmp 32)), .none⟩, ⟨(.some 35), (.load .false 1 (.tmp 34)), .none⟩, ⟨(.some 36), (.mov (.tmp 7)), .none⟩, ⟨(.some 37), (.arI .rem (.tmp 36) (.const (.int .i64 64))), .none⟩, ⟨(.some 38), (.sh .shl (.const (.int .u64 1)) (.tmp 37)), .none⟩, ⟨(.some 39), (.arI .or (.tmp 35) (.tmp 38)), .none⟩, ⟨(.some 40), (.fld 0 (.tmp 4)), .none⟩, ⟨(.some 41), (.ixA 4 1 (.tmp 40) (.tmp 32)), .none⟩, ⟨.none, (.store 1 (.tmp 41) (.tmp 39)), .none⟩]
def p18_21 : List PO := [⟨(.some 42), (.arI .add (.tmp 17) (.const (.int .i64 1))), .none⟩, ⟨(.some 17), (.mov (.tmp 42)), .none⟩]
def c18_1 : PCode := (.keep [0, 2, 4, 5, 13, 14, 17] [(24, .id 24), (40, .id 40)] [] (.seq (.block 3 (.seq (.reg p18_17) (.seq (.regD p18_18 []) (.cond (.tmp 26) (.seq (.reg p18_19) (.regD p18_20 [])) .skip)))) (.reg p18_21)))
def c18_2 : PCode := (.keep [0, 2, 4, 5, 13, 14, 17, 18] [(24, .id 24), (40, .id 40)] [] (.seq (.cond (.tmp 18) .skip (.keep [0, 2, 4, 13, 14] [(24, .id 24), (40, .id 40)] [] (.exit 2))) c18_1))
def c18_3 : PCode := (.keep [0, 2, 4, 5, 13, 14, 17] [(24, .id 24), (40, .id 40)] [] (.seq (.reg p18_16) c18_2))
def p18_22 : List PO := [⟨(.some 43), (.arI .add (.tmp 14) (.const (.int .i64 1))), .none⟩, ⟨(.some 14), (.mov (.tmp 43)), .none⟩]
def c18_4 : PCode := (.keep [0, 2, 4, 13, 14] [(24, .id 24), (40, .id 40)] [] (.seq (.block 1 (.seq (.reg p18_14) (.seq (.reg p18_15) (.block 2 (.loop c18_3))))) (.reg p18_22)))
def c18_5 : PCode := (.keep [0, 2, 4, 13, 14, 15] [(24, .id 24), (40, .id 40)] [] (.seq (.cond (.tmp 15) .skip (.keep [2, 4] [(24, .id 24), (40, .id 40)] [] (.exit 0))) c18_4))
def c18_6 : PCode := (.keep [0, 2, 4, 13, 14] [(24, .id 24), (40, .id 40)] [] (.seq (.reg p18_13) c18_5))
def p18_23 : List PO := [⟨(.some 44), (.load .true 4 (.tmp 4)), .none⟩, ⟨.none, (.store 4 (.tmp 2) (.tmp 44)), .none⟩, ⟨(.some 3), (.mov (.const (.int .i64 0))), .none⟩]
def c18_7 : PCode := (.keep [0, 2] [(24, .id 24)] [] (.seq (.reg p18_11) (.seq (.seq (.reg p18_12) (.block 0 (.loop c18_6))) (.seq (.reg p18_23) .ret))))
def c18_b : PCode := (.seq (.reg p18_8) (.seq (.seq (.reg p18_9) (.cond (.tmp 10) (.seq (.reg p18_10) .ret) .skip)) c18_7))
def c18 : FCode := ⟨45, c18_b, [(.cell 2 .true 4), (.tmp 3)], some ([2, 3], [(24, .id 24)], []), false⟩
theorem c18_ok : compF Go.Proofs.Tryd.prog [54, 67, 68, 69, 71, 91, 96] 18 = some (eraseF c18) := by kernel_rfl
def p4_3 : List PO := [⟨(.some 2), (.box 4 (.tmp 0)), .none⟩, ⟨(.some 4), (.mov (.const (.bool .false))), .none⟩]
def p4_4 : List PO := [⟨(.some 10), (.load .true 4 (.tmp 2)), .none⟩, ⟨(.some 11), (.call 17 [(.tmp 10)]), .none⟩, ⟨(.some 5), (.mov (.tmp 11)), .none⟩]
def p4_5 : List PO := [⟨(.some 13), (.mov (.tmp 5)), .none⟩, ⟨(.some 14), (.call 18 [(.tmp 13)]), .none⟩, ⟨(.some 12), (.mov (.tmp 14)), .none⟩, ⟨(.some 15), (.ext (.tmp 12) 0), .none⟩, ⟨(.some 16), (.ext (.tmp 12) 1), .none⟩, ⟨(.some 6), (.alloc [(4, (.int .u64 0))]), .none⟩, ⟨.none, (.store 4 (.tmp 6) (.tmp 15)), .none⟩, ⟨(.some 7), (.mov (.tmp 16)), .none⟩]
def p4_6 : List PO := [⟨(.some 17), (.call 14 []), .none⟩, ⟨(.some 18), (.un .not (.tmp 17)), .none⟩, ⟨(.some 19), (.mov (.tmp 18)), .none⟩, ⟨(.some 20), (.mov (.tmp 7)), (.some (19, .false))⟩, ⟨(.some 21), (.cmpI .neq (.tmp 20) (.const (.int .i64 0))), (.some (19, .false))⟩, ⟨(.some 22), (.pick (.tmp 19) (.const (.bool .true)) (.tmp 21)), .none⟩, ⟨(.some 23), (.mov (.tmp 22)), .none⟩, ⟨(.some 24), (.load .true 4 (.tmp 6)), (.some (23, .false))⟩, ⟨(.some 25), (.load .true 4 (.tmp 2)), (.some (23, .false))⟩, ⟨(.some 26), (.eqA .true [(4, .int)] (.tmp 24) (.tmp 25)), (.some (23, .false))⟩, ⟨(.some 27), (.pick (.tmp 23) (.const (.bool .true)) (.tmp 26)), .none⟩, ⟨(.some 28), (.mov (.tmp 27)), .none⟩, ⟨(.some 29), (.mov (.tmp 5)), (.some (28, .false))⟩, ⟨(.some 30), (.len .true (.tmp 29)), (.some (28, .false))⟩, ⟨(.some 31), (.cmpI .gtr (.tmp 30) (.const (.int .i64 32))), (.some (28, .false))⟩, ⟨(.some 32), (.pick (.tmp 28) (.const (.bool .true)) (.tmp 31)), .none⟩, ⟨(.some 33), (.mov (.tmp 32)), .none⟩, ⟨(.some 34), (.mov (.tmp 5)), (.some (33, .false))⟩, ⟨(.some 35), (.call 19 [(.tmp 34), (.const (.string ⟨#[0]⟩))]), (.some (33, .false))⟩, ⟨(.some 36), (.pick (.tmp 33) (.const (.bool .true)) (.tmp 35)), .none⟩, ⟨(.some 37), (.mov (.tmp 36)), .none⟩, ⟨(.some 38), (.load .true 4 (.tmp 2)), (.some (37, .false))⟩, ⟨(.some 39), (.call 13 [(.tmp 38)]), (.some (37, .false))⟩, ⟨(.some 40), (.call 12 [(.tmp 39)]), (.some (37, .false))⟩, ⟨(.some 41), (.load .true 4 (.tmp 2)), (.some (37, .false))⟩, ⟨(.some 42), (.eqA .true [(4, .int)] (.tmp 40) (.tmp 41)), (.some (37, .false))⟩, ⟨(.some 43), (.pick (.tmp 37) (.const (.bool .true)) (.tmp 42)), .none⟩]
def p4_7 : List PO := [⟨(.some 4), (.mov (.const (.bool .false))), .none⟩]
def p4_8 : List PO := [⟨(.some 45), (.mov (.tmp 5)), .none⟩, ⟨(.some 46), (.mov (.tmp 5)), .none⟩, ⟨(.some 47), (.len .true (.tmp 46)), .none⟩, ⟨(.some 48), (.arI .sub (.const (.int .i64 32)) (.tmp 47)), .none⟩, ⟨(.some 49), (.call 20 [(.const (.string ⟨#[0]⟩)), (.tmp 48)]), .none⟩, ⟨(.some 50), (.strO .add (.tmp 45) (.tmp 49)), .none⟩, ⟨(.some 51), (.call 18 [(.tmp 50)]), .none⟩, ⟨(.some 44), (.mov (.tmp 51)), .none⟩, ⟨(.some 52), (.ext (.tmp 44) 0), .none⟩, ⟨(.some 53), (.ext (.tmp 44) 1), .none⟩, ⟨(.some 8), (.alloc [(4, (.int .u64 0))]), .none⟩, ⟨.none, (.store 4 (.tmp 8) (.tmp 52)), .none⟩, ⟨(.some 7), (.mov (.tmp 53)), .none⟩]
def p4_9 : List PO := [⟨(.some 54), (.mov (.tmp 7)), .none⟩, ⟨(.some 55), (.cmpI .neq (.tmp 54) (.const (.int .i64 0))), .none⟩, ⟨(.some 56), (.mov (.tmp 55)), .none⟩, ⟨(.some 57), (.load .true 4 (.tmp 8)), (.some (56, .false))⟩, ⟨(.some 58), (.load .true 4 (.tmp 2)), (.some (56, .false))⟩, ⟨(.some 59), (.eqA .true [(4, .int)] (.tmp 57) (.tmp 58)), (.some (56, .false))⟩, ⟨(.some 60), (.pick (.tmp 56) (.const (.bool .true)) (.tmp 59)), .none⟩]
def p4_10 : List PO := [⟨(.some 4), (.mov (.const (.bool .false))), .none⟩]
def p4_11 : List PO := [⟨(.some 62), (.mov (.tmp 1)), .none⟩, ⟨(.some 63), (.call 18 [(.tmp 62)]), .none⟩, ⟨(.some 61), (.mov (.tmp 63)), .none⟩, ⟨(.some 64), (.ext (.tmp 61) 0), .none⟩, ⟨(.some 65), (.ext (.tmp 61) 1), .none⟩, ⟨(.some 9), (.alloc [(4, (.int .u64 0))]), .none⟩, ⟨.none, (.store 4 (.tmp 9) (.tmp 64)), .none⟩, ⟨(.some 7), (.mov (.tmp 65)), .none⟩]
def p4_12 : List PO := [⟨(.some 66), (.mov (.tmp 7)), .none⟩, ⟨(.some 67), (.cmpI .neq (.tmp 66) (.const (.int .i64 0))), .none⟩, ⟨(.some 68), (.mov (.tmp 67)), .none⟩, ⟨(.some 69), (.mov (.tmp 1)), (.some (68, .true))⟩, ⟨(.some 70), (.len .true (.tmp 69)), (.some (68, .true))⟩, ⟨(.some 71), (.cmpI .gtr (.tmp 70) (.const (.int .i64 32))), (.some (68, .true))⟩, ⟨(.some 72), (.pick (.tmp 68) (.tmp 71) (.const (.bool .false))), .none⟩, ⟨(.some 73), (.mov (.tmp 72)), .none⟩, ⟨(.some 74), (.mov (.tmp 7)), (.some (73, .false))⟩, ⟨(.some 75), (.cmpI .eql (.tmp 74) (.const (.int .i64 0))), (.some (73, .false))⟩, ⟨(.some 76), (.mov (.tmp 75)), (.some (73, .false))⟩, ⟨(.some 77), (.load .true 4 (.tmp 9)), (.some (76, .true))⟩, ⟨(.some 78), (.call 17 [(.tmp 77)]), (.some (76, .true))⟩, ⟨(.some 79), (.mov (.tmp 1)), (.some (76, .true))⟩, ⟨(.some 80), (.call 21 [(.tmp 79), (.const (.string ⟨#[0]⟩))]), (.some (76, .true))⟩, ⟨(.some 81), (.strO .eql (.tmp 78) (.tmp 80)), (.some (76, .true))⟩, ⟨(.some 82), (.pick (.tmp 76) (.tmp 81) (.const (.bool .false))), (.some (73, .false))⟩, ⟨(.some 83), (.pick (.tmp 73) (.const (.bool .true)) (.tmp 82)), .none⟩, ⟨(.some 4), (.mov (.tmp 83)), .none⟩]
def c4_1 : PCode := (.keep [1] [] [] (.seq (.reg p4_11) (.seq (.reg p4_12) .ret)))
def c4_2 : PCode := (.keep [1, 2, 5] [(24, .id 24)] [] (.seq (.reg p4_8) (.seq (.seq (.reg p4_9) (.cond (.tmp 60) (.seq (.reg p4_10) .ret) .skip)) c4_1)))
def c4_b : PCode := (.seq (.reg p4_3) (.seq (.reg p4_4) (.seq (.reg p4_5) (.seq (.seq (.regD p4_6 [(22, 24), (23, 24)]) (.cond (.tmp 43) (.seq (.reg p4_7) .ret) .skip)) c4_2))))
def c4 : FCode := ⟨84, c4_b, [(.tmp 4)], some ([4], [], []), false⟩
theorem c4_ok : compF Go.Proofs.Tryd.prog [54, 67, 68, 69, 71, 91, 96] 4 = some (eraseF c4) := by kernel_rfl
def codes : Nat → Option FCode
  | 3 => some c3
  | 4 => some c4
  | 12 => some c12
  | 13 => some c13
  | 14 => some c14
  | 15 => some c15
  | 17 => some c17
  | 18 => some c18
  | _ => none
theorem codes_ok : ∀ f fc, codes f = some fc → compF Go.Proofs.Tryd.prog [54, 67, 68, 69, 71, 91, 96] f = some (eraseF fc) := by
  intro f fc h
  unfold codes at h
  split at h
  · cases h; exact c3_ok
  · cases h; exact c4_ok
  · cases h; exact c12_ok
  · cases h; exact c13_ok
  · cases h; exact c14_ok
  · cases h; exact c15_ok
  · cases h; exact c17_ok
  · cases h; exact c18_ok
  · cases h
theorem codes3 : codes 3 = some c3 := rfl
theorem codes4 : codes 4 = some c4 := rfl
theorem codes12 : codes 12 = some c12 := rfl
theorem codes13 : codes 13 = some c13 := rfl
theorem codes14 : codes 14 = some c14 := rfl
theorem codes15 : codes 15 = some c15 := rfl
theorem codes17 : codes 17 = some c17 := rfl
theorem codes18 : codes 18 = some c18 := rfl
noncomputable def libs : List (Nat × (List PV → Option PD)) := [(21, ossS libTrimRight), (16, ossB libContains), (19, ossB libHasSuffix), (20, osiS libRepeat)]
noncomputable abbrev baseL : Orc := libO libs
end Go.Proofs.YtanhpibphkblnaaDoor.Pm
