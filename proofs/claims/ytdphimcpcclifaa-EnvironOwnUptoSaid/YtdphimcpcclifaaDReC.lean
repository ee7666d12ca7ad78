/- The small machine's codes of some functions. Printed by dec.py. -/
import Derived.Test.YtdphimcpcclifaaPa
import Derived.Test.YtdphimcpcclifaaProg
namespace Go.Proofs.Ytdphimcpcclifaa.Re
open Go.Proofs.Ytdphimcpcclifaa.Pm
set_option maxRecDepth 1000000
set_option maxHeartbeats 20000000
set_option linter.unusedVariables false
structure GVar where
  Name : List UInt8
  Value : List UInt8
  User : Bool
  Set : Bool
def e_GVar : Enc GVar := ⟨4, fun x => [.str x.Name, .str x.Value, .bool x.User, .bool x.Set], fun _ => rfl⟩
def p14_5 : List PO := [⟨(.some 2), (.mov (.const (.string ⟨#[]⟩))), .none⟩, ⟨(.some 3), (.mov (.const (.string ⟨#[]⟩))), .none⟩]
def p14_6 : List PO := [⟨(.some 4), (.nilS 5 1), .none⟩]
def p14_7 : List PO := [⟨(.some 5), (.mov (.const (.int .i64 0))), .none⟩]
def p14_8 : List PO := [⟨(.some 6), (.mov (.tmp 5)), .none⟩, ⟨(.some 7), (.mov (.tmp 0)), .none⟩, ⟨(.some 8), (.len .true (.tmp 7)), .none⟩, ⟨(.some 9), (.cmpI .lss (.tmp 6) (.tmp 8)), .none⟩, ⟨(.some 10), (.mov (.tmp 9)), .none⟩, ⟨(.some 11), (.mov (.tmp 0)), (.some (10, .true))⟩, ⟨(.some 12), (.mov (.tmp 5)), (.some (10, .true))⟩, ⟨(.some 13), (.ixStr (.tmp 11) (.tmp 12)), (.some (10, .true))⟩, ⟨(.some 14), (.cmpI .gtr (.tmp 13) (.const (.int .u8 3))), (.some (10, .true))⟩, ⟨(.some 15), (.mov (.tmp 14)), (.some (10, .true))⟩, ⟨(.some 16), (.mov (.tmp 0)), (.some (15, .false))⟩, ⟨(.some 17), (.mov (.tmp 5)), (.some (15, .false))⟩, ⟨(.some 18), (.ixStr (.tmp 16) (.tmp 17)), (.some (15, .false))⟩, ⟨(.some 19), (.cmpI .eql (.tmp 18) (.const (.int .u8 2))), (.some (15, .false))⟩, ⟨(.some 20), (.mov (.tmp 19)), (.some (15, .false))⟩, ⟨(.some 21), (.mov (.tmp 5)), (.some (20, .true))⟩, ⟨(.some 22), (.arI .add (.tmp 21) (.const (.int .i64 1))), (.some (20, .true))⟩, ⟨(.some 23), (.mov (.tmp 0)), (.some (20, .true))⟩, ⟨(.some 24), (.len .true (.tmp 23)), (.some (20, .true))⟩, ⟨(.some 25), (.cmpI .lss (.tmp 22) (.tmp 24)), (.some (20, .true))⟩, ⟨(.some 26), (.pick (.tmp 20) (.tmp 25) (.const (.bool .false))), (.some (15, .false))⟩, ⟨(.some 27), (.pick (.tmp 15) (.const (.bool .true)) (.tmp 26)), (.some (10, .true))⟩, ⟨(.some 28), (.pick (.tmp 10) (.tmp 27) (.const (.bool .false))), .none⟩]
def p14_9 : List PO := [⟨(.some 29), (.mov (.tmp 0)), .none⟩, ⟨(.some 30), (.mov (.tmp 5)), .none⟩, ⟨(.some 31), (.ixStr (.tmp 29) (.tmp 30)), .none⟩, ⟨(.some 32), (.cmpI .eql (.tmp 31) (.const (.int .u8 2))), .none⟩]
def p14_10 : List PO := [⟨(.some 33), (.mov (.tmp 5)), .none⟩, ⟨(.some 34), (.arI .add (.tmp 33) (.const (.int .i64 1))), .none⟩, ⟨(.some 5), (.mov (.tmp 34)), .none⟩]
def p14_11 : List PO := [⟨(.some 35), (.mov (.tmp 4)), .none⟩, ⟨(.some 36), (.mov (.tmp 0)), .none⟩, ⟨(.some 37), (.mov (.tmp 5)), .none⟩, ⟨(.some 38), (.ixStr (.tmp 36) (.tmp 37)), .none⟩, ⟨(.some 39), (.bsl 5 1 1 [(1, (.int .u8 0))] [(0, (1, (.tmp 38)))]), .none⟩, ⟨(.some 40), (.app 5 1 1 (.tmp 35) (.tmp 39)), .none⟩, ⟨(.some 4), (.mov (.tmp 40)), .none⟩]
def p14_12 : List PO := [⟨(.some 41), (.mov (.tmp 5)), .none⟩, ⟨(.some 42), (.arI .add (.tmp 41) (.const (.int .i64 1))), .none⟩, ⟨(.some 5), (.mov (.tmp 42)), .none⟩]
def c14_2 : PCode := (.keep [0, 4, 5] [(40, .id 40)] [] (.seq (.reg p14_11) (.reg p14_12)))
def c14_3 : PCode := (.keep [0, 4, 5] [(40, .id 40)] [] (.block 1 (.seq (.seq (.reg p14_9) (.cond (.tmp 32) (.reg p14_10) .skip)) c14_2)))
def c14_4 : PCode := (.keep [0, 4, 5] [(40, .id 40)] [] (.seq (.seq (.reg p14_8) (.cond (.tmp 28) .skip (.keep [0, 4, 5] [(40, .id 40)] [] (.exit 0)))) c14_3))
def p14_13 : List PO := [⟨(.some 43), (.mov (.tmp 4)), .none⟩, ⟨(.some 44), (.cvBS (.tmp 43)), .none⟩, ⟨(.some 45), (.mov (.tmp 0)), .none⟩, ⟨(.some 46), (.mov (.tmp 5)), .none⟩, ⟨(.some 47), (.slStr (.tmp 45) (.some (.tmp 46)) .none), .none⟩, ⟨(.some 2), (.mov (.tmp 44)), .none⟩, ⟨(.some 3), (.mov (.tmp 47)), .none⟩]
def c14_1 : PCode := (.keep [0, 4, 5] [(40, .id 40)] [] (.seq (.regD p14_13 []) .ret))
def c14_b : PCode := (.seq (.reg p14_5) (.seq (.reg p14_6) (.seq (.reg p14_7) (.seq (.block 0 (.loop c14_4)) c14_1))))
def c14 : FCode := ⟨48, c14_b, [(.tmp 2), (.tmp 3)], some ([2, 3], [], []), false⟩
theorem c14_ok : compF Go.Proofs.Try.prog [17] 14 = some (eraseF c14) := by kernel_rfl
def p16_1 : List PO := [⟨(.some 1), (.box 4 (.tmp 0)), .none⟩, ⟨(.some 2), (.mov (.const (.bool .false))), .none⟩]
def p16_2 : List PO := [⟨(.some 3), (.fld 0 (.tmp 1)), .none⟩, ⟨(.some 4), (.load .false 1 (.tmp 3)), .none⟩, ⟨(.some 5), (.len .true (.tmp 4)), .none⟩, ⟨(.some 6), (.cmpI .gtr (.tmp 5) (.const (.int .i64 200))), .none⟩, ⟨(.some 7), (.mov (.tmp 6)), .none⟩, ⟨(.some 8), (.fld 1 (.tmp 1)), (.some (7, .false))⟩, ⟨(.some 9), (.load .false 1 (.tmp 8)), (.some (7, .false))⟩, ⟨(.some 10), (.len .true (.tmp 9)), (.some (7, .false))⟩, ⟨(.some 11), (.cmpI .gtr (.tmp 10) (.const (.int .i64 200))), (.some (7, .false))⟩, ⟨(.some 12), (.pick (.tmp 7) (.const (.bool .true)) (.tmp 11)), .none⟩, ⟨(.some 2), (.mov (.tmp 12)), .none⟩]
def c16_b : PCode := (.seq (.reg p16_1) (.seq (.reg p16_2) .ret))
def c16 : FCode := ⟨13, c16_b, [(.tmp 2)], some ([2], [], []), false⟩
theorem c16_ok : compF Go.Proofs.Try.prog [17] 16 = some (eraseF c16) := by kernel_rfl
def p21_4 : List PO := [⟨(.some 4), (.mov (.const (.int .i64 0))), .none⟩]
def p21_5 : List PO := [⟨(.some 6), (.mov (.tmp 0)), .none⟩, ⟨(.some 7), (.len .false (.tmp 6)), .none⟩, ⟨(.some 8), (.mov (.const (.int .i64 0))), .none⟩]
def p21_6 : List PO := [⟨(.some 9), (.cmpI .lss (.tmp 8) (.tmp 7)), .none⟩]
def p21_7 : List PO := [⟨(.some 10), (.mov (.tmp 8)), .none⟩, ⟨(.some 5), (.mov (.tmp 10)), .none⟩]
def p21_8 : List PO := [⟨(.some 11), (.mov (.tmp 1)), .none⟩, ⟨(.some 12), (.mov (.tmp 0)), .none⟩, ⟨(.some 13), (.mov (.tmp 5)), .none⟩, ⟨(.some 14), (.ixS 25 4 (.tmp 12) (.tmp 13)), .none⟩, ⟨(.some 15), (.load .true 4 (.tmp 14)), .none⟩, ⟨(.some 16), (.callv (.tmp 11) [(.tmp 15)]), .none⟩]
def p21_9 : List PO := [⟨(.some 17), (.mov (.tmp 5)), .none⟩, ⟨(.some 4), (.mov (.tmp 17)), .none⟩]
def p21_10 : List PO := [⟨(.some 18), (.arI .add (.tmp 8) (.const (.int .i64 1))), .none⟩, ⟨(.some 8), (.mov (.tmp 18)), .none⟩]
def c21_1 : PCode := (.keep [0, 1, 7, 8] [] [] (.seq (.block 1 (.seq (.reg p21_7) (.seq (.reg p21_8) (.cond (.tmp 16) (.seq (.reg p21_9) .ret) .skip)))) (.reg p21_10)))
def c21_2 : PCode := (.keep [0, 1, 7, 8, 9] [] [] (.seq (.cond (.tmp 9) .skip (.keep [] [] [] (.exit 0))) c21_1))
def c21_3 : PCode := (.keep [0, 1, 7, 8] [] [] (.seq (.reg p21_6) c21_2))
def p21_11 : List PO := [⟨(.some 4), (.mov (.const (.int .i64 (-1)))), .none⟩]
def c21_b : PCode := (.seq (.reg p21_4) (.seq (.seq (.reg p21_5) (.block 0 (.loop c21_3))) (.seq (.reg p21_11) .ret)))
def c21 : FCode := ⟨19, c21_b, [(.tmp 4)], some ([4], [], []), false⟩
theorem c21_ok : compF Go.Proofs.Try.prog [17] 21 = some (eraseF c21) := by kernel_rfl
def p15_1 : List PO := [⟨(.some 4), (.mov (.const (.bool .false))), .none⟩]
def p15_2 : List PO := [⟨(.some 5), (.mov (.tmp 0)), .none⟩, ⟨(.some 6), (.mov (.tmp 1)), .none⟩, ⟨(.some 7), (.call 21 [(.tmp 5), (.tmp 6)]), .none⟩, ⟨(.some 8), (.cmpI .geq (.tmp 7) (.const (.int .i64 0))), .none⟩, ⟨(.some 4), (.mov (.tmp 8)), .none⟩]
def c15_b : PCode := (.seq (.reg p15_1) (.seq (.reg p15_2) .ret))
def c15 : FCode := ⟨9, c15_b, [(.tmp 4)], some ([4], [], []), false⟩
theorem c15_ok : compF Go.Proofs.Try.prog [17] 15 = some (eraseF c15) := by kernel_rfl
def p17_6 : List PO := [⟨(.some 4), (.nilS 5 1), .none⟩]
def p17_7 : List PO := [⟨(.some 6), (.mov (.tmp 1)), .none⟩, ⟨(.some 7), (.len .true (.tmp 6)), .none⟩, ⟨(.some 8), (.mov (.const (.int .i64 0))), .none⟩]
def p17_8 : List PO := [⟨(.some 9), (.cmpI .lss (.tmp 8) (.tmp 7)), .none⟩]
def p17_9 : List PO := [⟨(.some 10), (.mov (.tmp 8)), .none⟩, ⟨(.some 5), (.mov (.tmp 10)), .none⟩]
def p17_10 : List PO := [⟨(.some 11), (.mov (.tmp 1)), .none⟩, ⟨(.some 12), (.mov (.tmp 5)), .none⟩, ⟨(.some 13), (.ixStr (.tmp 11) (.tmp 12)), .none⟩, ⟨(.some 14), (.cmpI .leq (.tmp 13) (.const (.int .u8 3))), .none⟩]
def p17_11 : List PO := [⟨(.some 15), (.mov (.tmp 0)), .none⟩, ⟨(.some 16), (.bsl 5 1 1 [(1, (.int .u8 0))] [(0, (1, (.const (.int .u8 2))))]), .none⟩, ⟨(.some 17), (.app 5 1 1 (.tmp 15) (.tmp 16)), .none⟩, ⟨(.some 0), (.mov (.tmp 17)), .none⟩]
def p17_12 : List PO := [⟨(.some 18), (.mov (.tmp 0)), .none⟩, ⟨(.some 19), (.mov (.tmp 1)), .none⟩, ⟨(.some 20), (.mov (.tmp 5)), .none⟩, ⟨(.some 21), (.ixStr (.tmp 19) (.tmp 20)), .none⟩, ⟨(.some 22), (.bsl 5 1 1 [(1, (.int .u8 0))] [(0, (1, (.tmp 21)))]), .none⟩, ⟨(.some 23), (.app 5 1 1 (.tmp 18) (.tmp 22)), .none⟩, ⟨(.some 0), (.mov (.tmp 23)), .none⟩]
def c17_1 : PCode := (.keep [0, 1, 5, 7, 8, 1000000] [(0, .id 0)] [] (.reg p17_12))
def p17_13 : List PO := [⟨(.some 24), (.arI .add (.tmp 8) (.const (.int .i64 1))), .none⟩, ⟨(.some 8), (.mov (.tmp 24)), .none⟩]
def c17_2 : PCode := (.reg p17_13)
def c17_3 : PCode := (.keep [0, 1, 7, 8, 1000000] [(0, .id 0)] [] (.seq (.block 1 (.seq (.reg p17_9) (.seq (.seq (.reg p17_10) (.cond (.tmp 14) (.reg p17_11) .skip)) c17_1))) c17_2))
def c17_4 : PCode := (.keep [0, 1, 7, 8, 9, 1000000] [(0, .id 0)] [] (.seq (.cond (.tmp 9) .skip (.keep [0, 1000000] [(0, .id 0)] [] (.exit 0))) c17_3))
def c17_5 : PCode := (.keep [0, 1, 7, 8, 1000000] [(0, .id 0)] [] (.seq (.reg p17_8) c17_4))
def p17_14 : List PO := [⟨(.some 25), (.mov (.tmp 0)), .none⟩, ⟨(.some 4), (.mov (.tmp 25)), .none⟩]
def c17_b : PCode := (.seq (.reg p17_6) (.seq (.seq (.reg p17_7) (.block 0 (.loop c17_5))) (.seq (.reg p17_14) .ret)))
def c17 : FCode := ⟨26, c17_b, [(.tmp 4)], some ([4, 1000000], [(0, .id 0)], []), false⟩
theorem c17_ok : compF Go.Proofs.Try.prog [17] 17 = some (eraseF c17) := by kernel_rfl
def p10_8 : List PO := [⟨(.some 2), (.mov (.const (.string ⟨#[]⟩))), .none⟩, ⟨(.some 3), (.mov (.const (.int .i64 0))), .none⟩]
def p10_9 : List PO := [⟨(.some 8), (.mov (.tmp 0)), .none⟩, ⟨(.some 9), (.len .false (.tmp 8)), .none⟩, ⟨(.some 10), (.cmpI .gtr (.tmp 9) (.const (.int .i64 20))), .none⟩, ⟨(.some 11), (.mov (.tmp 10)), .none⟩, ⟨(.some 12), (.mov (.tmp 0)), (.some (11, .false))⟩, ⟨(.some 13), (.call 15 [(.tmp 12), (.func 16)]), (.some (11, .false))⟩, ⟨(.some 14), (.pick (.tmp 11) (.const (.bool .true)) (.tmp 13)), .none⟩]
def p10_10 : List PO := [⟨(.some 2), (.mov (.const (.string ⟨#[]⟩))), .none⟩, ⟨(.some 3), (.mov (.const (.int .i64 2))), .none⟩]
def p10_11 : List PO := [⟨(.some 4), (.nilS 5 1), .none⟩]
def p10_12 : List PO := [⟨(.some 15), (.mov (.tmp 0)), .none⟩, ⟨(.some 16), (.len .false (.tmp 15)), .none⟩, ⟨(.some 17), (.mov (.const (.int .i64 0))), .none⟩]
def p10_13 : List PO := [⟨(.some 18), (.cmpI .lss (.tmp 17) (.tmp 16)), .none⟩]
def p10_14 : List PO := [⟨(.some 19), (.ixS 25 4 (.tmp 15) (.tmp 17)), .none⟩, ⟨(.some 20), (.load .true 4 (.tmp 19)), .none⟩, ⟨(.some 6), (.alloc [(2, (.string ⟨#[]⟩)), (2, (.bool .false))]), .none⟩, ⟨.none, (.store 4 (.tmp 6) (.tmp 20)), .none⟩]
def p10_15 : List PO := [⟨(.some 21), (.fld 3 (.tmp 6)), .none⟩, ⟨(.some 22), (.load .false 1 (.tmp 21)), .none⟩, ⟨(.some 23), (.un .not (.tmp 22)), .none⟩, ⟨(.some 24), (.mov (.tmp 23)), .none⟩, ⟨(.some 25), (.fld 1 (.tmp 6)), (.some (24, .true))⟩, ⟨(.some 26), (.load .false 1 (.tmp 25)), (.some (24, .true))⟩, ⟨(.some 27), (.strO .neq (.tmp 26) (.const (.string ⟨#[]⟩))), (.some (24, .true))⟩, ⟨(.some 28), (.pick (.tmp 24) (.tmp 27) (.const (.bool .false))), .none⟩]
def p10_16 : List PO := [⟨(.some 2), (.mov (.const (.string ⟨#[]⟩))), .none⟩, ⟨(.some 3), (.mov (.const (.int .i64 4))), .none⟩]
def p10_17 : List PO := [⟨(.some 7), (.mov (.const (.int .u8 0))), .none⟩]
def p10_18 : List PO := [⟨(.some 29), (.fld 2 (.tmp 6)), .none⟩, ⟨(.some 30), (.load .false 1 (.tmp 29)), .none⟩]
def p10_19 : List PO := [⟨(.some 7), (.mov (.const (.int .u8 3))), .none⟩]
def p10_20 : List PO := [⟨(.some 31), (.mov (.tmp 4)), .none⟩, ⟨(.some 32), (.mov (.tmp 7)), .none⟩, ⟨(.some 33), (.bsl 5 1 1 [(1, (.int .u8 0))] [(0, (1, (.tmp 32)))]), .none⟩, ⟨(.some 34), (.app 5 1 1 (.tmp 31) (.tmp 33)), .none⟩, ⟨(.some 35), (.fld 0 (.tmp 6)), .none⟩, ⟨(.some 36), (.load .false 1 (.tmp 35)), .none⟩, ⟨(.some 37), (.callr 17 [(.tmp 34), (.tmp 36)]), .none⟩, ⟨(.some 4), (.mov (.tmp 37)), .none⟩]
def p10_21 : List PO := [⟨(.some 38), (.fld 3 (.tmp 6)), .none⟩, ⟨(.some 39), (.load .false 1 (.tmp 38)), .none⟩]
def p10_22 : List PO := [⟨(.some 40), (.mov (.tmp 4)), .none⟩, ⟨(.some 41), (.bsl 5 1 1 [(1, (.int .u8 0))] [(0, (1, (.const (.int .u8 1))))]), .none⟩, ⟨(.some 42), (.app 5 1 1 (.tmp 40) (.tmp 41)), .none⟩, ⟨(.some 43), (.fld 1 (.tmp 6)), .none⟩, ⟨(.some 44), (.load .false 1 (.tmp 43)), .none⟩, ⟨(.some 45), (.callr 17 [(.tmp 42), (.tmp 44)]), .none⟩, ⟨(.some 4), (.mov (.tmp 45)), .none⟩]
def c10_1 : PCode := (.keep [4, 6, 7, 15, 16, 17] [(40, .id 40), (56, .id 56)] [] (.seq (.regD p10_20 [(2, 5), (3, 5)]) (.seq (.reg p10_21) (.cond (.tmp 39) (.regD p10_22 [(1, 4), (2, 4)]) .skip))))
def c10_3 : PCode := (.keep [4, 6, 15, 16, 17] [(40, .id 40), (56, .id 56)] [] (.seq (.reg p10_17) (.seq (.seq (.reg p10_18) (.cond (.tmp 30) (.reg p10_19) .skip)) c10_1)))
def p10_23 : List PO := [⟨(.some 46), (.arI .add (.tmp 17) (.const (.int .i64 1))), .none⟩, ⟨(.some 17), (.mov (.tmp 46)), .none⟩]
def c10_2 : PCode := (.reg p10_23)
def c10_4 : PCode := (.keep [4, 15, 16, 17] [(40, .id 40)] [] (.seq (.block 1 (.seq (.reg p10_14) (.seq (.seq (.reg p10_15) (.cond (.tmp 28) (.seq (.reg p10_16) .ret) .skip)) c10_3))) c10_2))
def c10_5 : PCode := (.keep [4, 15, 16, 17, 18] [(40, .id 40)] [] (.seq (.cond (.tmp 18) .skip (.keep [4] [(40, .id 40)] [] (.exit 0))) c10_4))
def c10_6 : PCode := (.keep [4, 15, 16, 17] [(40, .id 40)] [] (.seq (.reg p10_13) c10_5))
def p10_24 : List PO := [⟨(.some 47), (.mov (.tmp 4)), .none⟩, ⟨(.some 48), (.cvBS (.tmp 47)), .none⟩, ⟨(.some 2), (.mov (.tmp 48)), .none⟩, ⟨(.some 3), (.mov (.const (.int .i64 0))), .none⟩]
def c10_7 : PCode := (.keep [0] [] [] (.seq (.reg p10_11) (.seq (.seq (.reg p10_12) (.block 0 (.loop c10_6))) (.seq (.reg p10_24) .ret))))
def c10_b : PCode := (.seq (.reg p10_8) (.seq (.seq (.reg p10_9) (.cond (.tmp 14) (.seq (.reg p10_10) .ret) .skip)) c10_7))
def c10 : FCode := ⟨49, c10_b, [(.tmp 2), (.tmp 3)], some ([2, 3], [], []), false⟩
theorem c10_ok : compF Go.Proofs.Try.prog [17] 10 = some (eraseF c10) := by kernel_rfl
def p7_7 : List PO := [⟨(.some 2), (.nilS 25 4), .none⟩, ⟨(.some 3), (.mov (.const (.int .i64 0))), .none⟩]
def p7_8 : List PO := [⟨(.some 9), (.mov (.tmp 0)), .none⟩, ⟨(.some 10), (.len .true (.tmp 9)), .none⟩, ⟨(.some 11), (.cmpI .gtr (.tmp 10) (.const (.int .i64 4096))), .none⟩]
def p7_9 : List PO := [⟨(.some 2), (.nilS 25 4), .none⟩, ⟨(.some 3), (.mov (.const (.int .i64 2))), .none⟩]
def p7_10 : List PO := [⟨(.some 4), (.nilS 25 4), .none⟩]
def p7_11 : List PO := [⟨(.some 12), (.mov (.tmp 0)), .none⟩, ⟨(.some 5), (.mov (.tmp 12)), .none⟩]
def p7_12 : List PO := [⟨(.some 13), (.mov (.tmp 5)), .none⟩, ⟨(.some 14), (.strO .neq (.tmp 13) (.const (.string ⟨#[]⟩))), .none⟩]
def p7_13 : List PO := [⟨(.some 15), (.mov (.tmp 5)), .none⟩, ⟨(.some 16), (.ixStr (.tmp 15) (.const (.int .i64 0))), .none⟩, ⟨(.some 17), (.cmpI .neq (.tmp 16) (.const (.int .u8 0))), .none⟩, ⟨(.some 18), (.mov (.tmp 17)), .none⟩, ⟨(.some 19), (.mov (.tmp 5)), (.some (18, .true))⟩, ⟨(.some 20), (.ixStr (.tmp 19) (.const (.int .i64 0))), (.some (18, .true))⟩, ⟨(.some 21), (.cmpI .neq (.tmp 20) (.const (.int .u8 3))), (.some (18, .true))⟩, ⟨(.some 22), (.pick (.tmp 18) (.tmp 21) (.const (.bool .false))), .none⟩]
def p7_14 : List PO := [⟨(.some 2), (.nilS 25 4), .none⟩, ⟨(.some 3), (.mov (.const (.int .i64 4))), .none⟩]
def p7_15 : List PO := [⟨(.some 23), (.mov (.tmp 5)), .none⟩, ⟨(.some 24), (.ixStr (.tmp 23) (.const (.int .i64 0))), .none⟩, ⟨(.some 25), (.cmpI .eql (.tmp 24) (.const (.int .u8 3))), .none⟩, ⟨(.some 26), (.build [(2, (.string ⟨#[]⟩)), (2, (.bool .false))] [(2, (1, (.tmp 25)))]), .none⟩, ⟨(.some 6), (.alloc [(2, (.string ⟨#[]⟩)), (2, (.bool .false))]), .none⟩, ⟨.none, (.store 4 (.tmp 6) (.tmp 26)), .none⟩]
def p7_16 : List PO := [⟨(.some 28), (.mov (.tmp 5)), .none⟩, ⟨(.some 29), (.slStr (.tmp 28) (.some (.const (.int .i64 1))) .none), .none⟩, ⟨(.some 30), (.call 14 [(.tmp 29)]), .none⟩, ⟨(.some 27), (.mov (.tmp 30)), .none⟩, ⟨(.some 31), (.ext (.tmp 27) 0), .none⟩, ⟨(.some 32), (.ext (.tmp 27) 1), .none⟩, ⟨(.some 33), (.fld 0 (.tmp 6)), .none⟩, ⟨.none, (.store 1 (.tmp 33) (.tmp 31)), .none⟩, ⟨(.some 5), (.mov (.tmp 32)), .none⟩]
def p7_17 : List PO := [⟨(.some 34), (.mov (.tmp 5)), .none⟩, ⟨(.some 35), (.strO .neq (.tmp 34) (.const (.string ⟨#[]⟩))), .none⟩, ⟨(.some 36), (.mov (.tmp 35)), .none⟩, ⟨(.some 37), (.mov (.tmp 5)), (.some (36, .true))⟩, ⟨(.some 38), (.ixStr (.tmp 37) (.const (.int .i64 0))), (.some (36, .true))⟩, ⟨(.some 39), (.cmpI .eql (.tmp 38) (.const (.int .u8 1))), (.some (36, .true))⟩, ⟨(.some 40), (.pick (.tmp 36) (.tmp 39) (.const (.bool .false))), .none⟩]
def p7_18 : List PO := [⟨(.some 41), (.fld 3 (.tmp 6)), .none⟩, ⟨.none, (.store 1 (.tmp 41) (.const (.bool .true))), .none⟩]
def p7_19 : List PO := [⟨(.some 43), (.mov (.tmp 5)), .none⟩, ⟨(.some 44), (.slStr (.tmp 43) (.some (.const (.int .i64 1))) .none), .none⟩, ⟨(.some 45), (.call 14 [(.tmp 44)]), .none⟩, ⟨(.some 42), (.mov (.tmp 45)), .none⟩, ⟨(.some 46), (.ext (.tmp 42) 0), .none⟩, ⟨(.some 47), (.ext (.tmp 42) 1), .none⟩, ⟨(.some 48), (.fld 1 (.tmp 6)), .none⟩, ⟨.none, (.store 1 (.tmp 48) (.tmp 46)), .none⟩, ⟨(.some 5), (.mov (.tmp 47)), .none⟩]
def p7_20 : List PO := [⟨(.some 49), (.mov (.tmp 4)), .none⟩, ⟨(.some 50), (.load .true 4 (.tmp 6)), .none⟩, ⟨(.some 51), (.bsl 25 4 1 [(2, (.string ⟨#[]⟩)), (2, (.bool .false))] [(0, (4, (.tmp 50)))]), .none⟩, ⟨(.some 52), (.app 25 4 40 (.tmp 49) (.tmp 51)), .none⟩, ⟨(.some 4), (.mov (.tmp 52)), .none⟩]
def c7_2 : PCode := (.keep [0, 4, 5, 6] [(40, .id 40), (56, .id 56)] [] (.seq (.reg p7_16) (.seq (.seq (.reg p7_17) (.cond (.tmp 40) (.seq (.reg p7_18) (.reg p7_19)) .skip)) (.reg p7_20))))
def c7_3 : PCode := (.keep [0, 4, 5] [(40, .id 40)] [] (.seq (.reg p7_15) c7_2))
def c7_4 : PCode := (.keep [0, 4, 5] [(40, .id 40)] [] (.block 1 (.seq (.seq (.reg p7_13) (.cond (.tmp 22) (.seq (.reg p7_14) .ret) .skip)) c7_3)))
def c7_5 : PCode := (.keep [0, 4, 5] [(40, .id 40)] [] (.seq (.seq (.reg p7_12) (.cond (.tmp 14) .skip (.keep [0, 4] [(40, .id 40)] [] (.exit 0)))) c7_4))
def p7_21 : List PO := [⟨(.some 54), (.mov (.tmp 4)), .none⟩, ⟨(.some 55), (.call 10 [(.tmp 54)]), .none⟩, ⟨(.some 53), (.mov (.tmp 55)), .none⟩, ⟨(.some 56), (.ext (.tmp 53) 0), .none⟩, ⟨(.some 57), (.ext (.tmp 53) 1), .none⟩, ⟨(.some 7), (.mov (.tmp 56)), .none⟩, ⟨(.some 8), (.mov (.tmp 57)), .none⟩]
def p7_22 : List PO := [⟨(.some 58), (.mov (.tmp 8)), .none⟩, ⟨(.some 59), (.cmpI .neq (.tmp 58) (.const (.int .i64 0))), .none⟩, ⟨(.some 60), (.mov (.tmp 59)), .none⟩, ⟨(.some 61), (.mov (.tmp 7)), (.some (60, .false))⟩, ⟨(.some 62), (.mov (.tmp 0)), (.some (60, .false))⟩, ⟨(.some 63), (.strO .neq (.tmp 61) (.tmp 62)), (.some (60, .false))⟩, ⟨(.some 64), (.pick (.tmp 60) (.const (.bool .true)) (.tmp 63)), .none⟩]
def p7_23 : List PO := [⟨(.some 2), (.nilS 25 4), .none⟩, ⟨(.some 3), (.mov (.const (.int .i64 4))), .none⟩]
def p7_24 : List PO := [⟨(.some 65), (.mov (.tmp 4)), .none⟩, ⟨(.some 2), (.mov (.tmp 65)), .none⟩, ⟨(.some 3), (.mov (.const (.int .i64 0))), .none⟩]
def c7_1 : PCode := (.keep [0, 4] [(40, .id 40)] [] (.seq (.seq (.reg p7_21) (.seq (.reg p7_22) (.cond (.tmp 64) (.seq (.reg p7_23) .ret) .skip))) (.seq (.reg p7_24) .ret)))
def c7_6 : PCode := (.keep [0] [] [] (.seq (.reg p7_10) (.seq (.seq (.reg p7_11) (.block 0 (.loop c7_5))) c7_1)))
def c7_b : PCode := (.seq (.reg p7_7) (.seq (.seq (.reg p7_8) (.cond (.tmp 11) (.seq (.reg p7_9) .ret) .skip)) c7_6))
def c7 : FCode := ⟨66, c7_b, [(.tmp 2), (.tmp 3)], some ([2, 3], [(561, (.slot 2 none))], []), false⟩
theorem c7_ok : compF Go.Proofs.Try.prog [17] 7 = some (eraseF c7) := by kernel_rfl
def p19_1 : List PO := [⟨(.some 1), (.box 4 (.tmp 0)), .none⟩, ⟨(.some 2), (.mov (.const (.bool .false))), .none⟩]
def p19_2 : List PO := [⟨(.some 3), (.fld 3 (.tmp 1)), .none⟩, ⟨(.some 4), (.load .false 1 (.tmp 3)), .none⟩, ⟨(.some 2), (.mov (.tmp 4)), .none⟩]
def c19_b : PCode := (.seq (.reg p19_1) (.seq (.reg p19_2) .ret))
def c19 : FCode := ⟨5, c19_b, [(.tmp 2)], some ([2], [], []), false⟩
theorem c19_ok : compF Go.Proofs.Try.prog [17] 19 = some (eraseF c19) := by kernel_rfl
def p12_2 : List PO := [⟨(.some 2), (.nilS 25 4), .none⟩, ⟨(.some 3), (.mov (.const (.int .i64 0))), .none⟩]
def p12_3 : List PO := [⟨(.some 7), (.mov (.tmp 0)), .none⟩, ⟨(.some 8), (.call 7 [(.tmp 7)]), .none⟩, ⟨(.some 6), (.mov (.tmp 8)), .none⟩, ⟨(.some 9), (.ext (.tmp 6) 0), .none⟩, ⟨(.some 10), (.ext (.tmp 6) 1), .none⟩, ⟨(.some 4), (.mov (.tmp 9)), .none⟩, ⟨(.some 5), (.mov (.tmp 10)), .none⟩]
def p12_4 : List PO := [⟨(.some 11), (.mov (.tmp 5)), .none⟩, ⟨(.some 12), (.cmpI .neq (.tmp 11) (.const (.int .i64 0))), .none⟩]
def p12_5 : List PO := [⟨(.some 13), (.mov (.tmp 5)), .none⟩, ⟨(.some 2), (.nilS 25 4), .none⟩, ⟨(.some 3), (.mov (.tmp 13)), .none⟩]
def p12_6 : List PO := [⟨(.some 14), (.mov (.tmp 4)), .none⟩, ⟨(.some 15), (.call 15 [(.tmp 14), (.func 19)]), .none⟩]
def p12_7 : List PO := [⟨(.some 2), (.nilS 25 4), .none⟩, ⟨(.some 3), (.mov (.const (.int .i64 4))), .none⟩]
def p12_8 : List PO := [⟨(.some 16), (.mov (.tmp 4)), .none⟩, ⟨(.some 2), (.mov (.tmp 16)), .none⟩, ⟨(.some 3), (.mov (.const (.int .i64 0))), .none⟩]
def c12_1 : PCode := (.keep [4] [(72, .id 72)] [] (.seq (.seq (.reg p12_6) (.cond (.tmp 15) (.seq (.reg p12_7) .ret) .skip)) (.seq (.reg p12_8) .ret)))
def c12_b : PCode := (.seq (.reg p12_2) (.seq (.reg p12_3) (.seq (.seq (.reg p12_4) (.cond (.tmp 12) (.seq (.reg p12_5) .ret) .skip)) c12_1)))
def c12 : FCode := ⟨17, c12_b, [(.tmp 2), (.tmp 3)], some ([2, 3], [(169, (.slot 2 none))], []), false⟩
theorem c12_ok : compF Go.Proofs.Try.prog [17] 12 = some (eraseF c12) := by kernel_rfl
def codes : Nat → Option FCode
  | 7 => some c7
  | 10 => some c10
  | 12 => some c12
  | 14 => some c14
  | 15 => some c15
  | 16 => some c16
  | 17 => some c17
  | 19 => some c19
  | 21 => some c21
  | _ => none
theorem codes_ok : ∀ f fc, codes f = some fc → compF Go.Proofs.Try.prog [17] f = some (eraseF fc) := by
  intro f fc h
  unfold codes at h
  split at h
  · cases h; exact c7_ok
  · cases h; exact c10_ok
  · cases h; exact c12_ok
  · cases h; exact c14_ok
  · cases h; exact c15_ok
  · cases h; exact c16_ok
  · cases h; exact c17_ok
  · cases h; exact c19_ok
  · cases h; exact c21_ok
  · cases h
theorem codes7 : codes 7 = some c7 := rfl
theorem codes10 : codes 10 = some c10 := rfl
theorem codes12 : codes 12 = some c12 := rfl
theorem codes14 : codes 14 = some c14 := rfl
theorem codes15 : codes 15 = some c15 := rfl
theorem codes16 : codes 16 = some c16 := rfl
theorem codes17 : codes 17 = some c17 := rfl
theorem codes19 : codes 19 = some c19 := rfl
theorem codes21 : codes 21 = some c21 := rfl
end Go.Proofs.Ytdphimcpcclifaa.Re
