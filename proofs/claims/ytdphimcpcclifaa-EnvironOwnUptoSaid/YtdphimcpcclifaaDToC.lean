/- The small machine's codes of some functions. Printed by dec.py. -/
import Derived.Test.YtdphimcpcclifaaLibN
import Derived.Test.YtdphimcpcclifaaProg
namespace Go.Proofs.Ytdphimcpcclifaa.Pm
set_option maxRecDepth 1000000
set_option maxHeartbeats 20000000
set_option linter.unusedVariables false
structure GVar where
  Name : List UInt8
  Value : List UInt8
  User : Bool
  Set : Bool
def e_GVar : Enc GVar := ⟨4, fun x => [.str x.Name, .str x.Value, .bool x.User, .bool x.Set], fun _ => rfl⟩
def p5_1 : List PO := [⟨(.some 2), (.nilS 25 4), .none⟩]
def p5_2 : List PO := [⟨(.some 3), (.mov (.tmp 0)), .none⟩, ⟨(.some 4), (.isN .false (.tmp 3)), .none⟩]
def p5_3 : List PO := [⟨(.some 2), (.nilS 25 4), .none⟩]
def p5_4 : List PO := [⟨(.some 5), (.bsl 25 4 0 [] []), .none⟩, ⟨(.some 6), (.mov (.tmp 0)), .none⟩, ⟨(.some 7), (.app 25 4 40 (.tmp 5) (.tmp 6)), .none⟩, ⟨(.some 2), (.mov (.tmp 7)), .none⟩]
def c5_b : PCode := (.seq (.reg p5_1) (.seq (.seq (.reg p5_2) (.cond (.tmp 4) (.seq (.reg p5_3) .ret) .skip)) (.seq (.reg p5_4) .ret)))
def c5 : FCode := ⟨8, c5_b, [(.tmp 2)], some ([2], [(97, (.slot 2 none))], []), true⟩
theorem c5_ok : compF Go.Proofs.Try.prog [17] 5 = some (eraseF c5) := by kernel_rfl
def p16_1 : List PO := [⟨(.some 1), (.box 4 (.tmp 0)), .none⟩, ⟨(.some 2), (.mov (.const (.bool .false))), .none⟩]
def p16_2 : List PO := [⟨(.some 3), (.fld 0 (.tmp 1)), .none⟩, ⟨(.some 4), (.load .false 1 (.tmp 3)), .none⟩, ⟨(.some 5), (.len .true (.tmp 4)), .none⟩, ⟨(.some 6), (.cmpI .gtr (.tmp 5) (.const (.int .i64 200))), .none⟩, ⟨(.some 7), (.mov (.tmp 6)), .none⟩, ⟨(.some 8), (.fld 1 (.tmp 1)), (.some (7, .false))⟩, ⟨(.some 9), (.load .false 1 (.tmp 8)), (.some (7, .false))⟩, ⟨(.some 10), (.len .true (.tmp 9)), (.some (7, .false))⟩, ⟨(.some 11), (.cmpI .gtr (.tmp 10) (.const (.int .i64 200))), (.some (7, .false))⟩, ⟨(.some 12), (.pick (.tmp 7) (.const (.bool .true)) (.tmp 11)), .none⟩, ⟨(.some 2), (.mov (.tmp 12)), .none⟩]
def c16_b : PCode := (.seq (.reg p16_1) (.seq (.reg p16_2) .ret))
def c16 : FCode := ⟨13, c16_b, [(.tmp 2)], some ([2], [], []), false⟩
theorem c16_ok : compF Go.Proofs.Try.prog [17] 16 = some (eraseF c16) := by kernel_rfl
def p21_4 : List PO := [⟨(.some 4), (.mov (.const (.int .i64 0))), .none⟩]
def p21_5 : List PO := [⟨(.some 6), (.mov (.tmp 0)), .none⟩, ⟨(.some 7), (.len .false (.tmp 6)), .none⟩, ⟨(.some 8), (.mov (.const (.int .i64 0))), .none⟩]
def p21_6 : List PO := [⟨(.some 9), (.cmpI .lss (.tmp 8) (.tmp 7)), .none⟩]
def p21_7 : List PO := [⟨(.some 10), (.mov (.tmp 8)), .none⟩, ⟨(.some 5), (.mov (.tmp 10)), .none⟩]
def p21_8 : List PO := [⟨(.some 11), (.mov (.tmp 1)), .none⟩, ⟨(.some 12), (.mov (.tmp 0)), .none⟩, ⟨(.some 13), (.mov (.tmp 5)), .none⟩, ⟨(.some 14), (.ixS 25 4 (.tmp 12) (.tmp 13)), .none⟩, ⟨(.some 15), (.load .true 4 (.tmp 14)), .none⟩, ⟨(.some 16), (.callv (.tmp 11) [(.tmp 15)]), .none⟩]
def p21_9 : List PO := [⟨(.some 17), (.mov (.tmp 5)), .none⟩, ⟨(.some 4), (.mov (.tmp 17)), .none⟩]
def p21_10 : List PO := [⟨(.some 18), (.arI .add (.tmp 8) (.const (.int .i64 1))), .none⟩, ⟨(.some 8), (.mov (.tmp 18)), .none⟩]
def c21_1 : PCode := (.keep [0, 1, 7, 8] [] [] (.seq (.block 1 (.seq (.reg p21_7) (.seq (.reg p21_8) (.cond (.tmp 16) (.seq (.reg p21_9) .ret) .skip)))) (.reg p21_10)))
def c21_2 : PCode := (.keep [0, 1, 7, 8, 9] [] [] (.seq (.cond (.tmp 9) .skip (.keep [] [] [] (.exit 0))) c21_1))
def c21_3 : PCode := (.keep [0, 1, 7, 8] [] [] (.seq (.reg p21_6) c21_2))
def p21_11 : List PO := [⟨(.some 4), (.mov (.const (.int .i64 (-1)))), .none⟩]
def c21_b : PCode := (.seq (.reg p21_4) (.seq (.seq (.reg p21_5) (.block 0 (.loop c21_3))) (.seq (.reg p21_11) .ret)))
def c21 : FCode := ⟨19, c21_b, [(.tmp 4)], some ([4], [], []), false⟩
theorem c21_ok : compF Go.Proofs.Try.prog [17] 21 = some (eraseF c21) := by kernel_rfl
def p15_1 : List PO := [⟨(.some 4), (.mov (.const (.bool .false))), .none⟩]
def p15_2 : List PO := [⟨(.some 5), (.mov (.tmp 0)), .none⟩, ⟨(.some 6), (.mov (.tmp 1)), .none⟩, ⟨(.some 7), (.call 21 [(.tmp 5), (.tmp 6)]), .none⟩, ⟨(.some 8), (.cmpI .geq (.tmp 7) (.const (.int .i64 0))), .none⟩, ⟨(.some 4), (.mov (.tmp 8)), .none⟩]
def c15_b : PCode := (.seq (.reg p15_1) (.seq (.reg p15_2) .ret))
def c15 : FCode := ⟨9, c15_b, [(.tmp 4)], some ([4], [], []), false⟩
theorem c15_ok : compF Go.Proofs.Try.prog [17] 15 = some (eraseF c15) := by kernel_rfl
def p17_6 : List PO := [⟨(.some 4), (.nilS 5 1), .none⟩]
def p17_7 : List PO := [⟨(.some 6), (.mov (.tmp 1)), .none⟩, ⟨(.some 7), (.len .true (.tmp 6)), .none⟩, ⟨(.some 8), (.mov (.const (.int .i64 0))), .none⟩]
def p17_8 : List PO := [⟨(.some 9), (.cmpI .lss (.tmp 8) (.tmp 7)), .none⟩]
def p17_9 : List PO := [⟨(.some 10), (.mov (.tmp 8)), .none⟩, ⟨(.some 5), (.mov (.tmp 10)), .none⟩]
def p17_10 : List PO := [⟨(.some 11), (.mov (.tmp 1)), .none⟩, ⟨(.some 12), (.mov (.tmp 5)), .none⟩, ⟨(.some 13), (.ixStr (.tmp 11) (.tmp 12)), .none⟩, ⟨(.some 14), (.cmpI .leq (.tmp 13) (.const (.int .u8 3))), .none⟩]
def p17_11 : List PO := [⟨(.some 15), (.mov (.tmp 0)), .none⟩, ⟨(.some 16), (.bsl 5 1 1 [(1, (.int .u8 0))] [(0, (1, (.const (.int .u8 2))))]), .none⟩, ⟨(.some 17), (.app 5 1 1 (.tmp 15) (.tmp 16)), .none⟩, ⟨(.some 0), (.mov (.tmp 17)), .none⟩]
def p17_12 : List PO := [⟨(.some 18), (.mov (.tmp 0)), .none⟩, ⟨(.some 19), (.mov (.tmp 1)), .none⟩, ⟨(.some 20), (.mov (.tmp 5)), .none⟩, ⟨(.some 21), (.ixStr (.tmp 19) (.tmp 20)), .none⟩, ⟨(.some 22), (.bsl 5 1 1 [(1, (.int .u8 0))] [(0, (1, (.tmp 21)))]), .none⟩, ⟨(.some 23), (.app 5 1 1 (.tmp 18) (.tmp 22)), .none⟩, ⟨(.some 0), (.mov (.tmp 23)), .none⟩]
def c17_1 : PCode := (.keep [0, 1, 5, 7, 8, 1000000] [(0, .id 0)] [] (.reg p17_12))
def p17_13 : List PO := [⟨(.some 24), (.arI .add (.tmp 8) (.const (.int .i64 1))), .none⟩, ⟨(.some 8), (.mov (.tmp 24)), .none⟩]
def c17_2 : PCode := (.reg p17_13)
def c17_3 : PCode := (.keep [0, 1, 7, 8, 1000000] [(0, .id 0)] [] (.seq (.block 1 (.seq (.reg p17_9) (.seq (.seq (.reg p17_10) (.cond (.tmp 14) (.reg p17_11) .skip)) c17_1))) c17_2))
def c17_4 : PCode := (.keep [0, 1, 7, 8, 9, 1000000] [(0, .id 0)] [] (.seq (.cond (.tmp 9) .skip (.keep [0, 1000000] [(0, .id 0)] [] (.exit 0))) c17_3))
def c17_5 : PCode := (.keep [0, 1, 7, 8, 1000000] [(0, .id 0)] [] (.seq (.reg p17_8) c17_4))
def p17_14 : List PO := [⟨(.some 25), (.mov (.tmp 0)), .none⟩, ⟨(.some 4), (.mov (.tmp 25)), .none⟩]
def c17_b : PCode := (.seq (.reg p17_6) (.seq (.seq (.reg p17_7) (.block 0 (.loop c17_5))) (.seq (.reg p17_14) .ret)))
def c17 : FCode := ⟨26, c17_b, [(.tmp 4)], some ([4, 1000000], [(0, .id 0)], []), false⟩
theorem c17_ok : compF Go.Proofs.Try.prog [17] 17 = some (eraseF c17) := by kernel_rfl
def p10_8 : List PO := [⟨(.some 2), (.mov (.const (.string ⟨#[]⟩))), .none⟩, ⟨(.some 3), (.mov (.const (.int .i64 0))), .none⟩]
def p10_9 : List PO := [⟨(.some 8), (.mov (.tmp 0)), .none⟩, ⟨(.some 9), (.len .false (.tmp 8)), .none⟩, ⟨(.some 10), (.cmpI .gtr (.tmp 9) (.const (.int .i64 20))), .none⟩, ⟨(.some 11), (.mov (.tmp 10)), .none⟩, ⟨(.some 12), (.mov (.tmp 0)), (.some (11, .false))⟩, ⟨(.some 13), (.call 15 [(.tmp 12), (.func 16)]), (.some (11, .false))⟩, ⟨(.some 14), (.pick (.tmp 11) (.const (.bool .true)) (.tmp 13)), .none⟩]
def p10_10 : List PO := [⟨(.some 2), (.mov (.const (.string ⟨#[]⟩))), .none⟩, ⟨(.some 3), (.mov (.const (.int .i64 2))), .none⟩]
def p10_11 : List PO := [⟨(.some 4), (.nilS 5 1), .none⟩]
def p10_12 : List PO := [⟨(.some 15), (.mov (.tmp 0)), .none⟩, ⟨(.some 16), (.len .false (.tmp 15)), .none⟩, ⟨(.some 17), (.mov (.const (.int .i64 0))), .none⟩]
def p10_13 : List PO := [⟨(.some 18), (.cmpI .lss (.tmp 17) (.tmp 16)), .none⟩]
def p10_14 : List PO := [⟨(.some 19), (.ixS 25 4 (.tmp 15) (.tmp 17)), .none⟩, ⟨(.some 20), (.load .true 4 (.tmp 19)), .none⟩, ⟨(.some 6), (.alloc [(2, (.string ⟨#[]⟩)), (2, (.bool .false))]), .none⟩, ⟨.none, (.store 4 (.tmp 6) (.tmp 20)), .none⟩]
def p10_15 : List PO := [⟨(.some 21), (.fld 3 (.tmp 6)), .none⟩, ⟨(.some 22), (.load .false 1 (.tmp 21)), .none⟩, ⟨(.some 23), (.un .not (.tmp 22)), .none⟩, ⟨(.some 24), (.mov (.tmp 23)), .none⟩, ⟨(.some 25), (.fld 1 (.tmp 6)), (.some (24, .true))⟩, ⟨(.some 26), (.load .false 1 (.tmp 25)), (.some (24, .true))⟩, ⟨(.some 27), (.strO .neq (.tmp 26) (.const (.string ⟨#[]⟩))), (.some (24, .true))⟩, ⟨(.some 28), (.pick (.tmp 24) (.tmp 27) (.const (.bool .false))), .none⟩]
def p10_16 : List PO := [⟨(.some 2), (.mov (.const (.string ⟨#[]⟩))), .none⟩, ⟨(.some 3), (.mov (.const (.int .i64 4))), .none⟩]
def p10_17 : List PO := [⟨(.some 7), (.mov (.const (.int .u8 0))), .none⟩]
def p10_18 : List PO := [⟨(.some 29), (.fld 2 (.tmp 6)), .none⟩, ⟨(.some 30), (.load .false 1 (.tmp 29)), .none⟩]
def p10_19 : List PO := [⟨(.some 7), (.mov (.const (.int .u8 3))), .none⟩]
def p10_20 : List PO := [⟨(.some 31), (.mov (.tmp 4)), .none⟩, ⟨(.some 32), (.mov (.tmp 7)), .none⟩, ⟨(.some 33), (.bsl 5 1 1 [(1, (.int .u8 0))] [(0, (1, (.tmp 32)))]), .none⟩, ⟨(.some 34), (.app 5 1 1 (.tmp 31) (.tmp 33)), .none⟩, ⟨(.some 35), (.fld 0 (.tmp 6)), .none⟩, ⟨(.some 36), (.load .false 1 (.tmp 35)), .none⟩, ⟨(.some 37), (.callr 17 [(.tmp 34), (.tmp 36)]), .none⟩, ⟨(.some 4), (.mov (.tmp 37)), .none⟩]
def p10_21 : List PO := [⟨(.some 38), (.fld 3 (.tmp 6)), .none⟩, ⟨(.some 39), (.load .false 1 (.tmp 38)), .none⟩]
def p10_22 : List PO := [⟨(.some 40), (.mov (.tmp 4)), .none⟩, ⟨(.some 41), (.bsl 5 1 1 [(1, (.int .u8 0))] [(0, (1, (.const (.int .u8 1))))]), .none⟩, ⟨(.some 42), (.app 5 1 1 (.tmp 40) (.tmp 41)), .none⟩, ⟨(.some 43), (.fld 1 (.tmp 6)), .none⟩, ⟨(.some 44), (.load .false 1 (.tmp 43)), .none⟩, ⟨(.some 45), (.callr 17 [(.tmp 42), (.tmp 44)]), .none⟩, ⟨(.some 4), (.mov (.tmp 45)), .none⟩]
def c10_1 : PCode := (.keep [4, 6, 7, 15, 16, 17] [(40, .id 40), (56, .id 56)] [] (.seq (.regD p10_20 [(2, 5), (3, 5)]) (.seq (.reg p10_21) (.cond (.tmp 39) (.regD p10_22 [(1, 4), (2, 4)]) .skip))))
def c10_3 : PCode := (.keep [4, 6, 15, 16, 17] [(40, .id 40), (56, .id 56)] [] (.seq (.reg p10_17) (.seq (.seq (.reg p10_18) (.cond (.tmp 30) (.reg p10_19) .skip)) c10_1)))
def p10_23 : List PO := [⟨(.some 46), (.arI .add (.tmp 17) (.const (.int .i64 1))), .none⟩, ⟨(.some 17), (.mov (.tmp 46)), .none⟩]
def c10_2 : PCode := (.reg p10_23)
def c10_4 : PCode := (.keep [4, 15, 16, 17] [(40, .id 40)] [] (.seq (.block 1 (.seq (.reg p10_14) (.seq (.seq (.reg p10_15) (.cond (.tmp 28) (.seq (.reg p10_16) .ret) .skip)) c10_3))) c10_2))
def c10_5 : PCode := (.keep [4, 15, 16, 17, 18] [(40, .id 40)] [] (.seq (.cond (.tmp 18) .skip (.keep [4] [(40, .id 40)] [] (.exit 0))) c10_4))
def c10_6 : PCode := (.keep [4, 15, 16, 17] [(40, .id 40)] [] (.seq (.reg p10_13) c10_5))
def p10_24 : List PO := [⟨(.some 47), (.mov (.tmp 4)), .none⟩, ⟨(.some 48), (.cvBS (.tmp 47)), .none⟩, ⟨(.some 2), (.mov (.tmp 48)), .none⟩, ⟨(.some 3), (.mov (.const (.int .i64 0))), .none⟩]
def c10_7 : PCode := (.keep [0] [] [] (.seq (.reg p10_11) (.seq (.seq (.reg p10_12) (.block 0 (.loop c10_6))) (.seq (.reg p10_24) .ret))))
def c10_b : PCode := (.seq (.reg p10_8) (.seq (.seq (.reg p10_9) (.cond (.tmp 14) (.seq (.reg p10_10) .ret) .skip)) c10_7))
def c10 : FCode := ⟨49, c10_b, [(.tmp 2), (.tmp 3)], some ([2, 3], [], []), false⟩
theorem c10_ok : compF Go.Proofs.Try.prog [17] 10 = some (eraseF c10) := by kernel_rfl
def p8_1 : List PO := [⟨(.some 0), (.mov (.const (.bool .false))), .none⟩]
def p8_2 : List PO := [⟨(.some 4), (.build [(2, (.string ⟨#[]⟩)), (2, (.bool .false))] [(0, (1, (.const (.string ⟨#[85, 83, 69, 82]⟩)))), (1, (1, (.const (.string ⟨#[97, 1]⟩)))), (3, (1, (.const (.bool .true))))]), .none⟩, ⟨(.some 5), (.build [(2, (.string ⟨#[]⟩)), (2, (.bool .false))] [(0, (1, (.const (.string ⟨#[88]⟩)))), (2, (1, (.const (.bool .true))))]), .none⟩, ⟨(.some 6), (.bsl 25 4 2 [(2, (.string ⟨#[]⟩)), (2, (.bool .false)), (2, (.string ⟨#[]⟩)), (2, (.bool .false))] [(0, (4, (.tmp 4))), (4, (4, (.tmp 5)))]), .none⟩, ⟨(.some 7), (.call 10 [(.tmp 6)]), .none⟩, ⟨(.some 3), (.mov (.tmp 7)), .none⟩, ⟨(.some 8), (.ext (.tmp 3) 0), .none⟩, ⟨(.some 9), (.ext (.tmp 3) 1), .none⟩, ⟨(.some 1), (.mov (.tmp 8)), .none⟩, ⟨(.some 2), (.mov (.tmp 9)), .none⟩]
def p8_3 : List PO := [⟨(.some 10), (.mov (.tmp 2)), .none⟩, ⟨(.some 11), (.cmpI .eql (.tmp 10) (.const (.int .i64 0))), .none⟩, ⟨(.some 12), (.mov (.tmp 11)), .none⟩, ⟨(.some 13), (.mov (.tmp 1)), (.some (12, .true))⟩, ⟨(.some 14), (.strO .eql (.tmp 13) (.const (.string ⟨#[0, 85, 83, 69, 82, 1, 97, 2, 1, 3, 88]⟩))), (.some (12, .true))⟩, ⟨(.some 15), (.pick (.tmp 12) (.tmp 14) (.const (.bool .false))), .none⟩, ⟨(.some 0), (.mov (.tmp 15)), .none⟩]
def c8_b : PCode := (.seq (.reg p8_1) (.seq (.reg p8_2) (.seq (.reg p8_3) .ret)))
def c8 : FCode := ⟨16, c8_b, [(.tmp 0)], some ([0], [], []), false⟩
theorem c8_ok : compF Go.Proofs.Try.prog [17] 8 = some (eraseF c8) := by kernel_rfl
def p14_5 : List PO := [⟨(.some 2), (.mov (.const (.string ⟨#[]⟩))), .none⟩, ⟨(.some 3), (.mov (.const (.string ⟨#[]⟩))), .none⟩]
def p14_6 : List PO := [⟨(.some 4), (.nilS 5 1), .none⟩]
def p14_7 : List PO := [⟨(.some 5), (.mov (.const (.int .i64 0))), .none⟩]
def p14_8 : List PO := [⟨(.some 6), (.mov (.tmp 5)), .none⟩, ⟨(.some 7), (.mov (.tmp 0)), .none⟩, ⟨(.some 8), (.len .true (.tmp 7)), .none⟩, ⟨(.some 9), (.cmpI .lss (.tmp 6) (.tmp 8)), .none⟩, ⟨(.some 10), (.mov (.tmp 9)), .none⟩, ⟨(.some 11), (.mov (.tmp 0)), (.some (10, .true))⟩, ⟨(.some 12), (.mov (.tmp 5)), (.some (10, .true))⟩, ⟨(.some 13), (.ixStr (.tmp 11) (.tmp 12)), (.some (10, .true))⟩, ⟨(.some 14), (.cmpI .gtr (.tmp 13) (.const (.int .u8 3))), (.some (10, .true))⟩, ⟨(.some 15), (.mov (.tmp 14)), (.some (10, .true))⟩, ⟨(.some 16), (.mov (.tmp 0)), (.some (15, .false))⟩, ⟨(.some 17), (.mov (.tmp 5)), (.some (15, .false))⟩, ⟨(.some 18), (.ixStr (.tmp 16) (.tmp 17)), (.some (15, .false))⟩, ⟨(.some 19), (.cmpI .eql (.tmp 18) (.const (.int .u8 2))), (.some (15, .false))⟩, ⟨(.some 20), (.mov (.tmp 19)), (.some (15, .false))⟩, ⟨(.some 21), (.mov (.tmp 5)), (.some (20, .true))⟩, ⟨(.some 22), (.arI .add (.tmp 21) (.const (.int .i64 1))), (.some (20, .true))⟩, ⟨(.some 23), (.mov (.tmp 0)), (.some (20, .true))⟩, ⟨(.some 24), (.len .true (.tmp 23)), (.some (20, .true))⟩, ⟨(.some 25), (.cmpI .lss (.tmp 22) (.tmp 24)), (.some (20, .true))⟩, ⟨(.some 26), (.pick (.tmp 20) (.tmp 25) (.const (.bool .false))), (.some (15, .false))⟩, ⟨(.some 27), (.pick (.tmp 15) (.const (.bool .true)) (.tmp 26)), (.some (10, .true))⟩, ⟨(.some 28), (.pick (.tmp 10) (.tmp 27) (.const (.bool .false))), .none⟩]
def p14_9 : List PO := [⟨(.some 29), (.mov (.tmp 0)), .none⟩, ⟨(.some 30), (.mov (.tmp 5)), .none⟩, ⟨(.some 31), (.ixStr (.tmp 29) (.tmp 30)), .none⟩, ⟨(.some 32), (.cmpI .eql (.tmp 31) (.const (.int .u8 2))), .none⟩]
def p14_10 : List PO := [⟨(.some 33), (.mov (.tmp 5)), .none⟩, ⟨(.some 34), (.arI .add (.tmp 33) (.const (.int .i64 1))), .none⟩, ⟨(.some 5), (.mov (.tmp 34)), .none⟩]
def p14_11 : List PO := [⟨(.some 35), (.mov (.tmp 4)), .none⟩, ⟨(.some 36), (.mov (.tmp 0)), .none⟩, ⟨(.some 37), (.mov (.tmp 5)), .none⟩, ⟨(.some 38), (.ixStr (.tmp 36) (.tmp 37)), .none⟩, ⟨(.some 39), (.bsl 5 1 1 [(1, (.int .u8 0))] [(0, (1, (.tmp 38)))]), .none⟩, ⟨(.some 40), (.app 5 1 1 (.tmp 35) (.tmp 39)), .none⟩, ⟨(.some 4), (.mov (.tmp 40)), .none⟩]
def p14_12 : List PO := [⟨(.some 41), (.mov (.tmp 5)), .none⟩, ⟨(.some 42), (.arI .add (.tmp 41) (.const (.int .i64 1))), .none⟩, ⟨(.some 5), (.mov (.tmp 42)), .none⟩]
def c14_2 : PCode := (.keep [0, 4, 5] [(40, .id 40)] [] (.seq (.reg p14_11) (.reg p14_12)))
def c14_3 : PCode := (.keep [0, 4, 5] [(40, .id 40)] [] (.block 1 (.seq (.seq (.reg p14_9) (.cond (.tmp 32) (.reg p14_10) .skip)) c14_2)))
def c14_4 : PCode := (.keep [0, 4, 5] [(40, .id 40)] [] (.seq (.seq (.reg p14_8) (.cond (.tmp 28) .skip (.keep [0, 4, 5] [(40, .id 40)] [] (.exit 0)))) c14_3))
def p14_13 : List PO := [⟨(.some 43), (.mov (.tmp 4)), .none⟩, ⟨(.some 44), (.cvBS (.tmp 43)), .none⟩, ⟨(.some 45), (.mov (.tmp 0)), .none⟩, ⟨(.some 46), (.mov (.tmp 5)), .none⟩, ⟨(.some 47), (.slStr (.tmp 45) (.some (.tmp 46)) .none), .none⟩, ⟨(.some 2), (.mov (.tmp 44)), .none⟩, ⟨(.some 3), (.mov (.tmp 47)), .none⟩]
def c14_1 : PCode := (.keep [0, 4, 5] [(40, .id 40)] [] (.seq (.regD p14_13 []) .ret))
def c14_b : PCode := (.seq (.reg p14_5) (.seq (.reg p14_6) (.seq (.reg p14_7) (.seq (.block 0 (.loop c14_4)) c14_1))))
def c14 : FCode := ⟨48, c14_b, [(.tmp 2), (.tmp 3)], some ([2, 3], [], []), false⟩
theorem c14_ok : compF Go.Proofs.Try.prog [17] 14 = some (eraseF c14) := by kernel_rfl
def p7_7 : List PO := [⟨(.some 2), (.nilS 25 4), .none⟩, ⟨(.some 3), (.mov (.const (.int .i64 0))), .none⟩]
def p7_8 : List PO := [⟨(.some 9), (.mov (.tmp 0)), .none⟩, ⟨(.some 10), (.len .true (.tmp 9)), .none⟩, ⟨(.some 11), (.cmpI .gtr (.tmp 10) (.const (.int .i64 4096))), .none⟩]
def p7_9 : List PO := [⟨(.some 2), (.nilS 25 4), .none⟩, ⟨(.some 3), (.mov (.const (.int .i64 2))), .none⟩]
def p7_10 : List PO := [⟨(.some 4), (.nilS 25 4), .none⟩]
def p7_11 : List PO := [⟨(.some 12), (.mov (.tmp 0)), .none⟩, ⟨(.some 5), (.mov (.tmp 12)), .none⟩]
def p7_12 : List PO := [⟨(.some 13), (.mov (.tmp 5)), .none⟩, ⟨(.some 14), (.strO .neq (.tmp 13) (.const (.string ⟨#[]⟩))), .none⟩]
def p7_13 : List PO := [⟨(.some 15), (.mov (.tmp 5)), .none⟩, ⟨(.some 16), (.ixStr (.tmp 15) (.const (.int .i64 0))), .none⟩, ⟨(.some 17), (.cmpI .neq (.tmp 16) (.const (.int .u8 0))), .none⟩, ⟨(.some 18), (.mov (.tmp 17)), .none⟩, ⟨(.some 19), (.mov (.tmp 5)), (.some (18, .true))⟩, ⟨(.some 20), (.ixStr (.tmp 19) (.const (.int .i64 0))), (.some (18, .true))⟩, ⟨(.some 21), (.cmpI .neq (.tmp 20) (.const (.int .u8 3))), (.some (18, .true))⟩, ⟨(.some 22), (.pick (.tmp 18) (.tmp 21) (.const (.bool .false))), .none⟩]
def p7_14 : List PO := [⟨(.some 2), (.nilS 25 4), .none⟩, ⟨(.some 3), (.mov (.const (.int .i64 4))), .none⟩]
def p7_15 : List PO := [⟨(.some 23), (.mov (.tmp 5)), .none⟩, ⟨(.some 24), (.ixStr (.tmp 23) (.const (.int .i64 0))), .none⟩, ⟨(.some 25), (.cmpI .eql (.tmp 24) (.const (.int .u8 3))), .none⟩, ⟨(.some 26), (.build [(2, (.string ⟨#[]⟩)), (2, (.bool .false))] [(2, (1, (.tmp 25)))]), .none⟩, ⟨(.some 6), (.alloc [(2, (.string ⟨#[]⟩)), (2, (.bool .false))]), .none⟩, ⟨.none, (.store 4 (.tmp 6) (.tmp 26)), .none⟩]
def p7_16 : List PO := [⟨(.some 28), (.mov (.tmp 5)), .none⟩, ⟨(.some 29), (.slStr (.tmp 28) (.some (.const (.int .i64 1))) .none), .none⟩, ⟨(.some 30), (.call 14 [(.tmp 29)]), .none⟩, ⟨(.some 27), (.mov (.tmp 30)), .none⟩, ⟨(.some 31), (.ext (.tmp 27) 0), .none⟩, ⟨(.some 32), (.ext (.tmp 27) 1), .none⟩, ⟨(.some 33), (.fld 0 (.tmp 6)), .none⟩, ⟨.none, (.store 1 (.tmp 33) (.tmp 31)), .none⟩, ⟨(.some 5), (.mov (.tmp 32)), .none⟩]
def p7_17 : List PO := [⟨(.some 34), (.mov (.tmp 5)), .none⟩, ⟨(.some 35), (.strO .neq (.tmp 34) (.const (.string ⟨#[]⟩))), .none⟩, ⟨(.some 36), (.mov (.tmp 35)), .none⟩, ⟨(.some 37), (.mov (.tmp 5)), (.some (36, .true))⟩, ⟨(.some 38), (.ixStr (.tmp 37) (.const (.int .i64 0))), (.some (36, .true))⟩, ⟨(.some 39), (.cmpI .eql (.tmp 38) (.const (.int .u8 1))), (.some (36, .true))⟩, ⟨(.some 40), (.pick (.tmp 36) (.tmp 39) (.const (.bool .false))), .none⟩]
def p7_18 : List PO := [⟨(.some 41), (.fld 3 (.tmp 6)), .none⟩, ⟨.none, (.store 1 (.tmp 41) (.const (.bool .true))), .none⟩]
def p7_19 : List PO := [⟨(.some 43), (.mov (.tmp 5)), .none⟩, ⟨(.some 44), (.slStr (.tmp 43) (.some (.const (.int .i64 1))) .none), .none⟩, ⟨(.some 45), (.call 14 [(.tmp 44)]), .none⟩, ⟨(.some 42), (.mov (.tmp 45)), .none⟩, ⟨(.some 46), (.ext (.tmp 42) 0), .none⟩, ⟨(.some 47), (.ext (.tmp 42) 1), .none⟩, ⟨(.some 48), (.fld 1 (.tmp 6)), .none⟩, ⟨.none, (.store 1 (.tmp 48) (.tmp 46)), .none⟩, ⟨(.some 5), (.mov (.tmp 47)), .none⟩]
def p7_20 : List PO := [⟨(.some 49), (.mov (.tmp 4)), .none⟩, ⟨(.some 50), (.load .true 4 (.tmp 6)), .none⟩, ⟨(.some 51), (.bsl 25 4 1 [(2, (.string ⟨#[]⟩)), (2, (.bool .false))] [(0, (4, (.tmp 50)))]), .none⟩, ⟨(.some 52), (.app 25 4 40 (.tmp 49) (.tmp 51)), .none⟩, ⟨(.some 4), (.mov (.tmp 52)), .none⟩]
def c7_2 : PCode := (.keep [0, 4, 5, 6] [(40, .id 40), (56, .id 56)] [] (.seq (.reg p7_16) (.seq (.seq (.reg p7_17) (.cond (.tmp 40) (.seq (.reg p7_18) (.reg p7_19)) .skip)) (.reg p7_20))))
def c7_3 : PCode := (.keep [0, 4, 5] [(40, .id 40)] [] (.seq (.reg p7_15) c7_2))
def c7_4 : PCode := (.keep [0, 4, 5] [(40, .id 40)] [] (.block 1 (.seq (.seq (.reg p7_13) (.cond (.tmp 22) (.seq (.reg p7_14) .ret) .skip)) c7_3)))
def c7_5 : PCode := (.keep [0, 4, 5] [(40, .id 40)] [] (.seq (.seq (.reg p7_12) (.cond (.tmp 14) .skip (.keep [0, 4] [(40, .id 40)] [] (.exit 0)))) c7_4))
def p7_21 : List PO := [⟨(.some 54), (.mov (.tmp 4)), .none⟩, ⟨(.some 55), (.call 10 [(.tmp 54)]), .none⟩, ⟨(.some 53), (.mov (.tmp 55)), .none⟩, ⟨(.some 56), (.ext (.tmp 53) 0), .none⟩, ⟨(.some 57), (.ext (.tmp 53) 1), .none⟩, ⟨(.some 7), (.mov (.tmp 56)), .none⟩, ⟨(.some 8), (.mov (.tmp 57)), .none⟩]
def p7_22 : List PO := [⟨(.some 58), (.mov (.tmp 8)), .none⟩, ⟨(.some 59), (.cmpI .neq (.tmp 58) (.const (.int .i64 0))), .none⟩, ⟨(.some 60), (.mov (.tmp 59)), .none⟩, ⟨(.some 61), (.mov (.tmp 7)), (.some (60, .false))⟩, ⟨(.some 62), (.mov (.tmp 0)), (.some (60, .false))⟩, ⟨(.some 63), (.strO .neq (.tmp 61) (.tmp 62)), (.some (60, .false))⟩, ⟨(.some 64), (.pick (.tmp 60) (.const (.bool .true)) (.tmp 63)), .none⟩]
def p7_23 : List PO := [⟨(.some 2), (.nilS 25 4), .none⟩, ⟨(.some 3), (.mov (.const (.int .i64 4))), .none⟩]
def p7_24 : List PO := [⟨(.some 65), (.mov (.tmp 4)), .none⟩, ⟨(.some 2), (.mov (.tmp 65)), .none⟩, ⟨(.some 3), (.mov (.const (.int .i64 0))), .none⟩]
def c7_1 : PCode := (.keep [0, 4] [(40, .id 40)] [] (.seq (.seq (.reg p7_21) (.seq (.reg p7_22) (.cond (.tmp 64) (.seq (.reg p7_23) .ret) .skip))) (.seq (.reg p7_24) .ret)))
def c7_6 : PCode := (.keep [0] [] [] (.seq (.reg p7_10) (.seq (.seq (.reg p7_11) (.block 0 (.loop c7_5))) c7_1)))
def c7_b : PCode := (.seq (.reg p7_7) (.seq (.seq (.reg p7_8) (.cond (.tmp 11) (.seq (.reg p7_9) .ret) .skip)) c7_6))
def c7 : FCode := ⟨66, c7_b, [(.tmp 2), (.tmp 3)], some ([2, 3], [(561, (.slot 2 none))], []), false⟩
theorem c7_ok : compF Go.Proofs.Try.prog [17] 7 = some (eraseF c7) := by kernel_rfl
def p9_5 : List PO := [⟨(.some 4), (.mov (.const (.bool .false))), .none⟩]
def p9_6 : List PO := [⟨(.some 6), (.mov (.tmp 0)), .none⟩, ⟨(.some 7), (.len .false (.tmp 6)), .none⟩, ⟨(.some 8), (.mov (.tmp 1)), .none⟩, ⟨(.some 9), (.len .false (.tmp 8)), .none⟩, ⟨(.some 10), (.cmpI .neq (.tmp 7) (.tmp 9)), .none⟩]
def p9_7 : List PO := [⟨(.some 4), (.mov (.const (.bool .false))), .none⟩]
def p9_8 : List PO := [⟨(.some 11), (.mov (.tmp 0)), .none⟩, ⟨(.some 12), (.len .false (.tmp 11)), .none⟩, ⟨(.some 13), (.mov (.const (.int .i64 0))), .none⟩]
def p9_9 : List PO := [⟨(.some 14), (.cmpI .lss (.tmp 13) (.tmp 12)), .none⟩]
def p9_10 : List PO := [⟨(.some 15), (.mov (.tmp 13)), .none⟩, ⟨(.some 5), (.mov (.tmp 15)), .none⟩]
def p9_11 : List PO := [⟨(.some 16), (.mov (.tmp 0)), .none⟩, ⟨(.some 17), (.mov (.tmp 5)), .none⟩, ⟨(.some 18), (.ixS 25 4 (.tmp 16) (.tmp 17)), .none⟩, ⟨(.some 19), (.load .true 4 (.tmp 18)), .none⟩, ⟨(.some 20), (.mov (.tmp 1)), .none⟩, ⟨(.some 21), (.mov (.tmp 5)), .none⟩, ⟨(.some 22), (.ixS 25 4 (.tmp 20) (.tmp 21)), .none⟩, ⟨(.some 23), (.load .true 4 (.tmp 22)), .none⟩, ⟨(.some 24), (.eqA .true [(2, .str), (2, .bool)] (.tmp 19) (.tmp 23)), .none⟩]
def p9_12 : List PO := [⟨(.some 4), (.mov (.const (.bool .false))), .none⟩]
def p9_13 : List PO := [⟨(.some 25), (.arI .add (.tmp 13) (.const (.int .i64 1))), .none⟩, ⟨(.some 13), (.mov (.tmp 25)), .none⟩]
def c9_1 : PCode := (.keep [0, 1, 12, 13] [] [] (.seq (.block 1 (.seq (.reg p9_10) (.seq (.regD p9_11 []) (.cond (.tmp 24) (.seq (.reg p9_12) .ret) .skip)))) (.reg p9_13)))
def c9_2 : PCode := (.keep [0, 1, 12, 13, 14] [] [] (.seq (.cond (.tmp 14) .skip (.keep [] [] [] (.exit 0))) c9_1))
def c9_3 : PCode := (.keep [0, 1, 12, 13] [] [] (.seq (.reg p9_9) c9_2))
def p9_14 : List PO := [⟨(.some 4), (.mov (.const (.bool .true))), .none⟩]
def c9_4 : PCode := (.keep [0, 1] [] [] (.seq (.seq (.reg p9_8) (.block 0 (.loop c9_3))) (.seq (.reg p9_14) .ret)))
def c9_b : PCode := (.seq (.reg p9_5) (.seq (.seq (.reg p9_6) (.cond (.tmp 10) (.seq (.reg p9_7) .ret) .skip)) c9_4))
def c9 : FCode := ⟨26, c9_b, [(.tmp 4)], some ([4], [], []), false⟩
theorem c9_ok : compF Go.Proofs.Try.prog [17] 9 = some (eraseF c9) := by kernel_rfl
def p18_4 : List PO := [⟨(.some 3), (.box 4 (.tmp 1)), .none⟩, ⟨(.some 4), (.mov (.const (.int .i64 0))), .none⟩]
def p18_5 : List PO := [⟨(.some 6), (.mov (.tmp 0)), .none⟩, ⟨(.some 7), (.len .false (.tmp 6)), .none⟩, ⟨(.some 8), (.mov (.const (.int .i64 0))), .none⟩]
def p18_6 : List PO := [⟨(.some 9), (.cmpI .lss (.tmp 8) (.tmp 7)), .none⟩]
def p18_7 : List PO := [⟨(.some 10), (.mov (.tmp 8)), .none⟩, ⟨(.some 5), (.mov (.tmp 10)), .none⟩]
def p18_8 : List PO := [⟨(.some 11), (.load .true 4 (.tmp 3)), .none⟩, ⟨(.some 12), (.mov (.tmp 0)), .none⟩, ⟨(.some 13), (.mov (.tmp 5)), .none⟩, ⟨(.some 14), (.ixS 25 4 (.tmp 12) (.tmp 13)), .none⟩, ⟨(.some 15), (.load .true 4 (.tmp 14)), .none⟩, ⟨(.some 16), (.eqA .false [(2, .str), (2, .bool)] (.tmp 11) (.tmp 15)), .none⟩]
def p18_9 : List PO := [⟨(.some 17), (.mov (.tmp 5)), .none⟩, ⟨(.some 4), (.mov (.tmp 17)), .none⟩]
def p18_10 : List PO := [⟨(.some 18), (.arI .add (.tmp 8) (.const (.int .i64 1))), .none⟩, ⟨(.some 8), (.mov (.tmp 18)), .none⟩]
def c18_1 : PCode := (.keep [0, 3, 7, 8] [(32, .id 32)] [] (.seq (.block 1 (.seq (.reg p18_7) (.seq (.regD p18_8 []) (.cond (.tmp 16) (.seq (.reg p18_9) .ret) .skip)))) (.reg p18_10)))
def c18_2 : PCode := (.keep [0, 3, 7, 8, 9] [(32, .id 32)] [] (.seq (.cond (.tmp 9) .skip (.keep [] [] [] (.exit 0))) c18_1))
def c18_3 : PCode := (.keep [0, 3, 7, 8] [(32, .id 32)] [] (.seq (.reg p18_6) c18_2))
def p18_11 : List PO := [⟨(.some 4), (.mov (.const (.int .i64 (-1)))), .none⟩]
def c18_b : PCode := (.seq (.reg p18_4) (.seq (.seq (.reg p18_5) (.block 0 (.loop c18_3))) (.seq (.reg p18_11) .ret)))
def c18 : FCode := ⟨19, c18_b, [(.tmp 4)], some ([4], [], []), false⟩
theorem c18_ok : compF Go.Proofs.Try.prog [17] 18 = some (eraseF c18) := by kernel_rfl
def p11_1 : List PO := [⟨(.some 3), (.box 4 (.tmp 1)), .none⟩, ⟨(.some 4), (.mov (.const (.bool .false))), .none⟩]
def p11_2 : List PO := [⟨(.some 5), (.mov (.tmp 0)), .none⟩, ⟨(.some 6), (.load .true 4 (.tmp 3)), .none⟩, ⟨(.some 7), (.call 18 [(.tmp 5), (.tmp 6)]), .none⟩, ⟨(.some 8), (.cmpI .geq (.tmp 7) (.const (.int .i64 0))), .none⟩, ⟨(.some 4), (.mov (.tmp 8)), .none⟩]
def c11_b : PCode := (.seq (.reg p11_1) (.seq (.reg p11_2) .ret))
def c11 : FCode := ⟨9, c11_b, [(.tmp 4)], some ([4], [], []), false⟩
theorem c11_ok : compF Go.Proofs.Try.prog [17] 11 = some (eraseF c11) := by kernel_rfl
def p4_15 : List PO := [⟨(.some 4), (.mov (.const (.bool .false))), .none⟩]
def p4_16 : List PO := [⟨(.some 15), (.mov (.tmp 1)), .none⟩, ⟨(.some 16), (.len .false (.tmp 15)), .none⟩, ⟨(.some 17), (.mov (.const (.int .i64 0))), .none⟩]
def p4_17 : List PO := [⟨(.some 18), (.cmpI .lss (.tmp 17) (.tmp 16)), .none⟩]
def p4_18 : List PO := [⟨(.some 19), (.mov (.tmp 17)), .none⟩, ⟨(.some 5), (.mov (.tmp 19)), .none⟩]
def p4_19 : List PO := [⟨(.some 20), (.mov (.tmp 1)), .none⟩, ⟨(.some 21), (.call 5 [(.tmp 20)]), .none⟩, ⟨(.some 1), (.mov (.tmp 21)), .none⟩]
def p4_20 : List PO := [⟨(.some 22), (.mov (.tmp 1)), .none⟩, ⟨(.some 23), (.mov (.tmp 5)), .none⟩, ⟨(.some 24), (.ixS 25 4 (.tmp 22) (.tmp 23)), .none⟩, ⟨(.some 25), (.fld 0 (.tmp 24)), .none⟩, ⟨(.some 26), (.load .false 1 (.tmp 25)), .none⟩, ⟨(.some 27), (.strO .eql (.tmp 26) (.const (.string ⟨#[]⟩))), .none⟩]
def p4_21 : List PO := [⟨(.some 28), (.mov (.tmp 1)), .none⟩, ⟨(.some 29), (.mov (.tmp 5)), .none⟩, ⟨(.some 30), (.ixS 25 4 (.tmp 28) (.tmp 29)), .none⟩, ⟨(.some 31), (.fld 0 (.tmp 30)), .none⟩, ⟨.none, (.store 1 (.tmp 31) (.const (.string ⟨#[120]⟩))), .none⟩]
def p4_22 : List PO := [⟨(.some 32), (.mov (.tmp 1)), .none⟩, ⟨(.some 33), (.mov (.tmp 5)), .none⟩, ⟨(.some 34), (.mov (.tmp 1)), .none⟩, ⟨(.some 35), (.mov (.tmp 5)), .none⟩, ⟨(.some 36), (.ixS 25 4 (.tmp 32) (.tmp 33)), .none⟩, ⟨(.some 37), (.fld 1 (.tmp 36)), .none⟩, ⟨.none, (.store 1 (.tmp 37) (.const (.string ⟨#[]⟩))), .none⟩, ⟨(.some 38), (.ixS 25 4 (.tmp 34) (.tmp 35)), .none⟩, ⟨(.some 39), (.fld 3 (.tmp 38)), .none⟩, ⟨.none, (.store 1 (.tmp 39) (.const (.bool .false))), .none⟩]
def c4_10 : PCode := (.keep [0, 1, 5, 16, 17] [(176, .id 176)] [] (.reg p4_22))
def p4_23 : List PO := [⟨(.some 40), (.arI .add (.tmp 17) (.const (.int .i64 1))), .none⟩, ⟨(.some 17), (.mov (.tmp 40)), .none⟩]
def c4_11 : PCode := (.reg p4_23)
def c4_12 : PCode := (.keep [0, 1, 16, 17] [] [] (.seq (.block 1 (.seq (.reg p4_18) (.seq (.reg p4_19) (.seq (.seq (.reg p4_20) (.cond (.tmp 27) (.reg p4_21) .skip)) c4_10)))) c4_11))
def c4_13 : PCode := (.keep [0, 1, 16, 17, 18] [] [] (.seq (.cond (.tmp 18) .skip (.keep [0, 1] [] [] (.exit 0))) c4_12))
def c4_14 : PCode := (.keep [0, 1, 16, 17] [] [] (.seq (.reg p4_17) c4_13))
def p4_24 : List PO := [⟨(.some 42), (.mov (.tmp 1)), .none⟩, ⟨(.some 43), (.call 10 [(.tmp 42)]), .none⟩, ⟨(.some 41), (.mov (.tmp 43)), .none⟩, ⟨(.some 44), (.ext (.tmp 41) 0), .none⟩, ⟨(.some 45), (.ext (.tmp 41) 1), .none⟩, ⟨(.some 6), (.mov (.tmp 44)), .none⟩, ⟨(.some 7), (.mov (.tmp 45)), .none⟩]
def p4_25 : List PO := [⟨(.some 47), (.mov (.tmp 0)), .none⟩, ⟨(.some 48), (.call 10 [(.tmp 47)]), .none⟩, ⟨(.some 46), (.mov (.tmp 48)), .none⟩, ⟨(.some 49), (.ext (.tmp 46) 0), .none⟩, ⟨(.some 50), (.ext (.tmp 46) 1), .none⟩, ⟨(.some 8), (.mov (.tmp 49)), .none⟩, ⟨(.some 9), (.mov (.tmp 50)), .none⟩]
def p4_26 : List PO := [⟨(.some 51), (.call 8 []), .none⟩, ⟨(.some 52), (.un .not (.tmp 51)), .none⟩, ⟨(.some 53), (.mov (.tmp 52)), .none⟩, ⟨(.some 54), (.mov (.tmp 7)), (.some (53, .false))⟩, ⟨(.some 55), (.cmpI .neq (.tmp 54) (.const (.int .i64 0))), (.some (53, .false))⟩, ⟨(.some 56), (.pick (.tmp 53) (.const (.bool .true)) (.tmp 55)), .none⟩, ⟨(.some 57), (.mov (.tmp 56)), .none⟩, ⟨(.some 58), (.mov (.tmp 9)), (.some (57, .false))⟩, ⟨(.some 59), (.cmpI .neq (.tmp 58) (.const (.int .i64 0))), (.some (57, .false))⟩, ⟨(.some 60), (.pick (.tmp 57) (.const (.bool .true)) (.tmp 59)), .none⟩, ⟨(.some 61), (.mov (.tmp 60)), .none⟩, ⟨(.some 62), (.mov (.tmp 6)), (.some (61, .false))⟩, ⟨(.some 63), (.len .true (.tmp 62)), (.some (61, .false))⟩, ⟨(.some 64), (.cmpI .gtr (.tmp 63) (.const (.int .i64 4000))), (.some (61, .false))⟩, ⟨(.some 65), (.pick (.tmp 61) (.const (.bool .true)) (.tmp 64)), .none⟩]
def p4_27 : List PO := [⟨(.some 66), (.call 8 []), .none⟩, ⟨(.some 4), (.mov (.tmp 66)), .none⟩]
def p4_28 : List PO := [⟨(.some 68), (.mov (.tmp 0)), .none⟩, ⟨(.some 69), (.mov (.tmp 6)), .none⟩, ⟨(.some 70), (.strO .add (.const (.string ⟨#[1]⟩)) (.tmp 69)), .none⟩, ⟨(.some 71), (.call 6 [(.tmp 68), (.tmp 70)]), .none⟩, ⟨(.some 67), (.mov (.tmp 71)), .none⟩, ⟨(.some 72), (.ext (.tmp 67) 0), .none⟩, ⟨(.some 73), (.ext (.tmp 67) 1), .none⟩, ⟨(.some 10), (.mov (.tmp 72)), .none⟩, ⟨(.some 11), (.mov (.tmp 73)), .none⟩]
def p4_29 : List PO := [⟨(.some 74), (.mov (.tmp 11)), .none⟩, ⟨(.some 75), (.cmpI .neq (.tmp 74) (.const (.int .i64 0))), .none⟩, ⟨(.some 76), (.mov (.tmp 75)), .none⟩, ⟨(.some 77), (.mov (.tmp 10)), (.some (76, .false))⟩, ⟨(.some 78), (.strO .eql (.tmp 77) (.const (.string ⟨#[]⟩))), (.some (76, .false))⟩, ⟨(.some 79), (.pick (.tmp 76) (.const (.bool .true)) (.tmp 78)), .none⟩, ⟨(.some 80), (.mov (.tmp 79)), .none⟩, ⟨(.some 81), (.mov (.tmp 10)), (.some (80, .false))⟩, ⟨(.some 82), (.ixStr (.tmp 81) (.const (.int .i64 0))), (.some (80, .false))⟩, ⟨(.some 83), (.cmpI .neq (.tmp 82) (.const (.int .u8 0))), (.some (80, .false))⟩, ⟨(.some 84), (.pick (.tmp 80) (.const (.bool .true)) (.tmp 83)), .none⟩]
def p4_30 : List PO := [⟨(.some 4), (.mov (.const (.bool .false))), .none⟩]
def p4_31 : List PO := [⟨(.some 85), (.mov (.tmp 10)), .none⟩, ⟨(.some 86), (.len .true (.tmp 85)), .none⟩, ⟨(.some 87), (.cmpI .gtr (.tmp 86) (.const (.int .i64 4097))), .none⟩]
def p4_32 : List PO := [⟨(.some 4), (.mov (.const (.bool .true))), .none⟩]
def p4_33 : List PO := [⟨(.some 89), (.mov (.tmp 10)), .none⟩, ⟨(.some 90), (.slStr (.tmp 89) (.some (.const (.int .i64 1))) .none), .none⟩, ⟨(.some 91), (.call 7 [(.tmp 90)]), .none⟩, ⟨(.some 88), (.mov (.tmp 91)), .none⟩, ⟨(.some 92), (.ext (.tmp 88) 0), .none⟩, ⟨(.some 93), (.ext (.tmp 88) 1), .none⟩, ⟨(.some 12), (.mov (.tmp 92)), .none⟩, ⟨(.some 13), (.mov (.tmp 93)), .none⟩]
def p4_34 : List PO := [⟨(.some 94), (.mov (.tmp 13)), .none⟩, ⟨(.some 95), (.cmpI .neq (.tmp 94) (.const (.int .i64 0))), .none⟩, ⟨(.some 96), (.mov (.tmp 95)), .none⟩, ⟨(.some 97), (.mov (.tmp 1)), (.some (96, .false))⟩, ⟨(.some 98), (.len .false (.tmp 97)), (.some (96, .false))⟩, ⟨(.some 99), (.cmpI .eql (.tmp 98) (.const (.int .i64 0))), (.some (96, .false))⟩, ⟨(.some 100), (.pick (.tmp 96) (.const (.bool .true)) (.tmp 99)), .none⟩]
def p4_35 : List PO := [⟨(.some 101), (.mov (.tmp 13)), .none⟩, ⟨(.some 102), (.cmpI .eql (.tmp 101) (.const (.int .i64 0))), .none⟩, ⟨(.some 103), (.mov (.tmp 102)), .none⟩, ⟨(.some 104), (.mov (.tmp 12)), (.some (103, .true))⟩, ⟨(.some 105), (.mov (.tmp 0)), (.some (103, .true))⟩, ⟨(.some 106), (.call 9 [(.tmp 104), (.tmp 105)]), (.some (103, .true))⟩, ⟨(.some 107), (.pick (.tmp 103) (.tmp 106) (.const (.bool .false))), .none⟩, ⟨(.some 4), (.mov (.tmp 107)), .none⟩]
def c4_5 : PCode := (.keep [0, 12, 13] [(736, .id 736)] [] (.seq (.reg p4_35) .ret))
def p4_36 : List PO := [⟨(.some 108), (.mov (.tmp 12)), .none⟩, ⟨(.some 109), (.len .false (.tmp 108)), .none⟩, ⟨(.some 110), (.mov (.const (.int .i64 0))), .none⟩]
def p4_37 : List PO := [⟨(.some 111), (.cmpI .lss (.tmp 110) (.tmp 109)), .none⟩]
def p4_38 : List PO := [⟨(.some 112), (.mov (.tmp 110)), .none⟩, ⟨(.some 14), (.mov (.tmp 112)), .none⟩]
def p4_39 : List PO := [⟨(.some 113), (.mov (.tmp 12)), .none⟩, ⟨(.some 114), (.len .false (.tmp 113)), .none⟩, ⟨(.some 115), (.mov (.tmp 1)), .none⟩, ⟨(.some 116), (.len .false (.tmp 115)), .none⟩, ⟨(.some 117), (.cmpI .neq (.tmp 114) (.tmp 116)), .none⟩, ⟨(.some 118), (.mov (.tmp 117)), .none⟩, ⟨(.some 119), (.mov (.tmp 12)), (.some (118, .false))⟩, ⟨(.some 120), (.mov (.tmp 14)), (.some (118, .false))⟩, ⟨(.some 121), (.ixS 25 4 (.tmp 119) (.tmp 120)), (.some (118, .false))⟩, ⟨(.some 122), (.fld 0 (.tmp 121)), (.some (118, .false))⟩, ⟨(.some 123), (.load .false 1 (.tmp 122)), (.some (118, .false))⟩, ⟨(.some 124), (.mov (.tmp 1)), (.some (118, .false))⟩, ⟨(.some 125), (.mov (.tmp 14)), (.some (118, .false))⟩, ⟨(.some 126), (.ixS 25 4 (.tmp 124) (.tmp 125)), (.some (118, .false))⟩, ⟨(.some 127), (.fld 0 (.tmp 126)), (.some (118, .false))⟩, ⟨(.some 128), (.load .false 1 (.tmp 127)), (.some (118, .false))⟩, ⟨(.some 129), (.strO .neq (.tmp 123) (.tmp 128)), (.some (118, .false))⟩, ⟨(.some 130), (.pick (.tmp 118) (.const (.bool .true)) (.tmp 129)), .none⟩, ⟨(.some 131), (.mov (.tmp 130)), .none⟩, ⟨(.some 132), (.mov (.tmp 12)), (.some (131, .false))⟩, ⟨(.some 133), (.mov (.tmp 14)), (.some (131, .false))⟩, ⟨(.some 134), (.ixS 25 4 (.tmp 132) (.tmp 133)), (.some (131, .false))⟩, ⟨(.some 135), (.fld 2 (.tmp 134)), (.some (131, .false))⟩, ⟨(.some 136), (.load .false 1 (.tmp 135)), (.some (131, .false))⟩, ⟨(.some 137), (.mov (.tmp 1)), (.some (131, .false))⟩, ⟨(.some 138), (.mov (.tmp 14)), (.some (131, .false))⟩, ⟨(.some 139), (.ixS 25 4 (.tmp 137) (.tmp 138)), (.some (131, .false))⟩, ⟨(.some 140), (.fld 2 (.tmp 139)), (.some (131, .false))⟩, ⟨(.some 141), (.load .false 1 (.tmp 140)), (.some (131, .false))⟩, ⟨(.some 142), (.eqB .true (.tmp 136) (.tmp 141)), (.some (131, .false))⟩, ⟨(.some 143), (.pick (.tmp 131) (.const (.bool .true)) (.tmp 142)), .none⟩, ⟨(.some 144), (.mov (.tmp 143)), .none⟩, ⟨(.some 145), (.mov (.tmp 12)), (.some (144, .false))⟩, ⟨(.some 146), (.mov (.tmp 14)), (.some (144, .false))⟩, ⟨(.some 147), (.ixS 25 4 (.tmp 145) (.tmp 146)), (.some (144, .false))⟩, ⟨(.some 148), (.load .true 4 (.tmp 147)), (.some (144, .false))⟩, ⟨(.some 149), (.mov (.tmp 1)), (.some (144, .false))⟩, ⟨(.some 150), (.mov (.tmp 14)), (.some (144, .false))⟩, ⟨(.some 151), (.ixS 25 4 (.tmp 149) (.tmp 150)), (.some (144, .false))⟩, ⟨(.some 152), (.load .true 4 (.tmp 151)), (.some (144, .false))⟩, ⟨(.some 153), (.eqA .true [(2, .str), (2, .bool)] (.tmp 148) (.tmp 152)), (.some (144, .false))⟩, ⟨(.some 154), (.mov (.tmp 153)), (.some (144, .false))⟩, ⟨(.some 155), (.mov (.tmp 0)), (.some (154, .true))⟩, ⟨(.some 156), (.mov (.tmp 12)), (.some (154, .true))⟩, ⟨(.some 157), (.mov (.tmp 14)), (.some (154, .true))⟩, ⟨(.some 158), (.ixS 25 4 (.tmp 156) (.tmp 157)), (.some (154, .true))⟩, ⟨(.some 159), (.load .true 4 (.tmp 158)), (.some (154, .true))⟩, ⟨(.some 160), (.call 11 [(.tmp 155), (.tmp 159)]), (.some (154, .true))⟩, ⟨(.some 161), (.un .not (.tmp 160)), (.some (154, .true))⟩, ⟨(.some 162), (.pick (.tmp 154) (.tmp 161) (.const (.bool .false))), (.some (144, .false))⟩, ⟨(.some 163), (.pick (.tmp 144) (.const (.bool .true)) (.tmp 162)), .none⟩]
def p4_40 : List PO := [⟨(.some 4), (.mov (.const (.bool .false))), .none⟩]
def p4_41 : List PO := [⟨(.some 164), (.arI .add (.tmp 110) (.const (.int .i64 1))), .none⟩, ⟨(.some 110), (.mov (.tmp 164)), .none⟩]
def c4_1 : PCode := (.keep [0, 1, 12, 109, 110] [(736, .id 736)] [] (.seq (.block 3 (.seq (.reg p4_38) (.seq (.regD p4_39 []) (.cond (.tmp 163) (.seq (.reg p4_40) .ret) .skip)))) (.reg p4_41)))
def c4_2 : PCode := (.keep [0, 1, 12, 109, 110, 111] [(736, .id 736)] [] (.seq (.cond (.tmp 111) .skip (.keep [1, 12] [(736, .id 736)] [] (.exit 2))) c4_1))
def c4_3 : PCode := (.keep [0, 1, 12, 109, 110] [(736, .id 736)] [] (.seq (.reg p4_37) c4_2))
def p4_42 : List PO := [⟨(.some 165), (.mov (.tmp 12)), .none⟩, ⟨(.some 166), (.len .false (.tmp 165)), .none⟩, ⟨(.some 167), (.mov (.tmp 1)), .none⟩, ⟨(.some 168), (.len .false (.tmp 167)), .none⟩, ⟨(.some 169), (.cmpI .eql (.tmp 166) (.tmp 168)), .none⟩, ⟨(.some 4), (.mov (.tmp 169)), .none⟩]
def c4_4 : PCode := (.keep [0, 1, 12] [(736, .id 736)] [] (.seq (.seq (.reg p4_36) (.block 2 (.loop c4_3))) (.seq (.reg p4_42) .ret)))
def c4_6 : PCode := (.keep [0, 1, 10] [] [] (.seq (.reg p4_33) (.seq (.seq (.reg p4_34) (.cond (.tmp 100) c4_5 .skip)) c4_4)))
def c4_7 : PCode := (.keep [0, 1, 10] [] [] (.seq (.seq (.reg p4_31) (.cond (.tmp 87) (.seq (.reg p4_32) .ret) .skip)) c4_6))
def c4_8 : PCode := (.keep [0, 1, 6] [] [] (.seq (.reg p4_28) (.seq (.seq (.reg p4_29) (.cond (.tmp 84) (.seq (.reg p4_30) .ret) .skip)) c4_7)))
def c4_9 : PCode := (.keep [0, 1] [] [] (.seq (.reg p4_24) (.seq (.reg p4_25) (.seq (.seq (.reg p4_26) (.cond (.tmp 65) (.seq (.reg p4_27) .ret) .skip)) c4_8))))
def c4_b : PCode := (.seq (.reg p4_15) (.seq (.seq (.reg p4_16) (.block 0 (.loop c4_14))) c4_9))
def c4 : FCode := ⟨170, c4_b, [(.tmp 4)], some ([4], [], []), false⟩
theorem c4_ok : compF Go.Proofs.Try.prog [17] 4 = some (eraseF c4) := by kernel_rfl
def codes : Nat → Option FCode
  | 4 => some c4
  | 5 => some c5
  | 7 => some c7
  | 8 => some c8
  | 9 => some c9
  | 10 => some c10
  | 11 => some c11
  | 14 => some c14
  | 15 => some c15
  | 16 => some c16
  | 17 => some c17
  | 18 => some c18
  | 21 => some c21
  | _ => none
theorem codes_ok : ∀ f fc, codes f = some fc → compF Go.Proofs.Try.prog [17] f = some (eraseF fc) := by
  intro f fc h
  unfold codes at h
  split at h
  · cases h; exact c4_ok
  · cases h; exact c5_ok
  · cases h; exact c7_ok
  · cases h; exact c8_ok
  · cases h; exact c9_ok
  · cases h; exact c10_ok
  · cases h; exact c11_ok
  · cases h; exact c14_ok
  · cases h; exact c15_ok
  · cases h; exact c16_ok
  · cases h; exact c17_ok
  · cases h; exact c18_ok
  · cases h; exact c21_ok
  · cases h
theorem codes4 : codes 4 = some c4 := rfl
theorem codes5 : codes 5 = some c5 := rfl
theorem codes7 : codes 7 = some c7 := rfl
theorem codes8 : codes 8 = some c8 := rfl
theorem codes9 : codes 9 = some c9 := rfl
theorem codes10 : codes 10 = some c10 := rfl
theorem codes11 : codes 11 = some c11 := rfl
theorem codes14 : codes 14 = some c14 := rfl
theorem codes15 : codes 15 = some c15 := rfl
theorem codes16 : codes 16 = some c16 := rfl
theorem codes17 : codes 17 = some c17 := rfl
theorem codes18 : codes 18 = some c18 := rfl
theorem codes21 : codes 21 = some c21 := rfl
noncomputable def libs : List (Nat × (List PV → Option PV)) := [(6, oVS libAnswer)]
noncomputable abbrev baseL : Orc := libO libs
end Go.Proofs.Ytdphimcpcclifaa.Pm
