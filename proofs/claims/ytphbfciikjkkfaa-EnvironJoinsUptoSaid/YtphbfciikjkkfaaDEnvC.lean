/- The small machine's codes of some functions. Printed by dec.py. -/
import Derived.Test.YtphbfciikjkkfaaPa
import Derived.Test.YtphbfciikjkkfaaProg
namespace Go.Proofs.Ytphbfciikjkkfaa.Pm
set_option maxRecDepth 1000000
set_option maxHeartbeats 20000000
set_option linter.unusedVariables false
structure GVar where
  Name : List UInt8
  Value : List UInt8
  User : Bool
  Set : Bool
def e_GVar : Enc GVar := ⟨4, fun x => [.str x.Name, .str x.Value, .bool x.User, .bool x.Set], fun _ => rfl⟩
def p37_1 : List PO := [⟨(.some 1), (.box 4 (.tmp 0)), .none⟩, ⟨(.some 2), (.mov (.const (.bool .false))), .none⟩]
def p37_2 : List PO := [⟨(.some 3), (.fld 0 (.tmp 1)), .none⟩, ⟨(.some 4), (.load .false 1 (.tmp 3)), .none⟩, ⟨(.some 5), (.len .true (.tmp 4)), .none⟩, ⟨(.some 6), (.cmpI .gtr (.tmp 5) (.const (.int .i64 200))), .none⟩, ⟨(.some 7), (.mov (.tmp 6)), .none⟩, ⟨(.some 8), (.fld 1 (.tmp 1)), (.some (7, .false))⟩, ⟨(.some 9), (.load .false 1 (.tmp 8)), (.some (7, .false))⟩, ⟨(.some 10), (.len .true (.tmp 9)), (.some (7, .false))⟩, ⟨(.some 11), (.cmpI .gtr (.tmp 10) (.const (.int .i64 200))), (.some (7, .false))⟩, ⟨(.some 12), (.pick (.tmp 7) (.const (.bool .true)) (.tmp 11)), .none⟩, ⟨(.some 2), (.mov (.tmp 12)), .none⟩]
def c37_b : PCode := (.seq (.reg p37_1) (.seq (.reg p37_2) .ret))
def c37 : FCode := ⟨13, c37_b, [(.tmp 2)], some ([2], [], []), false⟩
theorem c37_ok : compF Go.Proofs.Try.prog [100025, 38, 52] 37 = some (eraseF c37) := by kernel_rfl
def p56_4 : List PO := [⟨(.some 4), (.mov (.const (.int .i64 0))), .none⟩]
def p56_5 : List PO := [⟨(.some 6), (.mov (.tmp 0)), .none⟩, ⟨(.some 7), (.len .false (.tmp 6)), .none⟩, ⟨(.some 8), (.mov (.const (.int .i64 0))), .none⟩]
def p56_6 : List PO := [⟨(.some 9), (.cmpI .lss (.tmp 8) (.tmp 7)), .none⟩]
def p56_7 : List PO := [⟨(.some 10), (.mov (.tmp 8)), .none⟩, ⟨(.some 5), (.mov (.tmp 10)), .none⟩]
def p56_8 : List PO := [⟨(.some 11), (.mov (.tmp 1)), .none⟩, ⟨(.some 12), (.mov (.tmp 0)), .none⟩, ⟨(.some 13), (.mov (.tmp 5)), .none⟩, ⟨(.some 14), (.ixS 30 4 (.tmp 12) (.tmp 13)), .none⟩, ⟨(.some 15), (.load .true 4 (.tmp 14)), .none⟩, ⟨(.some 16), (.callv (.tmp 11) [(.tmp 15)]), .none⟩]
def p56_9 : List PO := [⟨(.some 17), (.mov (.tmp 5)), .none⟩, ⟨(.some 4), (.mov (.tmp 17)), .none⟩]
def p56_10 : List PO := [⟨(.some 18), (.arI .add (.tmp 8) (.const (.int .i64 1))), .none⟩, ⟨(.some 8), (.mov (.tmp 18)), .none⟩]
def c56_1 : PCode := (.keep [0, 1, 7, 8] [] [] (.seq (.block 1 (.seq (.reg p56_7) (.seq (.reg p56_8) (.cond (.tmp 16) (.seq (.reg p56_9) .ret) .skip)))) (.reg p56_10)))
def c56_2 : PCode := (.keep [0, 1, 7, 8, 9] [] [] (.seq (.cond (.tmp 9) .skip (.keep [] [] [] (.exit 0))) c56_1))
def c56_3 : PCode := (.keep [0, 1, 7, 8] [] [] (.seq (.reg p56_6) c56_2))
def p56_11 : List PO := [⟨(.some 4), (.mov (.const (.int .i64 (-1)))), .none⟩]
def c56_b : PCode := (.seq (.reg p56_4) (.seq (.seq (.reg p56_5) (.block 0 (.loop c56_3))) (.seq (.reg p56_11) .ret)))
def c56 : FCode := ⟨19, c56_b, [(.tmp 4)], some ([4], [], []), false⟩
theorem c56_ok : compF Go.Proofs.Try.prog [100025, 38, 52] 56 = some (eraseF c56) := by kernel_rfl
def p36_1 : List PO := [⟨(.some 4), (.mov (.const (.bool .false))), .none⟩]
def p36_2 : List PO := [⟨(.some 5), (.mov (.tmp 0)), .none⟩, ⟨(.some 6), (.mov (.tmp 1)), .none⟩, ⟨(.some 7), (.call 56 [(.tmp 5), (.tmp 6)]), .none⟩, ⟨(.some 8), (.cmpI .geq (.tmp 7) (.const (.int .i64 0))), .none⟩, ⟨(.some 4), (.mov (.tmp 8)), .none⟩]
def c36_b : PCode := (.seq (.reg p36_1) (.seq (.reg p36_2) .ret))
def c36 : FCode := ⟨9, c36_b, [(.tmp 4)], some ([4], [], []), false⟩
theorem c36_ok : compF Go.Proofs.Try.prog [100025, 38, 52] 36 = some (eraseF c36) := by kernel_rfl
def p38_6 : List PO := [⟨(.some 4), (.nilS 5 1), .none⟩]
def p38_7 : List PO := [⟨(.some 6), (.mov (.tmp 1)), .none⟩, ⟨(.some 7), (.len .true (.tmp 6)), .none⟩, ⟨(.some 8), (.mov (.const (.int .i64 0))), .none⟩]
def p38_8 : List PO := [⟨(.some 9), (.cmpI .lss (.tmp 8) (.tmp 7)), .none⟩]
def p38_9 : List PO := [⟨(.some 10), (.mov (.tmp 8)), .none⟩, ⟨(.some 5), (.mov (.tmp 10)), .none⟩]
def p38_10 : List PO := [⟨(.some 11), (.mov (.tmp 1)), .none⟩, ⟨(.some 12), (.mov (.tmp 5)), .none⟩, ⟨(.some 13), (.ixStr (.tmp 11) (.tmp 12)), .none⟩, ⟨(.some 14), (.cmpI .leq (.tmp 13) (.const (.int .u8 3))), .none⟩]
def p38_11 : List PO := [⟨(.some 15), (.mov (.tmp 0)), .none⟩, ⟨(.some 16), (.bsl 5 1 1 [(1, (.int .u8 0))] [(0, (1, (.const (.int .u8 2))))]), .none⟩, ⟨(.some 17), (.app 5 1 1 (.tmp 15) (.tmp 16)), .none⟩, ⟨(.some 0), (.mov (.tmp 17)), .none⟩]
def p38_12 : List PO := [⟨(.some 18), (.mov (.tmp 0)), .none⟩, ⟨(.some 19), (.mov (.tmp 1)), .none⟩, ⟨(.some 20), (.mov (.tmp 5)), .none⟩, ⟨(.some 21), (.ixStr (.tmp 19) (.tmp 20)), .none⟩, ⟨(.some 22), (.bsl 5 1 1 [(1, (.int .u8 0))] [(0, (1, (.tmp 21)))]), .none⟩, ⟨(.some 23), (.app 5 1 1 (.tmp 18) (.tmp 22)), .none⟩, ⟨(.some 0), (.mov (.tmp 23)), .none⟩]
def c38_1 : PCode := (.keep [0, 1, 5, 7, 8] [(0, .id 0)] [] (.reg p38_12))
def p38_13 : List PO := [⟨(.some 24), (.arI .add (.tmp 8) (.const (.int .i64 1))), .none⟩, ⟨(.some 8), (.mov (.tmp 24)), .none⟩]
def c38_2 : PCode := (.reg p38_13)
def c38_3 : PCode := (.keep [0, 1, 7, 8] [(0, .id 0)] [] (.seq (.block 1 (.seq (.reg p38_9) (.seq (.seq (.reg p38_10) (.cond (.tmp 14) (.reg p38_11) .skip)) c38_1))) c38_2))
def c38_4 : PCode := (.keep [0, 1, 7, 8, 9] [(0, .id 0)] [] (.seq (.cond (.tmp 9) .skip (.keep [0] [(0, .id 0)] [] (.exit 0))) c38_3))
def c38_5 : PCode := (.keep [0, 1, 7, 8] [(0, .id 0)] [] (.seq (.reg p38_8) c38_4))
def p38_14 : List PO := [⟨(.some 25), (.mov (.tmp 0)), .none⟩, ⟨(.some 4), (.mov (.tmp 25)), .none⟩]
def c38_b : PCode := (.seq (.reg p38_6) (.seq (.seq (.reg p38_7) (.block 0 (.loop c38_5))) (.seq (.reg p38_14) .ret)))
def c38 : FCode := ⟨26, c38_b, [(.tmp 4)], some ([4], [(0, .id 0)], []), false⟩
theorem c38_ok : compF Go.Proofs.Try.prog [100025, 38, 52] 38 = some (eraseF c38) := by kernel_rfl
def p14_8 : List PO := [⟨(.some 2), (.mov (.const (.string ⟨#[]⟩))), .none⟩, ⟨(.some 3), (.mov (.const (.int .i64 0))), .none⟩]
def p14_9 : List PO := [⟨(.some 8), (.mov (.tmp 0)), .none⟩, ⟨(.some 9), (.len .false (.tmp 8)), .none⟩, ⟨(.some 10), (.cmpI .gtr (.tmp 9) (.const (.int .i64 20))), .none⟩, ⟨(.some 11), (.mov (.tmp 10)), .none⟩, ⟨(.some 12), (.mov (.tmp 0)), (.some (11, .false))⟩, ⟨(.some 13), (.call 36 [(.tmp 12), (.func 37)]), (.some (11, .false))⟩, ⟨(.some 14), (.pick (.tmp 11) (.const (.bool .true)) (.tmp 13)), .none⟩]
def p14_10 : List PO := [⟨(.some 2), (.mov (.const (.string ⟨#[]⟩))), .none⟩, ⟨(.some 3), (.mov (.const (.int .i64 2))), .none⟩]
def p14_11 : List PO := [⟨(.some 4), (.nilS 5 1), .none⟩]
def p14_12 : List PO := [⟨(.some 15), (.mov (.tmp 0)), .none⟩, ⟨(.some 16), (.len .false (.tmp 15)), .none⟩, ⟨(.some 17), (.mov (.const (.int .i64 0))), .none⟩]
def p14_13 : List PO := [⟨(.some 18), (.cmpI .lss (.tmp 17) (.tmp 16)), .none⟩]
def p14_14 : List PO := [⟨(.some 19), (.ixS 30 4 (.tmp 15) (.tmp 17)), .none⟩, ⟨(.some 20), (.load .true 4 (.tmp 19)), .none⟩, ⟨(.some 6), (.alloc [(2, (.string ⟨#[]⟩)), (2, (.bool .false))]), .none⟩, ⟨.none, (.store 4 (.tmp 6) (.tmp 20)), .none⟩]
def p14_15 : List PO := [⟨(.some 21), (.fld 3 (.tmp 6)), .none⟩, ⟨(.some 22), (.load .false 1 (.tmp 21)), .none⟩, ⟨(.some 23), (.un .not (.tmp 22)), .none⟩, ⟨(.some 24), (.mov (.tmp 23)), .none⟩, ⟨(.some 25), (.fld 1 (.tmp 6)), (.some (24, .true))⟩, ⟨(.some 26), (.load .false 1 (.tmp 25)), (.some (24, .true))⟩, ⟨(.some 27), (.strO .neq (.tmp 26) (.const (.string ⟨#[]⟩))), (.some (24, .true))⟩, ⟨(.some 28), (.pick (.tmp 24) (.tmp 27) (.const (.bool .false))), .none⟩]
def p14_16 : List PO := [⟨(.some 2), (.mov (.const (.string ⟨#[]⟩))), .none⟩, ⟨(.some 3), (.mov (.const (.int .i64 4))), .none⟩]
def p14_17 : List PO := [⟨(.some 7), (.mov (.const (.int .u8 0))), .none⟩]
def p14_18 : List PO := [⟨(.some 29), (.fld 2 (.tmp 6)), .none⟩, ⟨(.some 30), (.load .false 1 (.tmp 29)), .none⟩]
def p14_19 : List PO := [⟨(.some 7), (.mov (.const (.int .u8 3))), .none⟩]
def p14_20 : List PO := [⟨(.some 31), (.mov (.tmp 4)), .none⟩, ⟨(.some 32), (.mov (.tmp 7)), .none⟩, ⟨(.some 33), (.bsl 5 1 1 [(1, (.int .u8 0))] [(0, (1, (.tmp 32)))]), .none⟩, ⟨(.some 34), (.app 5 1 1 (.tmp 31) (.tmp 33)), .none⟩, ⟨(.some 35), (.fld 0 (.tmp 6)), .none⟩, ⟨(.some 36), (.load .false 1 (.tmp 35)), .none⟩, ⟨(.some 37), (.callr 38 [(.tmp 34), (.tmp 36)]), .none⟩, ⟨(.some 4), (.mov (.tmp 37)), .none⟩]
def p14_21 : List PO := [⟨(.some 38), (.fld 3 (.tmp 6)), .none⟩, ⟨(.some 39), (.load .false 1 (.tmp 38)), .none⟩]
def p14_22 : List PO := [⟨(.some 40), (.mov (.tmp 4)), .none⟩, ⟨(.some 41), (.bsl 5 1 1 [(1, (.int .u8 0))] [(0, (1, (.const (.int .u8 1))))]), .none⟩, ⟨(.some 42), (.app 5 1 1 (.tmp 40) (.tmp 41)), .none⟩, ⟨(.some 43), (.fld 1 (.tmp 6)), .none⟩, ⟨(.some 44), (.load .false 1 (.tmp 43)), .none⟩, ⟨(.some 45), (.callr 38 [(.tmp 42), (.tmp 44)]), .none⟩, ⟨(.some 4), (.mov (.tmp 45)), .none⟩]
def c14_1 : PCode := (.keep [4, 6, 7, 15, 16, 17, 25, 26, 27] [(40, .id 40), (56, .id 56)] [] (.seq (.regD p14_20 [(2, 5), (3, 5)]) (.seq (.reg p14_21) (.cond (.tmp 39) (.regD p14_22 [(1, 4), (2, 4)]) .skip))))
def c14_3 : PCode := (.keep [4, 6, 15, 16, 17, 25, 26, 27] [(40, .id 40), (56, .id 56)] [] (.seq (.reg p14_17) (.seq (.seq (.reg p14_18) (.cond (.tmp 30) (.reg p14_19) .skip)) c14_1)))
def p14_23 : List PO := [⟨(.some 46), (.arI .add (.tmp 17) (.const (.int .i64 1))), .none⟩, ⟨(.some 17), (.mov (.tmp 46)), .none⟩]
def c14_2 : PCode := (.reg p14_23)
def c14_4 : PCode := (.keep [4, 15, 16, 17] [(40, .id 40)] [] (.seq (.block 1 (.seq (.reg p14_14) (.seq (.seq (.reg p14_15) (.cond (.tmp 28) (.seq (.reg p14_16) .ret) .skip)) c14_3))) c14_2))
def c14_5 : PCode := (.keep [4, 15, 16, 17, 18] [(40, .id 40)] [] (.seq (.cond (.tmp 18) .skip (.keep [4] [(40, .id 40)] [] (.exit 0))) c14_4))
def c14_6 : PCode := (.keep [4, 15, 16, 17] [(40, .id 40)] [] (.seq (.reg p14_13) c14_5))
def p14_24 : List PO := [⟨(.some 47), (.mov (.tmp 4)), .none⟩, ⟨(.some 48), (.cvBS (.tmp 47)), .none⟩, ⟨(.some 2), (.mov (.tmp 48)), .none⟩, ⟨(.some 3), (.mov (.const (.int .i64 0))), .none⟩]
def c14_7 : PCode := (.keep [0] [] [] (.seq (.reg p14_11) (.seq (.seq (.reg p14_12) (.block 0 (.loop c14_6))) (.seq (.reg p14_24) .ret))))
def c14_b : PCode := (.seq (.reg p14_8) (.seq (.seq (.reg p14_9) (.cond (.tmp 14) (.seq (.reg p14_10) .ret) .skip)) c14_7))
def c14 : FCode := ⟨49, c14_b, [(.tmp 2), (.tmp 3)], some ([2, 3], [], []), false⟩
theorem c14_ok : compF Go.Proofs.Try.prog [100025, 38, 52] 14 = some (eraseF c14) := by kernel_rfl
def p39_5 : List PO := [⟨(.some 2), (.mov (.const (.string ⟨#[]⟩))), .none⟩, ⟨(.some 3), (.mov (.const (.string ⟨#[]⟩))), .none⟩]
def p39_6 : List PO := [⟨(.some 4), (.nilS 5 1), .none⟩]
def p39_7 : List PO := [⟨(.some 5), (.mov (.const (.int .i64 0))), .none⟩]
def p39_8 : List PO := [⟨(.some 6), (.mov (.tmp 5)), .none⟩, ⟨(.some 7), (.mov (.tmp 0)), .none⟩, ⟨(.some 8), (.len .true (.tmp 7)), .none⟩, ⟨(.some 9), (.cmpI .lss (.tmp 6) (.tmp 8)), .none⟩, ⟨(.some 10), (.mov (.tmp 9)), .none⟩, ⟨(.some 11), (.mov (.tmp 0)), (.some (10, .true))⟩, ⟨(.some 12), (.mov (.tmp 5)), (.some (10, .true))⟩, ⟨(.some 13), (.ixStr (.tmp 11) (.tmp 12)), (.some (10, .true))⟩, ⟨(.some 14), (.cmpI .gtr (.tmp 13) (.const (.int .u8 3))), (.some (10, .true))⟩, ⟨(.some 15), (.mov (.tmp 14)), (.some (10, .true))⟩, ⟨(.some 16), (.mov (.tmp 0)), (.some (15, .false))⟩, ⟨(.some 17), (.mov (.tmp 5)), (.some (15, .false))⟩, ⟨(.some 18), (.ixStr (.tmp 16) (.tmp 17)), (.some (15, .false))⟩, ⟨(.some 19), (.cmpI .eql (.tmp 18) (.const (.int .u8 2))), (.some (15, .false))⟩, ⟨(.some 20), (.mov (.tmp 19)), (.some (15, .false))⟩, ⟨(.some 21), (.mov (.tmp 5)), (.some (20, .true))⟩, ⟨(.some 22), (.arI .add (.tmp 21) (.const (.int .i64 1))), (.some (20, .true))⟩, ⟨(.some 23), (.mov (.tmp 0)), (.some (20, .true))⟩, ⟨(.some 24), (.len .true (.tmp 23)), (.some (20, .true))⟩, ⟨(.some 25), (.cmpI .lss (.tmp 22) (.tmp 24)), (.some (20, .true))⟩, ⟨(.some 26), (.pick (.tmp 20) (.tmp 25) (.const (.bool .false))), (.some (15, .false))⟩, ⟨(.some 27), (.pick (.tmp 15) (.const (.bool .true)) (.tmp 26)), (.some (10, .true))⟩, ⟨(.some 28), (.pick (.tmp 10) (.tmp 27) (.const (.bool .false))), .none⟩]
def p39_9 : List PO := [⟨(.some 29), (.mov (.tmp 0)), .none⟩, ⟨(.some 30), (.mov (.tmp 5)), .none⟩, ⟨(.some 31), (.ixStr (.tmp 29) (.tmp 30)), .none⟩, ⟨(.some 32), (.cmpI .eql (.tmp 31) (.const (.int .u8 2))), .none⟩]
def p39_10 : List PO := [⟨(.some 33), (.mov (.tmp 5)), .none⟩, ⟨(.some 34), (.arI .add (.tmp 33) (.const (.int .i64 1))), .none⟩, ⟨(.some 5), (.mov (.tmp 34)), .none⟩]
def p39_11 : List PO := [⟨(.some 35), (.mov (.tmp 4)), .none⟩, ⟨(.some 36), (.mov (.tmp 0)), .none⟩, ⟨(.some 37), (.mov (.tmp 5)), .none⟩, ⟨(.some 38), (.ixStr (.tmp 36) (.tmp 37)), .none⟩, ⟨(.some 39), (.bsl 5 1 1 [(1, (.int .u8 0))] [(0, (1, (.tmp 38)))]), .none⟩, ⟨(.some 40), (.app 5 1 1 (.tmp 35) (.tmp 39)), .none⟩, ⟨(.some 4), (.mov (.tmp 40)), .none⟩]
def p39_12 : List PO := [⟨(.some 41), (.mov (.tmp 5)), .none⟩, ⟨(.some 42), (.arI .add (.tmp 41) (.const (.int .i64 1))), .none⟩, ⟨(.some 5), (.mov (.tmp 42)), .none⟩]
def c39_2 : PCode := (.keep [0, 4, 5, 11, 12, 13, 14, 15, 16, 17, 18, 19, 20, 21, 22, 23, 24, 25, 26, 27] [(40, .id 40)] [] (.seq (.reg p39_11) (.reg p39_12)))
def c39_3 : PCode := (.keep [0, 4, 5, 11, 12, 13, 14, 15, 16, 17, 18, 19, 20, 21, 22, 23, 24, 25, 26, 27] [(40, .id 40)] [] (.block 1 (.seq (.seq (.reg p39_9) (.cond (.tmp 32) (.reg p39_10) .skip)) c39_2)))
def c39_4 : PCode := (.keep [0, 4, 5] [(40, .id 40)] [] (.seq (.seq (.reg p39_8) (.cond (.tmp 28) .skip (.keep [0, 4, 5] [(40, .id 40)] [] (.exit 0)))) c39_3))
def p39_13 : List PO := [⟨(.some 43), (.mov (.tmp 4)), .none⟩, ⟨(.some 44), (.cvBS (.tmp 43)), .none⟩, ⟨(.some 45), (.mov (.tmp 0)), .none⟩, ⟨(.some 46), (.mov (.tmp 5)), .none⟩, ⟨(.some 47), (.slStr (.tmp 45) (.some (.tmp 46)) .none), .none⟩, ⟨(.some 2), (.mov (.tmp 44)), .none⟩, ⟨(.some 3), (.mov (.tmp 47)), .none⟩]
def c39_1 : PCode := (.keep [0, 4, 5] [(40, .id 40)] [] (.seq (.regD p39_13 []) .ret))
def c39_b : PCode := (.seq (.reg p39_5) (.seq (.reg p39_6) (.seq (.reg p39_7) (.seq (.block 0 (.loop c39_4)) c39_1))))
def c39 : FCode := ⟨48, c39_b, [(.tmp 2), (.tmp 3)], some ([2, 3], [], []), false⟩
theorem c39_ok : compF Go.Proofs.Try.prog [100025, 38, 52] 39 = some (eraseF c39) := by kernel_rfl
def p15_7 : List PO := [⟨(.some 2), (.nilS 30 4), .none⟩, ⟨(.some 3), (.mov (.const (.int .i64 0))), .none⟩]
def p15_8 : List PO := [⟨(.some 9), (.mov (.tmp 0)), .none⟩, ⟨(.some 10), (.len .true (.tmp 9)), .none⟩, ⟨(.some 11), (.cmpI .gtr (.tmp 10) (.const (.int .i64 4096))), .none⟩]
def p15_9 : List PO := [⟨(.some 2), (.nilS 30 4), .none⟩, ⟨(.some 3), (.mov (.const (.int .i64 2))), .none⟩]
def p15_10 : List PO := [⟨(.some 4), (.nilS 30 4), .none⟩]
def p15_11 : List PO := [⟨(.some 12), (.mov (.tmp 0)), .none⟩, ⟨(.some 5), (.mov (.tmp 12)), .none⟩]
def p15_12 : List PO := [⟨(.some 13), (.mov (.tmp 5)), .none⟩, ⟨(.some 14), (.strO .neq (.tmp 13) (.const (.string ⟨#[]⟩))), .none⟩]
def p15_13 : List PO := [⟨(.some 15), (.mov (.tmp 5)), .none⟩, ⟨(.some 16), (.ixStr (.tmp 15) (.const (.int .i64 0))), .none⟩, ⟨(.some 17), (.cmpI .neq (.tmp 16) (.const (.int .u8 0))), .none⟩, ⟨(.some 18), (.mov (.tmp 17)), .none⟩, ⟨(.some 19), (.mov (.tmp 5)), (.some (18, .true))⟩, ⟨(.some 20), (.ixStr (.tmp 19) (.const (.int .i64 0))), (.some (18, .true))⟩, ⟨(.some 21), (.cmpI .neq (.tmp 20) (.const (.int .u8 3))), (.some (18, .true))⟩, ⟨(.some 22), (.pick (.tmp 18) (.tmp 21) (.const (.bool .false))), .none⟩]
def p15_14 : List PO := [⟨(.some 2), (.nilS 30 4), .none⟩, ⟨(.some 3), (.mov (.const (.int .i64 4))), .none⟩]
def p15_15 : List PO := [⟨(.some 23), (.mov (.tmp 5)), .none⟩, ⟨(.some 24), (.ixStr (.tmp 23) (.const (.int .i64 0))), .none⟩, ⟨(.some 25), (.cmpI .eql (.tmp 24) (.const (.int .u8 3))), .none⟩, ⟨(.some 26), (.build [(2, (.string ⟨#[]⟩)), (2, (.bool .false))] [(2, (1, (.tmp 25)))]), .none⟩, ⟨(.some 6), (.alloc [(2, (.string ⟨#[]⟩)), (2, (.bool .false))]), .none⟩, ⟨.none, (.store 4 (.tmp 6) (.tmp 26)), .none⟩]
def p15_16 : List PO := [⟨(.some 28), (.mov (.tmp 5)), .none⟩, ⟨(.some 29), (.slStr (.tmp 28) (.some (.const (.int .i64 1))) .none), .none⟩, ⟨(.some 30), (.call 39 [(.tmp 29)]), .none⟩, ⟨(.some 27), (.mov (.tmp 30)), .none⟩, ⟨(.some 31), (.ext (.tmp 27) 0), .none⟩, ⟨(.some 32), (.ext (.tmp 27) 1), .none⟩, ⟨(.some 33), (.fld 0 (.tmp 6)), .none⟩, ⟨.none, (.store 1 (.tmp 33) (.tmp 31)), .none⟩, ⟨(.some 5), (.mov (.tmp 32)), .none⟩]
def p15_17 : List PO := [⟨(.some 34), (.mov (.tmp 5)), .none⟩, ⟨(.some 35), (.strO .neq (.tmp 34) (.const (.string ⟨#[]⟩))), .none⟩, ⟨(.some 36), (.mov (.tmp 35)), .none⟩, ⟨(.some 37), (.mov (.tmp 5)), (.some (36, .true))⟩, ⟨(.some 38), (.ixStr (.tmp 37) (.const (.int .i64 0))), (.some (36, .true))⟩, ⟨(.some 39), (.cmpI .eql (.tmp 38) (.const (.int .u8 1))), (.some (36, .true))⟩, ⟨(.some 40), (.pick (.tmp 36) (.tmp 39) (.const (.bool .false))), .none⟩]
def p15_18 : List PO := [⟨(.some 41), (.fld 3 (.tmp 6)), .none⟩, ⟨.none, (.store 1 (.tmp 41) (.const (.bool .true))), .none⟩]
def p15_19 : List PO := [⟨(.some 43), (.mov (.tmp 5)), .none⟩, ⟨(.some 44), (.slStr (.tmp 43) (.some (.const (.int .i64 1))) .none), .none⟩, ⟨(.some 45), (.call 39 [(.tmp 44)]), .none⟩, ⟨(.some 42), (.mov (.tmp 45)), .none⟩, ⟨(.some 46), (.ext (.tmp 42) 0), .none⟩, ⟨(.some 47), (.ext (.tmp 42) 1), .none⟩, ⟨(.some 48), (.fld 1 (.tmp 6)), .none⟩, ⟨.none, (.store 1 (.tmp 48) (.tmp 46)), .none⟩, ⟨(.some 5), (.mov (.tmp 47)), .none⟩]
def p15_20 : List PO := [⟨(.some 49), (.mov (.tmp 4)), .none⟩, ⟨(.some 50), (.load .true 4 (.tmp 6)), .none⟩, ⟨(.some 51), (.bsl 30 4 1 [(2, (.string ⟨#[]⟩)), (2, (.bool .false))] [(0, (4, (.tmp 50)))]), .none⟩, ⟨(.some 52), (.app 30 4 40 (.tmp 49) (.tmp 51)), .none⟩, ⟨(.some 4), (.mov (.tmp 52)), .none⟩]
def c15_2 : PCode := (.keep [0, 4, 5, 6, 19, 20, 21] [(40, .id 40), (56, .id 56)] [] (.seq (.reg p15_16) (.seq (.seq (.reg p15_17) (.cond (.tmp 40) (.seq (.reg p15_18) (.reg p15_19)) .skip)) (.reg p15_20))))
def c15_3 : PCode := (.keep [0, 4, 5, 19, 20, 21] [(40, .id 40)] [] (.seq (.reg p15_15) c15_2))
def c15_4 : PCode := (.keep [0, 4, 5] [(40, .id 40)] [] (.block 1 (.seq (.seq (.reg p15_13) (.cond (.tmp 22) (.seq (.reg p15_14) .ret) .skip)) c15_3)))
def c15_5 : PCode := (.keep [0, 4, 5] [(40, .id 40)] [] (.seq (.seq (.reg p15_12) (.cond (.tmp 14) .skip (.keep [0, 4] [(40, .id 40)] [] (.exit 0)))) c15_4))
def p15_21 : List PO := [⟨(.some 54), (.mov (.tmp 4)), .none⟩, ⟨(.some 55), (.call 14 [(.tmp 54)]), .none⟩, ⟨(.some 53), (.mov (.tmp 55)), .none⟩, ⟨(.some 56), (.ext (.tmp 53) 0), .none⟩, ⟨(.some 57), (.ext (.tmp 53) 1), .none⟩, ⟨(.some 7), (.mov (.tmp 56)), .none⟩, ⟨(.some 8), (.mov (.tmp 57)), .none⟩]
def p15_22 : List PO := [⟨(.some 58), (.mov (.tmp 8)), .none⟩, ⟨(.some 59), (.cmpI .neq (.tmp 58) (.const (.int .i64 0))), .none⟩, ⟨(.some 60), (.mov (.tmp 59)), .none⟩, ⟨(.some 61), (.mov (.tmp 7)), (.some (60, .false))⟩, ⟨(.some 62), (.mov (.tmp 0)), (.some (60, .false))⟩, ⟨(.some 63), (.strO .neq (.tmp 61) (.tmp 62)), (.some (60, .false))⟩, ⟨(.some 64), (.pick (.tmp 60) (.const (.bool .true)) (.tmp 63)), .none⟩]
def p15_23 : List PO := [⟨(.some 2), (.nilS 30 4), .none⟩, ⟨(.some 3), (.mov (.const (.int .i64 4))), .none⟩]
def p15_24 : List PO := [⟨(.some 65), (.mov (.tmp 4)), .none⟩, ⟨(.some 2), (.mov (.tmp 65)), .none⟩, ⟨(.some 3), (.mov (.const (.int .i64 0))), .none⟩]
def c15_1 : PCode := (.keep [0, 4] [(40, .id 40)] [] (.seq (.seq (.reg p15_21) (.seq (.reg p15_22) (.cond (.tmp 64) (.seq (.reg p15_23) .ret) .skip))) (.seq (.reg p15_24) .ret)))
def c15_6 : PCode := (.keep [0] [] [] (.seq (.reg p15_10) (.seq (.seq (.reg p15_11) (.block 0 (.loop c15_5))) c15_1)))
def c15_b : PCode := (.seq (.reg p15_7) (.seq (.seq (.reg p15_8) (.cond (.tmp 11) (.seq (.reg p15_9) .ret) .skip)) c15_6))
def c15 : FCode := ⟨66, c15_b, [(.tmp 2), (.tmp 3)], some ([2, 3], [(561, (.slot 2 none))], []), false⟩
theorem c15_ok : compF Go.Proofs.Try.prog [100025, 38, 52] 15 = some (eraseF c15) := by kernel_rfl
def p16_5 : List PO := [⟨(.some 4), (.mov (.const (.bool .false))), .none⟩]
def p16_6 : List PO := [⟨(.some 6), (.mov (.tmp 0)), .none⟩, ⟨(.some 7), (.len .false (.tmp 6)), .none⟩, ⟨(.some 8), (.mov (.tmp 1)), .none⟩, ⟨(.some 9), (.len .false (.tmp 8)), .none⟩, ⟨(.some 10), (.cmpI .neq (.tmp 7) (.tmp 9)), .none⟩]
def p16_7 : List PO := [⟨(.some 4), (.mov (.const (.bool .false))), .none⟩]
def p16_8 : List PO := [⟨(.some 11), (.mov (.tmp 0)), .none⟩, ⟨(.some 12), (.len .false (.tmp 11)), .none⟩, ⟨(.some 13), (.mov (.const (.int .i64 0))), .none⟩]
def p16_9 : List PO := [⟨(.some 14), (.cmpI .lss (.tmp 13) (.tmp 12)), .none⟩]
def p16_10 : List PO := [⟨(.some 15), (.mov (.tmp 13)), .none⟩, ⟨(.some 5), (.mov (.tmp 15)), .none⟩]
def p16_11 : List PO := [⟨(.some 16), (.mov (.tmp 0)), .none⟩, ⟨(.some 17), (.mov (.tmp 5)), .none⟩, ⟨(.some 18), (.ixS 30 4 (.tmp 16) (.tmp 17)), .none⟩, ⟨(.some 19), (.load .true 4 (.tmp 18)), .none⟩, ⟨(.some 20), (.mov (.tmp 1)), .none⟩, ⟨(.some 21), (.mov (.tmp 5)), .none⟩, ⟨(.some 22), (.ixS 30 4 (.tmp 20) (.tmp 21)), .none⟩, ⟨(.some 23), (.load .true 4 (.tmp 22)), .none⟩, ⟨(.some 24), (.eqA .true [(2, .str), (2, .bool)] (.tmp 19) (.tmp 23)), .none⟩]
def p16_12 : List PO := [⟨(.some 4), (.mov (.const (.bool .false))), .none⟩]
def p16_13 : List PO := [⟨(.some 25), (.arI .add (.tmp 13) (.const (.int .i64 1))), .none⟩, ⟨(.some 13), (.mov (.tmp 25)), .none⟩]
def c16_1 : PCode := (.keep [0, 1, 12, 13] [] [] (.seq (.block 1 (.seq (.reg p16_10) (.seq (.regD p16_11 []) (.cond (.tmp 24) (.seq (.reg p16_12) .ret) .skip)))) (.reg p16_13)))
def c16_2 : PCode := (.keep [0, 1, 12, 13, 14] [] [] (.seq (.cond (.tmp 14) .skip (.keep [] [] [] (.exit 0))) c16_1))
def c16_3 : PCode := (.keep [0, 1, 12, 13] [] [] (.seq (.reg p16_9) c16_2))
def p16_14 : List PO := [⟨(.some 4), (.mov (.const (.bool .true))), .none⟩]
def c16_4 : PCode := (.keep [0, 1] [] [] (.seq (.seq (.reg p16_8) (.block 0 (.loop c16_3))) (.seq (.reg p16_14) .ret)))
def c16_b : PCode := (.seq (.reg p16_5) (.seq (.seq (.reg p16_6) (.cond (.tmp 10) (.seq (.reg p16_7) .ret) .skip)) c16_4))
def c16 : FCode := ⟨26, c16_b, [(.tmp 4)], some ([4], [], []), false⟩
theorem c16_ok : compF Go.Proofs.Try.prog [100025, 38, 52] 16 = some (eraseF c16) := by kernel_rfl
def p17_1 : List PO := [⟨(.some 0), (.mov (.const (.bool .false))), .none⟩]
def p17_2 : List PO := [⟨(.some 4), (.build [(2, (.string ⟨#[]⟩)), (2, (.bool .false))] [(0, (1, (.const (.string ⟨#[85, 83, 69, 82]⟩)))), (1, (1, (.const (.string ⟨#[97, 1]⟩)))), (3, (1, (.const (.bool .true))))]), .none⟩, ⟨(.some 5), (.build [(2, (.string ⟨#[]⟩)), (2, (.bool .false))] [(0, (1, (.const (.string ⟨#[88]⟩)))), (2, (1, (.const (.bool .true))))]), .none⟩, ⟨(.some 6), (.bsl 30 4 2 [(2, (.string ⟨#[]⟩)), (2, (.bool .false)), (2, (.string ⟨#[]⟩)), (2, (.bool .false))] [(0, (4, (.tmp 4))), (4, (4, (.tmp 5)))]), .none⟩, ⟨(.some 7), (.call 14 [(.tmp 6)]), .none⟩, ⟨(.some 3), (.mov (.tmp 7)), .none⟩, ⟨(.some 8), (.ext (.tmp 3) 0), .none⟩, ⟨(.some 9), (.ext (.tmp 3) 1), .none⟩, ⟨(.some 1), (.mov (.tmp 8)), .none⟩, ⟨(.some 2), (.mov (.tmp 9)), .none⟩]
def p17_3 : List PO := [⟨(.some 10), (.mov (.tmp 2)), .none⟩, ⟨(.some 11), (.cmpI .eql (.tmp 10) (.const (.int .i64 0))), .none⟩, ⟨(.some 12), (.mov (.tmp 11)), .none⟩, ⟨(.some 13), (.mov (.tmp 1)), (.some (12, .true))⟩, ⟨(.some 14), (.strO .eql (.tmp 13) (.const (.string ⟨#[0, 85, 83, 69, 82, 1, 97, 2, 1, 3, 88]⟩))), (.some (12, .true))⟩, ⟨(.some 15), (.pick (.tmp 12) (.tmp 14) (.const (.bool .false))), .none⟩, ⟨(.some 0), (.mov (.tmp 15)), .none⟩]
def c17_b : PCode := (.seq (.reg p17_1) (.seq (.reg p17_2) (.seq (.reg p17_3) .ret)))
def c17 : FCode := ⟨16, c17_b, [(.tmp 0)], some ([0], [], []), false⟩
theorem c17_ok : compF Go.Proofs.Try.prog [100025, 38, 52] 17 = some (eraseF c17) := by kernel_rfl
def p3_5 : List PO := [⟨(.some 4), (.mov (.const (.bool .false))), .none⟩]
def p3_6 : List PO := [⟨(.some 14), (.mov (.tmp 0)), .none⟩, ⟨(.some 15), (.call 14 [(.tmp 14)]), .none⟩, ⟨(.some 13), (.mov (.tmp 15)), .none⟩, ⟨(.some 16), (.ext (.tmp 13) 0), .none⟩, ⟨(.some 17), (.ext (.tmp 13) 1), .none⟩, ⟨(.some 5), (.mov (.tmp 16)), .none⟩, ⟨(.some 6), (.mov (.tmp 17)), .none⟩]
def p3_7 : List PO := [⟨(.some 18), (.mov (.tmp 6)), .none⟩, ⟨(.some 19), (.cmpI .eql (.tmp 18) (.const (.int .i64 0))), .none⟩, ⟨(.some 20), (.mov (.tmp 19)), .none⟩, ⟨(.some 21), (.mov (.tmp 5)), (.some (20, .true))⟩, ⟨(.some 22), (.len .true (.tmp 21)), (.some (20, .true))⟩, ⟨(.some 23), (.cmpI .leq (.tmp 22) (.const (.int .i64 4096))), (.some (20, .true))⟩, ⟨(.some 24), (.pick (.tmp 20) (.tmp 23) (.const (.bool .false))), .none⟩]
def p3_8 : List PO := [⟨(.some 26), (.mov (.tmp 5)), .none⟩, ⟨(.some 27), (.call 15 [(.tmp 26)]), .none⟩, ⟨(.some 25), (.mov (.tmp 27)), .none⟩, ⟨(.some 28), (.ext (.tmp 25) 0), .none⟩, ⟨(.some 29), (.ext (.tmp 25) 1), .none⟩, ⟨(.some 7), (.mov (.tmp 28)), .none⟩, ⟨(.some 8), (.mov (.tmp 29)), .none⟩]
def p3_9 : List PO := [⟨(.some 30), (.mov (.tmp 8)), .none⟩, ⟨(.some 31), (.cmpI .neq (.tmp 30) (.const (.int .i64 0))), .none⟩, ⟨(.some 32), (.mov (.tmp 31)), .none⟩, ⟨(.some 33), (.mov (.tmp 7)), (.some (32, .false))⟩, ⟨(.some 34), (.mov (.tmp 0)), (.some (32, .false))⟩, ⟨(.some 35), (.call 16 [(.tmp 33), (.tmp 34)]), (.some (32, .false))⟩, ⟨(.some 36), (.un .not (.tmp 35)), (.some (32, .false))⟩, ⟨(.some 37), (.pick (.tmp 32) (.const (.bool .true)) (.tmp 36)), .none⟩]
def p3_10 : List PO := [⟨(.some 4), (.mov (.const (.bool .false))), .none⟩]
def c3_4 : PCode := (.keep [1] [] [] .skip)
def p3_11 : List PO := [⟨(.some 39), (.mov (.tmp 1)), .none⟩, ⟨(.some 40), (.call 15 [(.tmp 39)]), .none⟩, ⟨(.some 38), (.mov (.tmp 40)), .none⟩, ⟨(.some 41), (.ext (.tmp 38) 0), .none⟩, ⟨(.some 42), (.ext (.tmp 38) 1), .none⟩, ⟨(.some 9), (.mov (.tmp 41)), .none⟩, ⟨(.some 10), (.mov (.tmp 42)), .none⟩]
def p3_12 : List PO := [⟨(.some 43), (.call 17 []), .none⟩, ⟨(.some 44), (.un .not (.tmp 43)), .none⟩, ⟨(.some 45), (.mov (.tmp 44)), .none⟩, ⟨(.some 46), (.mov (.tmp 10)), (.some (45, .false))⟩, ⟨(.some 47), (.cmpI .neq (.tmp 46) (.const (.int .i64 0))), (.some (45, .false))⟩, ⟨(.some 48), (.pick (.tmp 45) (.const (.bool .true)) (.tmp 47)), .none⟩]
def p3_13 : List PO := [⟨(.some 49), (.call 17 []), .none⟩, ⟨(.some 50), (.mov (.tmp 49)), .none⟩, ⟨(.some 51), (.mov (.tmp 9)), (.some (50, .true))⟩, ⟨(.some 52), (.len .false (.tmp 51)), (.some (50, .true))⟩, ⟨(.some 53), (.cmpI .eql (.tmp 52) (.const (.int .i64 0))), (.some (50, .true))⟩, ⟨(.some 54), (.pick (.tmp 50) (.tmp 53) (.const (.bool .false))), .none⟩, ⟨(.some 4), (.mov (.tmp 54)), .none⟩]
def c3_2 : PCode := (.keep [9] [(328, .id 328)] [] (.seq (.reg p3_13) .ret))
def p3_14 : List PO := [⟨(.some 56), (.mov (.tmp 9)), .none⟩, ⟨(.some 57), (.call 14 [(.tmp 56)]), .none⟩, ⟨(.some 55), (.mov (.tmp 57)), .none⟩, ⟨(.some 58), (.ext (.tmp 55) 0), .none⟩, ⟨(.some 59), (.ext (.tmp 55) 1), .none⟩, ⟨(.some 11), (.mov (.tmp 58)), .none⟩, ⟨(.some 12), (.mov (.tmp 59)), .none⟩]
def p3_15 : List PO := [⟨(.some 60), (.mov (.tmp 12)), .none⟩, ⟨(.some 61), (.cmpI .eql (.tmp 60) (.const (.int .i64 0))), .none⟩, ⟨(.some 62), (.mov (.tmp 61)), .none⟩, ⟨(.some 63), (.mov (.tmp 11)), (.some (62, .true))⟩, ⟨(.some 64), (.mov (.tmp 1)), (.some (62, .true))⟩, ⟨(.some 65), (.strO .eql (.tmp 63) (.tmp 64)), (.some (62, .true))⟩, ⟨(.some 66), (.pick (.tmp 62) (.tmp 65) (.const (.bool .false))), .none⟩, ⟨(.some 4), (.mov (.tmp 66)), .none⟩]
def c3_1 : PCode := (.keep [1, 9] [(328, .id 328)] [] (.seq (.reg p3_14) (.seq (.reg p3_15) .ret)))
def c3_3 : PCode := (.keep [1] [] [] (.seq (.reg p3_11) (.seq (.seq (.reg p3_12) (.cond (.tmp 48) c3_2 .skip)) c3_1)))
def c3_b : PCode := (.seq (.reg p3_5) (.seq (.seq (.reg p3_6) (.seq (.reg p3_7) (.cond (.tmp 24) (.seq (.reg p3_8) (.seq (.reg p3_9) (.cond (.tmp 37) (.seq (.reg p3_10) .ret) .skip))) c3_4))) c3_3))
def c3 : FCode := ⟨67, c3_b, [(.tmp 4)], some ([4], [], []), false⟩
theorem c3_ok : compF Go.Proofs.Try.prog [100025, 38, 52] 3 = some (eraseF c3) := by kernel_rfl
def p18_1 : List PO := [⟨(.some 2), (.nilS 30 4), .none⟩]
def p18_2 : List PO := [⟨(.some 3), (.mov (.tmp 0)), .none⟩, ⟨(.some 4), (.isN .false (.tmp 3)), .none⟩]
def p18_3 : List PO := [⟨(.some 2), (.nilS 30 4), .none⟩]
def p18_4 : List PO := [⟨(.some 5), (.bsl 30 4 0 [] []), .none⟩, ⟨(.some 6), (.mov (.tmp 0)), .none⟩, ⟨(.some 7), (.app 30 4 40 (.tmp 5) (.tmp 6)), .none⟩, ⟨(.some 2), (.mov (.tmp 7)), .none⟩]
def c18_b : PCode := (.seq (.reg p18_1) (.seq (.seq (.reg p18_2) (.cond (.tmp 4) (.seq (.reg p18_3) .ret) .skip)) (.seq (.reg p18_4) .ret)))
def c18 : FCode := ⟨8, c18_b, [(.tmp 2)], some ([2], [(97, (.slot 2 none))], []), true⟩
theorem c18_ok : compF Go.Proofs.Try.prog [100025, 38, 52] 18 = some (eraseF c18) := by kernel_rfl
def p4_2 : List PO := [⟨(.some 4), (.mov (.const (.bool .false))), .none⟩]
def p4_3 : List PO := [⟨(.some 12), (.mov (.tmp 0)), .none⟩, ⟨(.some 13), (.call 15 [(.tmp 12)]), .none⟩, ⟨(.some 11), (.mov (.tmp 13)), .none⟩, ⟨(.some 14), (.ext (.tmp 11) 0), .none⟩, ⟨(.some 15), (.ext (.tmp 11) 1), .none⟩, ⟨(.some 5), (.mov (.tmp 14)), .none⟩, ⟨(.some 6), (.mov (.tmp 15)), .none⟩]
def p4_4 : List PO := [⟨(.some 17), (.mov (.tmp 1)), .none⟩, ⟨(.some 18), (.call 15 [(.tmp 17)]), .none⟩, ⟨(.some 16), (.mov (.tmp 18)), .none⟩, ⟨(.some 19), (.ext (.tmp 16) 0), .none⟩, ⟨(.some 20), (.ext (.tmp 16) 1), .none⟩, ⟨(.some 7), (.mov (.tmp 19)), .none⟩, ⟨(.some 8), (.mov (.tmp 20)), .none⟩]
def p4_5 : List PO := [⟨(.some 22), (.mov (.tmp 0)), .none⟩, ⟨(.some 23), (.mov (.tmp 1)), .none⟩, ⟨(.some 24), (.strO .add (.tmp 22) (.tmp 23)), .none⟩, ⟨(.some 25), (.call 15 [(.tmp 24)]), .none⟩, ⟨(.some 21), (.mov (.tmp 25)), .none⟩, ⟨(.some 26), (.ext (.tmp 21) 0), .none⟩, ⟨(.some 27), (.ext (.tmp 21) 1), .none⟩, ⟨(.some 9), (.mov (.tmp 26)), .none⟩, ⟨(.some 10), (.mov (.tmp 27)), .none⟩]
def p4_6 : List PO := [⟨(.some 28), (.call 17 []), .none⟩, ⟨(.some 29), (.un .not (.tmp 28)), .none⟩, ⟨(.some 30), (.mov (.tmp 29)), .none⟩, ⟨(.some 31), (.mov (.tmp 6)), (.some (30, .false))⟩, ⟨(.some 32), (.cmpI .neq (.tmp 31) (.const (.int .i64 0))), (.some (30, .false))⟩, ⟨(.some 33), (.pick (.tmp 30) (.const (.bool .true)) (.tmp 32)), .none⟩, ⟨(.some 34), (.mov (.tmp 33)), .none⟩, ⟨(.some 35), (.mov (.tmp 8)), (.some (34, .false))⟩, ⟨(.some 36), (.cmpI .neq (.tmp 35) (.const (.int .i64 0))), (.some (34, .false))⟩, ⟨(.some 37), (.pick (.tmp 34) (.const (.bool .true)) (.tmp 36)), .none⟩, ⟨(.some 38), (.mov (.tmp 37)), .none⟩, ⟨(.some 39), (.mov (.tmp 0)), (.some (38, .false))⟩, ⟨(.some 40), (.len .true (.tmp 39)), (.some (38, .false))⟩, ⟨(.some 41), (.mov (.tmp 1)), (.some (38, .false))⟩, ⟨(.some 42), (.len .true (.tmp 41)), (.some (38, .false))⟩, ⟨(.some 43), (.arI .add (.tmp 40) (.tmp 42)), (.some (38, .false))⟩, ⟨(.some 44), (.cmpI .gtr (.tmp 43) (.const (.int .i64 4096))), (.some (38, .false))⟩, ⟨(.some 45), (.pick (.tmp 38) (.const (.bool .true)) (.tmp 44)), .none⟩, ⟨(.some 46), (.mov (.tmp 45)), .none⟩, ⟨(.some 47), (.mov (.tmp 5)), (.some (46, .false))⟩, ⟨(.some 48), (.len .false (.tmp 47)), (.some (46, .false))⟩, ⟨(.some 49), (.mov (.tmp 7)), (.some (46, .false))⟩, ⟨(.some 50), (.len .false (.tmp 49)), (.some (46, .false))⟩, ⟨(.some 51), (.arI .add (.tmp 48) (.tmp 50)), (.some (46, .false))⟩, ⟨(.some 52), (.cmpI .gtr (.tmp 51) (.const (.int .i64 20))), (.some (46, .false))⟩, ⟨(.some 53), (.pick (.tmp 46) (.const (.bool .true)) (.tmp 52)), .none⟩]
def p4_7 : List PO := [⟨(.some 54), (.call 17 []), .none⟩, ⟨(.some 4), (.mov (.tmp 54)), .none⟩]
def p4_8 : List PO := [⟨(.some 55), (.mov (.tmp 10)), .none⟩, ⟨(.some 56), (.cmpI .eql (.tmp 55) (.const (.int .i64 0))), .none⟩, ⟨(.some 57), (.mov (.tmp 56)), .none⟩, ⟨(.some 58), (.mov (.tmp 9)), (.some (57, .true))⟩, ⟨(.some 59), (.mov (.tmp 5)), (.some (57, .true))⟩, ⟨(.some 60), (.call 18 [(.tmp 59)]), (.some (57, .true))⟩, ⟨(.some 61), (.mov (.tmp 7)), (.some (57, .true))⟩, ⟨(.some 62), (.app 30 4 40 (.tmp 60) (.tmp 61)), (.some (57, .true))⟩, ⟨(.some 63), (.call 16 [(.tmp 58), (.tmp 62)]), (.some (57, .true))⟩, ⟨(.some 64), (.pick (.tmp 57) (.tmp 63) (.const (.bool .false))), .none⟩, ⟨(.some 4), (.mov (.tmp 64)), .none⟩]
def c4_1 : PCode := (.keep [5, 7, 9, 10] [(112, .id 112), (152, .id 152), (208, .id 208)] [] (.seq (.reg p4_8) .ret))
def c4_b : PCode := (.seq (.reg p4_2) (.seq (.reg p4_3) (.seq (.reg p4_4) (.seq (.reg p4_5) (.seq (.seq (.reg p4_6) (.cond (.tmp 53) (.seq (.reg p4_7) .ret) .skip)) c4_1)))))
def c4 : FCode := ⟨65, c4_b, [(.tmp 4)], some ([4], [], []), false⟩
theorem c4_ok : compF Go.Proofs.Try.prog [100025, 38, 52] 4 = some (eraseF c4) := by kernel_rfl
def codes : Nat → Option FCode
  | 3 => some c3
  | 4 => some c4
  | 14 => some c14
  | 15 => some c15
  | 16 => some c16
  | 17 => some c17
  | 18 => some c18
  | 36 => some c36
  | 37 => some c37
  | 38 => some c38
  | 39 => some c39
  | 56 => some c56
  | _ => none
theorem codes_ok : ∀ f fc, codes f = some fc → compF Go.Proofs.Try.prog [100025, 38, 52] f = some (eraseF fc) := by
  intro f fc h
  unfold codes at h
  split at h
  · cases h; exact c3_ok
  · cases h; exact c4_ok
  · cases h; exact c14_ok
  · cases h; exact c15_ok
  · cases h; exact c16_ok
  · cases h; exact c17_ok
  · cases h; exact c18_ok
  · cases h; exact c36_ok
  · cases h; exact c37_ok
  · cases h; exact c38_ok
  · cases h; exact c39_ok
  · cases h; exact c56_ok
  · cases h
theorem codes3 : codes 3 = some c3 := rfl
theorem codes4 : codes 4 = some c4 := rfl
theorem codes14 : codes 14 = some c14 := rfl
theorem codes15 : codes 15 = some c15 := rfl
theorem codes16 : codes 16 = some c16 := rfl
theorem codes17 : codes 17 = some c17 := rfl
theorem codes18 : codes 18 = some c18 := rfl
theorem codes36 : codes 36 = some c36 := rfl
theorem codes37 : codes 37 = some c37 := rfl
theorem codes38 : codes 38 = some c38 := rfl
theorem codes39 : codes 39 = some c39 := rfl
theorem codes56 : codes 56 = some c56 := rfl
end Go.Proofs.Ytphbfciikjkkfaa.Pm
