/- The small machine's codes of some functions. Printed by dec.py. -/
import Derived.Test.YtphbfciikjkkfaaPa
import Derived.Test.YtphbfciikjkkfaaProg
namespace Go.Proofs.Ytphbfciikjkkfaa.Pm
set_option maxRecDepth 1000000
set_option maxHeartbeats 20000000
set_option linter.unusedVariables false
structure GPen where
  Flags : Int
  Fore : Int
  Back : Int
def e_GPen : Enc GPen := ⟨3, fun x => [.int .i64 x.Flags, .int .i64 x.Fore, .int .i64 x.Back], fun _ => rfl⟩
def p46_1 : List PO := [⟨(.some 2), (.mov (.const (.int .i64 0))), .none⟩]
def p46_2 : List PO := [⟨(.some 3), (.build [(10, (.int .i64 0))] [(0, (1, (.const (.int .i64 0)))), (1, (1, (.const (.int .i64 1)))), (2, (1, (.const (.int .i64 2)))), (3, (1, (.const (.int .i64 4)))), (4, (1, (.const (.int .i64 8)))), (5, (1, (.const (.int .i64 16)))), (6, (1, (.const (.int .i64 0)))), (7, (1, (.const (.int .i64 32)))), (8, (1, (.const (.int .i64 64)))), (9, (1, (.const (.int .i64 128))))]), .none⟩, ⟨(.some 4), (.mov (.tmp 0)), .none⟩, ⟨(.some 5), (.ixV .false 10 1 (.tmp 3) (.tmp 4)), .none⟩, ⟨(.some 2), (.mov (.tmp 5)), .none⟩]
def c46_b : PCode := (.seq (.reg p46_1) (.seq (.reg p46_2) .ret))
def c46 : FCode := ⟨6, c46_b, [(.tmp 2)], some ([2], [], []), false⟩
theorem c46_ok : compF Go.Proofs.Try.prog [100025, 38, 52] 46 = some (eraseF c46) := by kernel_rfl
def p52_6 : List PO := [⟨(.some 6), (.mov (.tmp 0)), .none⟩, ⟨(.some 7), (.nilC (.tmp 6)), .none⟩, ⟨(.some 8), (.fld 1 (.tmp 7)), .none⟩, ⟨(.some 4), (.mov (.tmp 8)), .none⟩, ⟨(.some 5), (.mov (.const (.int .i64 30))), .none⟩]
def p52_7 : List PO := [⟨(.some 9), (.mov (.tmp 1)), .none⟩, ⟨(.some 10), (.cmpI .geq (.tmp 9) (.const (.int .i64 40))), .none⟩, ⟨(.some 11), (.mov (.tmp 10)), .none⟩, ⟨(.some 12), (.mov (.tmp 1)), (.some (11, .true))⟩, ⟨(.some 13), (.cmpI .leq (.tmp 12) (.const (.int .i64 49))), (.some (11, .true))⟩, ⟨(.some 14), (.pick (.tmp 11) (.tmp 13) (.const (.bool .false))), .none⟩, ⟨(.some 15), (.mov (.tmp 14)), .none⟩, ⟨(.some 16), (.mov (.tmp 1)), (.some (15, .false))⟩, ⟨(.some 17), (.cmpI .geq (.tmp 16) (.const (.int .i64 100))), (.some (15, .false))⟩, ⟨(.some 18), (.mov (.tmp 17)), (.some (15, .false))⟩, ⟨(.some 19), (.mov (.tmp 1)), (.some (18, .true))⟩, ⟨(.some 20), (.cmpI .leq (.tmp 19) (.const (.int .i64 107))), (.some (18, .true))⟩, ⟨(.some 21), (.pick (.tmp 18) (.tmp 20) (.const (.bool .false))), (.some (15, .false))⟩, ⟨(.some 22), (.pick (.tmp 15) (.const (.bool .true)) (.tmp 21)), .none⟩]
def p52_8 : List PO := [⟨(.some 23), (.mov (.tmp 0)), .none⟩, ⟨(.some 24), (.nilC (.tmp 23)), .none⟩, ⟨(.some 25), (.fld 2 (.tmp 24)), .none⟩, ⟨(.some 4), (.mov (.tmp 25)), .none⟩, ⟨(.some 5), (.mov (.const (.int .i64 40))), .none⟩]
def c52_4 : PCode := (.keep [0, 1] [(0, .id 0)] [] (.reg p52_8))
def c52_5 : PCode := (.keep [0, 1, 4, 5] [(0, .id 0)] [] .skip)
def p52_9 : List PO := [⟨(.some 27), (.mov (.tmp 1)), .none⟩, ⟨(.some 28), (.cmpI .eql (.tmp 27) (.const (.int .i64 0))), .none⟩, ⟨(.some 26), (.mov (.tmp 28)), .none⟩]
def p52_10 : List PO := [⟨(.some 29), (.mov (.tmp 0)), .none⟩, ⟨(.some 30), (.build [(3, (.int .i64 0))] []), .none⟩, ⟨(.some 31), (.nilC (.tmp 29)), .none⟩, ⟨.none, (.store 3 (.tmp 31) (.tmp 30)), .none⟩]
def p52_11 : List PO := [⟨(.some 33), (.mov (.tmp 1)), .none⟩, ⟨(.some 34), (.cmpI .leq (.tmp 33) (.const (.int .i64 9))), .none⟩, ⟨(.some 32), (.mov (.tmp 34)), .none⟩]
def p52_12 : List PO := [⟨(.some 35), (.mov (.tmp 0)), .none⟩, ⟨(.some 36), (.nilC (.tmp 35)), .none⟩, ⟨(.some 37), (.fld 0 (.tmp 36)), .none⟩, ⟨(.some 38), (.load .false 1 (.tmp 37)), .none⟩, ⟨(.some 39), (.mov (.tmp 1)), .none⟩, ⟨(.some 40), (.call 46 [(.tmp 39)]), .none⟩, ⟨(.some 41), (.arI .or (.tmp 38) (.tmp 40)), .none⟩, ⟨(.some 42), (.nilC (.tmp 35)), .none⟩, ⟨(.some 43), (.fld 0 (.tmp 42)), .none⟩, ⟨.none, (.store 1 (.tmp 43) (.tmp 41)), .none⟩]
def p52_13 : List PO := [⟨(.some 45), (.mov (.tmp 1)), .none⟩, ⟨(.some 46), (.cmpI .eql (.tmp 45) (.const (.int .i64 22))), .none⟩, ⟨(.some 44), (.mov (.tmp 46)), .none⟩]
def p52_14 : List PO := [⟨(.some 47), (.mov (.tmp 0)), .none⟩, ⟨(.some 48), (.nilC (.tmp 47)), .none⟩, ⟨(.some 49), (.fld 0 (.tmp 48)), .none⟩, ⟨(.some 50), (.load .false 1 (.tmp 49)), .none⟩, ⟨(.some 51), (.arI .andNot (.tmp 50) (.const (.int .i64 3))), .none⟩, ⟨(.some 52), (.nilC (.tmp 47)), .none⟩, ⟨(.some 53), (.fld 0 (.tmp 52)), .none⟩, ⟨.none, (.store 1 (.tmp 53) (.tmp 51)), .none⟩]
def p52_15 : List PO := [⟨(.some 55), (.mov (.tmp 1)), .none⟩, ⟨(.some 56), (.cmpI .geq (.tmp 55) (.const (.int .i64 23))), .none⟩, ⟨(.some 57), (.mov (.tmp 56)), .none⟩, ⟨(.some 58), (.mov (.tmp 1)), (.some (57, .true))⟩, ⟨(.some 59), (.cmpI .leq (.tmp 58) (.const (.int .i64 29))), (.some (57, .true))⟩, ⟨(.some 60), (.pick (.tmp 57) (.tmp 59) (.const (.bool .false))), .none⟩, ⟨(.some 54), (.mov (.tmp 60)), .none⟩]
def p52_16 : List PO := [⟨(.some 61), (.mov (.tmp 0)), .none⟩, ⟨(.some 62), (.nilC (.tmp 61)), .none⟩, ⟨(.some 63), (.fld 0 (.tmp 62)), .none⟩, ⟨(.some 64), (.load .false 1 (.tmp 63)), .none⟩, ⟨(.some 65), (.mov (.tmp 1)), .none⟩, ⟨(.some 66), (.arI .sub (.tmp 65) (.const (.int .i64 20))), .none⟩, ⟨(.some 67), (.call 46 [(.tmp 66)]), .none⟩, ⟨(.some 68), (.arI .andNot (.tmp 64) (.tmp 67)), .none⟩, ⟨(.some 69), (.nilC (.tmp 61)), .none⟩, ⟨(.some 70), (.fld 0 (.tmp 69)), .none⟩, ⟨.none, (.store 1 (.tmp 70) (.tmp 68)), .none⟩]
def p52_17 : List PO := [⟨(.some 72), (.mov (.tmp 1)), .none⟩, ⟨(.some 73), (.mov (.tmp 5)), .none⟩, ⟨(.some 74), (.cmpI .geq (.tmp 72) (.tmp 73)), .none⟩, ⟨(.some 75), (.mov (.tmp 74)), .none⟩, ⟨(.some 76), (.mov (.tmp 1)), (.some (75, .true))⟩, ⟨(.some 77), (.mov (.tmp 5)), (.some (75, .true))⟩, ⟨(.some 78), (.arI .add (.tmp 77) (.const (.int .i64 7))), (.some (75, .true))⟩, ⟨(.some 79), (.cmpI .leq (.tmp 76) (.tmp 78)), (.some (75, .true))⟩, ⟨(.some 80), (.pick (.tmp 75) (.tmp 79) (.const (.bool .false))), .none⟩, ⟨(.some 71), (.mov (.tmp 80)), .none⟩]
def p52_18 : List PO := [⟨(.some 81), (.mov (.tmp 4)), .none⟩, ⟨(.some 82), (.mov (.tmp 1)), .none⟩, ⟨(.some 83), (.mov (.tmp 5)), .none⟩, ⟨(.some 84), (.arI .sub (.tmp 82) (.tmp 83)), .none⟩, ⟨(.some 85), (.arI .add (.tmp 84) (.const (.int .i64 1))), .none⟩, ⟨(.some 86), (.nilC (.tmp 81)), .none⟩, ⟨.none, (.store 1 (.tmp 86) (.tmp 85)), .none⟩]
def p52_19 : List PO := [⟨(.some 88), (.mov (.tmp 1)), .none⟩, ⟨(.some 89), (.mov (.tmp 5)), .none⟩, ⟨(.some 90), (.arI .add (.tmp 89) (.const (.int .i64 9))), .none⟩, ⟨(.some 91), (.cmpI .eql (.tmp 88) (.tmp 90)), .none⟩, ⟨(.some 87), (.mov (.tmp 91)), .none⟩]
def p52_20 : List PO := [⟨(.some 92), (.mov (.tmp 4)), .none⟩, ⟨(.some 93), (.nilC (.tmp 92)), .none⟩, ⟨.none, (.store 1 (.tmp 93) (.const (.int .i64 0))), .none⟩]
def p52_21 : List PO := [⟨(.some 95), (.mov (.tmp 1)), .none⟩, ⟨(.some 96), (.mov (.tmp 5)), .none⟩, ⟨(.some 97), (.arI .add (.tmp 96) (.const (.int .i64 60))), .none⟩, ⟨(.some 98), (.cmpI .geq (.tmp 95) (.tmp 97)), .none⟩, ⟨(.some 99), (.mov (.tmp 98)), .none⟩, ⟨(.some 100), (.mov (.tmp 1)), (.some (99, .true))⟩, ⟨(.some 101), (.mov (.tmp 5)), (.some (99, .true))⟩, ⟨(.some 102), (.arI .add (.tmp 101) (.const (.int .i64 67))), (.some (99, .true))⟩, ⟨(.some 103), (.cmpI .leq (.tmp 100) (.tmp 102)), (.some (99, .true))⟩, ⟨(.some 104), (.pick (.tmp 99) (.tmp 103) (.const (.bool .false))), .none⟩, ⟨(.some 94), (.mov (.tmp 104)), .none⟩]
def p52_22 : List PO := [⟨(.some 105), (.mov (.tmp 4)), .none⟩, ⟨(.some 106), (.mov (.tmp 1)), .none⟩, ⟨(.some 107), (.mov (.tmp 5)), .none⟩, ⟨(.some 108), (.arI .sub (.tmp 106) (.tmp 107)), .none⟩, ⟨(.some 109), (.arI .sub (.tmp 108) (.const (.int .i64 60))), .none⟩, ⟨(.some 110), (.arI .add (.tmp 109) (.const (.int .i64 9))), .none⟩, ⟨(.some 111), (.nilC (.tmp 105)), .none⟩, ⟨.none, (.store 1 (.tmp 111) (.tmp 110)), .none⟩]
def c52_1 : PCode := (.keep [1, 4, 5] [(0, .id 0)] [] (.seq (.reg p52_19) (.cond (.tmp 87) (.reg p52_20) (.seq (.reg p52_21) (.cond (.tmp 94) (.reg p52_22) .skip)))))
def c52_2 : PCode := (.keep [1, 4, 5] [(0, .id 0)] [] (.seq (.reg p52_17) (.cond (.tmp 71) (.reg p52_18) c52_1)))
def c52_23 : PCode := (.cond (.tmp 26) (.reg p52_10) (.seq (.reg p52_11) (.cond (.tmp 32) (.regD p52_12 [(3, 5)]) (.seq (.reg p52_13) (.cond (.tmp 44) (.reg p52_14) (.seq (.reg p52_15) (.cond (.tmp 54) (.regD p52_16 [(3, 6)]) c52_2)))))))
def c52_3 : PCode := (.keep [0, 1, 4, 5] [(0, .id 0)] [] (.block 0 (.seq (.reg p52_9) c52_23)))
def c52_b : PCode := (.seq (.reg p52_6) (.seq (.seq (.reg p52_7) (.cond (.tmp 22) c52_4 c52_5)) c52_3))
def c52 : FCode := ⟨112, c52_b, [], some ([], [(0, .id 0)], []), false⟩
theorem c52_ok : compF Go.Proofs.Try.prog [100025, 38, 52] 52 = some (eraseF c52) := by kernel_rfl
def p54_1 : List PO := [⟨(.some 2), (.mov (.const (.bool .false))), .none⟩]
def p54_2 : List PO := [⟨(.some 3), (.mov (.tmp 0)), .none⟩, ⟨(.some 4), (.cmpI .geq (.tmp 3) (.const (.int .i64 0))), .none⟩, ⟨(.some 5), (.mov (.tmp 4)), .none⟩, ⟨(.some 6), (.mov (.tmp 0)), (.some (5, .true))⟩, ⟨(.some 7), (.cmpI .leq (.tmp 6) (.const (.int .i64 256))), (.some (5, .true))⟩, ⟨(.some 8), (.pick (.tmp 5) (.tmp 7) (.const (.bool .false))), .none⟩, ⟨(.some 9), (.mov (.tmp 8)), .none⟩, ⟨(.some 10), (.mov (.tmp 0)), (.some (9, .false))⟩, ⟨(.some 11), (.cmpI .geq (.tmp 10) (.const (.int .i64 16777216))), (.some (9, .false))⟩, ⟨(.some 12), (.mov (.tmp 11)), (.some (9, .false))⟩, ⟨(.some 13), (.mov (.tmp 0)), (.some (12, .true))⟩, ⟨(.some 14), (.cmpI .lss (.tmp 13) (.const (.int .i64 33554432))), (.some (12, .true))⟩, ⟨(.some 15), (.pick (.tmp 12) (.tmp 14) (.const (.bool .false))), (.some (9, .false))⟩, ⟨(.some 16), (.pick (.tmp 9) (.const (.bool .true)) (.tmp 15)), .none⟩, ⟨(.some 2), (.mov (.tmp 16)), .none⟩]
def c54_b : PCode := (.seq (.reg p54_1) (.seq (.reg p54_2) .ret))
def c54 : FCode := ⟨17, c54_b, [(.tmp 2)], some ([2], [], []), false⟩
theorem c54_ok : compF Go.Proofs.Try.prog [100025, 38, 52] 54 = some (eraseF c54) := by kernel_rfl
def p33_1 : List PO := [⟨(.some 1), (.box 3 (.tmp 0)), .none⟩, ⟨(.some 2), (.mov (.const (.int .i64 0))), .none⟩]
def p33_2 : List PO := [⟨(.some 3), (.fld 0 (.tmp 1)), .none⟩, ⟨(.some 4), (.load .false 1 (.tmp 3)), .none⟩, ⟨(.some 5), (.cmpI .lss (.tmp 4) (.const (.int .i64 0))), .none⟩, ⟨(.some 6), (.mov (.tmp 5)), .none⟩, ⟨(.some 7), (.fld 0 (.tmp 1)), (.some (6, .false))⟩, ⟨(.some 8), (.load .false 1 (.tmp 7)), (.some (6, .false))⟩, ⟨(.some 9), (.cmpI .gtr (.tmp 8) (.const (.int .i64 255))), (.some (6, .false))⟩, ⟨(.some 10), (.pick (.tmp 6) (.const (.bool .true)) (.tmp 9)), .none⟩, ⟨(.some 11), (.mov (.tmp 10)), .none⟩, ⟨(.some 12), (.fld 1 (.tmp 1)), (.some (11, .false))⟩, ⟨(.some 13), (.load .false 1 (.tmp 12)), (.some (11, .false))⟩, ⟨(.some 14), (.call 54 [(.tmp 13)]), (.some (11, .false))⟩, ⟨(.some 15), (.un .not (.tmp 14)), (.some (11, .false))⟩, ⟨(.some 16), (.pick (.tmp 11) (.const (.bool .true)) (.tmp 15)), .none⟩, ⟨(.some 17), (.mov (.tmp 16)), .none⟩, ⟨(.some 18), (.fld 2 (.tmp 1)), (.some (17, .false))⟩, ⟨(.some 19), (.load .false 1 (.tmp 18)), (.some (17, .false))⟩, ⟨(.some 20), (.call 54 [(.tmp 19)]), (.some (17, .false))⟩, ⟨(.some 21), (.un .not (.tmp 20)), (.some (17, .false))⟩, ⟨(.some 22), (.pick (.tmp 17) (.const (.bool .true)) (.tmp 21)), .none⟩]
def p33_3 : List PO := [⟨(.some 2), (.mov (.const (.int .i64 4))), .none⟩]
def p33_4 : List PO := [⟨(.some 2), (.mov (.const (.int .i64 0))), .none⟩]
def c33_b : PCode := (.seq (.reg p33_1) (.seq (.seq (.reg p33_2) (.cond (.tmp 22) (.seq (.reg p33_3) .ret) .skip)) (.seq (.reg p33_4) .ret)))
def c33 : FCode := ⟨23, c33_b, [(.tmp 2)], some ([2], [], []), false⟩
theorem c33_ok : compF Go.Proofs.Try.prog [100025, 38, 52] 33 = some (eraseF c33) := by kernel_rfl
def p51_1 : List PO := [⟨(.some 2), (.mov (.const (.bool .false))), .none⟩]
def p51_2 : List PO := [⟨(.some 3), (.mov (.tmp 0)), .none⟩, ⟨(.some 4), (.cmpI .lss (.tmp 3) (.const (.int .i64 (-1)))), .none⟩, ⟨(.some 5), (.mov (.tmp 4)), .none⟩, ⟨(.some 6), (.mov (.tmp 0)), (.some (5, .false))⟩, ⟨(.some 7), (.cmpI .gtr (.tmp 6) (.const (.int .i64 16383))), (.some (5, .false))⟩, ⟨(.some 8), (.pick (.tmp 5) (.const (.bool .true)) (.tmp 7)), .none⟩, ⟨(.some 2), (.mov (.tmp 8)), .none⟩]
def c51_b : PCode := (.seq (.reg p51_1) (.seq (.reg p51_2) .ret))
def c51 : FCode := ⟨9, c51_b, [(.tmp 2)], some ([2], [], []), false⟩
theorem c51_ok : compF Go.Proofs.Try.prog [100025, 38, 52] 51 = some (eraseF c51) := by kernel_rfl
def p61_4 : List PO := [⟨(.some 4), (.mov (.const (.int .i64 0))), .none⟩]
def p61_5 : List PO := [⟨(.some 6), (.mov (.tmp 0)), .none⟩, ⟨(.some 7), (.len .false (.tmp 6)), .none⟩, ⟨(.some 8), (.mov (.const (.int .i64 0))), .none⟩]
def p61_6 : List PO := [⟨(.some 9), (.cmpI .lss (.tmp 8) (.tmp 7)), .none⟩]
def p61_7 : List PO := [⟨(.some 10), (.mov (.tmp 8)), .none⟩, ⟨(.some 5), (.mov (.tmp 10)), .none⟩]
def p61_8 : List PO := [⟨(.some 11), (.mov (.tmp 1)), .none⟩, ⟨(.some 12), (.mov (.tmp 0)), .none⟩, ⟨(.some 13), (.mov (.tmp 5)), .none⟩, ⟨(.some 14), (.ixS 3 1 (.tmp 12) (.tmp 13)), .none⟩, ⟨(.some 15), (.load .false 1 (.tmp 14)), .none⟩, ⟨(.some 16), (.callv (.tmp 11) [(.tmp 15)]), .none⟩]
def p61_9 : List PO := [⟨(.some 17), (.mov (.tmp 5)), .none⟩, ⟨(.some 4), (.mov (.tmp 17)), .none⟩]
def p61_10 : List PO := [⟨(.some 18), (.arI .add (.tmp 8) (.const (.int .i64 1))), .none⟩, ⟨(.some 8), (.mov (.tmp 18)), .none⟩]
def c61_1 : PCode := (.keep [0, 1, 7, 8] [] [] (.seq (.block 1 (.seq (.reg p61_7) (.seq (.reg p61_8) (.cond (.tmp 16) (.seq (.reg p61_9) .ret) .skip)))) (.reg p61_10)))
def c61_2 : PCode := (.keep [0, 1, 7, 8, 9] [] [] (.seq (.cond (.tmp 9) .skip (.keep [] [] [] (.exit 0))) c61_1))
def c61_3 : PCode := (.keep [0, 1, 7, 8] [] [] (.seq (.reg p61_6) c61_2))
def p61_11 : List PO := [⟨(.some 4), (.mov (.const (.int .i64 (-1)))), .none⟩]
def c61_b : PCode := (.seq (.reg p61_4) (.seq (.seq (.reg p61_5) (.block 0 (.loop c61_3))) (.seq (.reg p61_11) .ret)))
def c61 : FCode := ⟨19, c61_b, [(.tmp 4)], some ([4], [], []), false⟩
theorem c61_ok : compF Go.Proofs.Try.prog [100025, 38, 52] 61 = some (eraseF c61) := by kernel_rfl
def p50_1 : List PO := [⟨(.some 4), (.mov (.const (.bool .false))), .none⟩]
def p50_2 : List PO := [⟨(.some 5), (.mov (.tmp 0)), .none⟩, ⟨(.some 6), (.mov (.tmp 1)), .none⟩, ⟨(.some 7), (.call 61 [(.tmp 5), (.tmp 6)]), .none⟩, ⟨(.some 8), (.cmpI .geq (.tmp 7) (.const (.int .i64 0))), .none⟩, ⟨(.some 4), (.mov (.tmp 8)), .none⟩]
def c50_b : PCode := (.seq (.reg p50_1) (.seq (.reg p50_2) .ret))
def c50 : FCode := ⟨9, c50_b, [(.tmp 4)], some ([4], [], []), false⟩
theorem c50_ok : compF Go.Proofs.Try.prog [100025, 38, 52] 50 = some (eraseF c50) := by kernel_rfl
def p62_1 : List PO := [⟨(.some 2), (.mov (.const (.bool .false))), .none⟩]
def p62_2 : List PO := [⟨(.some 3), (.mov (.tmp 0)), .none⟩, ⟨(.some 4), (.cmpI .gtr (.tmp 3) (.const (.int .i64 255))), .none⟩, ⟨(.some 2), (.mov (.tmp 4)), .none⟩]
def c62_b : PCode := (.seq (.reg p62_1) (.seq (.reg p62_2) .ret))
def c62 : FCode := ⟨5, c62_b, [(.tmp 2)], some ([2], [], []), false⟩
theorem c62_ok : compF Go.Proofs.Try.prog [100025, 38, 52] 62 = some (eraseF c62) := by kernel_rfl
def p53_4 : List PO := [⟨(.some 2), (.mov (.const (.int .i64 0))), .none⟩, ⟨(.some 3), (.mov (.const (.int .i64 0))), .none⟩]
def p53_5 : List PO := [⟨(.some 4), (.mov (.func 62)), .none⟩]
def p53_6 : List PO := [⟨(.some 6), (.mov (.tmp 0)), .none⟩, ⟨(.some 7), (.len .false (.tmp 6)), .none⟩, ⟨(.some 8), (.cmpI .geq (.tmp 7) (.const (.int .i64 2))), .none⟩, ⟨(.some 9), (.mov (.tmp 8)), .none⟩, ⟨(.some 10), (.mov (.tmp 0)), (.some (9, .true))⟩, ⟨(.some 11), (.ixS 3 1 (.tmp 10) (.const (.int .i64 0))), (.some (9, .true))⟩, ⟨(.some 12), (.load .false 1 (.tmp 11)), (.some (9, .true))⟩, ⟨(.some 13), (.cmpI .eql (.tmp 12) (.const (.int .i64 5))), (.some (9, .true))⟩, ⟨(.some 14), (.pick (.tmp 9) (.tmp 13) (.const (.bool .false))), .none⟩, ⟨(.some 15), (.mov (.tmp 14)), .none⟩, ⟨(.some 16), (.mov (.tmp 4)), (.some (15, .true))⟩, ⟨(.some 17), (.mov (.tmp 0)), (.some (15, .true))⟩, ⟨(.some 18), (.ixS 3 1 (.tmp 17) (.const (.int .i64 1))), (.some (15, .true))⟩, ⟨(.some 19), (.load .false 1 (.tmp 18)), (.some (15, .true))⟩, ⟨(.some 20), (.callv (.tmp 16) [(.tmp 19)]), (.some (15, .true))⟩, ⟨(.some 21), (.un .not (.tmp 20)), (.some (15, .true))⟩, ⟨(.some 22), (.pick (.tmp 15) (.tmp 21) (.const (.bool .false))), .none⟩, ⟨(.some 5), (.mov (.tmp 22)), .none⟩]
def p53_7 : List PO := [⟨(.some 23), (.mov (.tmp 0)), .none⟩, ⟨(.some 24), (.ixS 3 1 (.tmp 23) (.const (.int .i64 1))), .none⟩, ⟨(.some 25), (.load .false 1 (.tmp 24)), .none⟩, ⟨(.some 26), (.arI .add (.tmp 25) (.const (.int .i64 1))), .none⟩, ⟨(.some 2), (.mov (.tmp 26)), .none⟩, ⟨(.some 3), (.mov (.const (.int .i64 2))), .none⟩]
def p53_8 : List PO := [⟨(.some 28), (.mov (.tmp 0)), .none⟩, ⟨(.some 29), (.len .false (.tmp 28)), .none⟩, ⟨(.some 30), (.cmpI .geq (.tmp 29) (.const (.int .i64 4))), .none⟩, ⟨(.some 31), (.mov (.tmp 30)), .none⟩, ⟨(.some 32), (.mov (.tmp 0)), (.some (31, .true))⟩, ⟨(.some 33), (.ixS 3 1 (.tmp 32) (.const (.int .i64 0))), (.some (31, .true))⟩, ⟨(.some 34), (.load .false 1 (.tmp 33)), (.some (31, .true))⟩, ⟨(.some 35), (.cmpI .eql (.tmp 34) (.const (.int .i64 2))), (.some (31, .true))⟩, ⟨(.some 36), (.pick (.tmp 31) (.tmp 35) (.const (.bool .false))), .none⟩, ⟨(.some 37), (.mov (.tmp 36)), .none⟩, ⟨(.some 38), (.mov (.tmp 0)), (.some (37, .true))⟩, ⟨(.some 39), (.slS 3 1 (.tmp 38) (.some (.const (.int .i64 1))) (.some (.const (.int .i64 4)))), (.some (37, .true))⟩, ⟨(.some 40), (.mov (.tmp 4)), (.some (37, .true))⟩, ⟨(.some 41), (.call 50 [(.tmp 39), (.tmp 40)]), (.some (37, .true))⟩, ⟨(.some 42), (.un .not (.tmp 41)), (.some (37, .true))⟩, ⟨(.some 43), (.pick (.tmp 37) (.tmp 42) (.const (.bool .false))), .none⟩, ⟨(.some 27), (.mov (.tmp 43)), .none⟩]
def p53_9 : List PO := [⟨(.some 44), (.mov (.tmp 0)), .none⟩, ⟨(.some 45), (.ixS 3 1 (.tmp 44) (.const (.int .i64 1))), .none⟩, ⟨(.some 46), (.load .false 1 (.tmp 45)), .none⟩, ⟨(.some 47), (.sh .shl (.tmp 46) (.const (.int .u64 16))), .none⟩, ⟨(.some 48), (.arI .add (.const (.int .i64 16777216)) (.tmp 47)), .none⟩, ⟨(.some 49), (.mov (.tmp 0)), .none⟩, ⟨(.some 50), (.ixS 3 1 (.tmp 49) (.const (.int .i64 2))), .none⟩, ⟨(.some 51), (.load .false 1 (.tmp 50)), .none⟩, ⟨(.some 52), (.sh .shl (.tmp 51) (.const (.int .u64 8))), .none⟩, ⟨(.some 53), (.arI .add (.tmp 48) (.tmp 52)), .none⟩, ⟨(.some 54), (.mov (.tmp 0)), .none⟩, ⟨(.some 55), (.ixS 3 1 (.tmp 54) (.const (.int .i64 3))), .none⟩, ⟨(.some 56), (.load .false 1 (.tmp 55)), .none⟩, ⟨(.some 57), (.arI .add (.tmp 53) (.tmp 56)), .none⟩, ⟨(.some 2), (.mov (.tmp 57)), .none⟩, ⟨(.some 3), (.mov (.const (.int .i64 4))), .none⟩]
def c53_1 : PCode := (.keep [0, 27] [] [] (.cond (.tmp 27) (.seq (.regD p53_9 []) .ret) .skip))
def c53_3 : PCode := (.keep [0, 4, 5] [] [] (.cond (.tmp 5) (.seq (.reg p53_7) .ret) (.seq (.reg p53_8) c53_1)))
def p53_10 : List PO := [⟨(.some 2), (.mov (.const (.int .i64 0))), .none⟩, ⟨(.some 3), (.mov (.const (.int .i64 0))), .none⟩]
def c53_2 : PCode := (.seq (.reg p53_10) .ret)
def c53_b : PCode := (.seq (.reg p53_4) (.seq (.reg p53_5) (.seq (.block 0 (.seq (.reg p53_6) c53_3)) c53_2)))
def c53 : FCode := ⟨58, c53_b, [(.tmp 2), (.tmp 3)], some ([2, 3], [], []), false⟩
theorem c53_ok : compF Go.Proofs.Try.prog [100025, 38, 52] 53 = some (eraseF c53) := by kernel_rfl
def p32_10 : List PO := [⟨(.some 2), (.box 3 (.tmp 0)), .none⟩, ⟨(.some 4), (.alloc [(3, (.int .i64 0))]), .none⟩, ⟨(.some 5), (.mov (.const (.int .i64 0))), .none⟩]
def p32_11 : List PO := [⟨(.some 13), (.load .true 3 (.tmp 2)), .none⟩, ⟨(.some 14), (.call 33 [(.tmp 13)]), .none⟩, ⟨(.some 6), (.mov (.tmp 14)), .none⟩]
def p32_12 : List PO := [⟨(.some 15), (.mov (.tmp 6)), .none⟩, ⟨(.some 16), (.cmpI .neq (.tmp 15) (.const (.int .i64 0))), .none⟩]
def p32_13 : List PO := [⟨(.some 17), (.load .true 3 (.tmp 2)), .none⟩, ⟨(.some 18), (.mov (.tmp 6)), .none⟩, ⟨.none, (.store 3 (.tmp 4) (.tmp 17)), .none⟩, ⟨(.some 5), (.mov (.tmp 18)), .none⟩]
def p32_14 : List PO := [⟨(.some 19), (.mov (.tmp 1)), .none⟩, ⟨(.some 20), (.len .false (.tmp 19)), .none⟩, ⟨(.some 21), (.cmpI .eql (.tmp 20) (.const (.int .i64 0))), .none⟩, ⟨(.some 22), (.mov (.tmp 21)), .none⟩, ⟨(.some 23), (.mov (.tmp 1)), (.some (22, .false))⟩, ⟨(.some 24), (.call 50 [(.tmp 23), (.func 51)]), (.some (22, .false))⟩, ⟨(.some 25), (.pick (.tmp 22) (.const (.bool .true)) (.tmp 24)), .none⟩]
def p32_15 : List PO := [⟨(.some 26), (.load .true 3 (.tmp 2)), .none⟩, ⟨.none, (.store 3 (.tmp 4) (.tmp 26)), .none⟩, ⟨(.some 5), (.mov (.const (.int .i64 1))), .none⟩]
def p32_16 : List PO := [⟨(.some 27), (.mov (.tmp 1)), .none⟩, ⟨(.some 28), (.len .false (.tmp 27)), .none⟩, ⟨(.some 29), (.cmpI .gtr (.tmp 28) (.const (.int .i64 32))), .none⟩]
def p32_17 : List PO := [⟨(.some 30), (.load .true 3 (.tmp 2)), .none⟩, ⟨.none, (.store 3 (.tmp 4) (.tmp 30)), .none⟩, ⟨(.some 5), (.mov (.const (.int .i64 2))), .none⟩]
def p32_18 : List PO := [⟨(.some 7), (.nilS 3 1), .none⟩]
def p32_19 : List PO := [⟨(.some 31), (.mov (.tmp 1)), .none⟩, ⟨(.some 32), (.len .false (.tmp 31)), .none⟩, ⟨(.some 33), (.mov (.const (.int .i64 0))), .none⟩]
def p32_20 : List PO := [⟨(.some 34), (.cmpI .lss (.tmp 33) (.tmp 32)), .none⟩]
def p32_21 : List PO := [⟨(.some 35), (.ixS 3 1 (.tmp 31) (.tmp 33)), .none⟩, ⟨(.some 36), (.load .false 1 (.tmp 35)), .none⟩, ⟨(.some 9), (.mov (.tmp 36)), .none⟩]
def p32_22 : List PO := [⟨(.some 37), (.mov (.tmp 7)), .none⟩, ⟨(.some 38), (.mov (.tmp 9)), .none⟩, ⟨(.some 39), (.mx [(.tmp 38), (.const (.int .i64 0))]), .none⟩, ⟨(.some 40), (.bsl 3 1 1 [(1, (.int .i64 0))] [(0, (1, (.tmp 39)))]), .none⟩, ⟨(.some 41), (.app 3 1 8 (.tmp 37) (.tmp 40)), .none⟩, ⟨(.some 7), (.mov (.tmp 41)), .none⟩]
def p32_23 : List PO := [⟨(.some 42), (.arI .add (.tmp 33) (.const (.int .i64 1))), .none⟩, ⟨(.some 33), (.mov (.tmp 42)), .none⟩]
def c32_4 : PCode := (.keep [2, 4, 7, 31, 32, 33] [(24, .id 24), (40, .id 40), (64, .id 64)] [] (.seq (.block 1 (.seq (.reg p32_21) (.reg p32_22))) (.reg p32_23)))
def c32_5 : PCode := (.keep [2, 4, 7, 31, 32, 33, 34] [(24, .id 24), (40, .id 40), (64, .id 64)] [] (.seq (.cond (.tmp 34) .skip (.keep [2, 4, 7] [(24, .id 24), (40, .id 40), (64, .id 64)] [] (.exit 0))) c32_4))
def c32_6 : PCode := (.keep [2, 4, 7, 31, 32, 33] [(24, .id 24), (40, .id 40), (64, .id 64)] [] (.seq (.reg p32_20) c32_5))
def p32_24 : List PO := [⟨(.some 10), (.mov (.const (.int .i64 0))), .none⟩]
def p32_25 : List PO := [⟨(.some 43), (.mov (.tmp 10)), .none⟩, ⟨(.some 44), (.mov (.tmp 7)), .none⟩, ⟨(.some 45), (.len .false (.tmp 44)), .none⟩, ⟨(.some 46), (.cmpI .lss (.tmp 43) (.tmp 45)), .none⟩]
def p32_26 : List PO := [⟨(.some 49), (.mov (.tmp 7)), .none⟩, ⟨(.some 50), (.mov (.tmp 10)), .none⟩, ⟨(.some 51), (.ixS 3 1 (.tmp 49) (.tmp 50)), .none⟩, ⟨(.some 52), (.load .false 1 (.tmp 51)), .none⟩, ⟨(.some 53), (.cmpI .neq (.tmp 52) (.const (.int .i64 38))), .none⟩, ⟨(.some 54), (.mov (.tmp 53)), .none⟩, ⟨(.some 55), (.mov (.tmp 7)), (.some (54, .true))⟩, ⟨(.some 56), (.mov (.tmp 10)), (.some (54, .true))⟩, ⟨(.some 57), (.ixS 3 1 (.tmp 55) (.tmp 56)), (.some (54, .true))⟩, ⟨(.some 58), (.load .false 1 (.tmp 57)), (.some (54, .true))⟩, ⟨(.some 59), (.cmpI .neq (.tmp 58) (.const (.int .i64 48))), (.some (54, .true))⟩, ⟨(.some 60), (.pick (.tmp 54) (.tmp 59) (.const (.bool .false))), .none⟩]
def p32_27 : List PO := [⟨(.some 61), (.mov (.tmp 7)), .none⟩, ⟨(.some 62), (.mov (.tmp 10)), .none⟩, ⟨(.some 63), (.ixS 3 1 (.tmp 61) (.tmp 62)), .none⟩, ⟨(.some 64), (.load .false 1 (.tmp 63)), .none⟩, ⟨(.some 65), (.callr 52 [(.tmp 2), (.tmp 64)]), .none⟩]
def p32_28 : List PO := [⟨(.some 67), (.mov (.tmp 7)), .none⟩, ⟨(.some 68), (.mov (.tmp 10)), .none⟩, ⟨(.some 69), (.arI .add (.tmp 68) (.const (.int .i64 1))), .none⟩, ⟨(.some 70), (.slS 3 1 (.tmp 67) (.some (.tmp 69)) .none), .none⟩, ⟨(.some 71), (.call 53 [(.tmp 70)]), .none⟩, ⟨(.some 66), (.mov (.tmp 71)), .none⟩, ⟨(.some 72), (.ext (.tmp 66) 0), .none⟩, ⟨(.some 73), (.ext (.tmp 66) 1), .none⟩, ⟨(.some 11), (.mov (.tmp 72)), .none⟩, ⟨(.some 12), (.mov (.tmp 73)), .none⟩]
def p32_29 : List PO := [⟨(.some 74), (.mov (.tmp 12)), .none⟩, ⟨(.some 75), (.cmpI .eql (.tmp 74) (.const (.int .i64 0))), .none⟩]
def p32_30 : List PO := [⟨(.some 76), (.mov (.tmp 7)), .none⟩, ⟨(.some 77), (.mov (.tmp 10)), .none⟩, ⟨(.some 78), (.ixS 3 1 (.tmp 76) (.tmp 77)), .none⟩, ⟨(.some 79), (.load .false 1 (.tmp 78)), .none⟩, ⟨(.some 80), (.cmpI .eql (.tmp 79) (.const (.int .i64 38))), .none⟩]
def p32_31 : List PO := [⟨(.some 81), (.mov (.tmp 11)), .none⟩, ⟨(.some 82), (.fld 1 (.tmp 2)), .none⟩, ⟨.none, (.store 1 (.tmp 82) (.tmp 81)), .none⟩]
def p32_32 : List PO := [⟨(.some 83), (.mov (.tmp 11)), .none⟩, ⟨(.some 84), (.fld 2 (.tmp 2)), .none⟩, ⟨.none, (.store 1 (.tmp 84) (.tmp 83)), .none⟩]
def p32_33 : List PO := [⟨(.some 85), (.mov (.tmp 10)), .none⟩, ⟨(.some 86), (.mov (.tmp 12)), .none⟩, ⟨(.some 87), (.arI .add (.tmp 85) (.tmp 86)), .none⟩, ⟨(.some 10), (.mov (.tmp 87)), .none⟩]
def c32_34 : PCode := (.seq (.reg p32_28) (.seq (.seq (.reg p32_29) (.cond (.tmp 75) (.keep [2, 4] [(24, .id 24), (40, .id 40)] [] (.exit 2)) .skip)) (.seq (.seq (.reg p32_30) (.cond (.tmp 80) (.reg p32_31) (.reg p32_32))) (.reg p32_33))))
def p32_35 : List PO := [⟨(.some 47), (.mov (.tmp 10)), .none⟩, ⟨(.some 48), (.arI .add (.tmp 47) (.const (.int .i64 1))), .none⟩, ⟨(.some 10), (.mov (.tmp 48)), .none⟩]
def c32_1 : PCode := (.keep [2, 4, 7, 10] [(24, .id 24), (40, .id 40), (64, .id 64)] [] (.seq (.block 3 (.seq (.seq (.reg p32_26) (.cond (.tmp 60) (.seq (.reg p32_27) (.exit 3)) .skip)) c32_34)) (.reg p32_35)))
def c32_2 : PCode := (.keep [2, 4, 7, 10] [(24, .id 24), (40, .id 40), (64, .id 64)] [] (.seq (.seq (.reg p32_25) (.cond (.tmp 46) .skip (.keep [2, 4] [(24, .id 24), (40, .id 40)] [] (.exit 2)))) c32_1))
def p32_36 : List PO := [⟨(.some 88), (.load .true 3 (.tmp 2)), .none⟩, ⟨.none, (.store 3 (.tmp 4) (.tmp 88)), .none⟩, ⟨(.some 5), (.mov (.const (.int .i64 0))), .none⟩]
def c32_3 : PCode := (.keep [2, 4, 7] [(24, .id 24), (40, .id 40), (64, .id 64)] [] (.seq (.seq (.reg p32_24) (.block 2 (.loop c32_2))) (.seq (.reg p32_36) .ret)))
def c32_7 : PCode := (.keep [1, 2, 4] [(24, .id 24), (40, .id 40)] [] (.seq (.reg p32_18) (.seq (.seq (.reg p32_19) (.block 0 (.loop c32_6))) c32_3)))
def c32_8 : PCode := (.keep [1, 2, 4] [(24, .id 24), (40, .id 40)] [] (.seq (.seq (.reg p32_16) (.cond (.tmp 29) (.seq (.reg p32_17) .ret) .skip)) c32_7))
def c32_9 : PCode := (.keep [1, 2, 4] [(24, .id 24), (40, .id 40)] [] (.seq (.seq (.reg p32_14) (.cond (.tmp 25) (.seq (.reg p32_15) .ret) .skip)) c32_8))
def c32_b : PCode := (.seq (.reg p32_10) (.seq (.seq (.reg p32_11) (.seq (.reg p32_12) (.cond (.tmp 16) (.seq (.reg p32_13) .ret) .skip))) c32_9))
def c32 : FCode := ⟨89, c32_b, [(.cell 4 .true 3), (.tmp 5)], some ([4, 5], [(40, .id 40)], []), false⟩
theorem c32_ok : compF Go.Proofs.Try.prog [100025, 38, 52] 32 = some (eraseF c32) := by kernel_rfl
def p47_2 : List PO := [⟨(.some 4), (.nilS 3 1), .none⟩]
def p47_3 : List PO := [⟨(.some 6), (.mov (.tmp 0)), .none⟩, ⟨(.some 7), (.cmpI .leq (.tmp 6) (.const (.int .i64 8))), .none⟩, ⟨(.some 5), (.mov (.tmp 7)), .none⟩]
def p47_4 : List PO := [⟨(.some 8), (.mov (.tmp 1)), .none⟩, ⟨(.some 9), (.mov (.tmp 0)), .none⟩, ⟨(.some 10), (.arI .add (.tmp 8) (.tmp 9)), .none⟩, ⟨(.some 11), (.arI .sub (.tmp 10) (.const (.int .i64 1))), .none⟩, ⟨(.some 12), (.bsl 3 1 1 [(1, (.int .i64 0))] [(0, (1, (.tmp 11)))]), .none⟩, ⟨(.some 4), (.mov (.tmp 12)), .none⟩]
def p47_5 : List PO := [⟨(.some 14), (.mov (.tmp 0)), .none⟩, ⟨(.some 15), (.cmpI .leq (.tmp 14) (.const (.int .i64 16))), .none⟩, ⟨(.some 13), (.mov (.tmp 15)), .none⟩]
def p47_6 : List PO := [⟨(.some 16), (.mov (.tmp 1)), .none⟩, ⟨(.some 17), (.arI .add (.tmp 16) (.const (.int .i64 60))), .none⟩, ⟨(.some 18), (.mov (.tmp 0)), .none⟩, ⟨(.some 19), (.arI .add (.tmp 17) (.tmp 18)), .none⟩, ⟨(.some 20), (.arI .sub (.tmp 19) (.const (.int .i64 9))), .none⟩, ⟨(.some 21), (.bsl 3 1 1 [(1, (.int .i64 0))] [(0, (1, (.tmp 20)))]), .none⟩, ⟨(.some 4), (.mov (.tmp 21)), .none⟩]
def p47_7 : List PO := [⟨(.some 23), (.mov (.tmp 0)), .none⟩, ⟨(.some 24), (.cmpI .leq (.tmp 23) (.const (.int .i64 256))), .none⟩, ⟨(.some 22), (.mov (.tmp 24)), .none⟩]
def p47_8 : List PO := [⟨(.some 25), (.mov (.tmp 1)), .none⟩, ⟨(.some 26), (.arI .add (.tmp 25) (.const (.int .i64 8))), .none⟩, ⟨(.some 27), (.mov (.tmp 0)), .none⟩, ⟨(.some 28), (.arI .sub (.tmp 27) (.const (.int .i64 1))), .none⟩, ⟨(.some 29), (.bsl 3 1 3 [(3, (.int .i64 0))] [(0, (1, (.tmp 26))), (1, (1, (.const (.int .i64 5)))), (2, (1, (.tmp 28)))]), .none⟩, ⟨(.some 4), (.mov (.tmp 29)), .none⟩]
def c47_9 : PCode := (.block 0 (.seq (.reg p47_3) (.cond (.tmp 5) (.seq (.reg p47_4) .ret) (.seq (.reg p47_5) (.cond (.tmp 13) (.seq (.reg p47_6) .ret) (.seq (.reg p47_7) (.cond (.tmp 22) (.seq (.reg p47_8) .ret) .skip)))))))
def p47_10 : List PO := [⟨(.some 30), (.mov (.tmp 1)), .none⟩, ⟨(.some 31), (.arI .add (.tmp 30) (.const (.int .i64 8))), .none⟩, ⟨(.some 32), (.mov (.tmp 0)), .none⟩, ⟨(.some 33), (.sh .shr (.tmp 32) (.const (.int .u64 16))), .none⟩, ⟨(.some 34), (.arI .and (.tmp 33) (.const (.int .i64 255))), .none⟩, ⟨(.some 35), (.mov (.tmp 0)), .none⟩, ⟨(.some 36), (.sh .shr (.tmp 35) (.const (.int .u64 8))), .none⟩, ⟨(.some 37), (.arI .and (.tmp 36) (.const (.int .i64 255))), .none⟩, ⟨(.some 38), (.mov (.tmp 0)), .none⟩, ⟨(.some 39), (.arI .and (.tmp 38) (.const (.int .i64 255))), .none⟩, ⟨(.some 40), (.bsl 3 1 5 [(5, (.int .i64 0))] [(0, (1, (.tmp 31))), (1, (1, (.const (.int .i64 2)))), (2, (1, (.tmp 34))), (3, (1, (.tmp 37))), (4, (1, (.tmp 39)))]), .none⟩, ⟨(.some 4), (.mov (.tmp 40)), .none⟩]
def c47_1 : PCode := (.keep [0, 1] [] [] (.seq (.reg p47_10) .ret))
def c47_b : PCode := (.seq (.reg p47_2) (.seq c47_9 c47_1))
def c47 : FCode := ⟨41, c47_b, [(.tmp 4)], some ([4], [(361, (.slot 4 none))], []), false⟩
theorem c47_ok : compF Go.Proofs.Try.prog [100025, 38, 52] 47 = some (eraseF c47) := by kernel_rfl
def p29_11 : List PO := [⟨(.some 2), (.box 3 (.tmp 0)), .none⟩, ⟨(.some 3), (.box 3 (.tmp 1)), .none⟩, ⟨(.some 4), (.nilS 3 1), .none⟩, ⟨(.some 5), (.mov (.const (.int .i64 0))), .none⟩]
def p29_12 : List PO := [⟨(.some 11), (.load .true 3 (.tmp 2)), .none⟩, ⟨(.some 12), (.load .true 3 (.tmp 3)), .none⟩, ⟨(.some 13), (.build [(6, (.int .i64 0))] [(0, (3, (.tmp 11))), (3, (3, (.tmp 12)))]), .none⟩, ⟨(.some 14), (.mov (.const (.int .i64 0))), .none⟩]
def p29_13 : List PO := [⟨(.some 15), (.cmpI .lss (.tmp 14) (.const (.int .i64 2))), .none⟩]
def p29_14 : List PO := [⟨(.some 16), (.ixV .true 2 3 (.tmp 13) (.tmp 14)), .none⟩, ⟨(.some 7), (.alloc [(3, (.int .i64 0))]), .none⟩, ⟨.none, (.store 3 (.tmp 7) (.tmp 16)), .none⟩]
def p29_15 : List PO := [⟨(.some 17), (.load .true 3 (.tmp 7)), .none⟩, ⟨(.some 18), (.call 33 [(.tmp 17)]), .none⟩, ⟨(.some 8), (.mov (.tmp 18)), .none⟩]
def p29_16 : List PO := [⟨(.some 19), (.mov (.tmp 8)), .none⟩, ⟨(.some 20), (.cmpI .neq (.tmp 19) (.const (.int .i64 0))), .none⟩]
def p29_17 : List PO := [⟨(.some 21), (.mov (.tmp 8)), .none⟩, ⟨(.some 4), (.nilS 3 1), .none⟩, ⟨(.some 5), (.mov (.tmp 21)), .none⟩]
def p29_18 : List PO := [⟨(.some 22), (.arI .add (.tmp 14) (.const (.int .i64 1))), .none⟩, ⟨(.some 14), (.mov (.tmp 22)), .none⟩]
def c29_9 : PCode := (.keep [2, 3, 13, 14] [(24, .id 24), (32, .id 32)] [] (.seq (.block 1 (.seq (.reg p29_14) (.seq (.reg p29_15) (.seq (.reg p29_16) (.cond (.tmp 20) (.seq (.reg p29_17) .ret) .skip))))) (.reg p29_18)))
def c29_10 : PCode := (.loop (.seq (.reg p29_13) (.seq (.cond (.tmp 15) .skip (.exit 0)) c29_9)))
def p29_19 : List PO := [⟨(.some 9), (.nilS 3 1), .none⟩]
def p29_20 : List PO := [⟨(.some 23), (.fld 0 (.tmp 2)), .none⟩, ⟨(.some 24), (.load .false 1 (.tmp 23)), .none⟩, ⟨(.some 25), (.fld 0 (.tmp 3)), .none⟩, ⟨(.some 26), (.load .false 1 (.tmp 25)), .none⟩, ⟨(.some 27), (.arI .andNot (.tmp 24) (.tmp 26)), .none⟩, ⟨(.some 28), (.cmpI .neq (.tmp 27) (.const (.int .i64 0))), .none⟩, ⟨(.some 29), (.mov (.tmp 28)), .none⟩, ⟨(.some 30), (.fld 1 (.tmp 2)), (.some (29, .false))⟩, ⟨(.some 31), (.load .false 1 (.tmp 30)), (.some (29, .false))⟩, ⟨(.some 32), (.cmpI .neq (.tmp 31) (.const (.int .i64 0))), (.some (29, .false))⟩, ⟨(.some 33), (.mov (.tmp 32)), (.some (29, .false))⟩, ⟨(.some 34), (.fld 1 (.tmp 3)), (.some (33, .true))⟩, ⟨(.some 35), (.load .false 1 (.tmp 34)), (.some (33, .true))⟩, ⟨(.some 36), (.cmpI .eql (.tmp 35) (.const (.int .i64 0))), (.some (33, .true))⟩, ⟨(.some 37), (.pick (.tmp 33) (.tmp 36) (.const (.bool .false))), (.some (29, .false))⟩, ⟨(.some 38), (.pick (.tmp 29) (.const (.bool .true)) (.tmp 37)), .none⟩, ⟨(.some 39), (.mov (.tmp 38)), .none⟩, ⟨(.some 40), (.fld 2 (.tmp 2)), (.some (39, .false))⟩, ⟨(.some 41), (.load .false 1 (.tmp 40)), (.some (39, .false))⟩, ⟨(.some 42), (.cmpI .neq (.tmp 41) (.const (.int .i64 0))), (.some (39, .false))⟩, ⟨(.some 43), (.mov (.tmp 42)), (.some (39, .false))⟩, ⟨(.some 44), (.fld 2 (.tmp 3)), (.some (43, .true))⟩, ⟨(.some 45), (.load .false 1 (.tmp 44)), (.some (43, .true))⟩, ⟨(.some 46), (.cmpI .eql (.tmp 45) (.const (.int .i64 0))), (.some (43, .true))⟩, ⟨(.some 47), (.pick (.tmp 43) (.tmp 46) (.const (.bool .false))), (.some (39, .false))⟩, ⟨(.some 48), (.pick (.tmp 39) (.const (.bool .true)) (.tmp 47)), .none⟩]
def p29_21 : List PO := [⟨(.some 49), (.mov (.tmp 9)), .none⟩, ⟨(.some 50), (.bsl 3 1 1 [(1, (.int .i64 0))] [(0, (1, (.const (.int .i64 0))))]), .none⟩, ⟨(.some 51), (.app 3 1 8 (.tmp 49) (.tmp 50)), .none⟩, ⟨(.some 52), (.build [(3, (.int .i64 0))] []), .none⟩, ⟨(.some 9), (.mov (.tmp 51)), .none⟩, ⟨.none, (.store 3 (.tmp 2) (.tmp 52)), .none⟩]
def c29_6 : PCode := (.keep [2, 3, 9] [(24, .id 24), (32, .id 32), (80, .id 80)] [] (.reg p29_21))
def c29_7 : PCode := (.keep [2, 3, 9] [(24, .id 24), (32, .id 32), (80, .id 80)] [] .skip)
def p29_22 : List PO := [⟨(.some 10), (.mov (.const (.int .i64 1))), .none⟩]
def p29_23 : List PO := [⟨(.some 53), (.mov (.tmp 10)), .none⟩, ⟨(.some 54), (.cmpI .leq (.tmp 53) (.const (.int .i64 9))), .none⟩]
def p29_24 : List PO := [⟨(.some 57), (.mov (.tmp 10)), .none⟩, ⟨(.some 58), (.call 46 [(.tmp 57)]), .none⟩, ⟨(.some 59), (.fld 0 (.tmp 3)), .none⟩, ⟨(.some 60), (.load .false 1 (.tmp 59)), .none⟩, ⟨(.some 61), (.arI .and (.tmp 58) (.tmp 60)), .none⟩, ⟨(.some 62), (.fld 0 (.tmp 2)), .none⟩, ⟨(.some 63), (.load .false 1 (.tmp 62)), .none⟩, ⟨(.some 64), (.arI .andNot (.tmp 61) (.tmp 63)), .none⟩, ⟨(.some 65), (.cmpI .neq (.tmp 64) (.const (.int .i64 0))), .none⟩]
def p29_25 : List PO := [⟨(.some 66), (.mov (.tmp 9)), .none⟩, ⟨(.some 67), (.mov (.tmp 10)), .none⟩, ⟨(.some 68), (.bsl 3 1 1 [(1, (.int .i64 0))] [(0, (1, (.tmp 67)))]), .none⟩, ⟨(.some 69), (.app 3 1 8 (.tmp 66) (.tmp 68)), .none⟩, ⟨(.some 9), (.mov (.tmp 69)), .none⟩]
def p29_26 : List PO := [⟨(.some 55), (.mov (.tmp 10)), .none⟩, ⟨(.some 56), (.arI .add (.tmp 55) (.const (.int .i64 1))), .none⟩, ⟨(.some 10), (.mov (.tmp 56)), .none⟩]
def c29_3 : PCode := (.keep [2, 3, 9, 10] [(24, .id 24), (32, .id 32), (80, .id 80)] [] (.seq (.block 3 (.seq (.regD p29_24 [(1, 3), (1, 6)]) (.cond (.tmp 65) (.reg p29_25) .skip))) (.reg p29_26)))
def c29_4 : PCode := (.keep [2, 3, 9, 10] [(24, .id 24), (32, .id 32), (80, .id 80)] [] (.seq (.seq (.reg p29_23) (.cond (.tmp 54) .skip (.keep [2, 3, 9] [(24, .id 24), (32, .id 32), (80, .id 80)] [] (.exit 2)))) c29_3))
def p29_27 : List PO := [⟨(.some 70), (.fld 1 (.tmp 3)), .none⟩, ⟨(.some 71), (.load .false 1 (.tmp 70)), .none⟩, ⟨(.some 72), (.fld 1 (.tmp 2)), .none⟩, ⟨(.some 73), (.load .false 1 (.tmp 72)), .none⟩, ⟨(.some 74), (.cmpI .neq (.tmp 71) (.tmp 73)), .none⟩]
def p29_28 : List PO := [⟨(.some 75), (.mov (.tmp 9)), .none⟩, ⟨(.some 76), (.fld 1 (.tmp 3)), .none⟩, ⟨(.some 77), (.load .false 1 (.tmp 76)), .none⟩, ⟨(.some 78), (.call 47 [(.tmp 77), (.const (.int .i64 30))]), .none⟩, ⟨(.some 79), (.app 3 1 8 (.tmp 75) (.tmp 78)), .none⟩, ⟨(.some 9), (.mov (.tmp 79)), .none⟩]
def p29_29 : List PO := [⟨(.some 80), (.fld 2 (.tmp 3)), .none⟩, ⟨(.some 81), (.load .false 1 (.tmp 80)), .none⟩, ⟨(.some 82), (.fld 2 (.tmp 2)), .none⟩, ⟨(.some 83), (.load .false 1 (.tmp 82)), .none⟩, ⟨(.some 84), (.cmpI .neq (.tmp 81) (.tmp 83)), .none⟩]
def p29_30 : List PO := [⟨(.some 85), (.mov (.tmp 9)), .none⟩, ⟨(.some 86), (.fld 2 (.tmp 3)), .none⟩, ⟨(.some 87), (.load .false 1 (.tmp 86)), .none⟩, ⟨(.some 88), (.call 47 [(.tmp 87), (.const (.int .i64 40))]), .none⟩, ⟨(.some 89), (.app 3 1 8 (.tmp 85) (.tmp 88)), .none⟩, ⟨(.some 9), (.mov (.tmp 89)), .none⟩]
def p29_31 : List PO := [⟨(.some 90), (.mov (.tmp 9)), .none⟩, ⟨(.some 4), (.mov (.tmp 90)), .none⟩, ⟨(.some 5), (.mov (.const (.int .i64 0))), .none⟩]
def c29_1 : PCode := (.keep [2, 3, 9] [(24, .id 24), (32, .id 32), (80, .id 80)] [] (.seq (.seq (.reg p29_29) (.cond (.tmp 84) (.reg p29_30) .skip)) (.seq (.reg p29_31) .ret)))
def c29_2 : PCode := (.keep [2, 3, 9] [(24, .id 24), (32, .id 32), (80, .id 80)] [] (.seq (.seq (.reg p29_27) (.cond (.tmp 74) (.reg p29_28) .skip)) c29_1))
def c29_5 : PCode := (.keep [2, 3, 9] [(24, .id 24), (32, .id 32), (80, .id 80)] [] (.seq (.seq (.reg p29_22) (.block 2 (.loop c29_4))) c29_2))
def c29_8 : PCode := (.keep [2, 3] [(24, .id 24), (32, .id 32)] [] (.seq (.reg p29_19) (.seq (.seq (.reg p29_20) (.cond (.tmp 48) c29_6 c29_7)) c29_5)))
def c29_b : PCode := (.seq (.reg p29_11) (.seq (.seq (.reg p29_12) (.block 0 c29_10)) c29_8))
def c29 : FCode := ⟨91, c29_b, [(.tmp 4), (.tmp 5)], some ([4, 5], [(761, (.slot 4 none))], []), false⟩
theorem c29_ok : compF Go.Proofs.Try.prog [100025, 38, 52] 29 = some (eraseF c29) := by kernel_rfl
def p48_5 : List PO := [⟨(.some 4), (.mov (.const (.bool .false))), .none⟩]
def p48_6 : List PO := [⟨(.some 6), (.mov (.tmp 0)), .none⟩, ⟨(.some 7), (.len .false (.tmp 6)), .none⟩, ⟨(.some 8), (.mov (.tmp 1)), .none⟩, ⟨(.some 9), (.len .false (.tmp 8)), .none⟩, ⟨(.some 10), (.cmpI .neq (.tmp 7) (.tmp 9)), .none⟩]
def p48_7 : List PO := [⟨(.some 4), (.mov (.const (.bool .false))), .none⟩]
def p48_8 : List PO := [⟨(.some 11), (.mov (.tmp 0)), .none⟩, ⟨(.some 12), (.len .false (.tmp 11)), .none⟩, ⟨(.some 13), (.mov (.const (.int .i64 0))), .none⟩]
def p48_9 : List PO := [⟨(.some 14), (.cmpI .lss (.tmp 13) (.tmp 12)), .none⟩]
def p48_10 : List PO := [⟨(.some 15), (.mov (.tmp 13)), .none⟩, ⟨(.some 5), (.mov (.tmp 15)), .none⟩]
def p48_11 : List PO := [⟨(.some 16), (.mov (.tmp 0)), .none⟩, ⟨(.some 17), (.mov (.tmp 5)), .none⟩, ⟨(.some 18), (.ixS 3 1 (.tmp 16) (.tmp 17)), .none⟩, ⟨(.some 19), (.load .false 1 (.tmp 18)), .none⟩, ⟨(.some 20), (.mov (.tmp 1)), .none⟩, ⟨(.some 21), (.mov (.tmp 5)), .none⟩, ⟨(.some 22), (.ixS 3 1 (.tmp 20) (.tmp 21)), .none⟩, ⟨(.some 23), (.load .false 1 (.tmp 22)), .none⟩, ⟨(.some 24), (.cmpI .neq (.tmp 19) (.tmp 23)), .none⟩]
def p48_12 : List PO := [⟨(.some 4), (.mov (.const (.bool .false))), .none⟩]
def p48_13 : List PO := [⟨(.some 25), (.arI .add (.tmp 13) (.const (.int .i64 1))), .none⟩, ⟨(.some 13), (.mov (.tmp 25)), .none⟩]
def c48_1 : PCode := (.keep [0, 1, 12, 13] [] [] (.seq (.block 1 (.seq (.reg p48_10) (.seq (.regD p48_11 []) (.cond (.tmp 24) (.seq (.reg p48_12) .ret) .skip)))) (.reg p48_13)))
def c48_2 : PCode := (.keep [0, 1, 12, 13, 14] [] [] (.seq (.cond (.tmp 14) .skip (.keep [] [] [] (.exit 0))) c48_1))
def c48_3 : PCode := (.keep [0, 1, 12, 13] [] [] (.seq (.reg p48_9) c48_2))
def p48_14 : List PO := [⟨(.some 4), (.mov (.const (.bool .true))), .none⟩]
def c48_4 : PCode := (.keep [0, 1] [] [] (.seq (.seq (.reg p48_8) (.block 0 (.loop c48_3))) (.seq (.reg p48_14) .ret)))
def c48_b : PCode := (.seq (.reg p48_5) (.seq (.seq (.reg p48_6) (.cond (.tmp 10) (.seq (.reg p48_7) .ret) .skip)) c48_4))
def c48 : FCode := ⟨26, c48_b, [(.tmp 4)], some ([4], [], []), false⟩
theorem c48_ok : compF Go.Proofs.Try.prog [100025, 38, 52] 48 = some (eraseF c48) := by kernel_rfl
def p30_1 : List PO := [⟨(.some 0), (.mov (.const (.bool .false))), .none⟩]
def p30_2 : List PO := [⟨(.some 6), (.build [(3, (.int .i64 0))] []), .none⟩, ⟨(.some 7), (.bsl 3 1 2 [(2, (.int .i64 0))] [(0, (1, (.const (.int .i64 1)))), (1, (1, (.const (.int .i64 31))))]), .none⟩, ⟨(.some 8), (.call 32 [(.tmp 6), (.tmp 7)]), .none⟩, ⟨(.some 5), (.mov (.tmp 8)), .none⟩, ⟨(.some 9), (.ext (.tmp 5) 0), .none⟩, ⟨(.some 10), (.ext (.tmp 5) 1), .none⟩, ⟨(.some 1), (.alloc [(3, (.int .i64 0))]), .none⟩, ⟨.none, (.store 3 (.tmp 1) (.tmp 9)), .none⟩, ⟨(.some 2), (.mov (.tmp 10)), .none⟩]
def p30_3 : List PO := [⟨(.some 12), (.build [(3, (.int .i64 0))] []), .none⟩, ⟨(.some 13), (.load .true 3 (.tmp 1)), .none⟩, ⟨(.some 14), (.call 29 [(.tmp 12), (.tmp 13)]), .none⟩, ⟨(.some 11), (.mov (.tmp 14)), .none⟩, ⟨(.some 15), (.ext (.tmp 11) 0), .none⟩, ⟨(.some 16), (.ext (.tmp 11) 1), .none⟩, ⟨(.some 3), (.mov (.tmp 15)), .none⟩, ⟨(.some 4), (.mov (.tmp 16)), .none⟩]
def p30_4 : List PO := [⟨(.some 17), (.mov (.tmp 2)), .none⟩, ⟨(.some 18), (.cmpI .eql (.tmp 17) (.const (.int .i64 0))), .none⟩, ⟨(.some 19), (.mov (.tmp 18)), .none⟩, ⟨(.some 20), (.mov (.tmp 4)), (.some (19, .true))⟩, ⟨(.some 21), (.cmpI .eql (.tmp 20) (.const (.int .i64 0))), (.some (19, .true))⟩, ⟨(.some 22), (.pick (.tmp 19) (.tmp 21) (.const (.bool .false))), .none⟩, ⟨(.some 23), (.mov (.tmp 22)), .none⟩, ⟨(.some 24), (.load .true 3 (.tmp 1)), (.some (23, .true))⟩, ⟨(.some 25), (.build [(3, (.int .i64 0))] [(0, (1, (.const (.int .i64 1)))), (1, (1, (.const (.int .i64 2))))]), (.some (23, .true))⟩, ⟨(.some 26), (.eqA .false [(3, .int)] (.tmp 24) (.tmp 25)), (.some (23, .true))⟩, ⟨(.some 27), (.pick (.tmp 23) (.tmp 26) (.const (.bool .false))), .none⟩, ⟨(.some 28), (.mov (.tmp 27)), .none⟩, ⟨(.some 29), (.mov (.tmp 3)), (.some (28, .true))⟩, ⟨(.some 30), (.bsl 3 1 2 [(2, (.int .i64 0))] [(0, (1, (.const (.int .i64 1)))), (1, (1, (.const (.int .i64 31))))]), (.some (28, .true))⟩, ⟨(.some 31), (.call 48 [(.tmp 29), (.tmp 30)]), (.some (28, .true))⟩, ⟨(.some 32), (.pick (.tmp 28) (.tmp 31) (.const (.bool .false))), .none⟩, ⟨(.some 0), (.mov (.tmp 32)), .none⟩]
def c30_b : PCode := (.seq (.reg p30_1) (.seq (.reg p30_2) (.seq (.reg p30_3) (.seq (.reg p30_4) .ret))))
def c30 : FCode := ⟨33, c30_b, [(.tmp 0)], some ([0], [], []), false⟩
theorem c30_ok : compF Go.Proofs.Try.prog [100025, 38, 52] 30 = some (eraseF c30) := by kernel_rfl
def p44_1 : List PO := [⟨(.some 6), (.mov (.const (.bool .false))), .none⟩]
def p44_2 : List PO := [⟨(.some 7), (.mov (.tmp 1)), .none⟩, ⟨(.some 8), (.mov (.tmp 0)), .none⟩, ⟨(.some 9), (.cmpI .leq (.tmp 7) (.tmp 8)), .none⟩, ⟨(.some 10), (.mov (.tmp 9)), .none⟩, ⟨(.some 11), (.mov (.tmp 0)), (.some (10, .true))⟩, ⟨(.some 12), (.mov (.tmp 2)), (.some (10, .true))⟩, ⟨(.some 13), (.cmpI .leq (.tmp 11) (.tmp 12)), (.some (10, .true))⟩, ⟨(.some 14), (.pick (.tmp 10) (.tmp 13) (.const (.bool .false))), .none⟩, ⟨(.some 6), (.mov (.tmp 14)), .none⟩]
def c44_b : PCode := (.seq (.reg p44_1) (.seq (.reg p44_2) .ret))
def c44 : FCode := ⟨15, c44_b, [(.tmp 6)], some ([6], [], []), false⟩
theorem c44_ok : compF Go.Proofs.Try.prog [100025, 38, 52] 44 = some (eraseF c44) := by kernel_rfl
def p49_3 : List PO := [⟨(.some 2), (.mov (.const (.int .i64 0))), .none⟩]
def p49_4 : List PO := [⟨(.some 3), (.mov (.const (.int .i64 1))), .none⟩]
def p49_5 : List PO := [⟨(.some 4), (.mov (.tmp 0)), .none⟩, ⟨(.some 5), (.mov (.const (.int .i64 0))), .none⟩]
def p49_6 : List PO := [⟨(.some 6), (.cmpI .lss (.tmp 5) (.tmp 4)), .none⟩]
def p49_7 : List PO := [⟨(.some 7), (.mov (.tmp 3)), .none⟩, ⟨(.some 8), (.arI .mul (.tmp 7) (.const (.int .i64 2))), .none⟩, ⟨(.some 3), (.mov (.tmp 8)), .none⟩]
def p49_8 : List PO := [⟨(.some 9), (.arI .add (.tmp 5) (.const (.int .i64 1))), .none⟩, ⟨(.some 5), (.mov (.tmp 9)), .none⟩]
def c49_1 : PCode := (.keep [3, 4, 5, 6] [] [] (.seq (.cond (.tmp 6) .skip (.keep [3] [] [] (.exit 0))) (.seq (.block 1 (.reg p49_7)) (.reg p49_8))))
def c49_2 : PCode := (.keep [3, 4, 5] [] [] (.seq (.reg p49_6) c49_1))
def p49_9 : List PO := [⟨(.some 10), (.mov (.tmp 3)), .none⟩, ⟨(.some 2), (.mov (.tmp 10)), .none⟩]
def c49_b : PCode := (.seq (.reg p49_3) (.seq (.reg p49_4) (.seq (.seq (.reg p49_5) (.block 0 (.loop c49_2))) (.seq (.reg p49_9) .ret))))
def c49 : FCode := ⟨11, c49_b, [(.tmp 2)], some ([2], [], []), false⟩
theorem c49_ok : compF Go.Proofs.Try.prog [100025, 38, 52] 49 = some (eraseF c49) := by kernel_rfl
def p31_5 : List PO := [⟨(.some 1), (.box 3 (.tmp 0)), .none⟩, ⟨(.some 2), (.mov (.const (.int .i64 0))), .none⟩]
def p31_6 : List PO := [⟨(.some 5), (.fld 1 (.tmp 1)), .none⟩, ⟨(.some 6), (.load .false 1 (.tmp 5)), .none⟩, ⟨(.some 7), (.fld 2 (.tmp 1)), .none⟩, ⟨(.some 8), (.load .false 1 (.tmp 7)), .none⟩, ⟨(.some 9), (.bsl 3 1 2 [(2, (.int .i64 0))] [(0, (1, (.tmp 6))), (1, (1, (.tmp 8)))]), .none⟩, ⟨(.some 10), (.len .false (.tmp 9)), .none⟩, ⟨(.some 11), (.mov (.const (.int .i64 0))), .none⟩]
def p31_7 : List PO := [⟨(.some 12), (.cmpI .lss (.tmp 11) (.tmp 10)), .none⟩]
def p31_8 : List PO := [⟨(.some 13), (.ixS 3 1 (.tmp 9) (.tmp 11)), .none⟩, ⟨(.some 14), (.load .false 1 (.tmp 13)), .none⟩, ⟨(.some 4), (.mov (.tmp 14)), .none⟩]
def p31_9 : List PO := [⟨(.some 15), (.mov (.tmp 4)), .none⟩, ⟨(.some 16), (.call 44 [(.tmp 15), (.const (.int .i64 0)), (.const (.int .i64 256))]), .none⟩, ⟨(.some 17), (.un .not (.tmp 16)), .none⟩, ⟨(.some 18), (.mov (.tmp 17)), .none⟩, ⟨(.some 19), (.mov (.tmp 4)), (.some (18, .true))⟩, ⟨(.some 20), (.call 49 [(.const (.int .i64 24))]), (.some (18, .true))⟩, ⟨(.some 21), (.call 49 [(.const (.int .i64 25))]), (.some (18, .true))⟩, ⟨(.some 22), (.arI .sub (.tmp 21) (.const (.int .i64 1))), (.some (18, .true))⟩, ⟨(.some 23), (.call 44 [(.tmp 19), (.tmp 20), (.tmp 22)]), (.some (18, .true))⟩, ⟨(.some 24), (.un .not (.tmp 23)), (.some (18, .true))⟩, ⟨(.some 25), (.pick (.tmp 18) (.tmp 24) (.const (.bool .false))), .none⟩]
def p31_10 : List PO := [⟨(.some 2), (.mov (.const (.int .i64 4))), .none⟩]
def p31_11 : List PO := [⟨(.some 26), (.arI .add (.tmp 11) (.const (.int .i64 1))), .none⟩, ⟨(.some 11), (.mov (.tmp 26)), .none⟩]
def c31_2 : PCode := (.keep [1, 9, 10, 11] [(16, .id 16), (80, .id 80)] [] (.seq (.block 1 (.seq (.reg p31_8) (.seq (.reg p31_9) (.cond (.tmp 25) (.seq (.reg p31_10) .ret) .skip)))) (.reg p31_11)))
def c31_3 : PCode := (.keep [1, 9, 10, 11, 12] [(16, .id 16), (80, .id 80)] [] (.seq (.cond (.tmp 12) .skip (.keep [1] [(16, .id 16)] [] (.exit 0))) c31_2))
def c31_4 : PCode := (.keep [1, 9, 10, 11] [(16, .id 16), (80, .id 80)] [] (.seq (.reg p31_7) c31_3))
def p31_12 : List PO := [⟨(.some 27), (.fld 0 (.tmp 1)), .none⟩, ⟨(.some 28), (.load .false 1 (.tmp 27)), .none⟩, ⟨(.some 29), (.call 44 [(.tmp 28), (.const (.int .i64 0)), (.const (.int .i64 255))]), .none⟩, ⟨(.some 30), (.un .not (.tmp 29)), .none⟩]
def p31_13 : List PO := [⟨(.some 2), (.mov (.const (.int .i64 4))), .none⟩]
def p31_14 : List PO := [⟨(.some 2), (.mov (.const (.int .i64 0))), .none⟩]
def c31_1 : PCode := (.keep [1] [(16, .id 16)] [] (.seq (.seq (.reg p31_12) (.cond (.tmp 30) (.seq (.reg p31_13) .ret) .skip)) (.seq (.reg p31_14) .ret)))
def c31_b : PCode := (.seq (.reg p31_5) (.seq (.seq (.reg p31_6) (.block 0 (.loop c31_4))) c31_1))
def c31 : FCode := ⟨31, c31_b, [(.tmp 2)], some ([2], [], []), false⟩
theorem c31_ok : compF Go.Proofs.Try.prog [100025, 38, 52] 31 = some (eraseF c31) := by kernel_rfl
def p11_2 : List PO := [⟨(.some 3), (.box 3 (.tmp 0)), .none⟩, ⟨(.some 4), (.box 3 (.tmp 1)), .none⟩, ⟨(.some 6), (.mov (.const (.bool .false))), .none⟩]
def p11_3 : List PO := [⟨(.some 12), (.load .true 3 (.tmp 3)), .none⟩, ⟨(.some 13), (.bsl 3 1 1 [(1, (.int .i64 0))] [(0, (1, (.const (.int .i64 0))))]), .none⟩, ⟨(.some 14), (.mov (.tmp 2)), .none⟩, ⟨(.some 15), (.app 3 1 8 (.tmp 13) (.tmp 14)), .none⟩, ⟨(.some 16), (.call 32 [(.tmp 12), (.tmp 15)]), .none⟩, ⟨(.some 11), (.mov (.tmp 16)), .none⟩, ⟨(.some 17), (.ext (.tmp 11) 0), .none⟩, ⟨(.some 18), (.ext (.tmp 11) 1), .none⟩, ⟨(.some 7), (.alloc [(3, (.int .i64 0))]), .none⟩, ⟨.none, (.store 3 (.tmp 7) (.tmp 17)), .none⟩, ⟨(.some 8), (.mov (.tmp 18)), .none⟩]
def p11_4 : List PO := [⟨(.some 20), (.load .true 3 (.tmp 4)), .none⟩, ⟨(.some 21), (.bsl 3 1 1 [(1, (.int .i64 0))] [(0, (1, (.const (.int .i64 (-1)))))]), .none⟩, ⟨(.some 22), (.mov (.tmp 2)), .none⟩, ⟨(.some 23), (.app 3 1 8 (.tmp 21) (.tmp 22)), .none⟩, ⟨(.some 24), (.call 32 [(.tmp 20), (.tmp 23)]), .none⟩, ⟨(.some 19), (.mov (.tmp 24)), .none⟩, ⟨(.some 25), (.ext (.tmp 19) 0), .none⟩, ⟨(.some 26), (.ext (.tmp 19) 1), .none⟩, ⟨(.some 9), (.alloc [(3, (.int .i64 0))]), .none⟩, ⟨.none, (.store 3 (.tmp 9) (.tmp 25)), .none⟩, ⟨(.some 10), (.mov (.tmp 26)), .none⟩]
def p11_5 : List PO := [⟨(.some 27), (.call 30 []), .none⟩, ⟨(.some 28), (.un .not (.tmp 27)), .none⟩, ⟨(.some 29), (.mov (.tmp 28)), .none⟩, ⟨(.some 30), (.mov (.tmp 8)), (.some (29, .false))⟩, ⟨(.some 31), (.cmpI .neq (.tmp 30) (.const (.int .i64 0))), (.some (29, .false))⟩, ⟨(.some 32), (.pick (.tmp 29) (.const (.bool .true)) (.tmp 31)), .none⟩, ⟨(.some 33), (.mov (.tmp 32)), .none⟩, ⟨(.some 34), (.mov (.tmp 10)), (.some (33, .false))⟩, ⟨(.some 35), (.cmpI .neq (.tmp 34) (.const (.int .i64 0))), (.some (33, .false))⟩, ⟨(.some 36), (.pick (.tmp 33) (.const (.bool .true)) (.tmp 35)), .none⟩]
def p11_6 : List PO := [⟨(.some 37), (.call 30 []), .none⟩, ⟨(.some 6), (.mov (.tmp 37)), .none⟩]
def p11_7 : List PO := [⟨(.some 38), (.load .true 3 (.tmp 7)), .none⟩, ⟨(.some 39), (.load .true 3 (.tmp 9)), .none⟩, ⟨(.some 40), (.eqA .false [(3, .int)] (.tmp 38) (.tmp 39)), .none⟩, ⟨(.some 41), (.mov (.tmp 40)), .none⟩, ⟨(.some 42), (.load .true 3 (.tmp 7)), (.some (41, .true))⟩, ⟨(.some 43), (.call 31 [(.tmp 42)]), (.some (41, .true))⟩, ⟨(.some 44), (.cmpI .eql (.tmp 43) (.const (.int .i64 0))), (.some (41, .true))⟩, ⟨(.some 45), (.pick (.tmp 41) (.tmp 44) (.const (.bool .false))), .none⟩, ⟨(.some 6), (.mov (.tmp 45)), .none⟩]
def c11_1 : PCode := (.keep [7, 9] [(64, .id 64), (80, .id 80)] [] (.seq (.reg p11_7) .ret))
def c11_8 : PCode := (.seq (.regD p11_3 [(0, 1), (0, 3), (0, 8), (1, 8), (3, 8), (4, 8)]) (.seq (.regD p11_4 [(0, 1), (0, 3), (0, 8), (1, 8), (3, 8), (4, 8)]) (.seq (.seq (.reg p11_5) (.cond (.tmp 36) (.seq (.reg p11_6) .ret) .skip)) c11_1)))
def c11_b : PCode := (.seq (.reg p11_2) c11_8)
def c11 : FCode := ⟨46, c11_b, [(.tmp 6)], some ([6], [], []), false⟩
theorem c11_ok : compF Go.Proofs.Try.prog [100025, 38, 52] 11 = some (eraseF c11) := by kernel_rfl
def p12_2 : List PO := [⟨(.some 2), (.box 3 (.tmp 0)), .none⟩, ⟨(.some 4), (.mov (.const (.bool .false))), .none⟩]
def p12_3 : List PO := [⟨(.some 11), (.call 30 []), .none⟩, ⟨(.some 12), (.un .not (.tmp 11)), .none⟩, ⟨(.some 13), (.mov (.tmp 12)), .none⟩, ⟨(.some 14), (.load .true 3 (.tmp 2)), (.some (13, .false))⟩, ⟨(.some 15), (.call 33 [(.tmp 14)]), (.some (13, .false))⟩, ⟨(.some 16), (.cmpI .neq (.tmp 15) (.const (.int .i64 0))), (.some (13, .false))⟩, ⟨(.some 17), (.pick (.tmp 13) (.const (.bool .true)) (.tmp 16)), .none⟩, ⟨(.some 18), (.mov (.tmp 17)), .none⟩, ⟨(.some 19), (.mov (.tmp 1)), (.some (18, .false))⟩, ⟨(.some 20), (.cmpI .lss (.tmp 19) (.const (.int .i64 3))), (.some (18, .false))⟩, ⟨(.some 21), (.pick (.tmp 18) (.const (.bool .true)) (.tmp 20)), .none⟩, ⟨(.some 22), (.mov (.tmp 21)), .none⟩, ⟨(.some 23), (.mov (.tmp 1)), (.some (22, .false))⟩, ⟨(.some 24), (.cmpI .gtr (.tmp 23) (.const (.int .i64 9))), (.some (22, .false))⟩, ⟨(.some 25), (.pick (.tmp 22) (.const (.bool .true)) (.tmp 24)), .none⟩, ⟨(.some 26), (.mov (.tmp 25)), .none⟩, ⟨(.some 27), (.mov (.tmp 1)), (.some (26, .false))⟩, ⟨(.some 28), (.cmpI .eql (.tmp 27) (.const (.int .i64 6))), (.some (26, .false))⟩, ⟨(.some 29), (.pick (.tmp 26) (.const (.bool .true)) (.tmp 28)), .none⟩]
def p12_4 : List PO := [⟨(.some 30), (.call 30 []), .none⟩, ⟨(.some 4), (.mov (.tmp 30)), .none⟩]
def p12_5 : List PO := [⟨(.some 32), (.load .true 3 (.tmp 2)), .none⟩, ⟨(.some 33), (.mov (.tmp 1)), .none⟩, ⟨(.some 34), (.bsl 3 1 1 [(1, (.int .i64 0))] [(0, (1, (.tmp 33)))]), .none⟩, ⟨(.some 35), (.call 32 [(.tmp 32), (.tmp 34)]), .none⟩, ⟨(.some 31), (.mov (.tmp 35)), .none⟩, ⟨(.some 36), (.ext (.tmp 31) 0), .none⟩, ⟨(.some 37), (.ext (.tmp 31) 1), .none⟩, ⟨(.some 5), (.alloc [(3, (.int .i64 0))]), .none⟩, ⟨.none, (.store 3 (.tmp 5) (.tmp 36)), .none⟩, ⟨(.some 6), (.mov (.tmp 37)), .none⟩]
def p12_6 : List PO := [⟨(.some 39), (.load .true 3 (.tmp 5)), .none⟩, ⟨(.some 40), (.mov (.tmp 1)), .none⟩, ⟨(.some 41), (.arI .add (.tmp 40) (.const (.int .i64 20))), .none⟩, ⟨(.some 42), (.bsl 3 1 1 [(1, (.int .i64 0))] [(0, (1, (.tmp 41)))]), .none⟩, ⟨(.some 43), (.call 32 [(.tmp 39), (.tmp 42)]), .none⟩, ⟨(.some 38), (.mov (.tmp 43)), .none⟩, ⟨(.some 44), (.ext (.tmp 38) 0), .none⟩, ⟨(.some 45), (.ext (.tmp 38) 1), .none⟩, ⟨(.some 7), (.alloc [(3, (.int .i64 0))]), .none⟩, ⟨.none, (.store 3 (.tmp 7) (.tmp 44)), .none⟩, ⟨(.some 8), (.mov (.tmp 45)), .none⟩]
def p12_7 : List PO := [⟨(.some 47), (.load .true 3 (.tmp 2)), .none⟩, ⟨(.some 48), (.mov (.tmp 1)), .none⟩, ⟨(.some 49), (.arI .add (.tmp 48) (.const (.int .i64 20))), .none⟩, ⟨(.some 50), (.bsl 3 1 1 [(1, (.int .i64 0))] [(0, (1, (.tmp 49)))]), .none⟩, ⟨(.some 51), (.call 32 [(.tmp 47), (.tmp 50)]), .none⟩, ⟨(.some 46), (.mov (.tmp 51)), .none⟩, ⟨(.some 52), (.ext (.tmp 46) 0), .none⟩, ⟨(.some 53), (.ext (.tmp 46) 1), .none⟩, ⟨(.some 9), (.alloc [(3, (.int .i64 0))]), .none⟩, ⟨.none, (.store 3 (.tmp 9) (.tmp 52)), .none⟩, ⟨(.some 10), (.mov (.tmp 53)), .none⟩]
def p12_8 : List PO := [⟨(.some 54), (.mov (.tmp 6)), .none⟩, ⟨(.some 55), (.cmpI .eql (.tmp 54) (.const (.int .i64 0))), .none⟩, ⟨(.some 56), (.mov (.tmp 55)), .none⟩, ⟨(.some 57), (.mov (.tmp 8)), (.some (56, .true))⟩, ⟨(.some 58), (.cmpI .eql (.tmp 57) (.const (.int .i64 0))), (.some (56, .true))⟩, ⟨(.some 59), (.pick (.tmp 56) (.tmp 58) (.const (.bool .false))), .none⟩, ⟨(.some 60), (.mov (.tmp 59)), .none⟩, ⟨(.some 61), (.mov (.tmp 10)), (.some (60, .true))⟩, ⟨(.some 62), (.cmpI .eql (.tmp 61) (.const (.int .i64 0))), (.some (60, .true))⟩, ⟨(.some 63), (.pick (.tmp 60) (.tmp 62) (.const (.bool .false))), .none⟩, ⟨(.some 64), (.mov (.tmp 63)), .none⟩, ⟨(.some 65), (.load .true 3 (.tmp 7)), (.some (64, .true))⟩, ⟨(.some 66), (.load .true 3 (.tmp 9)), (.some (64, .true))⟩, ⟨(.some 67), (.eqA .false [(3, .int)] (.tmp 65) (.tmp 66)), (.some (64, .true))⟩, ⟨(.some 68), (.pick (.tmp 64) (.tmp 67) (.const (.bool .false))), .none⟩, ⟨(.some 69), (.mov (.tmp 68)), .none⟩, ⟨(.some 70), (.fld 1 (.tmp 7)), (.some (69, .true))⟩, ⟨(.some 71), (.load .false 1 (.tmp 70)), (.some (69, .true))⟩, ⟨(.some 72), (.fld 1 (.tmp 2)), (.some (69, .true))⟩, ⟨(.some 73), (.load .false 1 (.tmp 72)), (.some (69, .true))⟩, ⟨(.some 74), (.cmpI .eql (.tmp 71) (.tmp 73)), (.some (69, .true))⟩, ⟨(.some 75), (.pick (.tmp 69) (.tmp 74) (.const (.bool .false))), .none⟩, ⟨(.some 76), (.mov (.tmp 75)), .none⟩, ⟨(.some 77), (.fld 2 (.tmp 7)), (.some (76, .true))⟩, ⟨(.some 78), (.load .false 1 (.tmp 77)), (.some (76, .true))⟩, ⟨(.some 79), (.fld 2 (.tmp 2)), (.some (76, .true))⟩, ⟨(.some 80), (.load .false 1 (.tmp 79)), (.some (76, .true))⟩, ⟨(.some 81), (.cmpI .eql (.tmp 78) (.tmp 80)), (.some (76, .true))⟩, ⟨(.some 82), (.pick (.tmp 76) (.tmp 81) (.const (.bool .false))), .none⟩, ⟨(.some 83), (.mov (.tmp 82)), .none⟩, ⟨(.some 84), (.fld 0 (.tmp 5)), (.some (83, .true))⟩, ⟨(.some 85), (.load .false 1 (.tmp 84)), (.some (83, .true))⟩, ⟨(.some 86), (.fld 0 (.tmp 7)), (.some (83, .true))⟩, ⟨(.some 87), (.load .false 1 (.tmp 86)), (.some (83, .true))⟩, ⟨(.some 88), (.arI .andNot (.tmp 85) (.tmp 87)), (.some (83, .true))⟩, ⟨(.some 89), (.cmpI .neq (.tmp 88) (.const (.int .i64 0))), (.some (83, .true))⟩, ⟨(.some 90), (.pick (.tmp 83) (.tmp 89) (.const (.bool .false))), .none⟩, ⟨(.some 91), (.mov (.tmp 90)), .none⟩, ⟨(.some 92), (.fld 0 (.tmp 7)), (.some (91, .true))⟩, ⟨(.some 93), (.load .false 1 (.tmp 92)), (.some (91, .true))⟩, ⟨(.some 94), (.fld 0 (.tmp 2)), (.some (91, .true))⟩, ⟨(.some 95), (.load .false 1 (.tmp 94)), (.some (91, .true))⟩, ⟨(.some 96), (.arI .andNot (.tmp 93) (.tmp 95)), (.some (91, .true))⟩, ⟨(.some 97), (.cmpI .eql (.tmp 96) (.const (.int .i64 0))), (.some (91, .true))⟩, ⟨(.some 98), (.pick (.tmp 91) (.tmp 97) (.const (.bool .false))), .none⟩, ⟨(.some 4), (.mov (.tmp 98)), .none⟩]
def c12_1 : PCode := (.keep [1, 2] [(24, .id 24)] [] (.seq (.reg p12_5) (.seq (.reg p12_6) (.seq (.reg p12_7) (.seq (.reg p12_8) .ret)))))
def c12_b : PCode := (.seq (.reg p12_2) (.seq (.seq (.reg p12_3) (.cond (.tmp 29) (.seq (.reg p12_4) .ret) .skip)) c12_1))
def c12 : FCode := ⟨99, c12_b, [(.tmp 4)], some ([4], [], []), false⟩
theorem c12_ok : compF Go.Proofs.Try.prog [100025, 38, 52] 12 = some (eraseF c12) := by kernel_rfl
def p10_3 : List PO := [⟨(.some 2), (.box 3 (.tmp 0)), .none⟩, ⟨(.some 3), (.box 3 (.tmp 1)), .none⟩, ⟨(.some 4), (.mov (.const (.bool .false))), .none⟩]
def p10_4 : List PO := [⟨(.some 10), (.load .true 3 (.tmp 2)), .none⟩, ⟨(.some 11), (.load .true 3 (.tmp 3)), .none⟩, ⟨(.some 12), (.call 29 [(.tmp 10), (.tmp 11)]), .none⟩, ⟨(.some 9), (.mov (.tmp 12)), .none⟩, ⟨(.some 13), (.ext (.tmp 9) 0), .none⟩, ⟨(.some 14), (.ext (.tmp 9) 1), .none⟩, ⟨(.some 5), (.mov (.tmp 13)), .none⟩, ⟨(.some 6), (.mov (.tmp 14)), .none⟩]
def p10_5 : List PO := [⟨(.some 15), (.call 30 []), .none⟩, ⟨(.some 16), (.un .not (.tmp 15)), .none⟩, ⟨(.some 17), (.mov (.tmp 16)), .none⟩, ⟨(.some 18), (.mov (.tmp 6)), (.some (17, .false))⟩, ⟨(.some 19), (.cmpI .neq (.tmp 18) (.const (.int .i64 0))), (.some (17, .false))⟩, ⟨(.some 20), (.pick (.tmp 17) (.const (.bool .true)) (.tmp 19)), .none⟩, ⟨(.some 21), (.mov (.tmp 20)), .none⟩, ⟨(.some 22), (.mov (.tmp 5)), (.some (21, .false))⟩, ⟨(.some 23), (.len .false (.tmp 22)), (.some (21, .false))⟩, ⟨(.some 24), (.cmpI .eql (.tmp 23) (.const (.int .i64 0))), (.some (21, .false))⟩, ⟨(.some 25), (.pick (.tmp 21) (.const (.bool .true)) (.tmp 24)), .none⟩]
def p10_6 : List PO := [⟨(.some 26), (.call 30 []), .none⟩, ⟨(.some 27), (.mov (.tmp 26)), .none⟩, ⟨(.some 28), (.mov (.tmp 6)), (.some (27, .true))⟩, ⟨(.some 29), (.cmpI .eql (.tmp 28) (.const (.int .i64 0))), (.some (27, .true))⟩, ⟨(.some 30), (.load .true 3 (.tmp 2)), (.some (27, .true))⟩, ⟨(.some 31), (.load .true 3 (.tmp 3)), (.some (27, .true))⟩, ⟨(.some 32), (.eqA .false [(3, .int)] (.tmp 30) (.tmp 31)), (.some (27, .true))⟩, ⟨(.some 33), (.mov (.tmp 32)), (.some (27, .true))⟩, ⟨(.some 34), (.load .true 3 (.tmp 3)), (.some (33, .true))⟩, ⟨(.some 35), (.call 31 [(.tmp 34)]), (.some (33, .true))⟩, ⟨(.some 36), (.cmpI .eql (.tmp 35) (.const (.int .i64 0))), (.some (33, .true))⟩, ⟨(.some 37), (.pick (.tmp 33) (.tmp 36) (.const (.bool .false))), (.some (27, .true))⟩, ⟨(.some 38), (.eqB .false (.tmp 29) (.tmp 37)), (.some (27, .true))⟩, ⟨(.some 39), (.pick (.tmp 27) (.tmp 38) (.const (.bool .false))), .none⟩, ⟨(.some 40), (.mov (.tmp 39)), .none⟩, ⟨(.some 41), (.mov (.tmp 5)), (.some (40, .true))⟩, ⟨(.some 42), (.len .false (.tmp 41)), (.some (40, .true))⟩, ⟨(.some 43), (.cmpI .eql (.tmp 42) (.const (.int .i64 0))), (.some (40, .true))⟩, ⟨(.some 44), (.pick (.tmp 40) (.tmp 43) (.const (.bool .false))), .none⟩, ⟨(.some 4), (.mov (.tmp 44)), .none⟩]
def c10_2 : PCode := (.keep [2, 3, 5, 6] [(24, .id 24), (32, .id 32), (104, .id 104)] [] (.seq (.reg p10_6) .ret))
def p10_7 : List PO := [⟨(.some 46), (.load .true 3 (.tmp 2)), .none⟩, ⟨(.some 47), (.mov (.tmp 5)), .none⟩, ⟨(.some 48), (.call 32 [(.tmp 46), (.tmp 47)]), .none⟩, ⟨(.some 45), (.mov (.tmp 48)), .none⟩, ⟨(.some 49), (.ext (.tmp 45) 0), .none⟩, ⟨(.some 50), (.ext (.tmp 45) 1), .none⟩, ⟨(.some 7), (.alloc [(3, (.int .i64 0))]), .none⟩, ⟨.none, (.store 3 (.tmp 7) (.tmp 49)), .none⟩, ⟨(.some 8), (.mov (.tmp 50)), .none⟩]
def p10_8 : List PO := [⟨(.some 51), (.mov (.tmp 8)), .none⟩, ⟨(.some 52), (.cmpI .eql (.tmp 51) (.const (.int .i64 0))), .none⟩, ⟨(.some 53), (.mov (.tmp 52)), .none⟩, ⟨(.some 54), (.load .true 3 (.tmp 7)), (.some (53, .true))⟩, ⟨(.some 55), (.load .true 3 (.tmp 3)), (.some (53, .true))⟩, ⟨(.some 56), (.eqA .false [(3, .int)] (.tmp 54) (.tmp 55)), (.some (53, .true))⟩, ⟨(.some 57), (.pick (.tmp 53) (.tmp 56) (.const (.bool .false))), .none⟩, ⟨(.some 58), (.mov (.tmp 57)), .none⟩, ⟨(.some 59), (.mov (.tmp 5)), (.some (58, .true))⟩, ⟨(.some 60), (.len .false (.tmp 59)), (.some (58, .true))⟩, ⟨(.some 61), (.cmpI .leq (.tmp 60) (.const (.int .i64 19))), (.some (58, .true))⟩, ⟨(.some 62), (.pick (.tmp 58) (.tmp 61) (.const (.bool .false))), .none⟩, ⟨(.some 63), (.mov (.tmp 62)), .none⟩, ⟨(.some 64), (.load .true 3 (.tmp 2)), (.some (63, .true))⟩, ⟨(.some 65), (.load .true 3 (.tmp 3)), (.some (63, .true))⟩, ⟨(.some 66), (.eqA .true [(3, .int)] (.tmp 64) (.tmp 65)), (.some (63, .true))⟩, ⟨(.some 67), (.pick (.tmp 63) (.tmp 66) (.const (.bool .false))), .none⟩, ⟨(.some 4), (.mov (.tmp 67)), .none⟩]
def c10_1 : PCode := (.keep [2, 3, 5] [(24, .id 24), (32, .id 32), (104, .id 104)] [] (.seq (.reg p10_7) (.seq (.reg p10_8) .ret)))
def c10_b : PCode := (.seq (.reg p10_3) (.seq (.reg p10_4) (.seq (.seq (.reg p10_5) (.cond (.tmp 25) c10_2 .skip)) c10_1)))
def c10 : FCode := ⟨68, c10_b, [(.tmp 4)], some ([4], [], []), false⟩
theorem c10_ok : compF Go.Proofs.Try.prog [100025, 38, 52] 10 = some (eraseF c10) := by kernel_rfl
def p34_1 : List PO := [⟨(.some 2), (.nilS 3 1), .none⟩]
def p34_2 : List PO := [⟨(.some 3), (.mov (.tmp 0)), .none⟩, ⟨(.some 4), (.isN .false (.tmp 3)), .none⟩]
def p34_3 : List PO := [⟨(.some 2), (.nilS 3 1), .none⟩]
def p34_4 : List PO := [⟨(.some 5), (.bsl 3 1 0 [] []), .none⟩, ⟨(.some 6), (.mov (.tmp 0)), .none⟩, ⟨(.some 7), (.app 3 1 8 (.tmp 5) (.tmp 6)), .none⟩, ⟨(.some 2), (.mov (.tmp 7)), .none⟩]
def c34_b : PCode := (.seq (.reg p34_1) (.seq (.seq (.reg p34_2) (.cond (.tmp 4) (.seq (.reg p34_3) .ret) .skip)) (.seq (.reg p34_4) .ret)))
def c34 : FCode := ⟨8, c34_b, [(.tmp 2)], some ([2], [(97, (.slot 2 none))], []), true⟩
theorem c34_ok : compF Go.Proofs.Try.prog [100025, 38, 52] 34 = some (eraseF c34) := by kernel_rfl
def p55_4 : List PO := [⟨(.some 4), (.mov (.const (.int .i64 0))), .none⟩]
def p55_5 : List PO := [⟨(.some 6), (.mov (.tmp 0)), .none⟩, ⟨(.some 7), (.len .false (.tmp 6)), .none⟩, ⟨(.some 8), (.mov (.const (.int .i64 0))), .none⟩]
def p55_6 : List PO := [⟨(.some 9), (.cmpI .lss (.tmp 8) (.tmp 7)), .none⟩]
def p55_7 : List PO := [⟨(.some 10), (.mov (.tmp 8)), .none⟩, ⟨(.some 5), (.mov (.tmp 10)), .none⟩]
def p55_8 : List PO := [⟨(.some 11), (.mov (.tmp 1)), .none⟩, ⟨(.some 12), (.mov (.tmp 0)), .none⟩, ⟨(.some 13), (.mov (.tmp 5)), .none⟩, ⟨(.some 14), (.ixS 3 1 (.tmp 12) (.tmp 13)), .none⟩, ⟨(.some 15), (.load .false 1 (.tmp 14)), .none⟩, ⟨(.some 16), (.cmpI .eql (.tmp 11) (.tmp 15)), .none⟩]
def p55_9 : List PO := [⟨(.some 17), (.mov (.tmp 5)), .none⟩, ⟨(.some 4), (.mov (.tmp 17)), .none⟩]
def p55_10 : List PO := [⟨(.some 18), (.arI .add (.tmp 8) (.const (.int .i64 1))), .none⟩, ⟨(.some 8), (.mov (.tmp 18)), .none⟩]
def c55_1 : PCode := (.keep [0, 1, 7, 8] [] [] (.seq (.block 1 (.seq (.reg p55_7) (.seq (.reg p55_8) (.cond (.tmp 16) (.seq (.reg p55_9) .ret) .skip)))) (.reg p55_10)))
def c55_2 : PCode := (.keep [0, 1, 7, 8, 9] [] [] (.seq (.cond (.tmp 9) .skip (.keep [] [] [] (.exit 0))) c55_1))
def c55_3 : PCode := (.keep [0, 1, 7, 8] [] [] (.seq (.reg p55_6) c55_2))
def p55_11 : List PO := [⟨(.some 4), (.mov (.const (.int .i64 (-1)))), .none⟩]
def c55_b : PCode := (.seq (.reg p55_4) (.seq (.seq (.reg p55_5) (.block 0 (.loop c55_3))) (.seq (.reg p55_11) .ret)))
def c55 : FCode := ⟨19, c55_b, [(.tmp 4)], some ([4], [], []), false⟩
theorem c55_ok : compF Go.Proofs.Try.prog [100025, 38, 52] 55 = some (eraseF c55) := by kernel_rfl
def p35_1 : List PO := [⟨(.some 4), (.mov (.const (.bool .false))), .none⟩]
def p35_2 : List PO := [⟨(.some 5), (.mov (.tmp 0)), .none⟩, ⟨(.some 6), (.mov (.tmp 1)), .none⟩, ⟨(.some 7), (.call 55 [(.tmp 5), (.tmp 6)]), .none⟩, ⟨(.some 8), (.cmpI .geq (.tmp 7) (.const (.int .i64 0))), .none⟩, ⟨(.some 4), (.mov (.tmp 8)), .none⟩]
def c35_b : PCode := (.seq (.reg p35_1) (.seq (.reg p35_2) .ret))
def c35 : FCode := ⟨9, c35_b, [(.tmp 4)], some ([4], [], []), false⟩
theorem c35_ok : compF Go.Proofs.Try.prog [100025, 38, 52] 35 = some (eraseF c35) := by kernel_rfl
def p13_1 : List PO := [⟨(.some 3), (.box 3 (.tmp 0)), .none⟩, ⟨(.some 6), (.mov (.const (.bool .false))), .none⟩]
def p13_2 : List PO := [⟨(.some 14), (.load .true 3 (.tmp 3)), .none⟩, ⟨(.some 15), (.mov (.tmp 1)), .none⟩, ⟨(.some 16), (.call 32 [(.tmp 14), (.tmp 15)]), .none⟩, ⟨(.some 13), (.mov (.tmp 16)), .none⟩, ⟨(.some 17), (.ext (.tmp 13) 0), .none⟩, ⟨(.some 18), (.ext (.tmp 13) 1), .none⟩, ⟨(.some 7), (.alloc [(3, (.int .i64 0))]), .none⟩, ⟨.none, (.store 3 (.tmp 7) (.tmp 17)), .none⟩, ⟨(.some 8), (.mov (.tmp 18)), .none⟩]
def p13_3 : List PO := [⟨(.some 20), (.load .true 3 (.tmp 7)), .none⟩, ⟨(.some 21), (.mov (.tmp 2)), .none⟩, ⟨(.some 22), (.call 32 [(.tmp 20), (.tmp 21)]), .none⟩, ⟨(.some 19), (.mov (.tmp 22)), .none⟩, ⟨(.some 23), (.ext (.tmp 19) 0), .none⟩, ⟨(.some 24), (.ext (.tmp 19) 1), .none⟩, ⟨(.some 9), (.alloc [(3, (.int .i64 0))]), .none⟩, ⟨.none, (.store 3 (.tmp 9) (.tmp 23)), .none⟩, ⟨(.some 10), (.mov (.tmp 24)), .none⟩]
def p13_4 : List PO := [⟨(.some 26), (.load .true 3 (.tmp 3)), .none⟩, ⟨(.some 27), (.mov (.tmp 1)), .none⟩, ⟨(.some 28), (.call 34 [(.tmp 27)]), .none⟩, ⟨(.some 29), (.mov (.tmp 2)), .none⟩, ⟨(.some 30), (.app 3 1 8 (.tmp 28) (.tmp 29)), .none⟩, ⟨(.some 31), (.call 32 [(.tmp 26), (.tmp 30)]), .none⟩, ⟨(.some 25), (.mov (.tmp 31)), .none⟩, ⟨(.some 32), (.ext (.tmp 25) 0), .none⟩, ⟨(.some 33), (.ext (.tmp 25) 1), .none⟩, ⟨(.some 11), (.alloc [(3, (.int .i64 0))]), .none⟩, ⟨.none, (.store 3 (.tmp 11) (.tmp 32)), .none⟩, ⟨(.some 12), (.mov (.tmp 33)), .none⟩]
def p13_5 : List PO := [⟨(.some 34), (.call 30 []), .none⟩, ⟨(.some 35), (.un .not (.tmp 34)), .none⟩, ⟨(.some 36), (.mov (.tmp 35)), .none⟩, ⟨(.some 37), (.mov (.tmp 8)), (.some (36, .false))⟩, ⟨(.some 38), (.cmpI .neq (.tmp 37) (.const (.int .i64 0))), (.some (36, .false))⟩, ⟨(.some 39), (.pick (.tmp 36) (.const (.bool .true)) (.tmp 38)), .none⟩, ⟨(.some 40), (.mov (.tmp 39)), .none⟩, ⟨(.some 41), (.mov (.tmp 10)), (.some (40, .false))⟩, ⟨(.some 42), (.cmpI .neq (.tmp 41) (.const (.int .i64 0))), (.some (40, .false))⟩, ⟨(.some 43), (.pick (.tmp 40) (.const (.bool .true)) (.tmp 42)), .none⟩, ⟨(.some 44), (.mov (.tmp 43)), .none⟩, ⟨(.some 45), (.mov (.tmp 12)), (.some (44, .false))⟩, ⟨(.some 46), (.cmpI .neq (.tmp 45) (.const (.int .i64 0))), (.some (44, .false))⟩, ⟨(.some 47), (.pick (.tmp 44) (.const (.bool .true)) (.tmp 46)), .none⟩, ⟨(.some 48), (.mov (.tmp 47)), .none⟩, ⟨(.some 49), (.mov (.tmp 1)), (.some (48, .false))⟩, ⟨(.some 50), (.call 35 [(.tmp 49), (.const (.int .i64 38))]), (.some (48, .false))⟩, ⟨(.some 51), (.pick (.tmp 48) (.const (.bool .true)) (.tmp 50)), .none⟩, ⟨(.some 52), (.mov (.tmp 51)), .none⟩, ⟨(.some 53), (.mov (.tmp 1)), (.some (52, .false))⟩, ⟨(.some 54), (.call 35 [(.tmp 53), (.const (.int .i64 48))]), (.some (52, .false))⟩, ⟨(.some 55), (.pick (.tmp 52) (.const (.bool .true)) (.tmp 54)), .none⟩]
def p13_6 : List PO := [⟨(.some 56), (.call 30 []), .none⟩, ⟨(.some 6), (.mov (.tmp 56)), .none⟩]
def p13_7 : List PO := [⟨(.some 57), (.load .true 3 (.tmp 9)), .none⟩, ⟨(.some 58), (.load .true 3 (.tmp 11)), .none⟩, ⟨(.some 59), (.eqA .false [(3, .int)] (.tmp 57) (.tmp 58)), .none⟩, ⟨(.some 6), (.mov (.tmp 59)), .none⟩]
def c13_8 : PCode := (.seq (.reg p13_2) (.seq (.reg p13_3) (.seq (.regD p13_4 [(0, 2), (0, 4), (0, 9), (2, 9), (4, 9), (5, 9)]) (.seq (.seq (.reg p13_5) (.cond (.tmp 55) (.seq (.reg p13_6) .ret) .skip)) (.seq (.reg p13_7) .ret)))))
def c13_b : PCode := (.seq (.reg p13_1) c13_8)
def c13 : FCode := ⟨60, c13_b, [(.tmp 6)], some ([6], [], []), false⟩
theorem c13_ok : compF Go.Proofs.Try.prog [100025, 38, 52] 13 = some (eraseF c13) := by kernel_rfl
def codes : Nat → Option FCode
  | 10 => some c10
  | 11 => some c11
  | 12 => some c12
  | 13 => some c13
  | 29 => some c29
  | 30 => some c30
  | 31 => some c31
  | 32 => some c32
  | 33 => some c33
  | 34 => some c34
  | 35 => some c35
  | 44 => some c44
  | 46 => some c46
  | 47 => some c47
  | 48 => some c48
  | 49 => some c49
  | 50 => some c50
  | 51 => some c51
  | 52 => some c52
  | 53 => some c53
  | 54 => some c54
  | 55 => some c55
  | 61 => some c61
  | 62 => some c62
  | _ => none
theorem codes_ok : ∀ f fc, codes f = some fc → compF Go.Proofs.Try.prog [100025, 38, 52] f = some (eraseF fc) := by
  intro f fc h
  unfold codes at h
  split at h
  · cases h; exact c10_ok
  · cases h; exact c11_ok
  · cases h; exact c12_ok
  · cases h; exact c13_ok
  · cases h; exact c29_ok
  · cases h; exact c30_ok
  · cases h; exact c31_ok
  · cases h; exact c32_ok
  · cases h; exact c33_ok
  · cases h; exact c34_ok
  · cases h; exact c35_ok
  · cases h; exact c44_ok
  · cases h; exact c46_ok
  · cases h; exact c47_ok
  · cases h; exact c48_ok
  · cases h; exact c49_ok
  · cases h; exact c50_ok
  · cases h; exact c51_ok
  · cases h; exact c52_ok
  · cases h; exact c53_ok
  · cases h; exact c54_ok
  · cases h; exact c55_ok
  · cases h; exact c61_ok
  · cases h; exact c62_ok
  · cases h
theorem codes10 : codes 10 = some c10 := rfl
theorem codes11 : codes 11 = some c11 := rfl
theorem codes12 : codes 12 = some c12 := rfl
theorem codes13 : codes 13 = some c13 := rfl
theorem codes29 : codes 29 = some c29 := rfl
theorem codes30 : codes 30 = some c30 := rfl
theorem codes31 : codes 31 = some c31 := rfl
theorem codes32 : codes 32 = some c32 := rfl
theorem codes33 : codes 33 = some c33 := rfl
theorem codes34 : codes 34 = some c34 := rfl
theorem codes35 : codes 35 = some c35 := rfl
theorem codes44 : codes 44 = some c44 := rfl
theorem codes46 : codes 46 = some c46 := rfl
theorem codes47 : codes 47 = some c47 := rfl
theorem codes48 : codes 48 = some c48 := rfl
theorem codes49 : codes 49 = some c49 := rfl
theorem codes50 : codes 50 = some c50 := rfl
theorem codes51 : codes 51 = some c51 := rfl
theorem codes52 : codes 52 = some c52 := rfl
theorem codes53 : codes 53 = some c53 := rfl
theorem codes54 : codes 54 = some c54 := rfl
theorem codes55 : codes 55 = some c55 := rfl
theorem codes61 : codes 61 = some c61 := rfl
theorem codes62 : codes 62 = some c62 := rfl
end Go.Proofs.Ytphbfciikjkkfaa.Pm
