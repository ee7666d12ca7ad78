/- The small machine's codes of some functions. Printed by dec.py. -/
import Derived.Test.YtgokbjnpjjdboaaPa
import Derived.Test.YtgokbjnpjjdboaaProg
namespace Go.Proofs.Ytgokbjnpjjdboaa.Pm
set_option maxRecDepth 1000000
set_option maxHeartbeats 20000000
set_option linter.unusedVariables false
structure GKeys where
  Levels : Nat → UInt8
  Chars : Nat → UInt8
def p36_5 : List PO := [⟨(.some 1), (.box 38 (.tmp 0)), .none⟩, ⟨(.some 2), (.mov (.const (.int .i64 0))), .none⟩]
def p36_6 : List PO := [⟨(.some 5), (.fld 0 (.tmp 1)), .none⟩, ⟨(.some 6), (.load .true 19 (.tmp 5)), .none⟩, ⟨(.some 7), (.mov (.const (.int .i64 0))), .none⟩]
def p36_7 : List PO := [⟨(.some 8), (.cmpI .lss (.tmp 7) (.const (.int .i64 19))), .none⟩]
def p36_8 : List PO := [⟨(.some 9), (.ixV .false 19 1 (.tmp 6) (.tmp 7)), .none⟩, ⟨(.some 4), (.mov (.tmp 9)), .none⟩]
def p36_9 : List PO := [⟨(.some 10), (.mov (.tmp 4)), .none⟩, ⟨(.some 11), (.cmpI .gtr (.tmp 10) (.const (.int .u8 2))), .none⟩]
def p36_10 : List PO := [⟨(.some 2), (.mov (.const (.int .i64 4))), .none⟩]
def p36_11 : List PO := [⟨(.some 12), (.arI .add (.tmp 7) (.const (.int .i64 1))), .none⟩, ⟨(.some 7), (.mov (.tmp 12)), .none⟩]
def c36_2 : PCode := (.keep [1, 6, 7] [(16, .id 16)] [] (.seq (.block 1 (.seq (.reg p36_8) (.seq (.reg p36_9) (.cond (.tmp 11) (.seq (.reg p36_10) .ret) .skip)))) (.reg p36_11)))
def c36_3 : PCode := (.keep [1, 6, 7, 8] [(16, .id 16)] [] (.seq (.cond (.tmp 8) .skip (.keep [1] [(16, .id 16)] [] (.exit 0))) c36_2))
def c36_4 : PCode := (.keep [1, 6, 7] [(16, .id 16)] [] (.seq (.reg p36_7) c36_3))
def p36_12 : List PO := [⟨(.some 13), (.fld 0 (.tmp 1)), .none⟩, ⟨(.some 14), (.ixA 19 1 (.tmp 13) (.const (.int .i64 0))), .none⟩, ⟨(.some 15), (.load .false 1 (.tmp 14)), .none⟩, ⟨(.some 16), (.cmpI .neq (.tmp 15) (.const (.int .u8 0))), .none⟩, ⟨(.some 17), (.mov (.tmp 16)), .none⟩, ⟨(.some 18), (.fld 19 (.tmp 1)), (.some (17, .false))⟩, ⟨(.some 19), (.ixA 19 1 (.tmp 18) (.const (.int .i64 0))), (.some (17, .false))⟩, ⟨(.some 20), (.load .false 1 (.tmp 19)), (.some (17, .false))⟩, ⟨(.some 21), (.cmpI .neq (.tmp 20) (.const (.int .u8 0))), (.some (17, .false))⟩, ⟨(.some 22), (.pick (.tmp 17) (.const (.bool .true)) (.tmp 21)), .none⟩]
def p36_13 : List PO := [⟨(.some 2), (.mov (.const (.int .i64 4))), .none⟩]
def p36_14 : List PO := [⟨(.some 2), (.mov (.const (.int .i64 0))), .none⟩]
def c36_1 : PCode := (.keep [1] [(16, .id 16)] [] (.seq (.seq (.reg p36_12) (.cond (.tmp 22) (.seq (.reg p36_13) .ret) .skip)) (.seq (.reg p36_14) .ret)))
def c36_b : PCode := (.seq (.reg p36_5) (.seq (.seq (.reg p36_6) (.block 0 (.loop c36_4))) c36_1))
def c36 : FCode := ⟨23, c36_b, [(.tmp 2)], some ([2], [], []), false⟩
theorem c36_ok : compF Go.Proofs.Try.prog [37] 36 = some (eraseF c36) := by kernel_rfl
def p38_3 : List PO := [⟨(.some 1), (.box 38 (.tmp 0)), .none⟩, ⟨(.some 2), (.mov (.const (.string ⟨#[]⟩))), .none⟩]
def p38_4 : List PO := [⟨(.some 3), (.nilS 5 1), .none⟩]
def p38_5 : List PO := [⟨(.some 4), (.mov (.const (.int .i64 1))), .none⟩]
def p38_6 : List PO := [⟨(.some 5), (.mov (.tmp 4)), .none⟩, ⟨(.some 6), (.cmpI .leq (.tmp 5) (.const (.int .i64 18))), .none⟩]
def p38_7 : List PO := [⟨(.some 9), (.mov (.tmp 3)), .none⟩, ⟨(.some 10), (.mov (.tmp 4)), .none⟩, ⟨(.some 11), (.cvI .u8 (.tmp 10)), .none⟩, ⟨(.some 12), (.mov (.tmp 4)), .none⟩, ⟨(.some 13), (.fld 0 (.tmp 1)), .none⟩, ⟨(.some 14), (.ixA 19 1 (.tmp 13) (.tmp 12)), .none⟩, ⟨(.some 15), (.load .false 1 (.tmp 14)), .none⟩, ⟨(.some 16), (.mov (.tmp 4)), .none⟩, ⟨(.some 17), (.fld 19 (.tmp 1)), .none⟩, ⟨(.some 18), (.ixA 19 1 (.tmp 17) (.tmp 16)), .none⟩, ⟨(.some 19), (.load .false 1 (.tmp 18)), .none⟩, ⟨(.some 20), (.bsl 5 1 3 [(3, (.int .u8 0))] [(0, (1, (.tmp 11))), (1, (1, (.tmp 15))), (2, (1, (.tmp 19)))]), .none⟩, ⟨(.some 21), (.app 5 1 1 (.tmp 9) (.tmp 20)), .none⟩, ⟨(.some 3), (.mov (.tmp 21)), .none⟩]
def p38_8 : List PO := [⟨(.some 7), (.mov (.tmp 4)), .none⟩, ⟨(.some 8), (.arI .add (.tmp 7) (.const (.int .i64 1))), .none⟩, ⟨(.some 4), (.mov (.tmp 8)), .none⟩]
def c38_1 : PCode := (.keep [1, 3, 4] [(16, .id 16), (32, .id 32)] [] (.seq (.block 1 (.regD p38_7 [])) (.reg p38_8)))
def c38_2 : PCode := (.keep [1, 3, 4] [(16, .id 16), (32, .id 32)] [] (.seq (.seq (.reg p38_6) (.cond (.tmp 6) .skip (.keep [3] [(32, .id 32)] [] (.exit 0)))) c38_1))
def p38_9 : List PO := [⟨(.some 22), (.mov (.tmp 3)), .none⟩, ⟨(.some 23), (.cvBS (.tmp 22)), .none⟩, ⟨(.some 2), (.mov (.tmp 23)), .none⟩]
def c38_b : PCode := (.seq (.reg p38_3) (.seq (.reg p38_4) (.seq (.seq (.reg p38_5) (.block 0 (.loop c38_2))) (.seq (.reg p38_9) .ret))))
def c38 : FCode := ⟨24, c38_b, [(.tmp 2)], some ([2], [], []), false⟩
theorem c38_ok : compF Go.Proofs.Try.prog [37] 38 = some (eraseF c38) := by kernel_rfl
def p37_6 : List PO := [⟨(.some 8), (.nilS 5 1), .none⟩]
def p37_7 : List PO := [⟨(.some 11), (.mov (.tmp 2)), .none⟩, ⟨(.some 12), (.arI .rem (.tmp 11) (.const (.int .u8 4))), .none⟩, ⟨(.some 13), (.mov (.tmp 2)), .none⟩, ⟨(.some 14), (.cmpI .geq (.tmp 13) (.const (.int .u8 128))), .none⟩, ⟨(.some 9), (.mov (.tmp 12)), .none⟩, ⟨(.some 10), (.mov (.tmp 14)), .none⟩]
def p37_8 : List PO := [⟨(.some 16), (.mov (.tmp 1)), .none⟩, ⟨(.some 17), (.cmpI .lss (.tmp 16) (.const (.int .u8 1))), .none⟩, ⟨(.some 18), (.mov (.tmp 17)), .none⟩, ⟨(.some 19), (.mov (.tmp 1)), (.some (18, .false))⟩, ⟨(.some 20), (.cmpI .gtr (.tmp 19) (.const (.int .u8 18))), (.some (18, .false))⟩, ⟨(.some 21), (.pick (.tmp 18) (.const (.bool .true)) (.tmp 20)), .none⟩, ⟨(.some 15), (.mov (.tmp 21)), .none⟩]
def p37_9 : List PO := [⟨(.some 22), (.mov (.tmp 10)), .none⟩]
def p37_10 : List PO := [⟨(.some 8), (.nilS 5 1), .none⟩]
def p37_11 : List PO := [⟨(.some 23), (.mov (.tmp 1)), .none⟩, ⟨(.some 24), (.bsl 5 1 3 [(3, (.int .u8 0))] [(0, (1, (.tmp 23))), (1, (1, (.const (.int .u8 0)))), (2, (1, (.const (.int .u8 0))))]), .none⟩, ⟨(.some 8), (.mov (.tmp 24)), .none⟩]
def c37_2 : PCode := (.keep [1, 10] [(0, .id 0)] [] (.seq (.seq (.reg p37_9) (.cond (.tmp 22) (.seq (.reg p37_10) .ret) .skip)) (.seq (.reg p37_11) .ret)))
def p37_12 : List PO := [⟨(.some 26), (.mov (.tmp 9)), .none⟩, ⟨(.some 27), (.mov (.tmp 0)), .none⟩, ⟨(.some 28), (.mov (.tmp 1)), .none⟩, ⟨(.some 29), (.nilC (.tmp 27)), .none⟩, ⟨(.some 30), (.fld 0 (.tmp 29)), .none⟩, ⟨(.some 31), (.ixA 19 1 (.tmp 30) (.tmp 28)), .none⟩, ⟨(.some 32), (.load .false 1 (.tmp 31)), .none⟩, ⟨(.some 33), (.cmpI .eql (.tmp 26) (.tmp 32)), .none⟩, ⟨(.some 34), (.mov (.tmp 33)), .none⟩, ⟨(.some 35), (.mov (.tmp 3)), (.some (34, .true))⟩, ⟨(.some 36), (.mov (.tmp 0)), (.some (34, .true))⟩, ⟨(.some 37), (.mov (.tmp 1)), (.some (34, .true))⟩, ⟨(.some 38), (.nilC (.tmp 36)), (.some (34, .true))⟩, ⟨(.some 39), (.fld 19 (.tmp 38)), (.some (34, .true))⟩, ⟨(.some 40), (.ixA 19 1 (.tmp 39) (.tmp 37)), (.some (34, .true))⟩, ⟨(.some 41), (.load .false 1 (.tmp 40)), (.some (34, .true))⟩, ⟨(.some 42), (.cmpI .eql (.tmp 35) (.tmp 41)), (.some (34, .true))⟩, ⟨(.some 43), (.pick (.tmp 34) (.tmp 42) (.const (.bool .false))), .none⟩, ⟨(.some 25), (.mov (.tmp 43)), .none⟩]
def p37_13 : List PO := [⟨(.some 8), (.nilS 5 1), .none⟩]
def p37_14 : List PO := [⟨(.some 45), (.mov (.tmp 10)), .none⟩, ⟨(.some 44), (.mov (.tmp 45)), .none⟩]
def p37_15 : List PO := [⟨(.some 46), (.mov (.tmp 9)), .none⟩, ⟨(.some 47), (.cmpI .neq (.tmp 46) (.const (.int .u8 3))), .none⟩]
def p37_16 : List PO := [⟨(.some 48), (.mov (.tmp 0)), .none⟩, ⟨(.some 49), (.mov (.tmp 1)), .none⟩, ⟨(.some 50), (.mov (.tmp 0)), .none⟩, ⟨(.some 51), (.mov (.tmp 1)), .none⟩, ⟨(.some 52), (.mov (.tmp 9)), .none⟩, ⟨(.some 53), (.mov (.tmp 3)), .none⟩, ⟨(.some 54), (.nilC (.tmp 48)), .none⟩, ⟨(.some 55), (.fld 0 (.tmp 54)), .none⟩, ⟨(.some 56), (.ixA 19 1 (.tmp 55) (.tmp 49)), .none⟩, ⟨.none, (.store 1 (.tmp 56) (.tmp 52)), .none⟩, ⟨(.some 57), (.nilC (.tmp 50)), .none⟩, ⟨(.some 58), (.fld 19 (.tmp 57)), .none⟩, ⟨(.some 59), (.ixA 19 1 (.tmp 58) (.tmp 51)), .none⟩, ⟨.none, (.store 1 (.tmp 59) (.tmp 53)), .none⟩]
def p37_17 : List PO := [⟨(.some 8), (.nilS 5 1), .none⟩]
def p37_18 : List PO := [⟨(.some 61), (.mov (.tmp 9)), .none⟩, ⟨(.some 62), (.cmpI .eql (.tmp 61) (.const (.int .u8 0))), .none⟩, ⟨(.some 60), (.mov (.tmp 62)), .none⟩]
def p37_19 : List PO := [⟨(.some 63), (.mov (.tmp 0)), .none⟩, ⟨(.some 64), (.mov (.tmp 1)), .none⟩, ⟨(.some 65), (.mov (.tmp 0)), .none⟩, ⟨(.some 66), (.mov (.tmp 1)), .none⟩, ⟨(.some 67), (.mov (.tmp 3)), .none⟩, ⟨(.some 68), (.nilC (.tmp 63)), .none⟩, ⟨(.some 69), (.fld 0 (.tmp 68)), .none⟩, ⟨(.some 70), (.ixA 19 1 (.tmp 69) (.tmp 64)), .none⟩, ⟨.none, (.store 1 (.tmp 70) (.const (.int .u8 0))), .none⟩, ⟨(.some 71), (.nilC (.tmp 65)), .none⟩, ⟨(.some 72), (.fld 19 (.tmp 71)), .none⟩, ⟨(.some 73), (.ixA 19 1 (.tmp 72) (.tmp 66)), .none⟩, ⟨.none, (.store 1 (.tmp 73) (.tmp 67)), .none⟩]
def p37_20 : List PO := [⟨(.some 74), (.mov (.tmp 1)), .none⟩, ⟨(.some 75), (.mov (.tmp 3)), .none⟩, ⟨(.some 76), (.bsl 5 1 3 [(3, (.int .u8 0))] [(0, (1, (.tmp 74))), (1, (1, (.const (.int .u8 128)))), (2, (1, (.tmp 75)))]), .none⟩, ⟨(.some 8), (.mov (.tmp 76)), .none⟩]
def p37_21 : List PO := [⟨(.some 78), (.mov (.tmp 9)), .none⟩, ⟨(.some 79), (.cmpI .eql (.tmp 78) (.const (.int .u8 3))), .none⟩, ⟨(.some 77), (.mov (.tmp 79)), .none⟩]
def p37_22 : List PO := [⟨(.some 80), (.mov (.tmp 1)), .none⟩, ⟨(.some 81), (.mov (.tmp 0)), .none⟩, ⟨(.some 82), (.mov (.tmp 1)), .none⟩, ⟨(.some 83), (.nilC (.tmp 81)), .none⟩, ⟨(.some 84), (.fld 0 (.tmp 83)), .none⟩, ⟨(.some 85), (.ixA 19 1 (.tmp 84) (.tmp 82)), .none⟩, ⟨(.some 86), (.load .false 1 (.tmp 85)), .none⟩, ⟨(.some 87), (.mov (.tmp 0)), .none⟩, ⟨(.some 88), (.mov (.tmp 1)), .none⟩, ⟨(.some 89), (.nilC (.tmp 87)), .none⟩, ⟨(.some 90), (.fld 19 (.tmp 89)), .none⟩, ⟨(.some 91), (.ixA 19 1 (.tmp 90) (.tmp 88)), .none⟩, ⟨(.some 92), (.load .false 1 (.tmp 91)), .none⟩, ⟨(.some 93), (.bsl 5 1 3 [(3, (.int .u8 0))] [(0, (1, (.tmp 80))), (1, (1, (.tmp 86))), (2, (1, (.tmp 92)))]), .none⟩, ⟨(.some 8), (.mov (.tmp 93)), .none⟩]
def p37_23 : List PO := [⟨(.some 95), (.mov (.tmp 0)), .none⟩, ⟨(.some 96), (.mov (.tmp 1)), .none⟩, ⟨(.some 97), (.nilC (.tmp 95)), .none⟩, ⟨(.some 98), (.fld 0 (.tmp 97)), .none⟩, ⟨(.some 99), (.ixA 19 1 (.tmp 98) (.tmp 96)), .none⟩, ⟨(.some 100), (.load .false 1 (.tmp 99)), .none⟩, ⟨(.some 101), (.cmpI .eql (.tmp 100) (.const (.int .u8 1))), .none⟩, ⟨(.some 102), (.mov (.tmp 101)), .none⟩, ⟨(.some 103), (.mov (.tmp 9)), (.some (102, .true))⟩, ⟨(.some 104), (.cmpI .eql (.tmp 103) (.const (.int .u8 1))), (.some (102, .true))⟩, ⟨(.some 105), (.pick (.tmp 102) (.tmp 104) (.const (.bool .false))), .none⟩, ⟨(.some 94), (.mov (.tmp 105)), .none⟩]
def p37_24 : List PO := [⟨(.some 106), (.mov (.tmp 0)), .none⟩, ⟨(.some 107), (.mov (.tmp 1)), .none⟩, ⟨(.some 108), (.mov (.tmp 0)), .none⟩, ⟨(.some 109), (.mov (.tmp 1)), .none⟩, ⟨(.some 110), (.nilC (.tmp 106)), .none⟩, ⟨(.some 111), (.fld 0 (.tmp 110)), .none⟩, ⟨(.some 112), (.ixA 19 1 (.tmp 111) (.tmp 107)), .none⟩, ⟨.none, (.store 1 (.tmp 112) (.const (.int .u8 0))), .none⟩, ⟨(.some 113), (.nilC (.tmp 108)), .none⟩, ⟨(.some 114), (.fld 19 (.tmp 113)), .none⟩, ⟨(.some 115), (.ixA 19 1 (.tmp 114) (.tmp 109)), .none⟩, ⟨.none, (.store 1 (.tmp 115) (.const (.int .u8 0))), .none⟩]
def p37_25 : List PO := [⟨(.some 116), (.mov (.tmp 1)), .none⟩, ⟨(.some 117), (.bsl 5 1 3 [(3, (.int .u8 0))] [(0, (1, (.tmp 116))), (1, (1, (.const (.int .u8 0)))), (2, (1, (.const (.int .u8 0))))]), .none⟩, ⟨(.some 8), (.mov (.tmp 117)), .none⟩]
def p37_26 : List PO := [⟨(.some 119), (.mov (.tmp 0)), .none⟩, ⟨(.some 120), (.mov (.tmp 1)), .none⟩, ⟨(.some 121), (.nilC (.tmp 119)), .none⟩, ⟨(.some 122), (.fld 0 (.tmp 121)), .none⟩, ⟨(.some 123), (.ixA 19 1 (.tmp 122) (.tmp 120)), .none⟩, ⟨(.some 124), (.load .false 1 (.tmp 123)), .none⟩, ⟨(.some 125), (.cmpI .eql (.tmp 124) (.const (.int .u8 1))), .none⟩, ⟨(.some 118), (.mov (.tmp 125)), .none⟩]
def p37_27 : List PO := [⟨(.some 126), (.mov (.tmp 1)), .none⟩, ⟨(.some 127), (.mov (.tmp 0)), .none⟩, ⟨(.some 128), (.mov (.tmp 1)), .none⟩, ⟨(.some 129), (.nilC (.tmp 127)), .none⟩, ⟨(.some 130), (.fld 19 (.tmp 129)), .none⟩, ⟨(.some 131), (.ixA 19 1 (.tmp 130) (.tmp 128)), .none⟩, ⟨(.some 132), (.load .false 1 (.tmp 131)), .none⟩, ⟨(.some 133), (.bsl 5 1 3 [(3, (.int .u8 0))] [(0, (1, (.tmp 126))), (1, (1, (.const (.int .u8 1)))), (2, (1, (.tmp 132)))]), .none⟩, ⟨(.some 8), (.mov (.tmp 133)), .none⟩]
def c37_3 : PCode := (.keep [0, 1, 3, 9] [(0, .id 0)] [] (.seq (.reg p37_26) (.cond (.tmp 118) (.seq (.reg p37_27) .ret) .skip)))
def c37_28 : PCode := (.cond (.tmp 60) (.seq (.regD p37_19 []) (.seq (.reg p37_20) .ret)) (.seq (.reg p37_21) (.cond (.tmp 77) (.seq (.regD p37_22 []) .ret) (.seq (.reg p37_23) (.cond (.tmp 94) (.seq (.regD p37_24 []) (.seq (.reg p37_25) .ret)) c37_3)))))
def c37_4 : PCode := (.keep [0, 1, 3, 9, 10] [(0, .id 0)] [] (.seq (.reg p37_14) (.cond (.tmp 44) (.seq (.seq (.reg p37_15) (.cond (.tmp 47) (.regD p37_16 []) .skip)) (.seq (.reg p37_17) .ret)) (.seq (.reg p37_18) c37_28))))
def p37_29 : List PO := [⟨(.some 134), (.mov (.tmp 0)), .none⟩, ⟨(.some 135), (.mov (.tmp 1)), .none⟩, ⟨(.some 136), (.mov (.tmp 0)), .none⟩, ⟨(.some 137), (.mov (.tmp 1)), .none⟩, ⟨(.some 138), (.mov (.tmp 9)), .none⟩, ⟨(.some 139), (.mov (.tmp 3)), .none⟩, ⟨(.some 140), (.nilC (.tmp 134)), .none⟩, ⟨(.some 141), (.fld 0 (.tmp 140)), .none⟩, ⟨(.some 142), (.ixA 19 1 (.tmp 141) (.tmp 135)), .none⟩, ⟨.none, (.store 1 (.tmp 142) (.tmp 138)), .none⟩, ⟨(.some 143), (.nilC (.tmp 136)), .none⟩, ⟨(.some 144), (.fld 19 (.tmp 143)), .none⟩, ⟨(.some 145), (.ixA 19 1 (.tmp 144) (.tmp 137)), .none⟩, ⟨.none, (.store 1 (.tmp 145) (.tmp 139)), .none⟩]
def p37_30 : List PO := [⟨(.some 146), (.mov (.tmp 1)), .none⟩, ⟨(.some 147), (.mov (.tmp 9)), .none⟩, ⟨(.some 148), (.arI .add (.const (.int .u8 128)) (.tmp 147)), .none⟩, ⟨(.some 149), (.mov (.tmp 3)), .none⟩, ⟨(.some 150), (.bsl 5 1 3 [(3, (.int .u8 0))] [(0, (1, (.tmp 146))), (1, (1, (.tmp 148))), (2, (1, (.tmp 149)))]), .none⟩, ⟨(.some 8), (.mov (.tmp 150)), .none⟩]
def c37_1 : PCode := (.keep [0, 1, 3, 9] [(0, .id 0)] [] (.seq (.regD p37_29 []) (.seq (.reg p37_30) .ret)))
def c37_5 : PCode := (.keep [0, 1, 3, 9, 10] [(0, .id 0)] [] (.seq (.block 0 (.seq (.reg p37_8) (.cond (.tmp 15) c37_2 (.seq (.reg p37_12) (.cond (.tmp 25) (.seq (.reg p37_13) .ret) c37_4))))) c37_1))
def c37_b : PCode := (.seq (.reg p37_6) (.seq (.reg p37_7) c37_5))
def c37 : FCode := ⟨151, c37_b, [(.tmp 8)], some ([8], [(0, .id 0), (1241, (.slot 8 none))], []), false⟩
theorem c37_ok : compF Go.Proofs.Try.prog [37] 37 = some (eraseF c37) := by kernel_rfl
def p26_6 : List PO := [⟨(.some 2), (.box 38 (.tmp 0)), .none⟩, ⟨(.some 4), (.alloc [(38, (.int .u8 0))]), .none⟩, ⟨(.some 5), (.mov (.const (.string ⟨#[]⟩))), .none⟩, ⟨(.some 6), (.mov (.const (.int .i64 0))), .none⟩]
def p26_7 : List PO := [⟨(.some 10), (.load .true 38 (.tmp 2)), .none⟩, ⟨(.some 11), (.call 36 [(.tmp 10)]), .none⟩, ⟨(.some 7), (.mov (.tmp 11)), .none⟩]
def p26_8 : List PO := [⟨(.some 12), (.mov (.tmp 7)), .none⟩, ⟨(.some 13), (.cmpI .neq (.tmp 12) (.const (.int .i64 0))), .none⟩]
def p26_9 : List PO := [⟨(.some 14), (.load .true 38 (.tmp 2)), .none⟩, ⟨(.some 15), (.mov (.tmp 7)), .none⟩, ⟨.none, (.store 38 (.tmp 4) (.tmp 14)), .none⟩, ⟨(.some 5), (.mov (.const (.string ⟨#[]⟩))), .none⟩, ⟨(.some 6), (.mov (.tmp 15)), .none⟩]
def p26_10 : List PO := [⟨(.some 16), (.mov (.tmp 1)), .none⟩, ⟨(.some 17), (.len .true (.tmp 16)), .none⟩, ⟨(.some 18), (.arI .rem (.tmp 17) (.const (.int .i64 3))), .none⟩, ⟨(.some 19), (.cmpI .neq (.tmp 18) (.const (.int .i64 0))), .none⟩]
def p26_11 : List PO := [⟨(.some 20), (.load .true 38 (.tmp 2)), .none⟩, ⟨.none, (.store 38 (.tmp 4) (.tmp 20)), .none⟩, ⟨(.some 5), (.mov (.const (.string ⟨#[]⟩))), .none⟩, ⟨(.some 6), (.mov (.const (.int .i64 4))), .none⟩]
def p26_12 : List PO := [⟨(.some 21), (.mov (.tmp 1)), .none⟩, ⟨(.some 22), (.len .true (.tmp 21)), .none⟩, ⟨(.some 23), (.cmpI .gtr (.tmp 22) (.const (.int .i64 300))), .none⟩]
def p26_13 : List PO := [⟨(.some 24), (.load .true 38 (.tmp 2)), .none⟩, ⟨.none, (.store 38 (.tmp 4) (.tmp 24)), .none⟩, ⟨(.some 5), (.mov (.const (.string ⟨#[]⟩))), .none⟩, ⟨(.some 6), (.mov (.const (.int .i64 2))), .none⟩]
def p26_14 : List PO := [⟨(.some 8), (.nilS 5 1), .none⟩]
def p26_15 : List PO := [⟨(.some 9), (.mov (.const (.int .i64 0))), .none⟩]
def p26_16 : List PO := [⟨(.some 25), (.mov (.tmp 9)), .none⟩, ⟨(.some 26), (.mov (.tmp 1)), .none⟩, ⟨(.some 27), (.len .true (.tmp 26)), .none⟩, ⟨(.some 28), (.cmpI .lss (.tmp 25) (.tmp 27)), .none⟩]
def p26_17 : List PO := [⟨(.some 31), (.mov (.tmp 8)), .none⟩, ⟨(.some 32), (.mov (.tmp 1)), .none⟩, ⟨(.some 33), (.mov (.tmp 9)), .none⟩, ⟨(.some 34), (.ixStr (.tmp 32) (.tmp 33)), .none⟩, ⟨(.some 35), (.mov (.tmp 1)), .none⟩, ⟨(.some 36), (.mov (.tmp 9)), .none⟩, ⟨(.some 37), (.arI .add (.tmp 36) (.const (.int .i64 1))), .none⟩, ⟨(.some 38), (.ixStr (.tmp 35) (.tmp 37)), .none⟩, ⟨(.some 39), (.mov (.tmp 1)), .none⟩, ⟨(.some 40), (.mov (.tmp 9)), .none⟩, ⟨(.some 41), (.arI .add (.tmp 40) (.const (.int .i64 2))), .none⟩, ⟨(.some 42), (.ixStr (.tmp 39) (.tmp 41)), .none⟩, ⟨(.some 43), (.callr 37 [(.tmp 2), (.tmp 34), (.tmp 38), (.tmp 42)]), .none⟩, ⟨(.some 44), (.app 5 1 1 (.tmp 31) (.tmp 43)), .none⟩, ⟨(.some 8), (.mov (.tmp 44)), .none⟩]
def p26_18 : List PO := [⟨(.some 29), (.mov (.tmp 9)), .none⟩, ⟨(.some 30), (.arI .add (.tmp 29) (.const (.int .i64 3))), .none⟩, ⟨(.some 9), (.mov (.tmp 30)), .none⟩]
def c26_1 : PCode := (.keep [1, 2, 4, 8, 9] [(24, .id 24), (40, .id 40), (72, .id 72)] [] (.seq (.block 1 (.regD p26_17 [])) (.reg p26_18)))
def c26_2 : PCode := (.keep [1, 2, 4, 8, 9] [(24, .id 24), (40, .id 40), (72, .id 72)] [] (.seq (.seq (.reg p26_16) (.cond (.tmp 28) .skip (.keep [2, 4, 8] [(24, .id 24), (40, .id 40), (72, .id 72)] [] (.exit 0)))) c26_1))
def p26_19 : List PO := [⟨(.some 45), (.load .true 38 (.tmp 2)), .none⟩, ⟨(.some 46), (.mov (.tmp 8)), .none⟩, ⟨(.some 47), (.cvBS (.tmp 46)), .none⟩, ⟨.none, (.store 38 (.tmp 4) (.tmp 45)), .none⟩, ⟨(.some 5), (.mov (.tmp 47)), .none⟩, ⟨(.some 6), (.mov (.const (.int .i64 0))), .none⟩]
def c26_3 : PCode := (.keep [1, 2, 4] [(24, .id 24), (40, .id 40)] [] (.seq (.reg p26_14) (.seq (.seq (.reg p26_15) (.block 0 (.loop c26_2))) (.seq (.regD p26_19 [(2, 3)]) .ret))))
def c26_4 : PCode := (.keep [1, 2, 4] [(24, .id 24), (40, .id 40)] [] (.seq (.seq (.reg p26_12) (.cond (.tmp 23) (.seq (.reg p26_13) .ret) .skip)) c26_3))
def c26_5 : PCode := (.keep [1, 2, 4] [(24, .id 24), (40, .id 40)] [] (.seq (.seq (.reg p26_10) (.cond (.tmp 19) (.seq (.reg p26_11) .ret) .skip)) c26_4))
def c26_b : PCode := (.seq (.reg p26_6) (.seq (.seq (.reg p26_7) (.seq (.reg p26_8) (.cond (.tmp 13) (.seq (.reg p26_9) .ret) .skip))) c26_5))
def c26 : FCode := ⟨48, c26_b, [(.cell 4 .true 38), (.tmp 5), (.tmp 6)], some ([4, 5, 6], [(40, .id 40)], []), false⟩
theorem c26_ok : compF Go.Proofs.Try.prog [37] 26 = some (eraseF c26) := by kernel_rfl
def p29_9 : List PO := [⟨(.some 2), (.box 38 (.tmp 0)), .none⟩, ⟨(.some 3), (.box 38 (.tmp 1)), .none⟩, ⟨(.some 4), (.alloc [(38, (.int .u8 0))]), .none⟩, ⟨(.some 5), (.alloc [(38, (.int .u8 0))]), .none⟩, ⟨(.some 6), (.mov (.const (.int .i64 0))), .none⟩, ⟨(.some 7), (.mov (.const (.int .i64 0))), .none⟩]
def p29_10 : List PO := [⟨(.some 14), (.load .true 38 (.tmp 2)), .none⟩, ⟨(.some 15), (.load .true 38 (.tmp 3)), .none⟩, ⟨(.some 16), (.build [(76, (.int .u8 0))] [(0, (38, (.tmp 14))), (38, (38, (.tmp 15)))]), .none⟩, ⟨(.some 17), (.mov (.const (.int .i64 0))), .none⟩]
def p29_11 : List PO := [⟨(.some 18), (.cmpI .lss (.tmp 17) (.const (.int .i64 2))), .none⟩]
def p29_12 : List PO := [⟨(.some 19), (.ixV .true 2 38 (.tmp 16) (.tmp 17)), .none⟩, ⟨(.some 9), (.alloc [(38, (.int .u8 0))]), .none⟩, ⟨.none, (.store 38 (.tmp 9) (.tmp 19)), .none⟩]
def p29_13 : List PO := [⟨(.some 20), (.load .true 38 (.tmp 9)), .none⟩, ⟨(.some 21), (.call 36 [(.tmp 20)]), .none⟩, ⟨(.some 10), (.mov (.tmp 21)), .none⟩]
def p29_14 : List PO := [⟨(.some 22), (.mov (.tmp 10)), .none⟩, ⟨(.some 23), (.cmpI .neq (.tmp 22) (.const (.int .i64 0))), .none⟩]
def p29_15 : List PO := [⟨(.some 24), (.build [(38, (.int .u8 0))] []), .none⟩, ⟨(.some 25), (.build [(38, (.int .u8 0))] []), .none⟩, ⟨(.some 26), (.mov (.tmp 10)), .none⟩, ⟨.none, (.store 38 (.tmp 4) (.tmp 24)), .none⟩, ⟨.none, (.store 38 (.tmp 5) (.tmp 25)), .none⟩, ⟨(.some 6), (.mov (.const (.int .i64 0))), .none⟩, ⟨(.some 7), (.mov (.tmp 26)), .none⟩]
def p29_16 : List PO := [⟨(.some 27), (.arI .add (.tmp 17) (.const (.int .i64 1))), .none⟩, ⟨(.some 17), (.mov (.tmp 27)), .none⟩]
def c29_7 : PCode := (.keep [2, 3, 4, 5, 16, 17] [(24, .id 24), (32, .id 32), (40, .id 40), (48, .id 48)] [] (.seq (.block 1 (.seq (.reg p29_12) (.seq (.reg p29_13) (.seq (.reg p29_14) (.cond (.tmp 23) (.seq (.reg p29_15) .ret) .skip))))) (.reg p29_16)))
def c29_8 : PCode := (.loop (.seq (.reg p29_11) (.seq (.cond (.tmp 18) .skip (.exit 0)) c29_7)))
def p29_17 : List PO := [⟨(.some 11), (.mov (.const (.int .i64 0))), .none⟩]
def p29_18 : List PO := [⟨(.some 28), (.load .true 38 (.tmp 2)), .none⟩, ⟨(.some 29), (.call 38 [(.tmp 28)]), .none⟩, ⟨(.some 12), (.mov (.tmp 29)), .none⟩]
def p29_19 : List PO := [⟨(.some 30), (.mov (.tmp 12)), .none⟩, ⟨(.some 31), (.strO .neq (.tmp 30) (.const (.string ⟨#[]⟩))), .none⟩, ⟨(.some 32), (.mov (.tmp 31)), .none⟩, ⟨(.some 33), (.mov (.tmp 11)), (.some (32, .true))⟩, ⟨(.some 34), (.cmpI .lss (.tmp 33) (.const (.int .i64 10))), (.some (32, .true))⟩, ⟨(.some 35), (.pick (.tmp 32) (.tmp 34) (.const (.bool .false))), .none⟩]
def p29_20 : List PO := [⟨(.some 13), (.mov (.tmp 3)), .none⟩]
def p29_21 : List PO := [⟨(.some 38), (.mov (.tmp 11)), .none⟩, ⟨(.some 39), (.arI .rem (.tmp 38) (.const (.int .i64 2))), .none⟩, ⟨(.some 40), (.cmpI .eql (.tmp 39) (.const (.int .i64 1))), .none⟩]
def p29_22 : List PO := [⟨(.some 13), (.mov (.tmp 2)), .none⟩]
def p29_23 : List PO := [⟨(.some 42), (.mov (.tmp 13)), .none⟩, ⟨(.some 43), (.mov (.tmp 13)), .none⟩, ⟨(.some 44), (.nilC (.tmp 43)), .none⟩, ⟨(.some 45), (.load .true 38 (.tmp 44)), .none⟩, ⟨(.some 46), (.mov (.tmp 12)), .none⟩, ⟨(.some 47), (.call 26 [(.tmp 45), (.tmp 46)]), .none⟩, ⟨(.some 41), (.mov (.tmp 47)), .none⟩, ⟨(.some 48), (.ext (.tmp 41) 0), .none⟩, ⟨(.some 49), (.ext (.tmp 41) 1), .none⟩, ⟨(.some 50), (.ext (.tmp 41) 2), .none⟩, ⟨(.some 51), (.nilC (.tmp 42)), .none⟩, ⟨.none, (.store 38 (.tmp 51) (.tmp 48)), .none⟩, ⟨(.some 12), (.mov (.tmp 49)), .none⟩]
def c29_2 : PCode := (.keep [2, 3, 4, 5, 11, 12, 13, 33, 34] [(24, .id 24), (32, .id 32), (40, .id 40), (48, .id 48)] [] (.reg p29_23))
def p29_24 : List PO := [⟨(.some 36), (.mov (.tmp 11)), .none⟩, ⟨(.some 37), (.arI .add (.tmp 36) (.const (.int .i64 1))), .none⟩, ⟨(.some 11), (.mov (.tmp 37)), .none⟩]
def c29_3 : PCode := (.reg p29_24)
def c29_4 : PCode := (.keep [2, 3, 4, 5, 11, 12, 33, 34] [(24, .id 24), (32, .id 32), (40, .id 40), (48, .id 48)] [] (.seq (.block 3 (.seq (.reg p29_20) (.seq (.seq (.reg p29_21) (.cond (.tmp 40) (.reg p29_22) .skip)) c29_2))) c29_3))
def c29_5 : PCode := (.keep [2, 3, 4, 5, 11, 12] [(24, .id 24), (32, .id 32), (40, .id 40), (48, .id 48)] [] (.seq (.seq (.reg p29_19) (.cond (.tmp 35) .skip (.keep [2, 3, 4, 5, 11] [(24, .id 24), (32, .id 32), (40, .id 40), (48, .id 48)] [] (.exit 2)))) c29_4))
def p29_25 : List PO := [⟨(.some 52), (.load .true 38 (.tmp 2)), .none⟩, ⟨(.some 53), (.load .true 38 (.tmp 3)), .none⟩, ⟨(.some 54), (.mov (.tmp 11)), .none⟩, ⟨.none, (.store 38 (.tmp 4) (.tmp 52)), .none⟩, ⟨.none, (.store 38 (.tmp 5) (.tmp 53)), .none⟩, ⟨(.some 6), (.mov (.tmp 54)), .none⟩, ⟨(.some 7), (.mov (.const (.int .i64 0))), .none⟩]
def c29_1 : PCode := (.keep [2, 3, 4, 5, 11] [(24, .id 24), (32, .id 32), (40, .id 40), (48, .id 48)] [] (.seq (.regD p29_25 [(1, 3)]) .ret))
def c29_6 : PCode := (.keep [2, 3, 4, 5] [(24, .id 24), (32, .id 32), (40, .id 40), (48, .id 48)] [] (.seq (.reg p29_17) (.seq (.seq (.reg p29_18) (.block 2 (.loop c29_5))) c29_1)))
def c29_b : PCode := (.seq (.reg p29_9) (.seq (.seq (.reg p29_10) (.block 0 c29_8)) c29_6))
def c29 : FCode := ⟨55, c29_b, [(.cell 4 .true 38), (.cell 5 .true 38), (.tmp 6), (.tmp 7)], some ([4, 5, 6, 7], [(40, .id 40), (48, .id 48)], []), false⟩
theorem c29_ok : compF Go.Proofs.Try.prog [37] 29 = some (eraseF c29) := by kernel_rfl
def p27_1 : List PO := [⟨(.some 0), (.mov (.const (.bool .false))), .none⟩]
def p27_2 : List PO := [⟨(.some 5), (.build [(38, (.int .u8 0))] []), .none⟩, ⟨(.some 6), (.call 26 [(.tmp 5), (.const (.string ⟨#[10, 2, 127]⟩))]), .none⟩, ⟨(.some 4), (.mov (.tmp 6)), .none⟩, ⟨(.some 7), (.ext (.tmp 4) 0), .none⟩, ⟨(.some 8), (.ext (.tmp 4) 1), .none⟩, ⟨(.some 9), (.ext (.tmp 4) 2), .none⟩, ⟨(.some 1), (.alloc [(38, (.int .u8 0))]), .none⟩, ⟨.none, (.store 38 (.tmp 1) (.tmp 7)), .none⟩, ⟨(.some 2), (.mov (.tmp 8)), .none⟩, ⟨(.some 3), (.mov (.tmp 9)), .none⟩]
def p27_3 : List PO := [⟨(.some 10), (.mov (.tmp 3)), .none⟩, ⟨(.some 11), (.cmpI .eql (.tmp 10) (.const (.int .i64 0))), .none⟩, ⟨(.some 12), (.mov (.tmp 11)), .none⟩, ⟨(.some 13), (.mov (.tmp 2)), (.some (12, .true))⟩, ⟨(.some 14), (.strO .eql (.tmp 13) (.const (.string ⟨#[10, 130, 127]⟩))), (.some (12, .true))⟩, ⟨(.some 15), (.pick (.tmp 12) (.tmp 14) (.const (.bool .false))), .none⟩, ⟨(.some 16), (.mov (.tmp 15)), .none⟩, ⟨(.some 17), (.fld 0 (.tmp 1)), (.some (16, .true))⟩, ⟨(.some 18), (.ixA 19 1 (.tmp 17) (.const (.int .i64 10))), (.some (16, .true))⟩, ⟨(.some 19), (.load .false 1 (.tmp 18)), (.some (16, .true))⟩, ⟨(.some 20), (.cmpI .eql (.tmp 19) (.const (.int .u8 2))), (.some (16, .true))⟩, ⟨(.some 21), (.pick (.tmp 16) (.tmp 20) (.const (.bool .false))), .none⟩, ⟨(.some 22), (.mov (.tmp 21)), .none⟩, ⟨(.some 23), (.fld 19 (.tmp 1)), (.some (22, .true))⟩, ⟨(.some 24), (.ixA 19 1 (.tmp 23) (.const (.int .i64 10))), (.some (22, .true))⟩, ⟨(.some 25), (.load .false 1 (.tmp 24)), (.some (22, .true))⟩, ⟨(.some 26), (.cmpI .eql (.tmp 25) (.const (.int .u8 127))), (.some (22, .true))⟩, ⟨(.some 27), (.pick (.tmp 22) (.tmp 26) (.const (.bool .false))), .none⟩, ⟨(.some 0), (.mov (.tmp 27)), .none⟩]
def c27_b : PCode := (.seq (.reg p27_1) (.seq (.reg p27_2) (.seq (.reg p27_3) .ret)))
def c27 : FCode := ⟨28, c27_b, [(.tmp 0)], some ([0], [], []), false⟩
theorem c27_ok : compF Go.Proofs.Try.prog [37] 27 = some (eraseF c27) := by kernel_rfl
def p28_5 : List PO := [⟨(.some 1), (.box 38 (.tmp 0)), .none⟩, ⟨(.some 2), (.mov (.const (.int .i64 0))), .none⟩]
def p28_6 : List PO := [⟨(.some 4), (.mov (.const (.int .i64 0))), .none⟩]
def p28_7 : List PO := [⟨(.some 5), (.cmpI .lss (.tmp 4) (.const (.int .i64 19))), .none⟩]
def p28_8 : List PO := [⟨(.some 6), (.mov (.tmp 4)), .none⟩, ⟨(.some 3), (.mov (.tmp 6)), .none⟩]
def p28_9 : List PO := [⟨(.some 7), (.mov (.tmp 3)), .none⟩, ⟨(.some 8), (.fld 0 (.tmp 1)), .none⟩, ⟨(.some 9), (.ixA 19 1 (.tmp 8) (.tmp 7)), .none⟩, ⟨(.some 10), (.load .false 1 (.tmp 9)), .none⟩, ⟨(.some 11), (.cmpI .gtr (.tmp 10) (.const (.int .u8 2))), .none⟩, ⟨(.some 12), (.mov (.tmp 11)), .none⟩, ⟨(.some 13), (.mov (.tmp 3)), (.some (12, .false))⟩, ⟨(.some 14), (.cmpI .eql (.tmp 13) (.const (.int .i64 0))), (.some (12, .false))⟩, ⟨(.some 15), (.mov (.tmp 14)), (.some (12, .false))⟩, ⟨(.some 16), (.mov (.tmp 3)), (.some (15, .true))⟩, ⟨(.some 17), (.fld 0 (.tmp 1)), (.some (15, .true))⟩, ⟨(.some 18), (.ixA 19 1 (.tmp 17) (.tmp 16)), (.some (15, .true))⟩, ⟨(.some 19), (.load .false 1 (.tmp 18)), (.some (15, .true))⟩, ⟨(.some 20), (.mov (.tmp 3)), (.some (15, .true))⟩, ⟨(.some 21), (.fld 19 (.tmp 1)), (.some (15, .true))⟩, ⟨(.some 22), (.ixA 19 1 (.tmp 21) (.tmp 20)), (.some (15, .true))⟩, ⟨(.some 23), (.load .false 1 (.tmp 22)), (.some (15, .true))⟩, ⟨(.some 24), (.arI .add (.tmp 19) (.tmp 23)), (.some (15, .true))⟩, ⟨(.some 25), (.cmpI .neq (.tmp 24) (.const (.int .u8 0))), (.some (15, .true))⟩, ⟨(.some 26), (.pick (.tmp 15) (.tmp 25) (.const (.bool .false))), (.some (12, .false))⟩, ⟨(.some 27), (.pick (.tmp 12) (.const (.bool .true)) (.tmp 26)), .none⟩]
def p28_10 : List PO := [⟨(.some 2), (.mov (.const (.int .i64 4))), .none⟩]
def p28_11 : List PO := [⟨(.some 28), (.arI .add (.tmp 4) (.const (.int .i64 1))), .none⟩, ⟨(.some 4), (.mov (.tmp 28)), .none⟩]
def c28_2 : PCode := (.keep [1, 4] [(16, .id 16)] [] (.seq (.block 1 (.seq (.reg p28_8) (.seq (.regD p28_9 []) (.cond (.tmp 27) (.seq (.reg p28_10) .ret) .skip)))) (.reg p28_11)))
def c28_3 : PCode := (.keep [1, 4, 5] [(16, .id 16)] [] (.seq (.cond (.tmp 5) .skip (.keep [1] [(16, .id 16)] [] (.exit 0))) c28_2))
def c28_4 : PCode := (.keep [1, 4] [(16, .id 16)] [] (.seq (.reg p28_7) c28_3))
def p28_12 : List PO := [⟨(.some 29), (.fld 19 (.tmp 1)), .none⟩, ⟨(.some 30), (.ixA 19 1 (.tmp 29) (.const (.int .i64 0))), .none⟩, ⟨(.some 31), (.load .false 1 (.tmp 30)), .none⟩, ⟨(.some 32), (.cmpI .gtr (.tmp 31) (.const (.int .u8 0))), .none⟩]
def p28_13 : List PO := [⟨(.some 2), (.mov (.const (.int .i64 4))), .none⟩]
def p28_14 : List PO := [⟨(.some 2), (.mov (.const (.int .i64 0))), .none⟩]
def c28_1 : PCode := (.keep [1] [(16, .id 16)] [] (.seq (.seq (.reg p28_12) (.cond (.tmp 32) (.seq (.reg p28_13) .ret) .skip)) (.seq (.reg p28_14) .ret)))
def c28_b : PCode := (.seq (.reg p28_5) (.seq (.seq (.reg p28_6) (.block 0 (.loop c28_4))) c28_1))
def c28 : FCode := ⟨33, c28_b, [(.tmp 2)], some ([2], [], []), false⟩
theorem c28_ok : compF Go.Proofs.Try.prog [37] 28 = some (eraseF c28) := by kernel_rfl
def p13_6 : List PO := [⟨(.some 2), (.box 38 (.tmp 0)), .none⟩, ⟨(.some 3), (.box 38 (.tmp 1)), .none⟩, ⟨(.some 4), (.mov (.const (.bool .false))), .none⟩]
def p13_7 : List PO := [⟨(.some 11), (.load .true 38 (.tmp 2)), .none⟩, ⟨(.some 12), (.load .true 38 (.tmp 3)), .none⟩, ⟨(.some 13), (.call 29 [(.tmp 11), (.tmp 12)]), .none⟩, ⟨(.some 10), (.mov (.tmp 13)), .none⟩, ⟨(.some 14), (.ext (.tmp 10) 0), .none⟩, ⟨(.some 15), (.ext (.tmp 10) 1), .none⟩, ⟨(.some 16), (.ext (.tmp 10) 2), .none⟩, ⟨(.some 17), (.ext (.tmp 10) 3), .none⟩, ⟨(.some 5), (.alloc [(38, (.int .u8 0))]), .none⟩, ⟨(.some 6), (.alloc [(38, (.int .u8 0))]), .none⟩, ⟨.none, (.store 38 (.tmp 5) (.tmp 14)), .none⟩, ⟨.none, (.store 38 (.tmp 6) (.tmp 15)), .none⟩, ⟨(.some 7), (.mov (.tmp 16)), .none⟩, ⟨(.some 8), (.mov (.tmp 17)), .none⟩]
def p13_8 : List PO := [⟨(.some 18), (.call 27 []), .none⟩, ⟨(.some 19), (.un .not (.tmp 18)), .none⟩, ⟨(.some 20), (.mov (.tmp 19)), .none⟩, ⟨(.some 21), (.mov (.tmp 8)), (.some (20, .false))⟩, ⟨(.some 22), (.cmpI .neq (.tmp 21) (.const (.int .i64 0))), (.some (20, .false))⟩, ⟨(.some 23), (.pick (.tmp 20) (.const (.bool .true)) (.tmp 22)), .none⟩]
def p13_9 : List PO := [⟨(.some 24), (.call 27 []), .none⟩, ⟨(.some 25), (.mov (.tmp 24)), .none⟩, ⟨(.some 26), (.mov (.tmp 7)), (.some (25, .true))⟩, ⟨(.some 27), (.cmpI .eql (.tmp 26) (.const (.int .i64 0))), (.some (25, .true))⟩, ⟨(.some 28), (.pick (.tmp 25) (.tmp 27) (.const (.bool .false))), .none⟩, ⟨(.some 4), (.mov (.tmp 28)), .none⟩]
def c13_5 : PCode := (.keep [7] [] [] (.seq (.reg p13_9) .ret))
def p13_10 : List PO := [⟨(.some 9), (.mov (.const (.int .i64 1))), .none⟩]
def p13_11 : List PO := [⟨(.some 29), (.mov (.tmp 9)), .none⟩, ⟨(.some 30), (.cmpI .leq (.tmp 29) (.const (.int .i64 18))), .none⟩]
def p13_12 : List PO := [⟨(.some 33), (.mov (.tmp 9)), .none⟩, ⟨(.some 34), (.fld 0 (.tmp 5)), .none⟩, ⟨(.some 35), (.ixA 19 1 (.tmp 34) (.tmp 33)), .none⟩, ⟨(.some 36), (.load .false 1 (.tmp 35)), .none⟩, ⟨(.some 37), (.mov (.tmp 9)), .none⟩, ⟨(.some 38), (.fld 0 (.tmp 6)), .none⟩, ⟨(.some 39), (.ixA 19 1 (.tmp 38) (.tmp 37)), .none⟩, ⟨(.some 40), (.load .false 1 (.tmp 39)), .none⟩, ⟨(.some 41), (.cmpI .neq (.tmp 36) (.tmp 40)), .none⟩, ⟨(.some 42), (.mov (.tmp 41)), .none⟩, ⟨(.some 43), (.mov (.tmp 9)), (.some (42, .false))⟩, ⟨(.some 44), (.fld 19 (.tmp 5)), (.some (42, .false))⟩, ⟨(.some 45), (.ixA 19 1 (.tmp 44) (.tmp 43)), (.some (42, .false))⟩, ⟨(.some 46), (.load .false 1 (.tmp 45)), (.some (42, .false))⟩, ⟨(.some 47), (.mov (.tmp 9)), (.some (42, .false))⟩, ⟨(.some 48), (.fld 19 (.tmp 6)), (.some (42, .false))⟩, ⟨(.some 49), (.ixA 19 1 (.tmp 48) (.tmp 47)), (.some (42, .false))⟩, ⟨(.some 50), (.load .false 1 (.tmp 49)), (.some (42, .false))⟩, ⟨(.some 51), (.cmpI .neq (.tmp 46) (.tmp 50)), (.some (42, .false))⟩, ⟨(.some 52), (.pick (.tmp 42) (.const (.bool .true)) (.tmp 51)), .none⟩]
def p13_13 : List PO := [⟨(.some 4), (.mov (.const (.bool .false))), .none⟩]
def p13_14 : List PO := [⟨(.some 53), (.mov (.tmp 9)), .none⟩, ⟨(.some 54), (.fld 0 (.tmp 2)), .none⟩, ⟨(.some 55), (.ixA 19 1 (.tmp 54) (.tmp 53)), .none⟩, ⟨(.some 56), (.load .false 1 (.tmp 55)), .none⟩, ⟨(.some 57), (.cmpI .eql (.tmp 56) (.const (.int .u8 1))), .none⟩, ⟨(.some 58), (.mov (.tmp 57)), .none⟩, ⟨(.some 59), (.mov (.tmp 9)), (.some (58, .true))⟩, ⟨(.some 60), (.fld 0 (.tmp 3)), (.some (58, .true))⟩, ⟨(.some 61), (.ixA 19 1 (.tmp 60) (.tmp 59)), (.some (58, .true))⟩, ⟨(.some 62), (.load .false 1 (.tmp 61)), (.some (58, .true))⟩, ⟨(.some 63), (.cmpI .neq (.tmp 62) (.const (.int .u8 1))), (.some (58, .true))⟩, ⟨(.some 64), (.pick (.tmp 58) (.tmp 63) (.const (.bool .false))), .none⟩, ⟨(.some 65), (.mov (.tmp 64)), .none⟩, ⟨(.some 66), (.mov (.tmp 9)), (.some (65, .true))⟩, ⟨(.some 67), (.fld 0 (.tmp 5)), (.some (65, .true))⟩, ⟨(.some 68), (.ixA 19 1 (.tmp 67) (.tmp 66)), (.some (65, .true))⟩, ⟨(.some 69), (.load .false 1 (.tmp 68)), (.some (65, .true))⟩, ⟨(.some 70), (.cmpI .neq (.tmp 69) (.const (.int .u8 1))), (.some (65, .true))⟩, ⟨(.some 71), (.mov (.tmp 70)), (.some (65, .true))⟩, ⟨(.some 72), (.mov (.tmp 9)), (.some (71, .false))⟩, ⟨(.some 73), (.fld 19 (.tmp 5)), (.some (71, .false))⟩, ⟨(.some 74), (.ixA 19 1 (.tmp 73) (.tmp 72)), (.some (71, .false))⟩, ⟨(.some 75), (.load .false 1 (.tmp 74)), (.some (71, .false))⟩, ⟨(.some 76), (.mov (.tmp 9)), (.some (71, .false))⟩, ⟨(.some 77), (.fld 19 (.tmp 2)), (.some (71, .false))⟩, ⟨(.some 78), (.ixA 19 1 (.tmp 77) (.tmp 76)), (.some (71, .false))⟩, ⟨(.some 79), (.load .false 1 (.tmp 78)), (.some (71, .false))⟩, ⟨(.some 80), (.cmpI .neq (.tmp 75) (.tmp 79)), (.some (71, .false))⟩, ⟨(.some 81), (.pick (.tmp 71) (.const (.bool .true)) (.tmp 80)), (.some (65, .true))⟩, ⟨(.some 82), (.pick (.tmp 65) (.tmp 81) (.const (.bool .false))), .none⟩]
def p13_15 : List PO := [⟨(.some 4), (.mov (.const (.bool .false))), .none⟩]
def p13_16 : List PO := [⟨(.some 83), (.mov (.tmp 9)), .none⟩, ⟨(.some 84), (.fld 0 (.tmp 3)), .none⟩, ⟨(.some 85), (.ixA 19 1 (.tmp 84) (.tmp 83)), .none⟩, ⟨(.some 86), (.load .false 1 (.tmp 85)), .none⟩, ⟨(.some 87), (.cmpI .eql (.tmp 86) (.const (.int .u8 1))), .none⟩, ⟨(.some 88), (.mov (.tmp 87)), .none⟩, ⟨(.some 89), (.mov (.tmp 9)), (.some (88, .true))⟩, ⟨(.some 90), (.fld 0 (.tmp 2)), (.some (88, .true))⟩, ⟨(.some 91), (.ixA 19 1 (.tmp 90) (.tmp 89)), (.some (88, .true))⟩, ⟨(.some 92), (.load .false 1 (.tmp 91)), (.some (88, .true))⟩, ⟨(.some 93), (.cmpI .eql (.tmp 92) (.const (.int .u8 2))), (.some (88, .true))⟩, ⟨(.some 94), (.pick (.tmp 88) (.tmp 93) (.const (.bool .false))), .none⟩, ⟨(.some 95), (.mov (.tmp 94)), .none⟩, ⟨(.some 96), (.mov (.tmp 9)), (.some (95, .true))⟩, ⟨(.some 97), (.fld 0 (.tmp 5)), (.some (95, .true))⟩, ⟨(.some 98), (.ixA 19 1 (.tmp 97) (.tmp 96)), (.some (95, .true))⟩, ⟨(.some 99), (.load .false 1 (.tmp 98)), (.some (95, .true))⟩, ⟨(.some 100), (.cmpI .neq (.tmp 99) (.const (.int .u8 1))), (.some (95, .true))⟩, ⟨(.some 101), (.mov (.tmp 100)), (.some (95, .true))⟩, ⟨(.some 102), (.mov (.tmp 9)), (.some (101, .false))⟩, ⟨(.some 103), (.fld 19 (.tmp 5)), (.some (101, .false))⟩, ⟨(.some 104), (.ixA 19 1 (.tmp 103) (.tmp 102)), (.some (101, .false))⟩, ⟨(.some 105), (.load .false 1 (.tmp 104)), (.some (101, .false))⟩, ⟨(.some 106), (.mov (.tmp 9)), (.some (101, .false))⟩, ⟨(.some 107), (.fld 19 (.tmp 3)), (.some (101, .false))⟩, ⟨(.some 108), (.ixA 19 1 (.tmp 107) (.tmp 106)), (.some (101, .false))⟩, ⟨(.some 109), (.load .false 1 (.tmp 108)), (.some (101, .false))⟩, ⟨(.some 110), (.cmpI .neq (.tmp 105) (.tmp 109)), (.some (101, .false))⟩, ⟨(.some 111), (.pick (.tmp 101) (.const (.bool .true)) (.tmp 110)), (.some (95, .true))⟩, ⟨(.some 112), (.pick (.tmp 95) (.tmp 111) (.const (.bool .false))), .none⟩]
def p13_17 : List PO := [⟨(.some 4), (.mov (.const (.bool .false))), .none⟩]
def c13_18 : PCode := (.seq (.seq (.regD p13_12 []) (.cond (.tmp 52) (.seq (.reg p13_13) .ret) .skip)) (.seq (.seq (.regD p13_14 []) (.cond (.tmp 82) (.seq (.reg p13_15) .ret) .skip)) (.seq (.regD p13_16 []) (.cond (.tmp 112) (.seq (.reg p13_17) .ret) .skip))))
def p13_19 : List PO := [⟨(.some 31), (.mov (.tmp 9)), .none⟩, ⟨(.some 32), (.arI .add (.tmp 31) (.const (.int .i64 1))), .none⟩, ⟨(.some 9), (.mov (.tmp 32)), .none⟩]
def c13_2 : PCode := (.keep [2, 3, 5, 6, 7, 9] [(24, .id 24), (32, .id 32), (48, .id 48), (56, .id 56)] [] (.seq (.block 1 c13_18) (.reg p13_19)))
def c13_3 : PCode := (.keep [2, 3, 5, 6, 7, 9] [(24, .id 24), (32, .id 32), (48, .id 48), (56, .id 56)] [] (.seq (.seq (.reg p13_11) (.cond (.tmp 30) .skip (.keep [5, 7] [(48, .id 48)] [] (.exit 0)))) c13_2))
def p13_20 : List PO := [⟨(.some 113), (.mov (.tmp 7)), .none⟩, ⟨(.some 114), (.cmpI .geq (.tmp 113) (.const (.int .i64 1))), .none⟩, ⟨(.some 115), (.mov (.tmp 114)), .none⟩, ⟨(.some 116), (.mov (.tmp 7)), (.some (115, .true))⟩, ⟨(.some 117), (.cmpI .leq (.tmp 116) (.const (.int .i64 3))), (.some (115, .true))⟩, ⟨(.some 118), (.pick (.tmp 115) (.tmp 117) (.const (.bool .false))), .none⟩, ⟨(.some 119), (.mov (.tmp 118)), .none⟩, ⟨(.some 120), (.load .true 38 (.tmp 5)), (.some (119, .true))⟩, ⟨(.some 121), (.call 28 [(.tmp 120)]), (.some (119, .true))⟩, ⟨(.some 122), (.cmpI .eql (.tmp 121) (.const (.int .i64 0))), (.some (119, .true))⟩, ⟨(.some 123), (.pick (.tmp 119) (.tmp 122) (.const (.bool .false))), .none⟩, ⟨(.some 4), (.mov (.tmp 123)), .none⟩]
def c13_1 : PCode := (.keep [5, 7] [(48, .id 48)] [] (.seq (.reg p13_20) .ret))
def c13_4 : PCode := (.keep [2, 3, 5, 6, 7] [(24, .id 24), (32, .id 32), (48, .id 48), (56, .id 56)] [] (.seq (.seq (.reg p13_10) (.block 0 (.loop c13_3))) c13_1))
def c13_b : PCode := (.seq (.reg p13_6) (.seq (.reg p13_7) (.seq (.seq (.reg p13_8) (.cond (.tmp 23) c13_5 .skip)) c13_4)))
def c13 : FCode := ⟨124, c13_b, [(.tmp 4)], some ([4], [], []), false⟩
theorem c13_ok : compF Go.Proofs.Try.prog [37] 13 = some (eraseF c13) := by kernel_rfl
def codes : Nat → Option FCode
  | 13 => some c13
  | 26 => some c26
  | 27 => some c27
  | 28 => some c28
  | 29 => some c29
  | 36 => some c36
  | 37 => some c37
  | 38 => some c38
  | _ => none
theorem codes_ok : ∀ f fc, codes f = some fc → compF Go.Proofs.Try.prog [37] f = some (eraseF fc) := by
  intro f fc h
  unfold codes at h
  split at h
  · cases h; exact c13_ok
  · cases h; exact c26_ok
  · cases h; exact c27_ok
  · cases h; exact c28_ok
  · cases h; exact c29_ok
  · cases h; exact c36_ok
  · cases h; exact c37_ok
  · cases h; exact c38_ok
  · cases h
theorem codes13 : codes 13 = some c13 := rfl
theorem codes26 : codes 26 = some c26 := rfl
theorem codes27 : codes 27 = some c27 := rfl
theorem codes28 : codes 28 = some c28 := rfl
theorem codes29 : codes 29 = some c29 := rfl
theorem codes36 : codes 36 = some c36 := rfl
theorem codes37 : codes 37 = some c37 := rfl
theorem codes38 : codes 38 = some c38 := rfl
end Go.Proofs.Ytgokbjnpjjdboaa.Pm
