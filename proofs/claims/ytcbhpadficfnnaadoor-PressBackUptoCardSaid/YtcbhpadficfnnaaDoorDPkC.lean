/- The small machine's codes of some functions. Printed by dec.py. -/
import Derived.Test.YtcbhpadficfnnaaDoorLib1
import Derived.Test.YtcbhpadficfnnaaDoorLibE
import Derived.Test.YtcbhpadficfnnaaDoorProg
namespace Go.Proofs.YtcbhpadficfnnaaDoor.Pm
set_option maxRecDepth 1000000
set_option maxHeartbeats 20000000
set_option linter.unusedVariables false
structure GMouse where
  Button : Int
  Col : Int
  Row : Int
  Mods : Int
  Up : Bool
structure GKey where
  Name : Int
  Rune : Int
  Mods : Int
def e_GMouse : Enc GMouse := ⟨5, fun x => [.int .i64 x.Button, .int .i64 x.Col, .int .i64 x.Row, .int .i64 x.Mods, .bool x.Up], fun _ => rfl⟩
def p4_8 : List PO := [⟨(.some 2), (.box 5 (.tmp 0)), .none⟩, ⟨(.some 4), (.mov (.const (.string ⟨#[]⟩))), .none⟩, ⟨(.some 5), (.mov (.const (.int .i64 0))), .none⟩]
def p4_9 : List PO := [⟨(.some 10), (.fld 0 (.tmp 2)), .none⟩, ⟨(.some 11), (.load .false 1 (.tmp 10)), .none⟩, ⟨(.some 12), (.cmpI .eql (.tmp 11) (.const (.int .i64 64))), .none⟩, ⟨(.some 13), (.mov (.tmp 12)), .none⟩, ⟨(.some 14), (.fld 0 (.tmp 2)), (.some (13, .false))⟩, ⟨(.some 15), (.load .false 1 (.tmp 14)), (.some (13, .false))⟩, ⟨(.some 16), (.cmpI .eql (.tmp 15) (.const (.int .i64 65))), (.some (13, .false))⟩, ⟨(.some 17), (.pick (.tmp 13) (.const (.bool .true)) (.tmp 16)), .none⟩, ⟨(.some 6), (.mov (.tmp 17)), .none⟩]
def p4_10 : List PO := [⟨(.some 18), (.mov (.tmp 1)), .none⟩, ⟨(.some 19), (.arI .and (.tmp 18) (.const (.int .i64 1024))), .none⟩, ⟨(.some 20), (.cmpI .neq (.tmp 19) (.const (.int .i64 0))), .none⟩, ⟨(.some 7), (.mov (.tmp 20)), .none⟩]
def p4_11 : List PO := [⟨(.some 22), (.mov (.tmp 6)), .none⟩, ⟨(.some 23), (.un .not (.tmp 22)), .none⟩, ⟨(.some 24), (.mov (.tmp 23)), .none⟩, ⟨(.some 25), (.fld 0 (.tmp 2)), (.some (24, .true))⟩, ⟨(.some 26), (.load .false 1 (.tmp 25)), (.some (24, .true))⟩, ⟨(.some 27), (.cmpI .lss (.tmp 26) (.const (.int .i64 0))), (.some (24, .true))⟩, ⟨(.some 28), (.mov (.tmp 27)), (.some (24, .true))⟩, ⟨(.some 29), (.fld 0 (.tmp 2)), (.some (28, .false))⟩, ⟨(.some 30), (.load .false 1 (.tmp 29)), (.some (28, .false))⟩, ⟨(.some 31), (.cmpI .gtr (.tmp 30) (.const (.int .i64 2))), (.some (28, .false))⟩, ⟨(.some 32), (.pick (.tmp 28) (.const (.bool .true)) (.tmp 31)), (.some (24, .true))⟩, ⟨(.some 33), (.pick (.tmp 24) (.tmp 32) (.const (.bool .false))), .none⟩, ⟨(.some 34), (.mov (.tmp 33)), .none⟩, ⟨(.some 35), (.fld 1 (.tmp 2)), (.some (34, .false))⟩, ⟨(.some 36), (.load .false 1 (.tmp 35)), (.some (34, .false))⟩, ⟨(.some 37), (.cmpI .lss (.tmp 36) (.const (.int .i64 0))), (.some (34, .false))⟩, ⟨(.some 38), (.pick (.tmp 34) (.const (.bool .true)) (.tmp 37)), .none⟩, ⟨(.some 39), (.mov (.tmp 38)), .none⟩, ⟨(.some 40), (.fld 1 (.tmp 2)), (.some (39, .false))⟩, ⟨(.some 41), (.load .false 1 (.tmp 40)), (.some (39, .false))⟩, ⟨(.some 42), (.cmpI .gtr (.tmp 41) (.const (.int .i64 1000))), (.some (39, .false))⟩, ⟨(.some 43), (.pick (.tmp 39) (.const (.bool .true)) (.tmp 42)), .none⟩, ⟨(.some 44), (.mov (.tmp 43)), .none⟩, ⟨(.some 45), (.fld 2 (.tmp 2)), (.some (44, .false))⟩, ⟨(.some 46), (.load .false 1 (.tmp 45)), (.some (44, .false))⟩, ⟨(.some 47), (.cmpI .lss (.tmp 46) (.const (.int .i64 0))), (.some (44, .false))⟩, ⟨(.some 48), (.pick (.tmp 44) (.const (.bool .true)) (.tmp 47)), .none⟩, ⟨(.some 49), (.mov (.tmp 48)), .none⟩, ⟨(.some 50), (.fld 2 (.tmp 2)), (.some (49, .false))⟩, ⟨(.some 51), (.load .false 1 (.tmp 50)), (.some (49, .false))⟩, ⟨(.some 52), (.cmpI .gtr (.tmp 51) (.const (.int .i64 1000))), (.some (49, .false))⟩, ⟨(.some 53), (.pick (.tmp 49) (.const (.bool .true)) (.tmp 52)), .none⟩, ⟨(.some 54), (.mov (.tmp 53)), .none⟩, ⟨(.some 55), (.fld 3 (.tmp 2)), (.some (54, .false))⟩, ⟨(.some 56), (.load .false 1 (.tmp 55)), (.some (54, .false))⟩, ⟨(.some 57), (.cmpI .lss (.tmp 56) (.const (.int .i64 0))), (.some (54, .false))⟩, ⟨(.some 58), (.pick (.tmp 54) (.const (.bool .true)) (.tmp 57)), .none⟩, ⟨(.some 59), (.mov (.tmp 58)), .none⟩, ⟨(.some 60), (.fld 3 (.tmp 2)), (.some (59, .false))⟩, ⟨(.some 61), (.load .false 1 (.tmp 60)), (.some (59, .false))⟩, ⟨(.some 62), (.cmpI .gtr (.tmp 61) (.const (.int .i64 7))), (.some (59, .false))⟩, ⟨(.some 63), (.pick (.tmp 59) (.const (.bool .true)) (.tmp 62)), .none⟩, ⟨(.some 64), (.mov (.tmp 63)), .none⟩, ⟨(.some 65), (.fld 4 (.tmp 2)), (.some (64, .false))⟩, ⟨(.some 66), (.load .false 1 (.tmp 65)), (.some (64, .false))⟩, ⟨(.some 67), (.mov (.tmp 66)), (.some (64, .false))⟩, ⟨(.some 68), (.mov (.tmp 6)), (.some (67, .true))⟩, ⟨(.some 69), (.pick (.tmp 67) (.tmp 68) (.const (.bool .false))), (.some (64, .false))⟩, ⟨(.some 70), (.pick (.tmp 64) (.const (.bool .true)) (.tmp 69)), .none⟩, ⟨(.some 21), (.mov (.tmp 70)), .none⟩]
def p4_12 : List PO := [⟨(.some 4), (.mov (.const (.string ⟨#[]⟩))), .none⟩, ⟨(.some 5), (.mov (.const (.int .i64 1))), .none⟩]
def p4_13 : List PO := [⟨(.some 72), (.mov (.tmp 1)), .none⟩, ⟨(.some 73), (.arI .and (.tmp 72) (.const (.int .i64 512))), .none⟩, ⟨(.some 74), (.cmpI .eql (.tmp 73) (.const (.int .i64 0))), .none⟩, ⟨(.some 71), (.mov (.tmp 74)), .none⟩]
def p4_14 : List PO := [⟨(.some 4), (.mov (.const (.string ⟨#[]⟩))), .none⟩, ⟨(.some 5), (.mov (.const (.int .i64 7))), .none⟩]
def p4_15 : List PO := [⟨(.some 76), (.mov (.tmp 7)), .none⟩, ⟨(.some 77), (.un .not (.tmp 76)), .none⟩, ⟨(.some 78), (.mov (.tmp 77)), .none⟩, ⟨(.some 79), (.fld 1 (.tmp 2)), (.some (78, .true))⟩, ⟨(.some 80), (.load .false 1 (.tmp 79)), (.some (78, .true))⟩, ⟨(.some 81), (.cmpI .gtr (.tmp 80) (.const (.int .i64 94))), (.some (78, .true))⟩, ⟨(.some 82), (.mov (.tmp 81)), (.some (78, .true))⟩, ⟨(.some 83), (.fld 2 (.tmp 2)), (.some (82, .false))⟩, ⟨(.some 84), (.load .false 1 (.tmp 83)), (.some (82, .false))⟩, ⟨(.some 85), (.cmpI .gtr (.tmp 84) (.const (.int .i64 94))), (.some (82, .false))⟩, ⟨(.some 86), (.pick (.tmp 82) (.const (.bool .true)) (.tmp 85)), (.some (78, .true))⟩, ⟨(.some 87), (.pick (.tmp 78) (.tmp 86) (.const (.bool .false))), .none⟩, ⟨(.some 75), (.mov (.tmp 87)), .none⟩]
def p4_16 : List PO := [⟨(.some 4), (.mov (.const (.string ⟨#[]⟩))), .none⟩, ⟨(.some 5), (.mov (.const (.int .i64 2))), .none⟩]
def c4_5 : PCode := (.keep [1, 2, 7, 21] [(24, .id 24)] [] (.cond (.tmp 21) (.seq (.reg p4_12) .ret) (.seq (.reg p4_13) (.cond (.tmp 71) (.seq (.reg p4_14) .ret) (.seq (.reg p4_15) (.cond (.tmp 75) (.seq (.reg p4_16) .ret) .skip))))))
def p4_17 : List PO := [⟨(.some 88), (.fld 0 (.tmp 2)), .none⟩, ⟨(.some 89), (.load .false 1 (.tmp 88)), .none⟩, ⟨(.some 8), (.mov (.tmp 89)), .none⟩]
def p4_18 : List PO := [⟨(.some 90), (.fld 4 (.tmp 2)), .none⟩, ⟨(.some 91), (.load .false 1 (.tmp 90)), .none⟩, ⟨(.some 92), (.mov (.tmp 91)), .none⟩, ⟨(.some 93), (.mov (.tmp 7)), (.some (92, .true))⟩, ⟨(.some 94), (.un .not (.tmp 93)), (.some (92, .true))⟩, ⟨(.some 95), (.pick (.tmp 92) (.tmp 94) (.const (.bool .false))), .none⟩]
def p4_19 : List PO := [⟨(.some 8), (.mov (.const (.int .i64 3))), .none⟩]
def p4_20 : List PO := [⟨(.some 96), (.mov (.tmp 8)), .none⟩, ⟨(.some 97), (.fld 3 (.tmp 2)), .none⟩, ⟨(.some 98), (.load .false 1 (.tmp 97)), .none⟩, ⟨(.some 99), (.arI .mul (.const (.int .i64 4)) (.tmp 98)), .none⟩, ⟨(.some 100), (.arI .add (.tmp 96) (.tmp 99)), .none⟩, ⟨(.some 8), (.mov (.tmp 100)), .none⟩]
def p4_21 : List PO := [⟨(.some 101), (.mov (.tmp 7)), .none⟩, ⟨(.some 102), (.un .not (.tmp 101)), .none⟩]
def p4_22 : List PO := [⟨(.some 103), (.mov (.tmp 8)), .none⟩, ⟨(.some 104), (.arI .add (.tmp 103) (.const (.int .i64 32))), .none⟩, ⟨(.some 105), (.cvI .u8 (.tmp 104)), .none⟩, ⟨(.some 106), (.fld 1 (.tmp 2)), .none⟩, ⟨(.some 107), (.load .false 1 (.tmp 106)), .none⟩, ⟨(.some 108), (.arI .add (.tmp 107) (.const (.int .i64 33))), .none⟩, ⟨(.some 109), (.cvI .u8 (.tmp 108)), .none⟩, ⟨(.some 110), (.fld 2 (.tmp 2)), .none⟩, ⟨(.some 111), (.load .false 1 (.tmp 110)), .none⟩, ⟨(.some 112), (.arI .add (.tmp 111) (.const (.int .i64 33))), .none⟩, ⟨(.some 113), (.cvI .u8 (.tmp 112)), .none⟩, ⟨(.some 114), (.bsl 5 1 6 [(6, (.int .u8 0))] [(0, (1, (.const (.int .u8 27)))), (1, (1, (.const (.int .u8 91)))), (2, (1, (.const (.int .u8 77)))), (3, (1, (.tmp 105))), (4, (1, (.tmp 109))), (5, (1, (.tmp 113)))]), .none⟩, ⟨(.some 115), (.cvBS (.tmp 114)), .none⟩, ⟨(.some 4), (.mov (.tmp 115)), .none⟩, ⟨(.some 5), (.mov (.const (.int .i64 0))), .none⟩]
def p4_23 : List PO := [⟨(.some 9), (.mov (.const (.string ⟨#[77]⟩))), .none⟩]
def p4_24 : List PO := [⟨(.some 116), (.fld 4 (.tmp 2)), .none⟩, ⟨(.some 117), (.load .false 1 (.tmp 116)), .none⟩]
def p4_25 : List PO := [⟨(.some 9), (.mov (.const (.string ⟨#[109]⟩))), .none⟩]
def p4_26 : List PO := [⟨(.some 118), (.mov (.tmp 8)), .none⟩, ⟨(.some 119), (.call 7 [(.tmp 118)]), .none⟩, ⟨(.some 120), (.strO .add (.const (.string ⟨#[27, 91, 60]⟩)) (.tmp 119)), .none⟩, ⟨(.some 121), (.strO .add (.tmp 120) (.const (.string ⟨#[59]⟩))), .none⟩, ⟨(.some 122), (.fld 1 (.tmp 2)), .none⟩, ⟨(.some 123), (.load .false 1 (.tmp 122)), .none⟩, ⟨(.some 124), (.arI .add (.tmp 123) (.const (.int .i64 1))), .none⟩, ⟨(.some 125), (.call 7 [(.tmp 124)]), .none⟩, ⟨(.some 126), (.strO .add (.tmp 121) (.tmp 125)), .none⟩, ⟨(.some 127), (.strO .add (.tmp 126) (.const (.string ⟨#[59]⟩))), .none⟩, ⟨(.some 128), (.fld 2 (.tmp 2)), .none⟩, ⟨(.some 129), (.load .false 1 (.tmp 128)), .none⟩, ⟨(.some 130), (.arI .add (.tmp 129) (.const (.int .i64 1))), .none⟩, ⟨(.some 131), (.call 7 [(.tmp 130)]), .none⟩, ⟨(.some 132), (.strO .add (.tmp 127) (.tmp 131)), .none⟩, ⟨(.some 133), (.mov (.tmp 9)), .none⟩, ⟨(.some 134), (.strO .add (.tmp 132) (.tmp 133)), .none⟩, ⟨(.some 4), (.mov (.tmp 134)), .none⟩, ⟨(.some 5), (.mov (.const (.int .i64 0))), .none⟩]
def c4_1 : PCode := (.keep [2, 8, 9] [(24, .id 24)] [] (.seq (.regD p4_26 [(1, 5), (1, 11), (7, 11)]) .ret))
def c4_2 : PCode := (.keep [2, 8] [(24, .id 24)] [] (.seq (.reg p4_23) (.seq (.seq (.reg p4_24) (.cond (.tmp 117) (.reg p4_25) .skip)) c4_1)))
def c4_3 : PCode := (.keep [2, 7, 8] [(24, .id 24)] [] (.seq (.reg p4_20) (.seq (.seq (.reg p4_21) (.cond (.tmp 102) (.seq (.reg p4_22) .ret) .skip)) c4_2)))
def c4_4 : PCode := (.keep [2, 7] [(24, .id 24)] [] (.seq (.reg p4_17) (.seq (.seq (.reg p4_18) (.cond (.tmp 95) (.reg p4_19) .skip)) c4_3)))
def c4_6 : PCode := (.keep [1, 2, 6, 7] [(24, .id 24)] [] (.seq (.block 0 (.seq (.reg p4_11) c4_5)) c4_4))
def c4_7 : PCode := (.keep [1, 2, 6] [(24, .id 24)] [] (.seq (.reg p4_10) c4_6))
def c4_b : PCode := (.seq (.reg p4_8) (.seq (.reg p4_9) c4_7))
def c4 : FCode := ⟨135, c4_b, [(.tmp 4), (.tmp 5)], some ([4, 5], [], []), false⟩
theorem c4_ok : compF Go.Proofs.Tryd.prog [70, 75] 4 = some (eraseF c4) := by kernel_rfl
def p32_1 : List PO := [⟨(.some 4), (.mov (.const (.bool .false))), .none⟩]
def p32_2 : List PO := [⟨(.some 5), (.mov (.tmp 0)), .none⟩, ⟨(.some 6), (.len .true (.tmp 5)), .none⟩, ⟨(.some 7), (.mov (.tmp 1)), .none⟩, ⟨(.some 8), (.len .true (.tmp 7)), .none⟩, ⟨(.some 9), (.cmpI .geq (.tmp 6) (.tmp 8)), .none⟩, ⟨(.some 10), (.mov (.tmp 9)), .none⟩, ⟨(.some 11), (.mov (.tmp 0)), (.some (10, .true))⟩, ⟨(.some 12), (.mov (.tmp 1)), (.some (10, .true))⟩, ⟨(.some 13), (.len .true (.tmp 12)), (.some (10, .true))⟩, ⟨(.some 14), (.slStr (.tmp 11) .none (.some (.tmp 13))), (.some (10, .true))⟩, ⟨(.some 15), (.mov (.tmp 1)), (.some (10, .true))⟩, ⟨(.some 16), (.strO .eql (.tmp 14) (.tmp 15)), (.some (10, .true))⟩, ⟨(.some 17), (.pick (.tmp 10) (.tmp 16) (.const (.bool .false))), .none⟩, ⟨(.some 4), (.mov (.tmp 17)), .none⟩]
def c32_b : PCode := (.seq (.reg p32_1) (.seq (.reg p32_2) .ret))
def c32 : FCode := ⟨18, c32_b, [(.tmp 4)], some ([4], [], []), false⟩
theorem c32_ok : compF Go.Proofs.Tryd.prog [70, 75] 32 = some (eraseF c32) := by kernel_rfl
def p16_1 : List PO := [⟨(.some 4), (.mov (.const (.string ⟨#[]⟩))), .none⟩]
def p16_2 : List PO := [⟨(.some 5), (.mov (.tmp 0)), .none⟩, ⟨(.some 6), (.mov (.tmp 1)), .none⟩, ⟨(.some 7), (.call 32 [(.tmp 5), (.tmp 6)]), .none⟩]
def p16_3 : List PO := [⟨(.some 8), (.mov (.tmp 0)), .none⟩, ⟨(.some 9), (.mov (.tmp 1)), .none⟩, ⟨(.some 10), (.len .true (.tmp 9)), .none⟩, ⟨(.some 11), (.slStr (.tmp 8) (.some (.tmp 10)) .none), .none⟩, ⟨(.some 4), (.mov (.tmp 11)), .none⟩]
def p16_4 : List PO := [⟨(.some 12), (.mov (.tmp 0)), .none⟩, ⟨(.some 4), (.mov (.tmp 12)), .none⟩]
def c16_b : PCode := (.seq (.reg p16_1) (.seq (.seq (.reg p16_2) (.cond (.tmp 7) (.seq (.reg p16_3) .ret) .skip)) (.seq (.reg p16_4) .ret)))
def c16 : FCode := ⟨13, c16_b, [(.tmp 4)], some ([4], [], []), false⟩
theorem c16_ok : compF Go.Proofs.Tryd.prog [70, 75] 16 = some (eraseF c16) := by kernel_rfl
def p9_1 : List PO := [⟨(.some 4), (.mov (.const (.string ⟨#[]⟩))), .none⟩]
def p9_2 : List PO := [⟨(.some 5), (.mov (.tmp 0)), .none⟩, ⟨(.some 6), (.mov (.tmp 1)), .none⟩, ⟨(.some 7), (.call 16 [(.tmp 5), (.tmp 6)]), .none⟩, ⟨(.some 4), (.mov (.tmp 7)), .none⟩]
def c9_b : PCode := (.seq (.reg p9_1) (.seq (.reg p9_2) .ret))
def c9 : FCode := ⟨8, c9_b, [(.tmp 4)], some ([4], [], []), false⟩
theorem c9_ok : compF Go.Proofs.Tryd.prog [70, 75] 9 = some (eraseF c9) := by kernel_rfl
def p5_6 : List PO := [⟨(.some 2), (.alloc [(4, (.int .i64 0)), (1, (.bool .false))]), .none⟩, ⟨(.some 3), (.mov (.const (.int .i64 0))), .none⟩]
def p5_7 : List PO := [⟨(.some 12), (.mov (.tmp 0)), .none⟩, ⟨(.some 13), (.call 10 [(.tmp 12), (.const (.string ⟨#[109, 77]⟩))]), .none⟩, ⟨(.some 14), (.call 9 [(.tmp 13), (.const (.string ⟨#[27, 91, 60]⟩))]), .none⟩, ⟨(.some 15), (.call 8 [(.tmp 14), (.const (.string ⟨#[59]⟩))]), .none⟩, ⟨(.some 4), (.mov (.tmp 15)), .none⟩]
def p5_8 : List PO := [⟨(.some 16), (.mov (.tmp 4)), .none⟩, ⟨(.some 17), (.len .false (.tmp 16)), .none⟩, ⟨(.some 18), (.cmpI .neq (.tmp 17) (.const (.int .i64 3))), .none⟩]
def p5_9 : List PO := [⟨(.some 19), (.build [(4, (.int .i64 0)), (1, (.bool .false))] []), .none⟩, ⟨.none, (.store 5 (.tmp 2) (.tmp 19)), .none⟩, ⟨(.some 3), (.mov (.const (.int .i64 4))), .none⟩]
def p5_10 : List PO := [⟨(.some 5), (.alloc [(3, (.int .i64 0))]), .none⟩]
def p5_11 : List PO := [⟨(.some 20), (.mov (.tmp 4)), .none⟩, ⟨(.some 21), (.len .false (.tmp 20)), .none⟩, ⟨(.some 22), (.mov (.const (.int .i64 0))), .none⟩]
def p5_12 : List PO := [⟨(.some 23), (.cmpI .lss (.tmp 22) (.tmp 21)), .none⟩]
def p5_13 : List PO := [⟨(.some 24), (.mov (.tmp 22)), .none⟩, ⟨(.some 25), (.ixS 9 1 (.tmp 20) (.tmp 22)), .none⟩, ⟨(.some 26), (.load .false 1 (.tmp 25)), .none⟩, ⟨(.some 6), (.mov (.tmp 24)), .none⟩, ⟨(.some 7), (.mov (.tmp 26)), .none⟩]
def p5_14 : List PO := [⟨(.some 8), (.mov (.const .nilIface)), .none⟩]
def p5_15 : List PO := [⟨(.some 28), (.mov (.tmp 6)), .none⟩, ⟨(.some 29), (.mov (.tmp 7)), .none⟩, ⟨(.some 30), (.call 11 [(.tmp 29)]), .none⟩, ⟨(.some 27), (.mov (.tmp 30)), .none⟩, ⟨(.some 31), (.ext (.tmp 27) 0), .none⟩, ⟨(.some 32), (.ext (.tmp 27) 1), .none⟩, ⟨(.some 33), (.ixA 3 1 (.tmp 5) (.tmp 28)), .none⟩, ⟨.none, (.store 1 (.tmp 33) (.tmp 31)), .none⟩, ⟨(.some 8), (.mov (.tmp 32)), .none⟩]
def p5_16 : List PO := [⟨(.some 34), (.mov (.tmp 8)), .none⟩, ⟨(.some 35), (.isE .true (.tmp 34)), .none⟩]
def p5_17 : List PO := [⟨(.some 36), (.build [(4, (.int .i64 0)), (1, (.bool .false))] []), .none⟩, ⟨.none, (.store 5 (.tmp 2) (.tmp 36)), .none⟩, ⟨(.some 3), (.mov (.const (.int .i64 4))), .none⟩]
def p5_18 : List PO := [⟨(.some 37), (.arI .add (.tmp 22) (.const (.int .i64 1))), .none⟩, ⟨(.some 22), (.mov (.tmp 37)), .none⟩]
def c5_2 : PCode := (.keep [0, 2, 5, 20, 21, 22] [(24, .id 24), (48, .id 48)] [] (.seq (.block 1 (.seq (.reg p5_13) (.seq (.reg p5_14) (.seq (.reg p5_15) (.seq (.reg p5_16) (.cond (.tmp 35) (.seq (.reg p5_17) .ret) .skip)))))) (.reg p5_18)))
def c5_3 : PCode := (.keep [0, 2, 5, 20, 21, 22, 23] [(24, .id 24), (48, .id 48)] [] (.seq (.cond (.tmp 23) .skip (.keep [0, 2, 5] [(24, .id 24), (48, .id 48)] [] (.exit 0))) c5_2))
def c5_4 : PCode := (.keep [0, 2, 5, 20, 21, 22] [(24, .id 24), (48, .id 48)] [] (.seq (.reg p5_12) c5_3))
def p5_19 : List PO := [⟨(.some 38), (.ixA 3 1 (.tmp 5) (.const (.int .i64 0))), .none⟩, ⟨(.some 39), (.load .false 1 (.tmp 38)), .none⟩, ⟨(.some 40), (.arI .andNot (.tmp 39) (.const (.int .i64 28))), .none⟩, ⟨(.some 41), (.ixA 3 1 (.tmp 5) (.const (.int .i64 1))), .none⟩, ⟨(.some 42), (.load .false 1 (.tmp 41)), .none⟩, ⟨(.some 43), (.arI .sub (.tmp 42) (.const (.int .i64 1))), .none⟩, ⟨(.some 44), (.ixA 3 1 (.tmp 5) (.const (.int .i64 2))), .none⟩, ⟨(.some 45), (.load .false 1 (.tmp 44)), .none⟩, ⟨(.some 46), (.arI .sub (.tmp 45) (.const (.int .i64 1))), .none⟩, ⟨(.some 47), (.ixA 3 1 (.tmp 5) (.const (.int .i64 0))), .none⟩, ⟨(.some 48), (.load .false 1 (.tmp 47)), .none⟩, ⟨(.some 49), (.sh .shr (.tmp 48) (.const (.int .u64 2))), .none⟩, ⟨(.some 50), (.arI .and (.tmp 49) (.const (.int .i64 7))), .none⟩, ⟨(.some 51), (.mov (.tmp 0)), .none⟩, ⟨(.some 52), (.call 12 [(.tmp 51), (.const (.string ⟨#[109]⟩))]), .none⟩, ⟨(.some 53), (.build [(4, (.int .i64 0)), (1, (.bool .false))] [(0, (1, (.tmp 40))), (1, (1, (.tmp 43))), (2, (1, (.tmp 46))), (3, (1, (.tmp 50))), (4, (1, (.tmp 52)))]), .none⟩, ⟨(.some 9), (.alloc [(4, (.int .i64 0)), (1, (.bool .false))]), .none⟩, ⟨.none, (.store 5 (.tmp 9) (.tmp 53)), .none⟩]
def p5_20 : List PO := [⟨(.some 55), (.load .true 5 (.tmp 9)), .none⟩, ⟨(.some 56), (.call 4 [(.tmp 55), (.const (.int .i64 1536))]), .none⟩, ⟨(.some 54), (.mov (.tmp 56)), .none⟩, ⟨(.some 57), (.ext (.tmp 54) 0), .none⟩, ⟨(.some 58), (.ext (.tmp 54) 1), .none⟩, ⟨(.some 10), (.mov (.tmp 57)), .none⟩, ⟨(.some 11), (.mov (.tmp 58)), .none⟩]
def p5_21 : List PO := [⟨(.some 59), (.mov (.tmp 11)), .none⟩, ⟨(.some 60), (.cmpI .neq (.tmp 59) (.const (.int .i64 0))), .none⟩, ⟨(.some 61), (.mov (.tmp 60)), .none⟩, ⟨(.some 62), (.mov (.tmp 10)), (.some (61, .false))⟩, ⟨(.some 63), (.mov (.tmp 0)), (.some (61, .false))⟩, ⟨(.some 64), (.strO .neq (.tmp 62) (.tmp 63)), (.some (61, .false))⟩, ⟨(.some 65), (.pick (.tmp 61) (.const (.bool .true)) (.tmp 64)), .none⟩]
def p5_22 : List PO := [⟨(.some 66), (.build [(4, (.int .i64 0)), (1, (.bool .false))] []), .none⟩, ⟨.none, (.store 5 (.tmp 2) (.tmp 66)), .none⟩, ⟨(.some 3), (.mov (.const (.int .i64 4))), .none⟩]
def p5_23 : List PO := [⟨(.some 67), (.load .true 5 (.tmp 9)), .none⟩, ⟨.none, (.store 5 (.tmp 2) (.tmp 67)), .none⟩, ⟨(.some 3), (.mov (.const (.int .i64 0))), .none⟩]
def c5_1 : PCode := (.keep [0, 2, 5] [(24, .id 24), (48, .id 48)] [] (.seq (.regD p5_19 [(1, 14), (4, 14), (7, 14), (10, 14), (1, 16), (4, 16), (7, 16), (10, 16), (14, 16)]) (.seq (.seq (.reg p5_20) (.seq (.reg p5_21) (.cond (.tmp 65) (.seq (.reg p5_22) .ret) .skip))) (.seq (.reg p5_23) .ret))))
def c5_5 : PCode := (.keep [0, 2, 4] [(24, .id 24)] [] (.seq (.reg p5_10) (.seq (.seq (.reg p5_11) (.block 0 (.loop c5_4))) c5_1)))
def c5_b : PCode := (.seq (.reg p5_6) (.seq (.reg p5_7) (.seq (.seq (.reg p5_8) (.cond (.tmp 18) (.seq (.reg p5_9) .ret) .skip)) c5_5)))
def c5 : FCode := ⟨68, c5_b, [(.cell 2 .true 5), (.tmp 3)], some ([2, 3], [(24, .id 24)], []), false⟩
theorem c5_ok : compF Go.Proofs.Tryd.prog [70, 75] 5 = some (eraseF c5) := by kernel_rfl
def p24_1 : List PO := [⟨(.some 2), (.mov (.const (.bool .false))), .none⟩]
def p24_2 : List PO := [⟨(.some 3), (.mov (.tmp 0)), .none⟩, ⟨(.some 4), (.cmpI .geq (.tmp 3) (.const (.int .i64 0))), .none⟩, ⟨(.some 5), (.mov (.tmp 4)), .none⟩, ⟨(.some 6), (.mov (.tmp 0)), (.some (5, .true))⟩, ⟨(.some 7), (.cmpI .leq (.tmp 6) (.const (.int .i64 1114111))), (.some (5, .true))⟩, ⟨(.some 8), (.pick (.tmp 5) (.tmp 7) (.const (.bool .false))), .none⟩, ⟨(.some 9), (.mov (.tmp 8)), .none⟩, ⟨(.some 10), (.mov (.tmp 0)), (.some (9, .true))⟩, ⟨(.some 11), (.cmpI .lss (.tmp 10) (.const (.int .i64 55296))), (.some (9, .true))⟩, ⟨(.some 12), (.mov (.tmp 11)), (.some (9, .true))⟩, ⟨(.some 13), (.mov (.tmp 0)), (.some (12, .false))⟩, ⟨(.some 14), (.cmpI .gtr (.tmp 13) (.const (.int .i64 57343))), (.some (12, .false))⟩, ⟨(.some 15), (.pick (.tmp 12) (.const (.bool .true)) (.tmp 14)), (.some (9, .true))⟩, ⟨(.some 16), (.pick (.tmp 9) (.tmp 15) (.const (.bool .false))), .none⟩, ⟨(.some 2), (.mov (.tmp 16)), .none⟩]
def c24_b : PCode := (.seq (.reg p24_1) (.seq (.reg p24_2) .ret))
def c24 : FCode := ⟨17, c24_b, [(.tmp 2)], some ([2], [], []), false⟩
theorem c24_ok : compF Go.Proofs.Tryd.prog [70, 75] 24 = some (eraseF c24) := by kernel_rfl
def p25_2 : List PO := [⟨(.some 6), (.mov (.const (.string ⟨#[]⟩))), .none⟩]
def p25_3 : List PO := [⟨(.some 7), (.mov (.tmp 2)), .none⟩, ⟨(.some 8), (.cmpI .eql (.tmp 7) (.const (.int .i64 0))), .none⟩]
def p25_4 : List PO := [⟨(.some 9), (.mov (.tmp 0)), .none⟩, ⟨(.some 10), (.strO .add (.const (.string ⟨#[27]⟩)) (.tmp 9)), .none⟩, ⟨(.some 11), (.mov (.tmp 1)), .none⟩, ⟨(.some 12), (.cvI .i32 (.tmp 11)), .none⟩, ⟨(.some 13), (.cvIS (.tmp 12)), .none⟩, ⟨(.some 14), (.strO .add (.tmp 10) (.tmp 13)), .none⟩, ⟨(.some 6), (.mov (.tmp 14)), .none⟩]
def p25_5 : List PO := [⟨(.some 15), (.mov (.tmp 2)), .none⟩, ⟨(.some 16), (.arI .add (.tmp 15) (.const (.int .i64 1))), .none⟩, ⟨(.some 17), (.call 7 [(.tmp 16)]), .none⟩, ⟨(.some 18), (.strO .add (.const (.string ⟨#[27, 91, 49, 59]⟩)) (.tmp 17)), .none⟩, ⟨(.some 19), (.mov (.tmp 1)), .none⟩, ⟨(.some 20), (.cvI .i32 (.tmp 19)), .none⟩, ⟨(.some 21), (.cvIS (.tmp 20)), .none⟩, ⟨(.some 22), (.strO .add (.tmp 18) (.tmp 21)), .none⟩, ⟨(.some 6), (.mov (.tmp 22)), .none⟩]
def c25_1 : PCode := (.keep [1, 2] [] [] (.seq (.reg p25_5) .ret))
def c25_b : PCode := (.seq (.reg p25_2) (.seq (.seq (.reg p25_3) (.cond (.tmp 8) (.seq (.reg p25_4) .ret) .skip)) c25_1))
def c25 : FCode := ⟨23, c25_b, [(.tmp 6)], some ([6], [], []), false⟩
theorem c25_ok : compF Go.Proofs.Tryd.prog [70, 75] 25 = some (eraseF c25) := by kernel_rfl
def p26_1 : List PO := [⟨(.some 4), (.mov (.const (.string ⟨#[]⟩))), .none⟩]
def p26_2 : List PO := [⟨(.some 6), (.mov (.tmp 0)), .none⟩, ⟨(.some 7), (.call 7 [(.tmp 6)]), .none⟩, ⟨(.some 8), (.strO .add (.const (.string ⟨#[27, 91]⟩)) (.tmp 7)), .none⟩, ⟨(.some 5), (.mov (.tmp 8)), .none⟩]
def p26_3 : List PO := [⟨(.some 9), (.mov (.tmp 1)), .none⟩, ⟨(.some 10), (.cmpI .neq (.tmp 9) (.const (.int .i64 0))), .none⟩]
def p26_4 : List PO := [⟨(.some 11), (.mov (.tmp 5)), .none⟩, ⟨(.some 12), (.mov (.tmp 1)), .none⟩, ⟨(.some 13), (.arI .add (.tmp 12) (.const (.int .i64 1))), .none⟩, ⟨(.some 14), (.call 7 [(.tmp 13)]), .none⟩, ⟨(.some 15), (.strO .add (.const (.string ⟨#[59]⟩)) (.tmp 14)), .none⟩, ⟨(.some 16), (.strO .add (.tmp 11) (.tmp 15)), .none⟩, ⟨(.some 5), (.mov (.tmp 16)), .none⟩]
def p26_5 : List PO := [⟨(.some 17), (.mov (.tmp 5)), .none⟩, ⟨(.some 18), (.strO .add (.tmp 17) (.const (.string ⟨#[126]⟩))), .none⟩, ⟨(.some 4), (.mov (.tmp 18)), .none⟩]
def c26_b : PCode := (.seq (.reg p26_1) (.seq (.reg p26_2) (.seq (.seq (.reg p26_3) (.cond (.tmp 10) (.reg p26_4) .skip)) (.seq (.reg p26_5) .ret))))
def c26 : FCode := ⟨19, c26_b, [(.tmp 4)], some ([4], [], []), false⟩
theorem c26_ok : compF Go.Proofs.Tryd.prog [70, 75] 26 = some (eraseF c26) := by kernel_rfl
def p75_2 : List PO := [⟨(.some 4), (.nilS 5 1), .none⟩]
def p75_3 : List PO := [⟨(.some 6), (.mov (.tmp 1)), .none⟩, ⟨(.some 7), (.cvI .u32 (.tmp 6)), .none⟩, ⟨(.some 5), (.mov (.tmp 7)), .none⟩]
def p75_4 : List PO := [⟨(.some 12), (.mov (.tmp 5)), .none⟩, ⟨(.some 13), (.cmpI .leq (.tmp 12) (.const (.int .u32 2047))), .none⟩, ⟨(.some 11), (.mov (.tmp 13)), .none⟩]
def p75_5 : List PO := [⟨(.some 14), (.mov (.tmp 0)), .none⟩, ⟨(.some 15), (.mov (.tmp 1)), .none⟩, ⟨(.some 16), (.sh .shr (.tmp 15) (.const (.int .u64 6))), .none⟩, ⟨(.some 17), (.cvI .u8 (.tmp 16)), .none⟩, ⟨(.some 18), (.arI .or (.const (.int .u8 192)) (.tmp 17)), .none⟩, ⟨(.some 19), (.mov (.tmp 1)), .none⟩, ⟨(.some 20), (.cvI .u8 (.tmp 19)), .none⟩, ⟨(.some 21), (.arI .and (.tmp 20) (.const (.int .u8 63))), .none⟩, ⟨(.some 22), (.arI .or (.const (.int .u8 128)) (.tmp 21)), .none⟩, ⟨(.some 23), (.bsl 5 1 2 [(2, (.int .u8 0))] [(0, (1, (.tmp 18))), (1, (1, (.tmp 22)))]), .none⟩, ⟨(.some 24), (.app 5 1 1 (.tmp 14) (.tmp 23)), .none⟩, ⟨(.some 4), (.mov (.tmp 24)), .none⟩]
def p75_6 : List PO := [⟨(.some 26), (.mov (.tmp 5)), .none⟩, ⟨(.some 27), (.cmpI .lss (.tmp 26) (.const (.int .u32 55296))), .none⟩, ⟨(.some 25), (.mov (.tmp 27)), .none⟩]
def p75_7 : List PO := [⟨(.some 28), (.mov (.tmp 5)), .none⟩, ⟨(.some 29), (.cmpI .lss (.const (.int .u32 57343)) (.tmp 28)), .none⟩, ⟨(.some 30), (.mov (.tmp 29)), .none⟩, ⟨(.some 31), (.mov (.tmp 5)), (.some (30, .true))⟩, ⟨(.some 32), (.cmpI .leq (.tmp 31) (.const (.int .u32 65535))), (.some (30, .true))⟩, ⟨(.some 33), (.pick (.tmp 30) (.tmp 32) (.const (.bool .false))), .none⟩, ⟨(.some 25), (.mov (.tmp 33)), .none⟩]
def p75_8 : List PO := [⟨(.some 34), (.mov (.tmp 0)), .none⟩, ⟨(.some 35), (.mov (.tmp 1)), .none⟩, ⟨(.some 36), (.sh .shr (.tmp 35) (.const (.int .u64 12))), .none⟩, ⟨(.some 37), (.cvI .u8 (.tmp 36)), .none⟩, ⟨(.some 38), (.arI .or (.const (.int .u8 224)) (.tmp 37)), .none⟩, ⟨(.some 39), (.mov (.tmp 1)), .none⟩, ⟨(.some 40), (.sh .shr (.tmp 39) (.const (.int .u64 6))), .none⟩, ⟨(.some 41), (.cvI .u8 (.tmp 40)), .none⟩, ⟨(.some 42), (.arI .and (.tmp 41) (.const (.int .u8 63))), .none⟩, ⟨(.some 43), (.arI .or (.const (.int .u8 128)) (.tmp 42)), .none⟩, ⟨(.some 44), (.mov (.tmp 1)), .none⟩, ⟨(.some 45), (.cvI .u8 (.tmp 44)), .none⟩, ⟨(.some 46), (.arI .and (.tmp 45) (.const (.int .u8 63))), .none⟩, ⟨(.some 47), (.arI .or (.const (.int .u8 128)) (.tmp 46)), .none⟩, ⟨(.some 48), (.bsl 5 1 3 [(3, (.int .u8 0))] [(0, (1, (.tmp 38))), (1, (1, (.tmp 43))), (2, (1, (.tmp 47)))]), .none⟩, ⟨(.some 49), (.app 5 1 1 (.tmp 34) (.tmp 48)), .none⟩, ⟨(.some 4), (.mov (.tmp 49)), .none⟩]
def p75_9 : List PO := [⟨(.some 51), (.mov (.tmp 5)), .none⟩, ⟨(.some 52), (.cmpI .gtr (.tmp 51) (.const (.int .u32 65535))), .none⟩, ⟨(.some 53), (.mov (.tmp 52)), .none⟩, ⟨(.some 54), (.mov (.tmp 5)), (.some (53, .true))⟩, ⟨(.some 55), (.cmpI .leq (.tmp 54) (.const (.int .u32 1114111))), (.some (53, .true))⟩, ⟨(.some 56), (.pick (.tmp 53) (.tmp 55) (.const (.bool .false))), .none⟩, ⟨(.some 50), (.mov (.tmp 56)), .none⟩]
def p75_10 : List PO := [⟨(.some 57), (.mov (.tmp 0)), .none⟩, ⟨(.some 58), (.mov (.tmp 1)), .none⟩, ⟨(.some 59), (.sh .shr (.tmp 58) (.const (.int .u64 18))), .none⟩, ⟨(.some 60), (.cvI .u8 (.tmp 59)), .none⟩, ⟨(.some 61), (.arI .or (.const (.int .u8 240)) (.tmp 60)), .none⟩, ⟨(.some 62), (.mov (.tmp 1)), .none⟩, ⟨(.some 63), (.sh .shr (.tmp 62) (.const (.int .u64 12))), .none⟩, ⟨(.some 64), (.cvI .u8 (.tmp 63)), .none⟩, ⟨(.some 65), (.arI .and (.tmp 64) (.const (.int .u8 63))), .none⟩, ⟨(.some 66), (.arI .or (.const (.int .u8 128)) (.tmp 65)), .none⟩, ⟨(.some 67), (.mov (.tmp 1)), .none⟩, ⟨(.some 68), (.sh .shr (.tmp 67) (.const (.int .u64 6))), .none⟩, ⟨(.some 69), (.cvI .u8 (.tmp 68)), .none⟩, ⟨(.some 70), (.arI .and (.tmp 69) (.const (.int .u8 63))), .none⟩, ⟨(.some 71), (.arI .or (.const (.int .u8 128)) (.tmp 70)), .none⟩, ⟨(.some 72), (.mov (.tmp 1)), .none⟩, ⟨(.some 73), (.cvI .u8 (.tmp 72)), .none⟩, ⟨(.some 74), (.arI .and (.tmp 73) (.const (.int .u8 63))), .none⟩, ⟨(.some 75), (.arI .or (.const (.int .u8 128)) (.tmp 74)), .none⟩, ⟨(.some 76), (.bsl 5 1 4 [(4, (.int .u8 0))] [(0, (1, (.tmp 61))), (1, (1, (.tmp 66))), (2, (1, (.tmp 71))), (3, (1, (.tmp 75)))]), .none⟩, ⟨(.some 77), (.app 5 1 1 (.tmp 57) (.tmp 76)), .none⟩, ⟨(.some 4), (.mov (.tmp 77)), .none⟩]
def p75_11 : List PO := [⟨(.some 8), (.mov (.tmp 0)), .none⟩, ⟨(.some 9), (.bsl 5 1 3 [(3, (.int .u8 0))] [(0, (1, (.const (.int .u8 239)))), (1, (1, (.const (.int .u8 191)))), (2, (1, (.const (.int .u8 189))))]), .none⟩, ⟨(.some 10), (.app 5 1 1 (.tmp 8) (.tmp 9)), .none⟩, ⟨(.some 4), (.mov (.tmp 10)), .none⟩]
def c75_1 : PCode := (.keep [0, 1, 5, 25, 1000000] [(0, .id 0)] [] (.cond (.tmp 25) (.seq (.reg p75_8) .ret) (.seq (.reg p75_9) (.cond (.tmp 50) (.seq (.reg p75_10) .ret) (.seq (.reg p75_11) .ret)))))
def c75_b : PCode := (.seq (.reg p75_2) (.seq (.reg p75_3) (.block 0 (.seq (.reg p75_4) (.cond (.tmp 11) (.seq (.reg p75_5) .ret) (.seq (.seq (.reg p75_6) (.cond (.tmp 25) .skip (.reg p75_7))) c75_1))))))
def c75 : FCode := ⟨78, c75_b, [(.tmp 4)], some ([4, 1000000], [(0, .id 0)], []), false⟩
theorem c75_ok : compF Go.Proofs.Tryd.prog [70, 75] 75 = some (eraseF c75) := by kernel_rfl
def p70_1 : List PO := [⟨(.some 4), (.nilS 5 1), .none⟩]
def p70_2 : List PO := [⟨(.some 5), (.mov (.tmp 1)), .none⟩, ⟨(.some 6), (.cvI .u32 (.tmp 5)), .none⟩, ⟨(.some 7), (.cmpI .leq (.tmp 6) (.const (.int .u32 127))), .none⟩]
def p70_3 : List PO := [⟨(.some 8), (.mov (.tmp 0)), .none⟩, ⟨(.some 9), (.mov (.tmp 1)), .none⟩, ⟨(.some 10), (.cvI .u8 (.tmp 9)), .none⟩, ⟨(.some 11), (.bsl 5 1 1 [(1, (.int .u8 0))] [(0, (1, (.tmp 10)))]), .none⟩, ⟨(.some 12), (.app 5 1 1 (.tmp 8) (.tmp 11)), .none⟩, ⟨(.some 4), (.mov (.tmp 12)), .none⟩]
def p70_4 : List PO := [⟨(.some 13), (.mov (.tmp 0)), .none⟩, ⟨(.some 14), (.mov (.tmp 1)), .none⟩, ⟨(.some 15), (.callr 75 [(.tmp 13), (.tmp 14)]), .none⟩, ⟨(.some 4), (.mov (.tmp 15)), .none⟩]
def c70_b : PCode := (.seq (.reg p70_1) (.seq (.seq (.reg p70_2) (.cond (.tmp 7) (.seq (.reg p70_3) .ret) .skip)) (.seq (.reg p70_4) .ret)))
def c70 : FCode := ⟨16, c70_b, [(.tmp 4)], some ([4, 1000000], [(0, .id 0)], []), false⟩
theorem c70_ok : compF Go.Proofs.Tryd.prog [70, 75] 70 = some (eraseF c70) := by kernel_rfl
def p55_4 : List PO := [⟨(.some 2), (.mov (.const (.string ⟨#[]⟩))), .none⟩]
def p55_5 : List PO := [⟨(.some 3), (.nilS 5 1), .none⟩]
def p55_6 : List PO := [⟨(.some 6), (.mov (.tmp 0)), .none⟩, ⟨(.some 7), (.len .false (.tmp 6)), .none⟩, ⟨(.some 8), (.mov (.const (.int .i64 0))), .none⟩]
def p55_7 : List PO := [⟨(.some 9), (.cmpI .lss (.tmp 8) (.tmp 7)), .none⟩]
def p55_8 : List PO := [⟨(.some 10), (.ixS 3 1 (.tmp 6) (.tmp 8)), .none⟩, ⟨(.some 11), (.load .false 1 (.tmp 10)), .none⟩, ⟨(.some 5), (.mov (.tmp 11)), .none⟩]
def p55_9 : List PO := [⟨(.some 12), (.mov (.tmp 5)), .none⟩, ⟨(.some 13), (.cmpI .lss (.tmp 12) (.const (.int .i64 0))), .none⟩, ⟨(.some 14), (.mov (.tmp 13)), .none⟩, ⟨(.some 15), (.mov (.tmp 5)), (.some (14, .false))⟩, ⟨(.some 16), (.cmpI .gtr (.tmp 15) (.const (.int .i64 1114111))), (.some (14, .false))⟩, ⟨(.some 17), (.pick (.tmp 14) (.const (.bool .true)) (.tmp 16)), .none⟩, ⟨(.some 18), (.mov (.tmp 17)), .none⟩, ⟨(.some 19), (.mov (.tmp 5)), (.some (18, .false))⟩, ⟨(.some 20), (.cmpI .geq (.tmp 19) (.const (.int .i64 55296))), (.some (18, .false))⟩, ⟨(.some 21), (.mov (.tmp 20)), (.some (18, .false))⟩, ⟨(.some 22), (.mov (.tmp 5)), (.some (21, .true))⟩, ⟨(.some 23), (.cmpI .leq (.tmp 22) (.const (.int .i64 57343))), (.some (21, .true))⟩, ⟨(.some 24), (.pick (.tmp 21) (.tmp 23) (.const (.bool .false))), (.some (18, .false))⟩, ⟨(.some 25), (.pick (.tmp 18) (.const (.bool .true)) (.tmp 24)), .none⟩]
def p55_10 : List PO := [⟨(.some 5), (.mov (.const (.int .i64 65533))), .none⟩]
def p55_11 : List PO := [⟨(.some 26), (.mov (.tmp 3)), .none⟩, ⟨(.some 27), (.mov (.tmp 5)), .none⟩, ⟨(.some 28), (.cvI .i32 (.tmp 27)), .none⟩, ⟨(.some 29), (.callr 70 [(.tmp 26), (.tmp 28)]), .none⟩, ⟨(.some 3), (.mov (.tmp 29)), .none⟩]
def p55_12 : List PO := [⟨(.some 30), (.arI .add (.tmp 8) (.const (.int .i64 1))), .none⟩, ⟨(.some 8), (.mov (.tmp 30)), .none⟩]
def c55_1 : PCode := (.keep [3, 6, 7, 8] [(32, .id 32)] [] (.seq (.block 1 (.seq (.reg p55_8) (.seq (.seq (.reg p55_9) (.cond (.tmp 25) (.reg p55_10) .skip)) (.reg p55_11)))) (.reg p55_12)))
def c55_2 : PCode := (.keep [3, 6, 7, 8, 9] [(32, .id 32)] [] (.seq (.cond (.tmp 9) .skip (.keep [3] [(32, .id 32)] [] (.exit 0))) c55_1))
def c55_3 : PCode := (.keep [3, 6, 7, 8] [(32, .id 32)] [] (.seq (.reg p55_7) c55_2))
def p55_13 : List PO := [⟨(.some 31), (.mov (.tmp 3)), .none⟩, ⟨(.some 32), (.cvBS (.tmp 31)), .none⟩, ⟨(.some 2), (.mov (.tmp 32)), .none⟩]
def c55_b : PCode := (.seq (.reg p55_4) (.seq (.reg p55_5) (.seq (.seq (.reg p55_6) (.block 0 (.loop c55_3))) (.seq (.reg p55_13) .ret))))
def c55 : FCode := ⟨33, c55_b, [(.tmp 2)], some ([2], [], []), false⟩
theorem c55_ok : compF Go.Proofs.Tryd.prog [70, 75] 55 = some (eraseF c55) := by kernel_rfl
def p41_4 : List PO := [⟨(.some 4), (.mov (.const (.string ⟨#[]⟩))), .none⟩]
def p41_5 : List PO := [⟨(.some 5), (.mov (.tmp 1)), .none⟩, ⟨(.some 6), (.arI .and (.tmp 5) (.const (.int .i64 4))), .none⟩, ⟨(.some 7), (.cmpI .neq (.tmp 6) (.const (.int .i64 0))), .none⟩]
def p41_6 : List PO := [⟨(.some 9), (.mov (.tmp 0)), .none⟩, ⟨(.some 10), (.cmpI .geq (.tmp 9) (.const (.int .i64 64))), .none⟩, ⟨(.some 11), (.mov (.tmp 10)), .none⟩, ⟨(.some 12), (.mov (.tmp 0)), (.some (11, .true))⟩, ⟨(.some 13), (.cmpI .leq (.tmp 12) (.const (.int .i64 95))), (.some (11, .true))⟩, ⟨(.some 14), (.pick (.tmp 11) (.tmp 13) (.const (.bool .false))), .none⟩, ⟨(.some 15), (.mov (.tmp 14)), .none⟩, ⟨(.some 16), (.mov (.tmp 0)), (.some (15, .false))⟩, ⟨(.some 17), (.cmpI .geq (.tmp 16) (.const (.int .i64 97))), (.some (15, .false))⟩, ⟨(.some 18), (.mov (.tmp 17)), (.some (15, .false))⟩, ⟨(.some 19), (.mov (.tmp 0)), (.some (18, .true))⟩, ⟨(.some 20), (.cmpI .leq (.tmp 19) (.const (.int .i64 122))), (.some (18, .true))⟩, ⟨(.some 21), (.pick (.tmp 18) (.tmp 20) (.const (.bool .false))), (.some (15, .false))⟩, ⟨(.some 22), (.pick (.tmp 15) (.const (.bool .true)) (.tmp 21)), .none⟩, ⟨(.some 8), (.mov (.tmp 22)), .none⟩]
def p41_7 : List PO := [⟨(.some 23), (.mov (.tmp 0)), .none⟩, ⟨(.some 24), (.arI .and (.tmp 23) (.const (.int .i64 31))), .none⟩, ⟨(.some 0), (.mov (.tmp 24)), .none⟩]
def c41_1 : PCode := (.keep [0] [] [] (.reg p41_7))
def p41_8 : List PO := [⟨(.some 26), (.mov (.tmp 0)), .none⟩, ⟨(.some 27), (.cmpI .eql (.tmp 26) (.const (.int .i64 32))), .none⟩, ⟨(.some 25), (.mov (.tmp 27)), .none⟩]
def p41_9 : List PO := [⟨(.some 0), (.mov (.const (.int .i64 0))), .none⟩]
def p41_10 : List PO := [⟨(.some 29), (.mov (.tmp 0)), .none⟩, ⟨(.some 30), (.cmpI .eql (.tmp 29) (.const (.int .i64 63))), .none⟩, ⟨(.some 28), (.mov (.tmp 30)), .none⟩]
def p41_11 : List PO := [⟨(.some 0), (.mov (.const (.int .i64 127))), .none⟩]
def c41_3 : PCode := (.keep [0] [] [] (.seq (.reg p41_8) (.cond (.tmp 25) (.reg p41_9) (.seq (.reg p41_10) (.cond (.tmp 28) (.reg p41_11) .skip)))))
def p41_12 : List PO := [⟨(.some 31), (.mov (.tmp 0)), .none⟩, ⟨(.some 32), (.bsl 3 1 1 [(1, (.int .i64 0))] [(0, (1, (.tmp 31)))]), .none⟩, ⟨(.some 33), (.call 55 [(.tmp 32)]), .none⟩, ⟨(.some 4), (.mov (.tmp 33)), .none⟩]
def c41_2 : PCode := (.seq (.reg p41_12) .ret)
def c41_b : PCode := (.seq (.reg p41_4) (.seq (.seq (.reg p41_5) (.cond (.tmp 7) (.block 0 (.seq (.reg p41_6) (.cond (.tmp 8) c41_1 c41_3))) .skip)) c41_2))
def c41 : FCode := ⟨34, c41_b, [(.tmp 4)], some ([4], [], []), false⟩
theorem c41_ok : compF Go.Proofs.Tryd.prog [70, 75] 41 = some (eraseF c41) := by kernel_rfl
def p27_4 : List PO := [⟨(.some 1), (.box 3 (.tmp 0)), .none⟩, ⟨(.some 2), (.mov (.const (.string ⟨#[]⟩))), .none⟩]
def p27_5 : List PO := [⟨(.some 4), (.fld 0 (.tmp 1)), .none⟩, ⟨(.some 5), (.load .false 1 (.tmp 4)), .none⟩, ⟨(.some 6), (.cmpI .eql (.tmp 5) (.const (.int .i64 23))), .none⟩, ⟨(.some 3), (.mov (.tmp 6)), .none⟩]
def p27_6 : List PO := [⟨(.some 2), (.mov (.const (.string ⟨#[13]⟩))), .none⟩]
def p27_7 : List PO := [⟨(.some 8), (.fld 0 (.tmp 1)), .none⟩, ⟨(.some 9), (.load .false 1 (.tmp 8)), .none⟩, ⟨(.some 10), (.cmpI .eql (.tmp 9) (.const (.int .i64 24))), .none⟩, ⟨(.some 11), (.mov (.tmp 10)), .none⟩, ⟨(.some 12), (.fld 2 (.tmp 1)), (.some (11, .true))⟩, ⟨(.some 13), (.load .false 1 (.tmp 12)), (.some (11, .true))⟩, ⟨(.some 14), (.arI .and (.tmp 13) (.const (.int .i64 1))), (.some (11, .true))⟩, ⟨(.some 15), (.cmpI .neq (.tmp 14) (.const (.int .i64 0))), (.some (11, .true))⟩, ⟨(.some 16), (.pick (.tmp 11) (.tmp 15) (.const (.bool .false))), .none⟩, ⟨(.some 7), (.mov (.tmp 16)), .none⟩]
def p27_8 : List PO := [⟨(.some 2), (.mov (.const (.string ⟨#[27, 91, 90]⟩))), .none⟩]
def p27_9 : List PO := [⟨(.some 18), (.fld 0 (.tmp 1)), .none⟩, ⟨(.some 19), (.load .false 1 (.tmp 18)), .none⟩, ⟨(.some 20), (.cmpI .eql (.tmp 19) (.const (.int .i64 24))), .none⟩, ⟨(.some 17), (.mov (.tmp 20)), .none⟩]
def p27_10 : List PO := [⟨(.some 2), (.mov (.const (.string ⟨#[9]⟩))), .none⟩]
def p27_11 : List PO := [⟨(.some 22), (.fld 0 (.tmp 1)), .none⟩, ⟨(.some 23), (.load .false 1 (.tmp 22)), .none⟩, ⟨(.some 24), (.cmpI .eql (.tmp 23) (.const (.int .i64 25))), .none⟩, ⟨(.some 25), (.mov (.tmp 24)), .none⟩, ⟨(.some 26), (.fld 2 (.tmp 1)), (.some (25, .true))⟩, ⟨(.some 27), (.load .false 1 (.tmp 26)), (.some (25, .true))⟩, ⟨(.some 28), (.arI .and (.tmp 27) (.const (.int .i64 4))), (.some (25, .true))⟩, ⟨(.some 29), (.cmpI .neq (.tmp 28) (.const (.int .i64 0))), (.some (25, .true))⟩, ⟨(.some 30), (.pick (.tmp 25) (.tmp 29) (.const (.bool .false))), .none⟩, ⟨(.some 21), (.mov (.tmp 30)), .none⟩]
def p27_12 : List PO := [⟨(.some 2), (.mov (.const (.string ⟨#[8]⟩))), .none⟩]
def p27_13 : List PO := [⟨(.some 32), (.fld 0 (.tmp 1)), .none⟩, ⟨(.some 33), (.load .false 1 (.tmp 32)), .none⟩, ⟨(.some 34), (.cmpI .eql (.tmp 33) (.const (.int .i64 25))), .none⟩, ⟨(.some 31), (.mov (.tmp 34)), .none⟩]
def p27_14 : List PO := [⟨(.some 2), (.mov (.const (.string ⟨#[127]⟩))), .none⟩]
def p27_15 : List PO := [⟨(.some 36), (.fld 0 (.tmp 1)), .none⟩, ⟨(.some 37), (.load .false 1 (.tmp 36)), .none⟩, ⟨(.some 38), (.cmpI .eql (.tmp 37) (.const (.int .i64 26))), .none⟩, ⟨(.some 35), (.mov (.tmp 38)), .none⟩]
def p27_16 : List PO := [⟨(.some 2), (.mov (.const (.string ⟨#[27]⟩))), .none⟩]
def c27_1 : PCode := (.keep [1] [(16, .id 16)] [] (.seq (.reg p27_13) (.cond (.tmp 31) (.seq (.reg p27_14) .ret) (.seq (.reg p27_15) (.cond (.tmp 35) (.seq (.reg p27_16) .ret) .skip)))))
def c27_3 : PCode := (.keep [1] [(16, .id 16)] [] (.seq (.reg p27_9) (.cond (.tmp 17) (.seq (.reg p27_10) .ret) (.seq (.reg p27_11) (.cond (.tmp 21) (.seq (.reg p27_12) .ret) c27_1)))))
def p27_17 : List PO := [⟨(.some 39), (.fld 1 (.tmp 1)), .none⟩, ⟨(.some 40), (.load .false 1 (.tmp 39)), .none⟩, ⟨(.some 41), (.fld 2 (.tmp 1)), .none⟩, ⟨(.some 42), (.load .false 1 (.tmp 41)), .none⟩, ⟨(.some 43), (.call 41 [(.tmp 40), (.tmp 42)]), .none⟩, ⟨(.some 2), (.mov (.tmp 43)), .none⟩]
def c27_2 : PCode := (.seq (.reg p27_17) .ret)
def c27_b : PCode := (.seq (.reg p27_4) (.seq (.block 0 (.seq (.reg p27_5) (.cond (.tmp 3) (.seq (.reg p27_6) .ret) (.seq (.reg p27_7) (.cond (.tmp 7) (.seq (.reg p27_8) .ret) c27_3))))) c27_2))
def c27 : FCode := ⟨44, c27_b, [(.tmp 2)], some ([2], [], []), false⟩
theorem c27_ok : compF Go.Proofs.Tryd.prog [70, 75] 27 = some (eraseF c27) := by kernel_rfl
def p13_8 : List PO := [⟨(.some 2), (.box 3 (.tmp 0)), .none⟩, ⟨(.some 4), (.mov (.const (.string ⟨#[]⟩))), .none⟩, ⟨(.some 5), (.mov (.const (.int .i64 0))), .none⟩]
def p13_9 : List PO := [⟨(.some 9), (.fld 2 (.tmp 2)), .none⟩, ⟨(.some 10), (.load .false 1 (.tmp 9)), .none⟩, ⟨(.some 11), (.cmpI .lss (.tmp 10) (.const (.int .i64 0))), .none⟩, ⟨(.some 12), (.mov (.tmp 11)), .none⟩, ⟨(.some 13), (.fld 2 (.tmp 2)), (.some (12, .false))⟩, ⟨(.some 14), (.load .false 1 (.tmp 13)), (.some (12, .false))⟩, ⟨(.some 15), (.cmpI .gtr (.tmp 14) (.const (.int .i64 7))), (.some (12, .false))⟩, ⟨(.some 16), (.pick (.tmp 12) (.const (.bool .true)) (.tmp 15)), .none⟩, ⟨(.some 17), (.mov (.tmp 16)), .none⟩, ⟨(.some 18), (.fld 0 (.tmp 2)), (.some (17, .false))⟩, ⟨(.some 19), (.load .false 1 (.tmp 18)), (.some (17, .false))⟩, ⟨(.some 20), (.cmpI .lss (.tmp 19) (.const (.int .i64 0))), (.some (17, .false))⟩, ⟨(.some 21), (.pick (.tmp 17) (.const (.bool .true)) (.tmp 20)), .none⟩, ⟨(.some 22), (.mov (.tmp 21)), .none⟩, ⟨(.some 23), (.fld 0 (.tmp 2)), (.some (22, .false))⟩, ⟨(.some 24), (.load .false 1 (.tmp 23)), (.some (22, .false))⟩, ⟨(.some 25), (.cmpI .gtr (.tmp 24) (.const (.int .i64 26))), (.some (22, .false))⟩, ⟨(.some 26), (.pick (.tmp 22) (.const (.bool .true)) (.tmp 25)), .none⟩, ⟨(.some 27), (.mov (.tmp 26)), .none⟩, ⟨(.some 28), (.fld 0 (.tmp 2)), (.some (27, .false))⟩, ⟨(.some 29), (.load .false 1 (.tmp 28)), (.some (27, .false))⟩, ⟨(.some 30), (.cmpI .eql (.tmp 29) (.const (.int .i64 0))), (.some (27, .false))⟩, ⟨(.some 31), (.mov (.tmp 30)), (.some (27, .false))⟩, ⟨(.some 32), (.fld 1 (.tmp 2)), (.some (31, .true))⟩, ⟨(.some 33), (.load .false 1 (.tmp 32)), (.some (31, .true))⟩, ⟨(.some 34), (.call 24 [(.tmp 33)]), (.some (31, .true))⟩, ⟨(.some 35), (.un .not (.tmp 34)), (.some (31, .true))⟩, ⟨(.some 36), (.pick (.tmp 31) (.tmp 35) (.const (.bool .false))), (.some (27, .false))⟩, ⟨(.some 37), (.pick (.tmp 27) (.const (.bool .true)) (.tmp 36)), .none⟩, ⟨(.some 38), (.mov (.tmp 37)), .none⟩, ⟨(.some 39), (.fld 0 (.tmp 2)), (.some (38, .false))⟩, ⟨(.some 40), (.load .false 1 (.tmp 39)), (.some (38, .false))⟩, ⟨(.some 41), (.cmpI .neq (.tmp 40) (.const (.int .i64 0))), (.some (38, .false))⟩, ⟨(.some 42), (.mov (.tmp 41)), (.some (38, .false))⟩, ⟨(.some 43), (.fld 1 (.tmp 2)), (.some (42, .true))⟩, ⟨(.some 44), (.load .false 1 (.tmp 43)), (.some (42, .true))⟩, ⟨(.some 45), (.cmpI .neq (.tmp 44) (.const (.int .i64 0))), (.some (42, .true))⟩, ⟨(.some 46), (.pick (.tmp 42) (.tmp 45) (.const (.bool .false))), (.some (38, .false))⟩, ⟨(.some 47), (.pick (.tmp 38) (.const (.bool .true)) (.tmp 46)), .none⟩]
def p13_10 : List PO := [⟨(.some 4), (.mov (.const (.string ⟨#[]⟩))), .none⟩, ⟨(.some 5), (.mov (.const (.int .i64 1))), .none⟩]
def p13_11 : List PO := [⟨(.some 48), (.fld 0 (.tmp 2)), .none⟩, ⟨(.some 49), (.load .false 1 (.tmp 48)), .none⟩, ⟨(.some 6), (.mov (.tmp 49)), .none⟩]
def p13_12 : List PO := [⟨(.some 51), (.mov (.tmp 6)), .none⟩, ⟨(.some 52), (.cmpI .geq (.tmp 51) (.const (.int .i64 1))), .none⟩, ⟨(.some 53), (.mov (.tmp 52)), .none⟩, ⟨(.some 54), (.mov (.tmp 6)), (.some (53, .true))⟩, ⟨(.some 55), (.cmpI .leq (.tmp 54) (.const (.int .i64 6))), (.some (53, .true))⟩, ⟨(.some 56), (.pick (.tmp 53) (.tmp 55) (.const (.bool .false))), .none⟩, ⟨(.some 50), (.mov (.tmp 56)), .none⟩]
def p13_13 : List PO := [⟨(.some 7), (.mov (.const (.string ⟨#[91]⟩))), .none⟩]
def p13_14 : List PO := [⟨(.some 57), (.mov (.tmp 1)), .none⟩, ⟨(.some 58), (.arI .and (.tmp 57) (.const (.int .i64 16))), .none⟩, ⟨(.some 59), (.cmpI .neq (.tmp 58) (.const (.int .i64 0))), .none⟩]
def p13_15 : List PO := [⟨(.some 7), (.mov (.const (.string ⟨#[79]⟩))), .none⟩]
def p13_16 : List PO := [⟨(.some 60), (.mov (.tmp 7)), .none⟩, ⟨(.some 61), (.mov (.tmp 6)), .none⟩, ⟨(.some 62), (.arI .sub (.tmp 61) (.const (.int .i64 1))), .none⟩, ⟨(.some 63), (.ixStr (.const (.string ⟨#[65, 66, 67, 68, 72, 70]⟩)) (.tmp 62)), .none⟩, ⟨(.some 64), (.fld 2 (.tmp 2)), .none⟩, ⟨(.some 65), (.load .false 1 (.tmp 64)), .none⟩, ⟨(.some 66), (.call 25 [(.tmp 60), (.tmp 63), (.tmp 65)]), .none⟩, ⟨(.some 4), (.mov (.tmp 66)), .none⟩, ⟨(.some 5), (.mov (.const (.int .i64 0))), .none⟩]
def c13_6 : PCode := (.keep [2, 6, 7] [(24, .id 24)] [] (.seq (.regD p13_16 []) .ret))
def p13_17 : List PO := [⟨(.some 68), (.mov (.tmp 6)), .none⟩, ⟨(.some 69), (.cmpI .geq (.tmp 68) (.const (.int .i64 7))), .none⟩, ⟨(.some 70), (.mov (.tmp 69)), .none⟩, ⟨(.some 71), (.mov (.tmp 6)), (.some (70, .true))⟩, ⟨(.some 72), (.cmpI .leq (.tmp 71) (.const (.int .i64 10))), (.some (70, .true))⟩, ⟨(.some 73), (.pick (.tmp 70) (.tmp 72) (.const (.bool .false))), .none⟩, ⟨(.some 67), (.mov (.tmp 73)), .none⟩]
def p13_18 : List PO := [⟨(.some 74), (.build [(4, (.int .i64 0))] [(0, (1, (.const (.int .i64 2)))), (1, (1, (.const (.int .i64 3)))), (2, (1, (.const (.int .i64 5)))), (3, (1, (.const (.int .i64 6))))]), .none⟩, ⟨(.some 75), (.mov (.tmp 6)), .none⟩, ⟨(.some 76), (.arI .sub (.tmp 75) (.const (.int .i64 7))), .none⟩, ⟨(.some 77), (.ixV .false 4 1 (.tmp 74) (.tmp 76)), .none⟩, ⟨(.some 78), (.fld 2 (.tmp 2)), .none⟩, ⟨(.some 79), (.load .false 1 (.tmp 78)), .none⟩, ⟨(.some 80), (.call 26 [(.tmp 77), (.tmp 79)]), .none⟩, ⟨(.some 4), (.mov (.tmp 80)), .none⟩, ⟨(.some 5), (.mov (.const (.int .i64 0))), .none⟩]
def p13_19 : List PO := [⟨(.some 82), (.mov (.tmp 6)), .none⟩, ⟨(.some 83), (.cmpI .geq (.tmp 82) (.const (.int .i64 11))), .none⟩, ⟨(.some 84), (.mov (.tmp 83)), .none⟩, ⟨(.some 85), (.mov (.tmp 6)), (.some (84, .true))⟩, ⟨(.some 86), (.cmpI .leq (.tmp 85) (.const (.int .i64 14))), (.some (84, .true))⟩, ⟨(.some 87), (.pick (.tmp 84) (.tmp 86) (.const (.bool .false))), .none⟩, ⟨(.some 81), (.mov (.tmp 87)), .none⟩]
def p13_20 : List PO := [⟨(.some 88), (.mov (.tmp 6)), .none⟩, ⟨(.some 89), (.arI .sub (.tmp 88) (.const (.int .i64 11))), .none⟩, ⟨(.some 90), (.ixStr (.const (.string ⟨#[80, 81, 82, 83]⟩)) (.tmp 89)), .none⟩, ⟨(.some 91), (.fld 2 (.tmp 2)), .none⟩, ⟨(.some 92), (.load .false 1 (.tmp 91)), .none⟩, ⟨(.some 93), (.call 25 [(.const (.string ⟨#[79]⟩)), (.tmp 90), (.tmp 92)]), .none⟩, ⟨(.some 4), (.mov (.tmp 93)), .none⟩, ⟨(.some 5), (.mov (.const (.int .i64 0))), .none⟩]
def p13_21 : List PO := [⟨(.some 95), (.mov (.tmp 6)), .none⟩, ⟨(.some 96), (.cmpI .gtr (.tmp 95) (.const (.int .i64 14))), .none⟩, ⟨(.some 97), (.mov (.tmp 96)), .none⟩, ⟨(.some 98), (.mov (.tmp 6)), (.some (97, .true))⟩, ⟨(.some 99), (.cmpI .lss (.tmp 98) (.const (.int .i64 23))), (.some (97, .true))⟩, ⟨(.some 100), (.pick (.tmp 97) (.tmp 99) (.const (.bool .false))), .none⟩, ⟨(.some 94), (.mov (.tmp 100)), .none⟩]
def p13_22 : List PO := [⟨(.some 101), (.build [(8, (.int .i64 0))] [(0, (1, (.const (.int .i64 15)))), (1, (1, (.const (.int .i64 17)))), (2, (1, (.const (.int .i64 18)))), (3, (1, (.const (.int .i64 19)))), (4, (1, (.const (.int .i64 20)))), (5, (1, (.const (.int .i64 21)))), (6, (1, (.const (.int .i64 23)))), (7, (1, (.const (.int .i64 24))))]), .none⟩, ⟨(.some 102), (.mov (.tmp 6)), .none⟩, ⟨(.some 103), (.arI .sub (.tmp 102) (.const (.int .i64 11))), .none⟩, ⟨(.some 104), (.arI .sub (.tmp 103) (.const (.int .i64 4))), .none⟩, ⟨(.some 105), (.ixV .false 8 1 (.tmp 101) (.tmp 104)), .none⟩, ⟨(.some 106), (.fld 2 (.tmp 2)), .none⟩, ⟨(.some 107), (.load .false 1 (.tmp 106)), .none⟩, ⟨(.some 108), (.call 26 [(.tmp 105), (.tmp 107)]), .none⟩, ⟨(.some 4), (.mov (.tmp 108)), .none⟩, ⟨(.some 5), (.mov (.const (.int .i64 0))), .none⟩]
def c13_2 : PCode := (.keep [2] [(24, .id 24)] [] .skip)
def c13_3 : PCode := (.keep [2, 6] [(24, .id 24)] [] (.seq (.reg p13_21) (.cond (.tmp 94) (.seq (.regD p13_22 []) .ret) c13_2)))
def c13_4 : PCode := (.keep [2, 6] [(24, .id 24)] [] (.seq (.reg p13_19) (.cond (.tmp 81) (.seq (.regD p13_20 []) .ret) c13_3)))
def c13_5 : PCode := (.keep [2, 6] [(24, .id 24)] [] (.seq (.reg p13_17) (.cond (.tmp 67) (.seq (.regD p13_18 []) .ret) c13_4)))
def p13_23 : List PO := [⟨(.some 109), (.load .true 3 (.tmp 2)), .none⟩, ⟨(.some 110), (.call 27 [(.tmp 109)]), .none⟩, ⟨(.some 8), (.mov (.tmp 110)), .none⟩]
def p13_24 : List PO := [⟨(.some 111), (.fld 2 (.tmp 2)), .none⟩, ⟨(.some 112), (.load .false 1 (.tmp 111)), .none⟩, ⟨(.some 113), (.arI .and (.tmp 112) (.const (.int .i64 2))), .none⟩, ⟨(.some 114), (.cmpI .neq (.tmp 113) (.const (.int .i64 0))), .none⟩]
def p13_25 : List PO := [⟨(.some 115), (.mov (.tmp 8)), .none⟩, ⟨(.some 116), (.strO .add (.const (.string ⟨#[27]⟩)) (.tmp 115)), .none⟩, ⟨(.some 8), (.mov (.tmp 116)), .none⟩]
def p13_26 : List PO := [⟨(.some 117), (.mov (.tmp 8)), .none⟩, ⟨(.some 4), (.mov (.tmp 117)), .none⟩, ⟨(.some 5), (.mov (.const (.int .i64 0))), .none⟩]
def c13_1 : PCode := (.keep [2] [(24, .id 24)] [] (.seq (.reg p13_23) (.seq (.seq (.reg p13_24) (.cond (.tmp 114) (.reg p13_25) .skip)) (.seq (.reg p13_26) .ret))))
def c13_7 : PCode := (.keep [1, 2] [(24, .id 24)] [] (.seq (.reg p13_11) (.seq (.block 0 (.seq (.reg p13_12) (.cond (.tmp 50) (.seq (.reg p13_13) (.seq (.seq (.reg p13_14) (.cond (.tmp 59) (.reg p13_15) .skip)) c13_6)) c13_5))) c13_1)))
def c13_b : PCode := (.seq (.reg p13_8) (.seq (.seq (.reg p13_9) (.cond (.tmp 47) (.seq (.reg p13_10) .ret) .skip)) c13_7))
def c13 : FCode := ⟨118, c13_b, [(.tmp 4), (.tmp 5)], some ([4, 5], [], []), false⟩
theorem c13_ok : compF Go.Proofs.Tryd.prog [70, 75] 13 = some (eraseF c13) := by kernel_rfl
def p6_1 : List PO := [⟨(.some 0), (.mov (.const (.bool .false))), .none⟩]
def p6_2 : List PO := [⟨(.some 4), (.build [(3, (.int .i64 0))] [(0, (1, (.const (.int .i64 1)))), (2, (1, (.const (.int .i64 4))))]), .none⟩, ⟨(.some 5), (.call 13 [(.tmp 4), (.const (.int .i64 0))]), .none⟩, ⟨(.some 3), (.mov (.tmp 5)), .none⟩, ⟨(.some 6), (.ext (.tmp 3) 0), .none⟩, ⟨(.some 7), (.ext (.tmp 3) 1), .none⟩, ⟨(.some 1), (.mov (.tmp 6)), .none⟩, ⟨(.some 2), (.mov (.tmp 7)), .none⟩]
def p6_3 : List PO := [⟨(.some 8), (.mov (.tmp 2)), .none⟩, ⟨(.some 9), (.cmpI .eql (.tmp 8) (.const (.int .i64 0))), .none⟩, ⟨(.some 10), (.mov (.tmp 9)), .none⟩, ⟨(.some 11), (.mov (.tmp 1)), (.some (10, .true))⟩, ⟨(.some 12), (.strO .eql (.tmp 11) (.const (.string ⟨#[27, 91, 49, 59, 53, 65]⟩))), (.some (10, .true))⟩, ⟨(.some 13), (.pick (.tmp 10) (.tmp 12) (.const (.bool .false))), .none⟩, ⟨(.some 0), (.mov (.tmp 13)), .none⟩]
def c6_b : PCode := (.seq (.reg p6_1) (.seq (.reg p6_2) (.seq (.reg p6_3) .ret)))
def c6 : FCode := ⟨14, c6_b, [(.tmp 0)], some ([0], [], []), false⟩
theorem c6_ok : compF Go.Proofs.Tryd.prog [70, 75] 6 = some (eraseF c6) := by kernel_rfl
def p3_2 : List PO := [⟨(.some 2), (.box 5 (.tmp 0)), .none⟩, ⟨(.some 4), (.mov (.const (.bool .false))), .none⟩]
def p3_3 : List PO := [⟨(.some 14), (.load .true 5 (.tmp 2)), .none⟩, ⟨(.some 15), (.call 4 [(.tmp 14), (.const (.int .i64 1536))]), .none⟩, ⟨(.some 13), (.mov (.tmp 15)), .none⟩, ⟨(.some 16), (.ext (.tmp 13) 0), .none⟩, ⟨(.some 17), (.ext (.tmp 13) 1), .none⟩, ⟨(.some 5), (.mov (.tmp 16)), .none⟩, ⟨(.some 6), (.mov (.tmp 17)), .none⟩]
def p3_4 : List PO := [⟨(.some 18), (.mov (.tmp 6)), .none⟩, ⟨(.some 19), (.cmpI .eql (.tmp 18) (.const (.int .i64 0))), .none⟩]
def p3_5 : List PO := [⟨(.some 21), (.mov (.tmp 5)), .none⟩, ⟨(.some 22), (.call 5 [(.tmp 21)]), .none⟩, ⟨(.some 20), (.mov (.tmp 22)), .none⟩, ⟨(.some 23), (.ext (.tmp 20) 0), .none⟩, ⟨(.some 24), (.ext (.tmp 20) 1), .none⟩, ⟨(.some 7), (.alloc [(4, (.int .i64 0)), (1, (.bool .false))]), .none⟩, ⟨.none, (.store 5 (.tmp 7) (.tmp 23)), .none⟩, ⟨(.some 8), (.mov (.tmp 24)), .none⟩]
def p3_6 : List PO := [⟨(.some 25), (.mov (.tmp 8)), .none⟩, ⟨(.some 26), (.cmpI .neq (.tmp 25) (.const (.int .i64 0))), .none⟩, ⟨(.some 27), (.mov (.tmp 26)), .none⟩, ⟨(.some 28), (.load .true 5 (.tmp 7)), (.some (27, .false))⟩, ⟨(.some 29), (.load .true 5 (.tmp 2)), (.some (27, .false))⟩, ⟨(.some 30), (.eqA .true [(4, .int), (1, .bool)] (.tmp 28) (.tmp 29)), (.some (27, .false))⟩, ⟨(.some 31), (.pick (.tmp 27) (.const (.bool .true)) (.tmp 30)), .none⟩]
def p3_7 : List PO := [⟨(.some 4), (.mov (.const (.bool .false))), .none⟩]
def p3_8 : List PO := [⟨(.some 33), (.mov (.tmp 1)), .none⟩, ⟨(.some 34), (.call 5 [(.tmp 33)]), .none⟩, ⟨(.some 32), (.mov (.tmp 34)), .none⟩, ⟨(.some 35), (.ext (.tmp 32) 0), .none⟩, ⟨(.some 36), (.ext (.tmp 32) 1), .none⟩, ⟨(.some 9), (.alloc [(4, (.int .i64 0)), (1, (.bool .false))]), .none⟩, ⟨.none, (.store 5 (.tmp 9) (.tmp 35)), .none⟩, ⟨(.some 10), (.mov (.tmp 36)), .none⟩]
def p3_9 : List PO := [⟨(.some 38), (.load .true 5 (.tmp 9)), .none⟩, ⟨(.some 39), (.call 4 [(.tmp 38), (.const (.int .i64 1536))]), .none⟩, ⟨(.some 37), (.mov (.tmp 39)), .none⟩, ⟨(.some 40), (.ext (.tmp 37) 0), .none⟩, ⟨(.some 41), (.ext (.tmp 37) 1), .none⟩, ⟨(.some 11), (.mov (.tmp 40)), .none⟩, ⟨(.some 12), (.mov (.tmp 41)), .none⟩]
def p3_10 : List PO := [⟨(.some 42), (.call 6 []), .none⟩, ⟨(.some 43), (.mov (.tmp 42)), .none⟩, ⟨(.some 44), (.mov (.tmp 10)), (.some (43, .true))⟩, ⟨(.some 45), (.cmpI .neq (.tmp 44) (.const (.int .i64 0))), (.some (43, .true))⟩, ⟨(.some 46), (.mov (.tmp 45)), (.some (43, .true))⟩, ⟨(.some 47), (.load .true 5 (.tmp 9)), (.some (46, .true))⟩, ⟨(.some 48), (.build [(4, (.int .i64 0)), (1, (.bool .false))] []), (.some (46, .true))⟩, ⟨(.some 49), (.eqA .false [(4, .int), (1, .bool)] (.tmp 47) (.tmp 48)), (.some (46, .true))⟩, ⟨(.some 50), (.pick (.tmp 46) (.tmp 49) (.const (.bool .false))), (.some (43, .true))⟩, ⟨(.some 51), (.mov (.tmp 50)), (.some (43, .true))⟩, ⟨(.some 52), (.mov (.tmp 10)), (.some (51, .false))⟩, ⟨(.some 53), (.cmpI .eql (.tmp 52) (.const (.int .i64 0))), (.some (51, .false))⟩, ⟨(.some 54), (.mov (.tmp 53)), (.some (51, .false))⟩, ⟨(.some 55), (.mov (.tmp 12)), (.some (54, .true))⟩, ⟨(.some 56), (.cmpI .eql (.tmp 55) (.const (.int .i64 0))), (.some (54, .true))⟩, ⟨(.some 57), (.pick (.tmp 54) (.tmp 56) (.const (.bool .false))), (.some (51, .false))⟩, ⟨(.some 58), (.mov (.tmp 57)), (.some (51, .false))⟩, ⟨(.some 59), (.mov (.tmp 11)), (.some (58, .true))⟩, ⟨(.some 60), (.mov (.tmp 1)), (.some (58, .true))⟩, ⟨(.some 61), (.strO .eql (.tmp 59) (.tmp 60)), (.some (58, .true))⟩, ⟨(.some 62), (.pick (.tmp 58) (.tmp 61) (.const (.bool .false))), (.some (51, .false))⟩, ⟨(.some 63), (.pick (.tmp 51) (.const (.bool .true)) (.tmp 62)), (.some (43, .true))⟩, ⟨(.some 64), (.pick (.tmp 43) (.tmp 63) (.const (.bool .false))), .none⟩, ⟨(.some 4), (.mov (.tmp 64)), .none⟩]
def c3_1 : PCode := (.keep [1] [] [] (.seq (.reg p3_8) (.seq (.reg p3_9) (.seq (.reg p3_10) .ret))))
def c3_b : PCode := (.seq (.reg p3_2) (.seq (.seq (.reg p3_3) (.seq (.reg p3_4) (.cond (.tmp 19) (.seq (.reg p3_5) (.seq (.reg p3_6) (.cond (.tmp 31) (.seq (.reg p3_7) .ret) .skip))) .skip))) c3_1))
def c3 : FCode := ⟨65, c3_b, [(.tmp 4)], some ([4], [], []), false⟩
theorem c3_ok : compF Go.Proofs.Tryd.prog [70, 75] 3 = some (eraseF c3) := by kernel_rfl
def codes : Nat → Option FCode
  | 3 => some c3
  | 4 => some c4
  | 5 => some c5
  | 6 => some c6
  | 9 => some c9
  | 13 => some c13
  | 16 => some c16
  | 24 => some c24
  | 25 => some c25
  | 26 => some c26
  | 27 => some c27
  | 32 => some c32
  | 41 => some c41
  | 55 => some c55
  | 70 => some c70
  | 75 => some c75
  | _ => none
theorem codes_ok : ∀ f fc, codes f = some fc → compF Go.Proofs.Tryd.prog [70, 75] f = some (eraseF fc) := by
  intro f fc h
  unfold codes at h
  split at h
  · cases h; exact c3_ok
  · cases h; exact c4_ok
  · cases h; exact c5_ok
  · cases h; exact c6_ok
  · cases h; exact c9_ok
  · cases h; exact c13_ok
  · cases h; exact c16_ok
  · cases h; exact c24_ok
  · cases h; exact c25_ok
  · cases h; exact c26_ok
  · cases h; exact c27_ok
  · cases h; exact c32_ok
  · cases h; exact c41_ok
  · cases h; exact c55_ok
  · cases h; exact c70_ok
  · cases h; exact c75_ok
  · cases h
theorem codes3 : codes 3 = some c3 := rfl
theorem codes4 : codes 4 = some c4 := rfl
theorem codes5 : codes 5 = some c5 := rfl
theorem codes6 : codes 6 = some c6 := rfl
theorem codes9 : codes 9 = some c9 := rfl
theorem codes13 : codes 13 = some c13 := rfl
theorem codes16 : codes 16 = some c16 := rfl
theorem codes24 : codes 24 = some c24 := rfl
theorem codes25 : codes 25 = some c25 := rfl
theorem codes26 : codes 26 = some c26 := rfl
theorem codes27 : codes 27 = some c27 := rfl
theorem codes32 : codes 32 = some c32 := rfl
theorem codes41 : codes 41 = some c41 := rfl
theorem codes55 : codes 55 = some c55 := rfl
theorem codes70 : codes 70 = some c70 := rfl
theorem codes75 : codes 75 = some c75 := rfl
noncomputable def libs : List (Nat × (List PV → Option PV)) := [(7, oiS libItoaL), (10, ossS libTrimRightS), (8, ossL libSplit), (11, osE libAtoi), (12, ossB libHasSuffix)]
noncomputable abbrev baseL : Orc := libO libs
end Go.Proofs.YtcbhpadficfnnaaDoor.Pm
