/- The small machine's codes of some functions. Printed by dec.py. -/
import Derived.Test.YthblnlmpfgfgcaaDoorLibB
import Derived.Test.YthblnlmpfgfgcaaDoorLib1
import Derived.Test.YthblnlmpfgfgcaaDoorProg
namespace Go.Proofs.YthblnlmpfgfgcaaDoor.Pm
set_option maxRecDepth 1000000
set_option maxHeartbeats 20000000
set_option linter.unusedVariables false
structure GTok where
  Kind : Int
  Cmd : Int
  Opt : Int
  Data : List UInt8
structure GWire where
  Mode : Int
  Cmd : Int
  Opt : Int
  Buf : List UInt8
  Over : Bool
structure Greceiver where
  Wire : GWire
  buf : List UInt8
  data : List UInt8
  l : List GTok
def e_GTok : Enc GTok := ⟨4, fun x => [.int .i64 x.Kind, .int .i64 x.Cmd, .int .i64 x.Opt, .str x.Data], fun _ => rfl⟩
def bx_Greceiver (x : Greceiver) (c3 c2 c1 : PV) : List PV := ((.d (.int .i64 x.Wire.Mode)) :: ((.d (.int .i64 x.Wire.Cmd)) :: ((.d (.int .i64 x.Wire.Opt)) :: ((.d (.str x.Wire.Buf)) :: ((.d (.bool x.Wire.Over)) :: (c3 :: (c2 :: (c1 :: []))))))))
def p21_1 : List PO := [⟨(.some 2), (.mov (.const (.string ⟨#[]⟩))), .none⟩]
def p21_2 : List PO := [⟨(.some 3), (.mov (.tmp 0)), .none⟩, ⟨(.some 4), (.call 33 [(.tmp 3), (.const (.string ⟨#[255]⟩)), (.const (.string ⟨#[255, 255]⟩))]), .none⟩, ⟨(.some 2), (.mov (.tmp 4)), .none⟩]
def c21_b : PCode := (.seq (.reg p21_1) (.seq (.reg p21_2) .ret))
def c21 : FCode := ⟨5, c21_b, [(.tmp 2)], some ([2], [], []), false⟩
theorem c21_ok : compF Go.Proofs.Tryd.prog [7, 9, 18, 20, 23, 24, 26, 27, 200028, 28, 32, 34, 35, 36, 37, 47, 48, 58, 89] 21 = some (eraseF c21) := by kernel_rfl
def p11_8 : List PO := [⟨(.some 1), (.box 4 (.tmp 0)), .none⟩, ⟨(.some 2), (.mov (.const (.string ⟨#[]⟩))), .none⟩, ⟨(.some 3), (.mov (.const (.int .i64 0))), .none⟩]
def p11_9 : List PO := [⟨(.some 6), (.fld 0 (.tmp 1)), .none⟩, ⟨(.some 7), (.load .false 1 (.tmp 6)), .none⟩, ⟨(.some 8), (.build [(3, (.int .i64 0)), (1, (.string ⟨#[]⟩))] [(0, (1, (.tmp 7)))]), .none⟩, ⟨(.some 4), (.alloc [(3, (.int .i64 0)), (1, (.string ⟨#[]⟩))]), .none⟩, ⟨.none, (.store 4 (.tmp 4) (.tmp 8)), .none⟩]
def p11_10 : List PO := [⟨(.some 9), (.fld 2 (.tmp 1)), .none⟩, ⟨(.some 10), (.load .false 1 (.tmp 9)), .none⟩, ⟨(.some 11), (.cmpI .geq (.tmp 10) (.const (.int .i64 0))), .none⟩, ⟨(.some 12), (.mov (.tmp 11)), .none⟩, ⟨(.some 13), (.fld 2 (.tmp 1)), (.some (12, .true))⟩, ⟨(.some 14), (.load .false 1 (.tmp 13)), (.some (12, .true))⟩, ⟨(.some 15), (.cmpI .leq (.tmp 14) (.const (.int .i64 255))), (.some (12, .true))⟩, ⟨(.some 16), (.pick (.tmp 12) (.tmp 15) (.const (.bool .false))), .none⟩, ⟨(.some 5), (.mov (.tmp 16)), .none⟩]
def p11_11 : List PO := [⟨(.some 18), (.fld 0 (.tmp 1)), .none⟩, ⟨(.some 19), (.load .false 1 (.tmp 18)), .none⟩, ⟨(.some 20), (.cmpI .eql (.tmp 19) (.const (.int .i64 1))), .none⟩, ⟨(.some 21), (.mov (.tmp 20)), .none⟩, ⟨(.some 22), (.fld 1 (.tmp 1)), (.some (21, .true))⟩, ⟨(.some 23), (.load .false 1 (.tmp 22)), (.some (21, .true))⟩, ⟨(.some 24), (.cmpI .eql (.tmp 23) (.const (.int .i64 0))), (.some (21, .true))⟩, ⟨(.some 25), (.pick (.tmp 21) (.tmp 24) (.const (.bool .false))), .none⟩, ⟨(.some 26), (.mov (.tmp 25)), .none⟩, ⟨(.some 27), (.fld 2 (.tmp 1)), (.some (26, .true))⟩, ⟨(.some 28), (.load .false 1 (.tmp 27)), (.some (26, .true))⟩, ⟨(.some 29), (.cmpI .eql (.tmp 28) (.const (.int .i64 0))), (.some (26, .true))⟩, ⟨(.some 30), (.pick (.tmp 26) (.tmp 29) (.const (.bool .false))), .none⟩, ⟨(.some 17), (.mov (.tmp 30)), .none⟩]
def p11_12 : List PO := [⟨(.some 31), (.fld 3 (.tmp 1)), .none⟩, ⟨(.some 32), (.load .false 1 (.tmp 31)), .none⟩, ⟨(.some 33), (.call 21 [(.tmp 32)]), .none⟩, ⟨(.some 2), (.mov (.tmp 33)), .none⟩, ⟨(.some 3), (.mov (.const (.int .i64 0))), .none⟩]
def p11_13 : List PO := [⟨(.some 35), (.fld 0 (.tmp 1)), .none⟩, ⟨(.some 36), (.load .false 1 (.tmp 35)), .none⟩, ⟨(.some 37), (.cmpI .eql (.tmp 36) (.const (.int .i64 2))), .none⟩, ⟨(.some 38), (.mov (.tmp 37)), .none⟩, ⟨(.some 39), (.fld 1 (.tmp 1)), (.some (38, .true))⟩, ⟨(.some 40), (.load .false 1 (.tmp 39)), (.some (38, .true))⟩, ⟨(.some 41), (.cmpI .geq (.tmp 40) (.const (.int .i64 240))), (.some (38, .true))⟩, ⟨(.some 42), (.pick (.tmp 38) (.tmp 41) (.const (.bool .false))), .none⟩, ⟨(.some 43), (.mov (.tmp 42)), .none⟩, ⟨(.some 44), (.fld 1 (.tmp 1)), (.some (43, .true))⟩, ⟨(.some 45), (.load .false 1 (.tmp 44)), (.some (43, .true))⟩, ⟨(.some 46), (.cmpI .leq (.tmp 45) (.const (.int .i64 249))), (.some (43, .true))⟩, ⟨(.some 47), (.pick (.tmp 43) (.tmp 46) (.const (.bool .false))), .none⟩, ⟨(.some 34), (.mov (.tmp 47)), .none⟩]
def p11_14 : List PO := [⟨(.some 48), (.fld 1 (.tmp 1)), .none⟩, ⟨(.some 49), (.load .false 1 (.tmp 48)), .none⟩, ⟨(.some 50), (.fld 1 (.tmp 4)), .none⟩, ⟨.none, (.store 1 (.tmp 50) (.tmp 49)), .none⟩]
def p11_15 : List PO := [⟨(.some 51), (.load .true 4 (.tmp 1)), .none⟩, ⟨(.some 52), (.load .true 4 (.tmp 4)), .none⟩, ⟨(.some 53), (.eqA .false [(3, .int), (1, .str)] (.tmp 51) (.tmp 52)), .none⟩]
def p11_16 : List PO := [⟨(.some 54), (.fld 1 (.tmp 1)), .none⟩, ⟨(.some 55), (.load .false 1 (.tmp 54)), .none⟩, ⟨(.some 56), (.cvI .u8 (.tmp 55)), .none⟩, ⟨(.some 57), (.bsl 5 1 2 [(2, (.int .u8 0))] [(0, (1, (.const (.int .u8 255)))), (1, (1, (.tmp 56)))]), .none⟩, ⟨(.some 58), (.cvBS (.tmp 57)), .none⟩, ⟨(.some 2), (.mov (.tmp 58)), .none⟩, ⟨(.some 3), (.mov (.const (.int .i64 0))), .none⟩]
def p11_17 : List PO := [⟨(.some 60), (.fld 0 (.tmp 1)), .none⟩, ⟨(.some 61), (.load .false 1 (.tmp 60)), .none⟩, ⟨(.some 62), (.cmpI .eql (.tmp 61) (.const (.int .i64 3))), .none⟩, ⟨(.some 63), (.mov (.tmp 62)), .none⟩, ⟨(.some 64), (.fld 1 (.tmp 1)), (.some (63, .true))⟩, ⟨(.some 65), (.load .false 1 (.tmp 64)), (.some (63, .true))⟩, ⟨(.some 66), (.cmpI .geq (.tmp 65) (.const (.int .i64 251))), (.some (63, .true))⟩, ⟨(.some 67), (.pick (.tmp 63) (.tmp 66) (.const (.bool .false))), .none⟩, ⟨(.some 68), (.mov (.tmp 67)), .none⟩, ⟨(.some 69), (.fld 1 (.tmp 1)), (.some (68, .true))⟩, ⟨(.some 70), (.load .false 1 (.tmp 69)), (.some (68, .true))⟩, ⟨(.some 71), (.cmpI .leq (.tmp 70) (.const (.int .i64 254))), (.some (68, .true))⟩, ⟨(.some 72), (.pick (.tmp 68) (.tmp 71) (.const (.bool .false))), .none⟩, ⟨(.some 73), (.mov (.tmp 72)), .none⟩, ⟨(.some 74), (.mov (.tmp 5)), (.some (73, .true))⟩, ⟨(.some 75), (.pick (.tmp 73) (.tmp 74) (.const (.bool .false))), .none⟩, ⟨(.some 76), (.mov (.tmp 75)), .none⟩, ⟨(.some 77), (.fld 3 (.tmp 1)), (.some (76, .true))⟩, ⟨(.some 78), (.load .false 1 (.tmp 77)), (.some (76, .true))⟩, ⟨(.some 79), (.strO .eql (.tmp 78) (.const (.string ⟨#[]⟩))), (.some (76, .true))⟩, ⟨(.some 80), (.pick (.tmp 76) (.tmp 79) (.const (.bool .false))), .none⟩, ⟨(.some 59), (.mov (.tmp 80)), .none⟩]
def p11_18 : List PO := [⟨(.some 81), (.fld 1 (.tmp 1)), .none⟩, ⟨(.some 82), (.load .false 1 (.tmp 81)), .none⟩, ⟨(.some 83), (.cvI .u8 (.tmp 82)), .none⟩, ⟨(.some 84), (.fld 2 (.tmp 1)), .none⟩, ⟨(.some 85), (.load .false 1 (.tmp 84)), .none⟩, ⟨(.some 86), (.cvI .u8 (.tmp 85)), .none⟩, ⟨(.some 87), (.bsl 5 1 3 [(3, (.int .u8 0))] [(0, (1, (.const (.int .u8 255)))), (1, (1, (.tmp 83))), (2, (1, (.tmp 86)))]), .none⟩, ⟨(.some 88), (.cvBS (.tmp 87)), .none⟩, ⟨(.some 2), (.mov (.tmp 88)), .none⟩, ⟨(.some 3), (.mov (.const (.int .i64 0))), .none⟩]
def p11_19 : List PO := [⟨(.some 90), (.fld 0 (.tmp 1)), .none⟩, ⟨(.some 91), (.load .false 1 (.tmp 90)), .none⟩, ⟨(.some 92), (.cmpI .eql (.tmp 91) (.const (.int .i64 4))), .none⟩, ⟨(.some 93), (.mov (.tmp 92)), .none⟩, ⟨(.some 94), (.fld 1 (.tmp 1)), (.some (93, .true))⟩, ⟨(.some 95), (.load .false 1 (.tmp 94)), (.some (93, .true))⟩, ⟨(.some 96), (.cmpI .eql (.tmp 95) (.const (.int .i64 0))), (.some (93, .true))⟩, ⟨(.some 97), (.pick (.tmp 93) (.tmp 96) (.const (.bool .false))), .none⟩, ⟨(.some 98), (.mov (.tmp 97)), .none⟩, ⟨(.some 99), (.mov (.tmp 5)), (.some (98, .true))⟩, ⟨(.some 100), (.pick (.tmp 98) (.tmp 99) (.const (.bool .false))), .none⟩, ⟨(.some 89), (.mov (.tmp 100)), .none⟩]
def p11_20 : List PO := [⟨(.some 101), (.fld 3 (.tmp 1)), .none⟩, ⟨(.some 102), (.load .false 1 (.tmp 101)), .none⟩, ⟨(.some 103), (.len .true (.tmp 102)), .none⟩, ⟨(.some 104), (.cmpI .gtr (.tmp 103) (.const (.int .i64 4096))), .none⟩]
def p11_21 : List PO := [⟨(.some 2), (.mov (.const (.string ⟨#[]⟩))), .none⟩, ⟨(.some 3), (.mov (.const (.int .i64 2))), .none⟩]
def p11_22 : List PO := [⟨(.some 105), (.fld 2 (.tmp 1)), .none⟩, ⟨(.some 106), (.load .false 1 (.tmp 105)), .none⟩, ⟨(.some 107), (.cvI .u8 (.tmp 106)), .none⟩, ⟨(.some 108), (.bsl 5 1 3 [(3, (.int .u8 0))] [(0, (1, (.const (.int .u8 255)))), (1, (1, (.const (.int .u8 250)))), (2, (1, (.tmp 107)))]), .none⟩, ⟨(.some 109), (.cvBS (.tmp 108)), .none⟩, ⟨(.some 110), (.fld 3 (.tmp 1)), .none⟩, ⟨(.some 111), (.load .false 1 (.tmp 110)), .none⟩, ⟨(.some 112), (.call 21 [(.tmp 111)]), .none⟩, ⟨(.some 113), (.strO .add (.tmp 109) (.tmp 112)), .none⟩, ⟨(.some 114), (.strO .add (.tmp 113) (.const (.string ⟨#[255, 240]⟩))), .none⟩, ⟨(.some 2), (.mov (.tmp 114)), .none⟩, ⟨(.some 3), (.mov (.const (.int .i64 0))), .none⟩]
def c11_1 : PCode := (.keep [1] [(16, .id 16)] [] (.seq (.regD p11_22 [(3, 6), (1, 7), (3, 7), (4, 7)]) .ret))
def c11_3 : PCode := (.keep [1, 89] [(16, .id 16)] [] (.cond (.tmp 89) (.seq (.seq (.reg p11_20) (.cond (.tmp 104) (.seq (.reg p11_21) .ret) .skip)) c11_1) .skip))
def c11_4 : PCode := (.keep [1, 5] [(16, .id 16)] [] (.seq (.reg p11_19) c11_3))
def c11_5 : PCode := (.keep [1, 5] [(16, .id 16)] [] (.seq (.reg p11_17) (.cond (.tmp 59) (.seq (.reg p11_18) .ret) c11_4)))
def c11_6 : PCode := (.keep [1, 4, 5] [(16, .id 16), (40, .id 40)] [] (.seq (.reg p11_13) (.cond (.tmp 34) (.seq (.reg p11_14) (.seq (.reg p11_15) (.cond (.tmp 53) (.seq (.reg p11_16) .ret) .skip))) c11_5)))
def p11_23 : List PO := [⟨(.some 2), (.mov (.const (.string ⟨#[]⟩))), .none⟩, ⟨(.some 3), (.mov (.const (.int .i64 1))), .none⟩]
def c11_2 : PCode := (.seq (.reg p11_23) .ret)
def c11_7 : PCode := (.keep [1, 4, 5] [(16, .id 16), (40, .id 40)] [] (.seq (.block 0 (.seq (.reg p11_11) (.cond (.tmp 17) (.seq (.reg p11_12) .ret) c11_6))) c11_2))
def c11_b : PCode := (.seq (.reg p11_8) (.seq (.reg p11_9) (.seq (.reg p11_10) c11_7)))
def c11 : FCode := ⟨115, c11_b, [(.tmp 2), (.tmp 3)], some ([2, 3], [], []), false⟩
theorem c11_ok : compF Go.Proofs.Tryd.prog [7, 9, 18, 20, 23, 24, 26, 27, 200028, 28, 32, 34, 35, 36, 37, 47, 48, 58, 89] 11 = some (eraseF c11) := by kernel_rfl
def p22_4 : List PO := [⟨(.some 1), (.box 5 (.tmp 0)), .none⟩, ⟨(.some 2), (.mov (.const (.int .i64 0))), .none⟩]
def p22_5 : List PO := [⟨(.some 5), (.fld 0 (.tmp 1)), .none⟩, ⟨(.some 6), (.load .false 1 (.tmp 5)), .none⟩, ⟨(.some 7), (.cmpI .eql (.tmp 6) (.const (.int .i64 4))), .none⟩, ⟨(.some 8), (.mov (.tmp 7)), .none⟩, ⟨(.some 9), (.fld 0 (.tmp 1)), (.some (8, .false))⟩, ⟨(.some 10), (.load .false 1 (.tmp 9)), (.some (8, .false))⟩, ⟨(.some 11), (.cmpI .eql (.tmp 10) (.const (.int .i64 5))), (.some (8, .false))⟩, ⟨(.some 12), (.pick (.tmp 8) (.const (.bool .true)) (.tmp 11)), .none⟩, ⟨(.some 3), (.mov (.tmp 12)), .none⟩]
def p22_6 : List PO := [⟨(.some 13), (.fld 0 (.tmp 1)), .none⟩, ⟨(.some 14), (.load .false 1 (.tmp 13)), .none⟩, ⟨(.some 15), (.cmpI .geq (.tmp 14) (.const (.int .i64 0))), .none⟩, ⟨(.some 16), (.mov (.tmp 15)), .none⟩, ⟨(.some 17), (.fld 0 (.tmp 1)), (.some (16, .true))⟩, ⟨(.some 18), (.load .false 1 (.tmp 17)), (.some (16, .true))⟩, ⟨(.some 19), (.cmpI .leq (.tmp 18) (.const (.int .i64 5))), (.some (16, .true))⟩, ⟨(.some 20), (.pick (.tmp 16) (.tmp 19) (.const (.bool .false))), .none⟩, ⟨(.some 4), (.mov (.tmp 20)), .none⟩]
def p22_7 : List PO := [⟨(.some 21), (.fld 0 (.tmp 1)), .none⟩, ⟨(.some 22), (.load .false 1 (.tmp 21)), .none⟩, ⟨(.some 23), (.cmpI .eql (.tmp 22) (.const (.int .i64 2))), .none⟩]
def p22_8 : List PO := [⟨(.some 24), (.mov (.tmp 4)), .none⟩, ⟨(.some 25), (.mov (.tmp 24)), .none⟩, ⟨(.some 26), (.fld 1 (.tmp 1)), (.some (25, .true))⟩, ⟨(.some 27), (.load .false 1 (.tmp 26)), (.some (25, .true))⟩, ⟨(.some 28), (.cmpI .geq (.tmp 27) (.const (.int .i64 251))), (.some (25, .true))⟩, ⟨(.some 29), (.pick (.tmp 25) (.tmp 28) (.const (.bool .false))), .none⟩, ⟨(.some 30), (.mov (.tmp 29)), .none⟩, ⟨(.some 31), (.fld 1 (.tmp 1)), (.some (30, .true))⟩, ⟨(.some 32), (.load .false 1 (.tmp 31)), (.some (30, .true))⟩, ⟨(.some 33), (.cmpI .leq (.tmp 32) (.const (.int .i64 254))), (.some (30, .true))⟩, ⟨(.some 34), (.pick (.tmp 30) (.tmp 33) (.const (.bool .false))), .none⟩, ⟨(.some 4), (.mov (.tmp 34)), .none⟩]
def p22_9 : List PO := [⟨(.some 35), (.mov (.tmp 4)), .none⟩, ⟨(.some 36), (.mov (.tmp 35)), .none⟩, ⟨(.some 37), (.fld 1 (.tmp 1)), (.some (36, .true))⟩, ⟨(.some 38), (.load .false 1 (.tmp 37)), (.some (36, .true))⟩, ⟨(.some 39), (.cmpI .eql (.tmp 38) (.const (.int .i64 0))), (.some (36, .true))⟩, ⟨(.some 40), (.pick (.tmp 36) (.tmp 39) (.const (.bool .false))), .none⟩, ⟨(.some 4), (.mov (.tmp 40)), .none⟩]
def p22_10 : List PO := [⟨(.some 41), (.mov (.tmp 3)), .none⟩]
def p22_11 : List PO := [⟨(.some 42), (.mov (.tmp 4)), .none⟩, ⟨(.some 43), (.mov (.tmp 42)), .none⟩, ⟨(.some 44), (.fld 2 (.tmp 1)), (.some (43, .true))⟩, ⟨(.some 45), (.load .false 1 (.tmp 44)), (.some (43, .true))⟩, ⟨(.some 46), (.cmpI .geq (.tmp 45) (.const (.int .i64 0))), (.some (43, .true))⟩, ⟨(.some 47), (.pick (.tmp 43) (.tmp 46) (.const (.bool .false))), .none⟩, ⟨(.some 48), (.mov (.tmp 47)), .none⟩, ⟨(.some 49), (.fld 2 (.tmp 1)), (.some (48, .true))⟩, ⟨(.some 50), (.load .false 1 (.tmp 49)), (.some (48, .true))⟩, ⟨(.some 51), (.cmpI .leq (.tmp 50) (.const (.int .i64 255))), (.some (48, .true))⟩, ⟨(.some 52), (.pick (.tmp 48) (.tmp 51) (.const (.bool .false))), .none⟩, ⟨(.some 53), (.mov (.tmp 52)), .none⟩, ⟨(.some 54), (.fld 3 (.tmp 1)), (.some (53, .true))⟩, ⟨(.some 55), (.load .false 1 (.tmp 54)), (.some (53, .true))⟩, ⟨(.some 56), (.len .true (.tmp 55)), (.some (53, .true))⟩, ⟨(.some 57), (.cmpI .leq (.tmp 56) (.const (.int .i64 4096))), (.some (53, .true))⟩, ⟨(.some 58), (.pick (.tmp 53) (.tmp 57) (.const (.bool .false))), .none⟩, ⟨(.some 59), (.mov (.tmp 58)), .none⟩, ⟨(.some 60), (.fld 4 (.tmp 1)), (.some (59, .true))⟩, ⟨(.some 61), (.load .false 1 (.tmp 60)), (.some (59, .true))⟩, ⟨(.some 62), (.un .not (.tmp 61)), (.some (59, .true))⟩, ⟨(.some 63), (.mov (.tmp 62)), (.some (59, .true))⟩, ⟨(.some 64), (.fld 3 (.tmp 1)), (.some (63, .false))⟩, ⟨(.some 65), (.load .false 1 (.tmp 64)), (.some (63, .false))⟩, ⟨(.some 66), (.strO .eql (.tmp 65) (.const (.string ⟨#[]⟩))), (.some (63, .false))⟩, ⟨(.some 67), (.pick (.tmp 63) (.const (.bool .true)) (.tmp 66)), (.some (59, .true))⟩, ⟨(.some 68), (.pick (.tmp 59) (.tmp 67) (.const (.bool .false))), .none⟩, ⟨(.some 4), (.mov (.tmp 68)), .none⟩]
def p22_12 : List PO := [⟨(.some 69), (.mov (.tmp 4)), .none⟩, ⟨(.some 70), (.mov (.tmp 69)), .none⟩, ⟨(.some 71), (.fld 2 (.tmp 1)), (.some (70, .true))⟩, ⟨(.some 72), (.load .false 1 (.tmp 71)), (.some (70, .true))⟩, ⟨(.some 73), (.cmpI .eql (.tmp 72) (.const (.int .i64 0))), (.some (70, .true))⟩, ⟨(.some 74), (.pick (.tmp 70) (.tmp 73) (.const (.bool .false))), .none⟩, ⟨(.some 75), (.mov (.tmp 74)), .none⟩, ⟨(.some 76), (.fld 3 (.tmp 1)), (.some (75, .true))⟩, ⟨(.some 77), (.load .false 1 (.tmp 76)), (.some (75, .true))⟩, ⟨(.some 78), (.strO .eql (.tmp 77) (.const (.string ⟨#[]⟩))), (.some (75, .true))⟩, ⟨(.some 79), (.pick (.tmp 75) (.tmp 78) (.const (.bool .false))), .none⟩, ⟨(.some 80), (.mov (.tmp 79)), .none⟩, ⟨(.some 81), (.fld 4 (.tmp 1)), (.some (80, .true))⟩, ⟨(.some 82), (.load .false 1 (.tmp 81)), (.some (80, .true))⟩, ⟨(.some 83), (.un .not (.tmp 82)), (.some (80, .true))⟩, ⟨(.some 84), (.pick (.tmp 80) (.tmp 83) (.const (.bool .false))), .none⟩, ⟨(.some 4), (.mov (.tmp 84)), .none⟩]
def p22_13 : List PO := [⟨(.some 85), (.mov (.tmp 4)), .none⟩, ⟨(.some 86), (.un .not (.tmp 85)), .none⟩]
def p22_14 : List PO := [⟨(.some 2), (.mov (.const (.int .i64 4))), .none⟩]
def p22_15 : List PO := [⟨(.some 2), (.mov (.const (.int .i64 0))), .none⟩]
def c22_1 : PCode := (.keep [1, 3, 4] [(16, .id 16)] [] (.seq (.seq (.reg p22_10) (.cond (.tmp 41) (.reg p22_11) (.reg p22_12))) (.seq (.seq (.reg p22_13) (.cond (.tmp 86) (.seq (.reg p22_14) .ret) .skip)) (.seq (.reg p22_15) .ret))))
def c22_2 : PCode := (.keep [1, 3, 4] [(16, .id 16)] [] (.seq (.seq (.reg p22_7) (.cond (.tmp 23) (.reg p22_8) (.reg p22_9))) c22_1))
def c22_3 : PCode := (.keep [1, 3] [(16, .id 16)] [] (.seq (.reg p22_6) c22_2))
def c22_b : PCode := (.seq (.reg p22_4) (.seq (.reg p22_5) c22_3))
def c22 : FCode := ⟨87, c22_b, [(.tmp 2)], some ([2], [], []), false⟩
theorem c22_ok : compF Go.Proofs.Tryd.prog [7, 9, 18, 20, 23, 24, 26, 27, 200028, 28, 32, 34, 35, 36, 37, 47, 48, 58, 89] 22 = some (eraseF c22) := by kernel_rfl
def p24_1 : List PO := [⟨(.some 2), (.mov (.tmp 0)), .none⟩, ⟨(.some 3), (.nilC (.tmp 2)), .none⟩, ⟨(.some 4), (.fld 6 (.tmp 3)), .none⟩, ⟨(.some 5), (.load .false 1 (.tmp 4)), .none⟩, ⟨(.some 6), (.len .false (.tmp 5)), .none⟩, ⟨(.some 7), (.cmpI .gtr (.tmp 6) (.const (.int .i64 0))), .none⟩]
def p24_2 : List PO := [⟨(.some 8), (.mov (.tmp 0)), .none⟩, ⟨(.some 9), (.mov (.tmp 0)), .none⟩, ⟨(.some 10), (.nilC (.tmp 9)), .none⟩, ⟨(.some 11), (.fld 7 (.tmp 10)), .none⟩, ⟨(.some 12), (.load .false 1 (.tmp 11)), .none⟩, ⟨(.some 13), (.mov (.tmp 0)), .none⟩, ⟨(.some 14), (.nilC (.tmp 13)), .none⟩, ⟨(.some 15), (.fld 6 (.tmp 14)), .none⟩, ⟨(.some 16), (.load .false 1 (.tmp 15)), .none⟩, ⟨(.some 17), (.cvBS (.tmp 16)), .none⟩, ⟨(.some 18), (.build [(3, (.int .i64 0)), (1, (.string ⟨#[]⟩))] [(0, (1, (.const (.int .i64 1)))), (3, (1, (.tmp 17)))]), .none⟩, ⟨(.some 19), (.bsl 50 4 1 [(3, (.int .i64 0)), (1, (.string ⟨#[]⟩))] [(0, (4, (.tmp 18)))]), .none⟩, ⟨(.some 20), (.app 50 4 40 (.tmp 12) (.tmp 19)), .none⟩, ⟨(.some 21), (.nilC (.tmp 8)), .none⟩, ⟨(.some 22), (.fld 7 (.tmp 21)), .none⟩, ⟨.none, (.store 1 (.tmp 22) (.tmp 20)), .none⟩]
def p24_3 : List PO := [⟨(.some 23), (.mov (.tmp 0)), .none⟩, ⟨(.some 24), (.nilC (.tmp 23)), .none⟩, ⟨(.some 25), (.fld 6 (.tmp 24)), .none⟩, ⟨.none, (.store 1 (.tmp 25) (.const (.slice .none 0 0))), .none⟩]
def c24_b : PCode := (.seq (.reg p24_1) (.cond (.tmp 7) (.seq (.regD p24_2 [(4, 11)]) (.reg p24_3)) .skip))
def c24 : FCode := ⟨26, c24_b, [], some ([1000001, 1000002, 1000003], [(0, .id 0), (1, .id 1), (2, .id 2), (3, .id 3)], [.cell 0 6 2 5 1]), false⟩
theorem c24_ok : compF Go.Proofs.Tryd.prog [7, 9, 18, 20, 23, 24, 26, 27, 200028, 28, 32, 34, 35, 36, 37, 47, 48, 58, 89] 24 = some (eraseF c24) := by kernel_rfl
def p35_1 : List PO := [⟨(.some 3), (.box 4 (.tmp 1)), .none⟩]
def p35_2 : List PO := [⟨(.some 4), (.mov (.tmp 0)), .none⟩, ⟨(.some 5), (.callr 24 [(.tmp 4)]), .none⟩]
def p35_3 : List PO := [⟨(.some 6), (.mov (.tmp 0)), .none⟩, ⟨(.some 7), (.mov (.tmp 0)), .none⟩, ⟨(.some 8), (.nilC (.tmp 7)), .none⟩, ⟨(.some 9), (.fld 7 (.tmp 8)), .none⟩, ⟨(.some 10), (.load .false 1 (.tmp 9)), .none⟩, ⟨(.some 11), (.load .true 4 (.tmp 3)), .none⟩, ⟨(.some 12), (.bsl 50 4 1 [(3, (.int .i64 0)), (1, (.string ⟨#[]⟩))] [(0, (4, (.tmp 11)))]), .none⟩, ⟨(.some 13), (.app 50 4 40 (.tmp 10) (.tmp 12)), .none⟩, ⟨(.some 14), (.nilC (.tmp 6)), .none⟩, ⟨(.some 15), (.fld 7 (.tmp 14)), .none⟩, ⟨.none, (.store 1 (.tmp 15) (.tmp 13)), .none⟩]
def c35_b : PCode := (.seq (.reg p35_1) (.seq (.reg p35_2) (.regD p35_3 [(4, 6)])))
def c35 : FCode := ⟨16, c35_b, [], some ([1000001, 1000002, 1000003], [(0, .id 0), (1, .id 1), (2, .id 2), (3, .id 3)], []), false⟩
theorem c35_ok : compF Go.Proofs.Tryd.prog [7, 9, 18, 20, 23, 24, 26, 27, 200028, 28, 32, 34, 35, 36, 37, 47, 48, 58, 89] 35 = some (eraseF c35) := by kernel_rfl
def p34_1 : List PO := [⟨(.some 4), (.mov (.tmp 0)), .none⟩, ⟨(.some 5), (.nilC (.tmp 4)), .none⟩, ⟨(.some 6), (.fld 0 (.tmp 5)), .none⟩, ⟨(.some 7), (.fld 0 (.tmp 6)), .none⟩, ⟨.none, (.store 1 (.tmp 7) (.const (.int .i64 0))), .none⟩]
def p34_2 : List PO := [⟨(.some 14), (.mov (.tmp 1)), .none⟩, ⟨(.some 15), (.cmpI .eql (.tmp 14) (.const (.int .u8 255))), .none⟩, ⟨(.some 13), (.mov (.tmp 15)), .none⟩]
def p34_3 : List PO := [⟨(.some 16), (.mov (.tmp 0)), .none⟩, ⟨(.some 17), (.mov (.tmp 0)), .none⟩, ⟨(.some 18), (.nilC (.tmp 17)), .none⟩, ⟨(.some 19), (.fld 6 (.tmp 18)), .none⟩, ⟨(.some 20), (.load .false 1 (.tmp 19)), .none⟩, ⟨(.some 21), (.mov (.tmp 1)), .none⟩, ⟨(.some 22), (.bsl 5 1 1 [(1, (.int .u8 0))] [(0, (1, (.tmp 21)))]), .none⟩, ⟨(.some 23), (.app 5 1 1 (.tmp 20) (.tmp 22)), .none⟩, ⟨(.some 24), (.nilC (.tmp 16)), .none⟩, ⟨(.some 25), (.fld 6 (.tmp 24)), .none⟩, ⟨.none, (.store 1 (.tmp 25) (.tmp 23)), .none⟩]
def p34_4 : List PO := [⟨(.some 27), (.mov (.tmp 1)), .none⟩, ⟨(.some 28), (.cmpI .geq (.tmp 27) (.const (.int .u8 251))), .none⟩, ⟨(.some 26), (.mov (.tmp 28)), .none⟩]
def p34_5 : List PO := [⟨(.some 29), (.mov (.tmp 0)), .none⟩, ⟨(.some 30), (.mov (.tmp 0)), .none⟩, ⟨(.some 31), (.mov (.tmp 1)), .none⟩, ⟨(.some 32), (.cvI .i64 (.tmp 31)), .none⟩, ⟨(.some 33), (.nilC (.tmp 29)), .none⟩, ⟨(.some 34), (.fld 0 (.tmp 33)), .none⟩, ⟨(.some 35), (.fld 0 (.tmp 34)), .none⟩, ⟨.none, (.store 1 (.tmp 35) (.const (.int .i64 2))), .none⟩, ⟨(.some 36), (.nilC (.tmp 30)), .none⟩, ⟨(.some 37), (.fld 0 (.tmp 36)), .none⟩, ⟨(.some 38), (.fld 1 (.tmp 37)), .none⟩, ⟨.none, (.store 1 (.tmp 38) (.tmp 32)), .none⟩]
def p34_6 : List PO := [⟨(.some 40), (.mov (.tmp 1)), .none⟩, ⟨(.some 41), (.cmpI .eql (.tmp 40) (.const (.int .u8 250))), .none⟩, ⟨(.some 39), (.mov (.tmp 41)), .none⟩]
def p34_7 : List PO := [⟨(.some 42), (.mov (.tmp 0)), .none⟩, ⟨(.some 43), (.nilC (.tmp 42)), .none⟩, ⟨(.some 44), (.fld 0 (.tmp 43)), .none⟩, ⟨(.some 45), (.fld 0 (.tmp 44)), .none⟩, ⟨.none, (.store 1 (.tmp 45) (.const (.int .i64 3))), .none⟩]
def p34_8 : List PO := [⟨(.some 47), (.mov (.tmp 1)), .none⟩, ⟨(.some 48), (.cmpI .geq (.tmp 47) (.const (.int .u8 240))), .none⟩, ⟨(.some 46), (.mov (.tmp 48)), .none⟩]
def p34_9 : List PO := [⟨(.some 49), (.mov (.tmp 0)), .none⟩, ⟨(.some 50), (.mov (.tmp 1)), .none⟩, ⟨(.some 51), (.cvI .i64 (.tmp 50)), .none⟩, ⟨(.some 52), (.build [(3, (.int .i64 0)), (1, (.string ⟨#[]⟩))] [(0, (1, (.const (.int .i64 2)))), (1, (1, (.tmp 51)))]), .none⟩, ⟨(.some 53), (.callr 35 [(.tmp 49), (.tmp 52)]), .none⟩]
def p34_10 : List PO := [⟨(.some 8), (.mov (.tmp 0)), .none⟩, ⟨(.some 9), (.mov (.tmp 1)), .none⟩, ⟨(.some 10), (.cvI .i64 (.tmp 9)), .none⟩, ⟨(.some 11), (.build [(3, (.int .i64 0)), (1, (.string ⟨#[]⟩))] [(0, (1, (.const (.int .i64 5)))), (1, (1, (.tmp 10)))]), .none⟩, ⟨(.some 12), (.callr 35 [(.tmp 8), (.tmp 11)]), .none⟩]
def c34_11 : PCode := (.seq (.reg p34_2) (.cond (.tmp 13) (.reg p34_3) (.seq (.reg p34_4) (.cond (.tmp 26) (.reg p34_5) (.seq (.reg p34_6) (.cond (.tmp 39) (.reg p34_7) (.seq (.reg p34_8) (.cond (.tmp 46) (.reg p34_9) (.reg p34_10)))))))))
def c34_b : PCode := (.seq (.reg p34_1) (.block 0 c34_11))
def c34 : FCode := ⟨54, c34_b, [], some ([1000001, 1000002, 1000003], [(0, .id 0), (1, .id 1), (2, .id 2), (3, .id 3)], []), false⟩
theorem c34_ok : compF Go.Proofs.Tryd.prog [7, 9, 18, 20, 23, 24, 26, 27, 200028, 28, 32, 34, 35, 36, 37, 47, 48, 58, 89] 34 = some (eraseF c34) := by kernel_rfl
def p36_2 : List PO := [⟨(.some 4), (.mov (.tmp 0)), .none⟩, ⟨(.some 5), (.nilC (.tmp 4)), .none⟩, ⟨(.some 6), (.fld 5 (.tmp 5)), .none⟩, ⟨(.some 7), (.load .false 1 (.tmp 6)), .none⟩, ⟨(.some 8), (.len .false (.tmp 7)), .none⟩, ⟨(.some 9), (.cmpI .eql (.tmp 8) (.const (.int .i64 4096))), .none⟩]
def p36_3 : List PO := [⟨(.some 10), (.mov (.tmp 0)), .none⟩, ⟨(.some 11), (.mov (.tmp 0)), .none⟩, ⟨(.some 12), (.nilC (.tmp 10)), .none⟩, ⟨(.some 13), (.fld 5 (.tmp 12)), .none⟩, ⟨.none, (.store 1 (.tmp 13) (.const (.slice .none 0 0))), .none⟩, ⟨(.some 14), (.nilC (.tmp 11)), .none⟩, ⟨(.some 15), (.fld 0 (.tmp 14)), .none⟩, ⟨(.some 16), (.fld 4 (.tmp 15)), .none⟩, ⟨.none, (.store 1 (.tmp 16) (.const (.bool .true))), .none⟩]
def p36_4 : List PO := [⟨(.some 17), (.mov (.tmp 0)), .none⟩, ⟨(.some 18), (.nilC (.tmp 17)), .none⟩, ⟨(.some 19), (.fld 0 (.tmp 18)), .none⟩, ⟨(.some 20), (.fld 4 (.tmp 19)), .none⟩, ⟨(.some 21), (.load .false 1 (.tmp 20)), .none⟩, ⟨(.some 22), (.un .not (.tmp 21)), .none⟩]
def p36_5 : List PO := [⟨(.some 23), (.mov (.tmp 0)), .none⟩, ⟨(.some 24), (.mov (.tmp 0)), .none⟩, ⟨(.some 25), (.nilC (.tmp 24)), .none⟩, ⟨(.some 26), (.fld 5 (.tmp 25)), .none⟩, ⟨(.some 27), (.load .false 1 (.tmp 26)), .none⟩, ⟨(.some 28), (.mov (.tmp 1)), .none⟩, ⟨(.some 29), (.bsl 5 1 1 [(1, (.int .u8 0))] [(0, (1, (.tmp 28)))]), .none⟩, ⟨(.some 30), (.app 5 1 1 (.tmp 27) (.tmp 29)), .none⟩, ⟨(.some 31), (.nilC (.tmp 23)), .none⟩, ⟨(.some 32), (.fld 5 (.tmp 31)), .none⟩, ⟨.none, (.store 1 (.tmp 32) (.tmp 30)), .none⟩]
def c36_1 : PCode := (.keep [0, 1, 1000001, 1000002, 1000003] [(0, .id 0), (1, .id 1), (2, .id 2), (3, .id 3)] [.cell 0 5 1 5 1] (.seq (.reg p36_4) (.cond (.tmp 22) (.reg p36_5) .skip)))
def c36_b : PCode := (.seq (.seq (.reg p36_2) (.cond (.tmp 9) (.reg p36_3) .skip)) c36_1)
def c36 : FCode := ⟨33, c36_b, [], some ([1000001, 1000002, 1000003], [(0, .id 0), (1, .id 1), (2, .id 2), (3, .id 3)], []), false⟩
theorem c36_ok : compF Go.Proofs.Tryd.prog [7, 9, 18, 20, 23, 24, 26, 27, 200028, 28, 32, 34, 35, 36, 37, 47, 48, 58, 89] 36 = some (eraseF c36) := by kernel_rfl
def p37_2 : List PO := [⟨(.some 15), (.mov (.tmp 1)), .none⟩, ⟨(.some 16), (.cmpI .eql (.tmp 15) (.const (.int .u8 240))), .none⟩, ⟨(.some 17), (.mov (.tmp 16)), .none⟩, ⟨(.some 18), (.mov (.tmp 0)), (.some (17, .true))⟩, ⟨(.some 19), (.nilC (.tmp 18)), (.some (17, .true))⟩, ⟨(.some 20), (.fld 0 (.tmp 19)), (.some (17, .true))⟩, ⟨(.some 21), (.fld 4 (.tmp 20)), (.some (17, .true))⟩, ⟨(.some 22), (.load .false 1 (.tmp 21)), (.some (17, .true))⟩, ⟨(.some 23), (.pick (.tmp 17) (.tmp 22) (.const (.bool .false))), .none⟩, ⟨(.some 14), (.mov (.tmp 23)), .none⟩]
def p37_3 : List PO := [⟨(.some 24), (.mov (.tmp 0)), .none⟩, ⟨(.some 25), (.mov (.tmp 0)), .none⟩, ⟨(.some 26), (.nilC (.tmp 25)), .none⟩, ⟨(.some 27), (.fld 0 (.tmp 26)), .none⟩, ⟨(.some 28), (.fld 2 (.tmp 27)), .none⟩, ⟨(.some 29), (.load .false 1 (.tmp 28)), .none⟩, ⟨(.some 30), (.build [(3, (.int .i64 0)), (1, (.string ⟨#[]⟩))] [(0, (1, (.const (.int .i64 5)))), (1, (1, (.const (.int .i64 250)))), (2, (1, (.tmp 29)))]), .none⟩, ⟨(.some 31), (.callr 35 [(.tmp 24), (.tmp 30)]), .none⟩]
def p37_4 : List PO := [⟨(.some 33), (.mov (.tmp 1)), .none⟩, ⟨(.some 34), (.cmpI .eql (.tmp 33) (.const (.int .u8 240))), .none⟩, ⟨(.some 32), (.mov (.tmp 34)), .none⟩]
def p37_5 : List PO := [⟨(.some 35), (.mov (.tmp 0)), .none⟩, ⟨(.some 36), (.mov (.tmp 0)), .none⟩, ⟨(.some 37), (.nilC (.tmp 36)), .none⟩, ⟨(.some 38), (.fld 0 (.tmp 37)), .none⟩, ⟨(.some 39), (.fld 2 (.tmp 38)), .none⟩, ⟨(.some 40), (.load .false 1 (.tmp 39)), .none⟩, ⟨(.some 41), (.mov (.tmp 0)), .none⟩, ⟨(.some 42), (.nilC (.tmp 41)), .none⟩, ⟨(.some 43), (.fld 5 (.tmp 42)), .none⟩, ⟨(.some 44), (.load .false 1 (.tmp 43)), .none⟩, ⟨(.some 45), (.cvBS (.tmp 44)), .none⟩, ⟨(.some 46), (.build [(3, (.int .i64 0)), (1, (.string ⟨#[]⟩))] [(0, (1, (.const (.int .i64 4)))), (2, (1, (.tmp 40))), (3, (1, (.tmp 45)))]), .none⟩, ⟨(.some 47), (.callr 35 [(.tmp 35), (.tmp 46)]), .none⟩]
def p37_6 : List PO := [⟨(.some 4), (.mov (.tmp 0)), .none⟩, ⟨(.some 5), (.mov (.tmp 1)), .none⟩, ⟨(.some 6), (.cvI .i64 (.tmp 5)), .none⟩, ⟨(.some 7), (.mov (.tmp 0)), .none⟩, ⟨(.some 8), (.nilC (.tmp 7)), .none⟩, ⟨(.some 9), (.fld 0 (.tmp 8)), .none⟩, ⟨(.some 10), (.fld 2 (.tmp 9)), .none⟩, ⟨(.some 11), (.load .false 1 (.tmp 10)), .none⟩, ⟨(.some 12), (.build [(3, (.int .i64 0)), (1, (.string ⟨#[]⟩))] [(0, (1, (.const (.int .i64 5)))), (1, (1, (.tmp 6))), (2, (1, (.tmp 11)))]), .none⟩, ⟨(.some 13), (.callr 35 [(.tmp 4), (.tmp 12)]), .none⟩]
def p37_7 : List PO := [⟨(.some 48), (.mov (.tmp 0)), .none⟩, ⟨(.some 49), (.mov (.tmp 0)), .none⟩, ⟨(.some 50), (.build [(3, (.int .i64 0)), (1, (.string ⟨#[]⟩)), (1, (.bool .false))] []), .none⟩, ⟨(.some 51), (.nilC (.tmp 48)), .none⟩, ⟨(.some 52), (.fld 0 (.tmp 51)), .none⟩, ⟨.none, (.store 5 (.tmp 52) (.tmp 50)), .none⟩, ⟨(.some 53), (.nilC (.tmp 49)), .none⟩, ⟨(.some 54), (.fld 5 (.tmp 53)), .none⟩, ⟨.none, (.store 1 (.tmp 54) (.const (.slice .none 0 0))), .none⟩]
def c37_1 : PCode := (.keep [0, 1000001, 1000002, 1000003] [(0, .id 0), (1, .id 1), (2, .id 2), (3, .id 3)] [] (.reg p37_7))
def c37_b : PCode := (.seq (.block 0 (.seq (.reg p37_2) (.cond (.tmp 14) (.reg p37_3) (.seq (.reg p37_4) (.cond (.tmp 32) (.regD p37_5 []) (.reg p37_6)))))) c37_1)
def c37 : FCode := ⟨55, c37_b, [], some ([1000001, 1000002, 1000003], [(0, .id 0), (2, .id 2), (3, .id 3), (1, .id 1)], []), false⟩
theorem c37_ok : compF Go.Proofs.Tryd.prog [7, 9, 18, 20, 23, 24, 26, 27, 200028, 28, 32, 34, 35, 36, 37, 47, 48, 58, 89] 37 = some (eraseF c37) := by kernel_rfl
def p23_1 : List PO := [⟨(.some 4), (.mov (.tmp 0)), .none⟩, ⟨(.some 5), (.nilC (.tmp 4)), .none⟩, ⟨(.some 6), (.fld 0 (.tmp 5)), .none⟩, ⟨(.some 7), (.fld 0 (.tmp 6)), .none⟩, ⟨(.some 8), (.load .false 1 (.tmp 7)), .none⟩]
def p23_2 : List PO := [⟨(.some 22), (.cmpI .eql (.tmp 8) (.const (.int .i64 0))), .none⟩, ⟨(.some 21), (.mov (.tmp 22)), .none⟩]
def p23_3 : List PO := [⟨(.some 23), (.mov (.tmp 1)), .none⟩, ⟨(.some 24), (.cmpI .eql (.tmp 23) (.const (.int .u8 255))), .none⟩]
def p23_4 : List PO := [⟨(.some 25), (.mov (.tmp 0)), .none⟩, ⟨(.some 26), (.nilC (.tmp 25)), .none⟩, ⟨(.some 27), (.fld 0 (.tmp 26)), .none⟩, ⟨(.some 28), (.fld 0 (.tmp 27)), .none⟩, ⟨.none, (.store 1 (.tmp 28) (.const (.int .i64 1))), .none⟩]
def p23_5 : List PO := [⟨(.some 29), (.mov (.tmp 0)), .none⟩, ⟨(.some 30), (.mov (.tmp 0)), .none⟩, ⟨(.some 31), (.nilC (.tmp 30)), .none⟩, ⟨(.some 32), (.fld 6 (.tmp 31)), .none⟩, ⟨(.some 33), (.load .false 1 (.tmp 32)), .none⟩, ⟨(.some 34), (.mov (.tmp 1)), .none⟩, ⟨(.some 35), (.bsl 5 1 1 [(1, (.int .u8 0))] [(0, (1, (.tmp 34)))]), .none⟩, ⟨(.some 36), (.app 5 1 1 (.tmp 33) (.tmp 35)), .none⟩, ⟨(.some 37), (.nilC (.tmp 29)), .none⟩, ⟨(.some 38), (.fld 6 (.tmp 37)), .none⟩, ⟨.none, (.store 1 (.tmp 38) (.tmp 36)), .none⟩]
def p23_6 : List PO := [⟨(.some 40), (.cmpI .eql (.tmp 8) (.const (.int .i64 1))), .none⟩, ⟨(.some 39), (.mov (.tmp 40)), .none⟩]
def p23_7 : List PO := [⟨(.some 41), (.mov (.tmp 0)), .none⟩, ⟨(.some 42), (.mov (.tmp 1)), .none⟩, ⟨(.some 43), (.callr 34 [(.tmp 41), (.tmp 42)]), .none⟩]
def p23_8 : List PO := [⟨(.some 45), (.cmpI .eql (.tmp 8) (.const (.int .i64 2))), .none⟩, ⟨(.some 44), (.mov (.tmp 45)), .none⟩]
def p23_9 : List PO := [⟨(.some 46), (.mov (.tmp 0)), .none⟩, ⟨(.some 47), (.mov (.tmp 0)), .none⟩, ⟨(.some 48), (.nilC (.tmp 47)), .none⟩, ⟨(.some 49), (.fld 0 (.tmp 48)), .none⟩, ⟨(.some 50), (.fld 1 (.tmp 49)), .none⟩, ⟨(.some 51), (.load .false 1 (.tmp 50)), .none⟩, ⟨(.some 52), (.mov (.tmp 1)), .none⟩, ⟨(.some 53), (.cvI .i64 (.tmp 52)), .none⟩, ⟨(.some 54), (.build [(3, (.int .i64 0)), (1, (.string ⟨#[]⟩))] [(0, (1, (.const (.int .i64 3)))), (1, (1, (.tmp 51))), (2, (1, (.tmp 53)))]), .none⟩, ⟨(.some 55), (.callr 35 [(.tmp 46), (.tmp 54)]), .none⟩]
def p23_10 : List PO := [⟨(.some 56), (.mov (.tmp 0)), .none⟩, ⟨(.some 57), (.mov (.tmp 0)), .none⟩, ⟨(.some 58), (.nilC (.tmp 56)), .none⟩, ⟨(.some 59), (.fld 0 (.tmp 58)), .none⟩, ⟨(.some 60), (.fld 0 (.tmp 59)), .none⟩, ⟨.none, (.store 1 (.tmp 60) (.const (.int .i64 0))), .none⟩, ⟨(.some 61), (.nilC (.tmp 57)), .none⟩, ⟨(.some 62), (.fld 0 (.tmp 61)), .none⟩, ⟨(.some 63), (.fld 1 (.tmp 62)), .none⟩, ⟨.none, (.store 1 (.tmp 63) (.const (.int .i64 0))), .none⟩]
def p23_11 : List PO := [⟨(.some 65), (.cmpI .eql (.tmp 8) (.const (.int .i64 3))), .none⟩, ⟨(.some 64), (.mov (.tmp 65)), .none⟩]
def p23_12 : List PO := [⟨(.some 66), (.mov (.tmp 0)), .none⟩, ⟨(.some 67), (.mov (.tmp 0)), .none⟩, ⟨(.some 68), (.mov (.tmp 1)), .none⟩, ⟨(.some 69), (.cvI .i64 (.tmp 68)), .none⟩, ⟨(.some 70), (.nilC (.tmp 66)), .none⟩, ⟨(.some 71), (.fld 0 (.tmp 70)), .none⟩, ⟨(.some 72), (.fld 0 (.tmp 71)), .none⟩, ⟨.none, (.store 1 (.tmp 72) (.const (.int .i64 4))), .none⟩, ⟨(.some 73), (.nilC (.tmp 67)), .none⟩, ⟨(.some 74), (.fld 0 (.tmp 73)), .none⟩, ⟨(.some 75), (.fld 2 (.tmp 74)), .none⟩, ⟨.none, (.store 1 (.tmp 75) (.tmp 69)), .none⟩]
def p23_13 : List PO := [⟨(.some 77), (.cmpI .eql (.tmp 8) (.const (.int .i64 4))), .none⟩, ⟨(.some 76), (.mov (.tmp 77)), .none⟩]
def p23_14 : List PO := [⟨(.some 78), (.mov (.tmp 1)), .none⟩, ⟨(.some 79), (.cmpI .eql (.tmp 78) (.const (.int .u8 255))), .none⟩]
def p23_15 : List PO := [⟨(.some 80), (.mov (.tmp 0)), .none⟩, ⟨(.some 81), (.nilC (.tmp 80)), .none⟩, ⟨(.some 82), (.fld 0 (.tmp 81)), .none⟩, ⟨(.some 83), (.fld 0 (.tmp 82)), .none⟩, ⟨.none, (.store 1 (.tmp 83) (.const (.int .i64 5))), .none⟩]
def p23_16 : List PO := [⟨(.some 84), (.mov (.tmp 0)), .none⟩, ⟨(.some 85), (.mov (.tmp 1)), .none⟩, ⟨(.some 86), (.callr 36 [(.tmp 84), (.tmp 85)]), .none⟩]
def p23_17 : List PO := [⟨(.some 9), (.mov (.tmp 1)), .none⟩, ⟨(.some 10), (.cmpI .eql (.tmp 9) (.const (.int .u8 255))), .none⟩]
def p23_18 : List PO := [⟨(.some 11), (.mov (.tmp 0)), .none⟩, ⟨(.some 12), (.nilC (.tmp 11)), .none⟩, ⟨(.some 13), (.fld 0 (.tmp 12)), .none⟩, ⟨(.some 14), (.fld 0 (.tmp 13)), .none⟩, ⟨.none, (.store 1 (.tmp 14) (.const (.int .i64 4))), .none⟩]
def p23_19 : List PO := [⟨(.some 15), (.mov (.tmp 0)), .none⟩, ⟨(.some 16), (.mov (.tmp 1)), .none⟩, ⟨(.some 17), (.callr 36 [(.tmp 15), (.tmp 16)]), .none⟩]
def p23_20 : List PO := [⟨(.some 18), (.mov (.tmp 0)), .none⟩, ⟨(.some 19), (.mov (.tmp 1)), .none⟩, ⟨(.some 20), (.callr 37 [(.tmp 18), (.tmp 19)]), .none⟩]
def c23_21 : PCode := (.cond (.tmp 64) (.reg p23_12) (.seq (.reg p23_13) (.cond (.tmp 76) (.seq (.reg p23_14) (.cond (.tmp 79) (.reg p23_15) (.reg p23_16))) (.seq (.reg p23_17) (.cond (.tmp 10) (.seq (.reg p23_18) (.reg p23_19)) (.reg p23_20))))))
def c23_22 : PCode := (.cond (.tmp 21) (.seq (.reg p23_3) (.cond (.tmp 24) (.reg p23_4) (.reg p23_5))) (.seq (.reg p23_6) (.cond (.tmp 39) (.reg p23_7) (.seq (.reg p23_8) (.cond (.tmp 44) (.seq (.reg p23_9) (.reg p23_10)) (.seq (.reg p23_11) c23_21))))))
def c23_b : PCode := (.seq (.reg p23_1) (.block 0 (.seq (.reg p23_2) c23_22)))
def c23 : FCode := ⟨87, c23_b, [], some ([1000001, 1000002, 1000003], [(0, .id 0), (1, .id 1), (2, .id 2), (3, .id 3)], [.cell 0 5 1 5 1]), false⟩
theorem c23_ok : compF Go.Proofs.Tryd.prog [7, 9, 18, 20, 23, 24, 26, 27, 200028, 28, 32, 34, 35, 36, 37, 47, 48, 58, 89] 23 = some (eraseF c23) := by kernel_rfl
def p12_6 : List PO := [⟨(.some 2), (.box 5 (.tmp 0)), .none⟩, ⟨(.some 4), (.alloc [(3, (.int .i64 0)), (1, (.string ⟨#[]⟩)), (1, (.bool .false))]), .none⟩, ⟨(.some 5), (.nilS 50 4), .none⟩, ⟨(.some 6), (.mov (.const (.int .i64 0))), .none⟩]
def p12_7 : List PO := [⟨(.some 10), (.load .true 5 (.tmp 2)), .none⟩, ⟨(.some 11), (.call 22 [(.tmp 10)]), .none⟩, ⟨(.some 7), (.mov (.tmp 11)), .none⟩]
def p12_8 : List PO := [⟨(.some 12), (.mov (.tmp 7)), .none⟩, ⟨(.some 13), (.cmpI .neq (.tmp 12) (.const (.int .i64 0))), .none⟩]
def p12_9 : List PO := [⟨(.some 14), (.load .true 5 (.tmp 2)), .none⟩, ⟨(.some 15), (.mov (.tmp 7)), .none⟩, ⟨.none, (.store 5 (.tmp 4) (.tmp 14)), .none⟩, ⟨(.some 5), (.nilS 50 4), .none⟩, ⟨(.some 6), (.mov (.tmp 15)), .none⟩]
def p12_10 : List PO := [⟨(.some 16), (.load .true 5 (.tmp 2)), .none⟩, ⟨(.some 17), (.fld 3 (.tmp 2)), .none⟩, ⟨(.some 18), (.load .false 1 (.tmp 17)), .none⟩, ⟨(.some 19), (.cvSO 5 (.tmp 18)), .none⟩, ⟨(.some 20), (.build [(3, (.int .i64 0)), (1, (.string ⟨#[]⟩)), (1, (.bool .false)), (1, (.slice .none 0 0)), (1, (.slice .none 0 0)), (1, (.slice .none 0 0))] [(0, (5, (.tmp 16))), (5, (1, (.tmp 19)))]), .none⟩, ⟨(.some 21), (.box 8 (.tmp 20)), .none⟩, ⟨(.some 8), (.mov (.tmp 21)), .none⟩]
def p12_11 : List PO := [⟨(.some 22), (.mov (.tmp 1)), .none⟩, ⟨(.some 23), (.len .true (.tmp 22)), .none⟩, ⟨(.some 24), (.mov (.const (.int .i64 0))), .none⟩]
def p12_12 : List PO := [⟨(.some 25), (.cmpI .lss (.tmp 24) (.tmp 23)), .none⟩]
def p12_13 : List PO := [⟨(.some 26), (.mov (.tmp 24)), .none⟩, ⟨(.some 9), (.mov (.tmp 26)), .none⟩]
def p12_14 : List PO := [⟨(.some 27), (.mov (.tmp 8)), .none⟩, ⟨(.some 28), (.mov (.tmp 1)), .none⟩, ⟨(.some 29), (.mov (.tmp 9)), .none⟩, ⟨(.some 30), (.ixStr (.tmp 28) (.tmp 29)), .none⟩, ⟨(.some 31), (.callr 23 [(.tmp 27), (.tmp 30)]), .none⟩]
def p12_15 : List PO := [⟨(.some 32), (.arI .add (.tmp 24) (.const (.int .i64 1))), .none⟩, ⟨(.some 24), (.mov (.tmp 32)), .none⟩]
def c12_2 : PCode := (.keep [1, 4, 8, 23, 24] [(40, .id 40), (176, .id 176), (160, .id 160), (449, .id 449), (450, .id 450)] [] (.seq (.block 1 (.seq (.reg p12_13) (.reg p12_14))) (.reg p12_15)))
def c12_3 : PCode := (.keep [1, 4, 8, 23, 24, 25] [(40, .id 40), (176, .id 176), (160, .id 160), (449, .id 449), (450, .id 450)] [] (.seq (.cond (.tmp 25) .skip (.keep [4, 8] [(40, .id 40), (176, .id 176), (160, .id 160), (449, .id 449), (450, .id 450)] [] (.exit 0))) c12_2))
def c12_4 : PCode := (.keep [1, 4, 8, 23, 24] [(40, .id 40), (176, .id 176), (160, .id 160), (449, (.cell 176 6)), (450, (.cell 176 7))] [.cell 176 6 449 5 1, .cell 176 7 450 50 4] (.seq (.reg p12_12) c12_3))
def p12_16 : List PO := [⟨(.some 33), (.mov (.tmp 8)), .none⟩, ⟨(.some 34), (.callr 24 [(.tmp 33)]), .none⟩]
def p12_17 : List PO := [⟨(.some 35), (.mov (.tmp 8)), .none⟩, ⟨(.some 36), (.mov (.tmp 8)), .none⟩, ⟨(.some 37), (.nilC (.tmp 36)), .none⟩, ⟨(.some 38), (.fld 5 (.tmp 37)), .none⟩, ⟨(.some 39), (.load .false 1 (.tmp 38)), .none⟩, ⟨(.some 40), (.cvBS (.tmp 39)), .none⟩, ⟨(.some 41), (.nilC (.tmp 35)), .none⟩, ⟨(.some 42), (.fld 0 (.tmp 41)), .none⟩, ⟨(.some 43), (.fld 3 (.tmp 42)), .none⟩, ⟨.none, (.store 1 (.tmp 43) (.tmp 40)), .none⟩]
def p12_18 : List PO := [⟨(.some 44), (.mov (.tmp 8)), .none⟩, ⟨(.some 45), (.nilC (.tmp 44)), .none⟩, ⟨(.some 46), (.fld 0 (.tmp 45)), .none⟩, ⟨(.some 47), (.load .true 5 (.tmp 46)), .none⟩, ⟨(.some 48), (.mov (.tmp 8)), .none⟩, ⟨(.some 49), (.nilC (.tmp 48)), .none⟩, ⟨(.some 50), (.fld 7 (.tmp 49)), .none⟩, ⟨(.some 51), (.load .false 1 (.tmp 50)), .none⟩, ⟨.none, (.store 5 (.tmp 4) (.tmp 47)), .none⟩, ⟨(.some 5), (.mov (.tmp 51)), .none⟩, ⟨(.some 6), (.mov (.const (.int .i64 0))), .none⟩]
def c12_1 : PCode := (.keep [4, 8] [(40, .id 40), (176, .id 176), (160, .id 160), (449, .id 449), (450, .id 450)] [] (.seq (.reg p12_16) (.seq (.reg p12_17) (.seq (.regD p12_18 [(7, 8)]) .ret))))
def c12_5 : PCode := (.keep [1, 2, 4] [(24, .id 24), (40, .id 40)] [] (.seq (.reg p12_10) (.seq (.seq (.reg p12_11) (.block 0 (.loop c12_4))) c12_1)))
def c12_b : PCode := (.seq (.reg p12_6) (.seq (.seq (.reg p12_7) (.seq (.reg p12_8) (.cond (.tmp 13) (.seq (.reg p12_9) .ret) .skip))) c12_5))
def c12 : FCode := ⟨52, c12_b, [(.cell 4 .true 5), (.tmp 5), (.tmp 6)], some ([4, 5, 6], [(40, .id 40), (451, (.slot 5 none))], []), false⟩
theorem c12_ok : compF Go.Proofs.Tryd.prog [7, 9, 18, 20, 23, 24, 26, 27, 200028, 28, 32, 34, 35, 36, 37, 47, 48, 58, 89] 12 = some (eraseF c12) := by kernel_rfl
def p14_5 : List PO := [⟨(.some 4), (.mov (.const (.bool .false))), .none⟩]
def p14_6 : List PO := [⟨(.some 6), (.mov (.tmp 0)), .none⟩, ⟨(.some 7), (.len .false (.tmp 6)), .none⟩, ⟨(.some 8), (.mov (.tmp 1)), .none⟩, ⟨(.some 9), (.len .false (.tmp 8)), .none⟩, ⟨(.some 10), (.cmpI .neq (.tmp 7) (.tmp 9)), .none⟩]
def p14_7 : List PO := [⟨(.some 4), (.mov (.const (.bool .false))), .none⟩]
def p14_8 : List PO := [⟨(.some 11), (.mov (.tmp 0)), .none⟩, ⟨(.some 12), (.len .false (.tmp 11)), .none⟩, ⟨(.some 13), (.mov (.const (.int .i64 0))), .none⟩]
def p14_9 : List PO := [⟨(.some 14), (.cmpI .lss (.tmp 13) (.tmp 12)), .none⟩]
def p14_10 : List PO := [⟨(.some 15), (.mov (.tmp 13)), .none⟩, ⟨(.some 5), (.mov (.tmp 15)), .none⟩]
def p14_11 : List PO := [⟨(.some 16), (.mov (.tmp 0)), .none⟩, ⟨(.some 17), (.mov (.tmp 5)), .none⟩, ⟨(.some 18), (.ixS 50 4 (.tmp 16) (.tmp 17)), .none⟩, ⟨(.some 19), (.load .true 4 (.tmp 18)), .none⟩, ⟨(.some 20), (.mov (.tmp 1)), .none⟩, ⟨(.some 21), (.mov (.tmp 5)), .none⟩, ⟨(.some 22), (.ixS 50 4 (.tmp 20) (.tmp 21)), .none⟩, ⟨(.some 23), (.load .true 4 (.tmp 22)), .none⟩, ⟨(.some 24), (.eqA .true [(3, .int), (1, .str)] (.tmp 19) (.tmp 23)), .none⟩]
def p14_12 : List PO := [⟨(.some 4), (.mov (.const (.bool .false))), .none⟩]
def p14_13 : List PO := [⟨(.some 25), (.arI .add (.tmp 13) (.const (.int .i64 1))), .none⟩, ⟨(.some 13), (.mov (.tmp 25)), .none⟩]
def c14_1 : PCode := (.keep [0, 1, 12, 13] [] [] (.seq (.block 1 (.seq (.reg p14_10) (.seq (.regD p14_11 []) (.cond (.tmp 24) (.seq (.reg p14_12) .ret) .skip)))) (.reg p14_13)))
def c14_2 : PCode := (.keep [0, 1, 12, 13, 14] [] [] (.seq (.cond (.tmp 14) .skip (.keep [] [] [] (.exit 0))) c14_1))
def c14_3 : PCode := (.keep [0, 1, 12, 13] [] [] (.seq (.reg p14_9) c14_2))
def p14_14 : List PO := [⟨(.some 4), (.mov (.const (.bool .true))), .none⟩]
def c14_4 : PCode := (.keep [0, 1] [] [] (.seq (.seq (.reg p14_8) (.block 0 (.loop c14_3))) (.seq (.reg p14_14) .ret)))
def c14_b : PCode := (.seq (.reg p14_5) (.seq (.seq (.reg p14_6) (.cond (.tmp 10) (.seq (.reg p14_7) .ret) .skip)) c14_4))
def c14 : FCode := ⟨26, c14_b, [(.tmp 4)], some ([4], [], []), false⟩
theorem c14_ok : compF Go.Proofs.Tryd.prog [7, 9, 18, 20, 23, 24, 26, 27, 200028, 28, 32, 34, 35, 36, 37, 47, 48, 58, 89] 14 = some (eraseF c14) := by kernel_rfl
def p13_1 : List PO := [⟨(.some 0), (.mov (.const (.bool .false))), .none⟩]
def p13_2 : List PO := [⟨(.some 5), (.build [(3, (.int .i64 0)), (1, (.string ⟨#[]⟩)), (1, (.bool .false))] []), .none⟩, ⟨(.some 6), (.call 12 [(.tmp 5), (.const (.string ⟨#[97, 255, 255, 98, 255, 251, 1, 255]⟩))]), .none⟩, ⟨(.some 4), (.mov (.tmp 6)), .none⟩, ⟨(.some 7), (.ext (.tmp 4) 0), .none⟩, ⟨(.some 8), (.ext (.tmp 4) 1), .none⟩, ⟨(.some 9), (.ext (.tmp 4) 2), .none⟩, ⟨(.some 1), (.alloc [(3, (.int .i64 0)), (1, (.string ⟨#[]⟩)), (1, (.bool .false))]), .none⟩, ⟨.none, (.store 5 (.tmp 1) (.tmp 7)), .none⟩, ⟨(.some 2), (.mov (.tmp 8)), .none⟩, ⟨(.some 3), (.mov (.tmp 9)), .none⟩]
def p13_3 : List PO := [⟨(.some 10), (.mov (.tmp 3)), .none⟩, ⟨(.some 11), (.cmpI .eql (.tmp 10) (.const (.int .i64 0))), .none⟩, ⟨(.some 12), (.mov (.tmp 11)), .none⟩, ⟨(.some 13), (.load .true 5 (.tmp 1)), (.some (12, .true))⟩, ⟨(.some 14), (.build [(3, (.int .i64 0)), (1, (.string ⟨#[]⟩)), (1, (.bool .false))] [(0, (1, (.const (.int .i64 1))))]), (.some (12, .true))⟩, ⟨(.some 15), (.eqA .false [(3, .int), (1, .str), (1, .bool)] (.tmp 13) (.tmp 14)), (.some (12, .true))⟩, ⟨(.some 16), (.pick (.tmp 12) (.tmp 15) (.const (.bool .false))), .none⟩, ⟨(.some 17), (.mov (.tmp 16)), .none⟩, ⟨(.some 18), (.mov (.tmp 2)), (.some (17, .true))⟩, ⟨(.some 19), (.build [(3, (.int .i64 0)), (1, (.string ⟨#[]⟩))] [(0, (1, (.const (.int .i64 1)))), (3, (1, (.const (.string ⟨#[97, 255, 98]⟩))))]), (.some (17, .true))⟩, ⟨(.some 20), (.build [(3, (.int .i64 0)), (1, (.string ⟨#[]⟩))] [(0, (1, (.const (.int .i64 3)))), (1, (1, (.const (.int .i64 251)))), (2, (1, (.const (.int .i64 1))))]), (.some (17, .true))⟩, ⟨(.some 21), (.bsl 50 4 2 [(3, (.int .i64 0)), (1, (.string ⟨#[]⟩)), (3, (.int .i64 0)), (1, (.string ⟨#[]⟩))] [(0, (4, (.tmp 19))), (4, (4, (.tmp 20)))]), (.some (17, .true))⟩, ⟨(.some 22), (.call 14 [(.tmp 18), (.tmp 21)]), (.some (17, .true))⟩, ⟨(.some 23), (.pick (.tmp 17) (.tmp 22) (.const (.bool .false))), .none⟩, ⟨(.some 24), (.mov (.tmp 23)), .none⟩, ⟨(.some 25), (.call 21 [(.const (.string ⟨#[255]⟩))]), (.some (24, .true))⟩, ⟨(.some 26), (.strO .eql (.tmp 25) (.const (.string ⟨#[255, 255]⟩))), (.some (24, .true))⟩, ⟨(.some 27), (.pick (.tmp 24) (.tmp 26) (.const (.bool .false))), .none⟩, ⟨(.some 0), (.mov (.tmp 27)), .none⟩]
def c13_b : PCode := (.seq (.reg p13_1) (.seq (.reg p13_2) (.seq (.reg p13_3) .ret)))
def c13 : FCode := ⟨28, c13_b, [(.tmp 0)], some ([0], [], []), false⟩
theorem c13_ok : compF Go.Proofs.Tryd.prog [7, 9, 18, 20, 23, 24, 26, 27, 200028, 28, 32, 34, 35, 36, 37, 47, 48, 58, 89] 13 = some (eraseF c13) := by kernel_rfl
def p15_4 : List PO := [⟨(.some 2), (.nilS 50 4), .none⟩]
def p15_5 : List PO := [⟨(.some 3), (.nilS 50 4), .none⟩]
def p15_6 : List PO := [⟨(.some 4), (.mov (.const (.bool .false))), .none⟩]
def p15_7 : List PO := [⟨(.some 7), (.mov (.tmp 0)), .none⟩, ⟨(.some 8), (.len .false (.tmp 7)), .none⟩, ⟨(.some 9), (.mov (.const (.int .i64 0))), .none⟩]
def p15_8 : List PO := [⟨(.some 10), (.cmpI .lss (.tmp 9) (.tmp 8)), .none⟩]
def p15_9 : List PO := [⟨(.some 11), (.ixS 50 4 (.tmp 7) (.tmp 9)), .none⟩, ⟨(.some 12), (.load .true 4 (.tmp 11)), .none⟩, ⟨(.some 6), (.alloc [(3, (.int .i64 0)), (1, (.string ⟨#[]⟩))]), .none⟩, ⟨.none, (.store 4 (.tmp 6) (.tmp 12)), .none⟩]
def p15_10 : List PO := [⟨(.some 18), (.fld 0 (.tmp 6)), .none⟩, ⟨(.some 19), (.load .false 1 (.tmp 18)), .none⟩, ⟨(.some 20), (.cmpI .neq (.tmp 19) (.const (.int .i64 1))), .none⟩, ⟨(.some 17), (.mov (.tmp 20)), .none⟩]
def p15_11 : List PO := [⟨(.some 21), (.mov (.tmp 3)), .none⟩, ⟨(.some 22), (.load .true 4 (.tmp 6)), .none⟩, ⟨(.some 23), (.bsl 50 4 1 [(3, (.int .i64 0)), (1, (.string ⟨#[]⟩))] [(0, (4, (.tmp 22)))]), .none⟩, ⟨(.some 24), (.app 50 4 40 (.tmp 21) (.tmp 23)), .none⟩, ⟨(.some 3), (.mov (.tmp 24)), .none⟩, ⟨(.some 4), (.mov (.const (.bool .false))), .none⟩]
def p15_12 : List PO := [⟨(.some 26), (.fld 3 (.tmp 6)), .none⟩, ⟨(.some 27), (.load .false 1 (.tmp 26)), .none⟩, ⟨(.some 28), (.strO .eql (.tmp 27) (.const (.string ⟨#[]⟩))), .none⟩, ⟨(.some 25), (.mov (.tmp 28)), .none⟩]
def p15_13 : List PO := [⟨(.some 30), (.mov (.tmp 4)), .none⟩, ⟨(.some 29), (.mov (.tmp 30)), .none⟩]
def p15_14 : List PO := [⟨(.some 31), (.mov (.tmp 3)), .none⟩, ⟨(.some 32), (.mov (.tmp 3)), .none⟩, ⟨(.some 33), (.len .false (.tmp 32)), .none⟩, ⟨(.some 34), (.arI .sub (.tmp 33) (.const (.int .i64 1))), .none⟩, ⟨(.some 35), (.ixS 50 4 (.tmp 31) (.tmp 34)), .none⟩, ⟨(.some 36), (.fld 3 (.tmp 35)), .none⟩, ⟨(.some 37), (.load .false 1 (.tmp 36)), .none⟩, ⟨(.some 38), (.fld 3 (.tmp 6)), .none⟩, ⟨(.some 39), (.load .false 1 (.tmp 38)), .none⟩, ⟨(.some 40), (.strO .add (.tmp 37) (.tmp 39)), .none⟩, ⟨(.some 41), (.ixS 50 4 (.tmp 31) (.tmp 34)), .none⟩, ⟨(.some 42), (.fld 3 (.tmp 41)), .none⟩, ⟨.none, (.store 1 (.tmp 42) (.tmp 40)), .none⟩]
def p15_15 : List PO := [⟨(.some 13), (.mov (.tmp 3)), .none⟩, ⟨(.some 14), (.load .true 4 (.tmp 6)), .none⟩, ⟨(.some 15), (.bsl 50 4 1 [(3, (.int .i64 0)), (1, (.string ⟨#[]⟩))] [(0, (4, (.tmp 14)))]), .none⟩, ⟨(.some 16), (.app 50 4 40 (.tmp 13) (.tmp 15)), .none⟩, ⟨(.some 3), (.mov (.tmp 16)), .none⟩, ⟨(.some 4), (.mov (.const (.bool .true))), .none⟩]
def c15_16 : PCode := (.block 1 (.seq (.reg p15_9) (.block 2 (.seq (.reg p15_10) (.cond (.tmp 17) (.reg p15_11) (.seq (.reg p15_12) (.cond (.tmp 25) .skip (.seq (.reg p15_13) (.cond (.tmp 29) (.regD p15_14 []) (.reg p15_15))))))))))
def p15_17 : List PO := [⟨(.some 43), (.arI .add (.tmp 9) (.const (.int .i64 1))), .none⟩, ⟨(.some 9), (.mov (.tmp 43)), .none⟩]
def c15_1 : PCode := (.keep [3, 4, 7, 8, 9] [(32, .id 32)] [] (.seq c15_16 (.reg p15_17)))
def c15_2 : PCode := (.keep [3, 4, 7, 8, 9, 10] [(32, .id 32)] [] (.seq (.cond (.tmp 10) .skip (.keep [3] [(32, .id 32)] [] (.exit 0))) c15_1))
def c15_3 : PCode := (.keep [3, 4, 7, 8, 9] [(32, .id 32)] [] (.seq (.reg p15_8) c15_2))
def p15_18 : List PO := [⟨(.some 44), (.mov (.tmp 3)), .none⟩, ⟨(.some 2), (.mov (.tmp 44)), .none⟩]
def c15_b : PCode := (.seq (.reg p15_4) (.seq (.reg p15_5) (.seq (.reg p15_6) (.seq (.seq (.reg p15_7) (.block 0 (.loop c15_3))) (.seq (.reg p15_18) .ret)))))
def c15 : FCode := ⟨45, c15_b, [(.tmp 2)], some ([2], [(32, .id 32)], []), false⟩
theorem c15_ok : compF Go.Proofs.Tryd.prog [7, 9, 18, 20, 23, 24, 26, 27, 200028, 28, 32, 34, 35, 36, 37, 47, 48, 58, 89] 15 = some (eraseF c15) := by kernel_rfl
def p4_5 : List PO := [⟨(.some 2), (.mov (.const (.bool .false))), .none⟩]
def p4_6 : List PO := [⟨(.some 3), (.allocB 37), .none⟩]
def p4_7 : List PO := [⟨(.some 4), (.nilS 50 4), .none⟩]
def p4_8 : List PO := [⟨(.some 12), (.mov (.tmp 0)), .none⟩, ⟨(.some 13), (.len .false (.tmp 12)), .none⟩, ⟨(.some 14), (.mov (.const (.int .i64 0))), .none⟩]
def p4_9 : List PO := [⟨(.some 15), (.cmpI .lss (.tmp 14) (.tmp 13)), .none⟩]
def p4_10 : List PO := [⟨(.some 16), (.ixS 50 4 (.tmp 12) (.tmp 14)), .none⟩, ⟨(.some 17), (.load .true 4 (.tmp 16)), .none⟩, ⟨(.some 6), (.alloc [(3, (.int .i64 0)), (1, (.string ⟨#[]⟩))]), .none⟩, ⟨.none, (.store 4 (.tmp 6) (.tmp 17)), .none⟩]
def p4_11 : List PO := [⟨(.some 19), (.load .true 4 (.tmp 6)), .none⟩, ⟨(.some 20), (.call 11 [(.tmp 19)]), .none⟩, ⟨(.some 18), (.mov (.tmp 20)), .none⟩, ⟨(.some 21), (.ext (.tmp 18) 0), .none⟩, ⟨(.some 22), (.ext (.tmp 18) 1), .none⟩, ⟨(.some 7), (.mov (.tmp 21)), .none⟩, ⟨(.some 8), (.mov (.tmp 22)), .none⟩]
def p4_12 : List PO := [⟨(.some 23), (.mov (.tmp 8)), .none⟩, ⟨(.some 24), (.cmpI .eql (.tmp 23) (.const (.int .i64 0))), .none⟩]
def p4_13 : List PO := [⟨(.some 25), (.mov (.tmp 7)), .none⟩, ⟨(.some 26), (.callr 7 [(.tmp 3), (.tmp 25)]), .none⟩]
def p4_14 : List PO := [⟨(.some 27), (.mov (.tmp 4)), .none⟩, ⟨(.some 28), (.load .true 4 (.tmp 6)), .none⟩, ⟨(.some 29), (.bsl 50 4 1 [(3, (.int .i64 0)), (1, (.string ⟨#[]⟩))] [(0, (4, (.tmp 28)))]), .none⟩, ⟨(.some 30), (.app 50 4 40 (.tmp 27) (.tmp 29)), .none⟩, ⟨(.some 4), (.mov (.tmp 30)), .none⟩]
def p4_15 : List PO := [⟨(.some 31), (.arI .add (.tmp 14) (.const (.int .i64 1))), .none⟩, ⟨(.some 14), (.mov (.tmp 31)), .none⟩]
def c4_2 : PCode := (.keep [3, 4, 12, 13, 14] [(32, .id 32), (473, .id 473), (40, .id 40)] [] (.seq (.block 1 (.seq (.reg p4_10) (.seq (.reg p4_11) (.seq (.reg p4_12) (.cond (.tmp 24) (.seq (.reg p4_13) (.reg p4_14)) .skip))))) (.reg p4_15)))
def c4_3 : PCode := (.keep [3, 4, 12, 13, 14, 15] [(32, .id 32), (473, .id 473), (40, .id 40)] [] (.seq (.cond (.tmp 15) .skip (.keep [3, 4] [(32, .id 32), (473, .id 473), (40, .id 40)] [] (.exit 0))) c4_2))
def c4_4 : PCode := (.keep [3, 4, 12, 13, 14] [(32, .id 32), (473, (.cell 32 1)), (40, .id 40)] [.cell 32 1 473 5 1] (.seq (.reg p4_9) c4_3))
def p4_16 : List PO := [⟨(.some 33), (.build [(3, (.int .i64 0)), (1, (.string ⟨#[]⟩)), (1, (.bool .false))] []), .none⟩, ⟨(.some 34), (.callr 9 [(.tmp 3)]), .none⟩, ⟨(.some 35), (.call 12 [(.tmp 33), (.tmp 34)]), .none⟩, ⟨(.some 32), (.mov (.tmp 35)), .none⟩, ⟨(.some 36), (.ext (.tmp 32) 0), .none⟩, ⟨(.some 37), (.ext (.tmp 32) 1), .none⟩, ⟨(.some 38), (.ext (.tmp 32) 2), .none⟩, ⟨(.some 9), (.alloc [(3, (.int .i64 0)), (1, (.string ⟨#[]⟩)), (1, (.bool .false))]), .none⟩, ⟨.none, (.store 5 (.tmp 9) (.tmp 36)), .none⟩, ⟨(.some 10), (.mov (.tmp 37)), .none⟩, ⟨(.some 11), (.mov (.tmp 38)), .none⟩]
def p4_17 : List PO := [⟨(.some 39), (.call 13 []), .none⟩, ⟨(.some 40), (.mov (.tmp 39)), .none⟩, ⟨(.some 41), (.mov (.tmp 11)), (.some (40, .true))⟩, ⟨(.some 42), (.cmpI .eql (.tmp 41) (.const (.int .i64 0))), (.some (40, .true))⟩, ⟨(.some 43), (.pick (.tmp 40) (.tmp 42) (.const (.bool .false))), .none⟩, ⟨(.some 44), (.mov (.tmp 43)), .none⟩, ⟨(.some 45), (.load .true 5 (.tmp 9)), (.some (44, .true))⟩, ⟨(.some 46), (.build [(3, (.int .i64 0)), (1, (.string ⟨#[]⟩)), (1, (.bool .false))] []), (.some (44, .true))⟩, ⟨(.some 47), (.eqA .false [(3, .int), (1, .str), (1, .bool)] (.tmp 45) (.tmp 46)), (.some (44, .true))⟩, ⟨(.some 48), (.pick (.tmp 44) (.tmp 47) (.const (.bool .false))), .none⟩, ⟨(.some 49), (.mov (.tmp 48)), .none⟩, ⟨(.some 50), (.mov (.tmp 10)), (.some (49, .true))⟩, ⟨(.some 51), (.mov (.tmp 4)), (.some (49, .true))⟩, ⟨(.some 52), (.call 15 [(.tmp 51)]), (.some (49, .true))⟩, ⟨(.some 53), (.call 14 [(.tmp 50), (.tmp 52)]), (.some (49, .true))⟩, ⟨(.some 54), (.pick (.tmp 49) (.tmp 53) (.const (.bool .false))), .none⟩, ⟨(.some 2), (.mov (.tmp 54)), .none⟩]
def c4_1 : PCode := (.keep [3, 4] [(32, .id 32), (473, .id 473), (40, .id 40)] [] (.seq (.reg p4_16) (.seq (.reg p4_17) .ret)))
def c4_b : PCode := (.seq (.reg p4_5) (.seq (.reg p4_6) (.seq (.reg p4_7) (.seq (.seq (.reg p4_8) (.block 0 (.loop c4_4))) c4_1))))
def c4 : FCode := ⟨55, c4_b, [(.tmp 2)], some ([2], [], []), false⟩
theorem c4_ok : compF Go.Proofs.Tryd.prog [7, 9, 18, 20, 23, 24, 26, 27, 200028, 28, 32, 34, 35, 36, 37, 47, 48, 58, 89] 4 = some (eraseF c4) := by kernel_rfl
def codes : Nat → Option FCode
  | 4 => some c4
  | 11 => some c11
  | 12 => some c12
  | 13 => some c13
  | 14 => some c14
  | 15 => some c15
  | 21 => some c21
  | 22 => some c22
  | 23 => some c23
  | 24 => some c24
  | 34 => some c34
  | 35 => some c35
  | 36 => some c36
  | 37 => some c37
  | _ => none
theorem codes_ok : ∀ f fc, codes f = some fc → compF Go.Proofs.Tryd.prog [7, 9, 18, 20, 23, 24, 26, 27, 200028, 28, 32, 34, 35, 36, 37, 47, 48, 58, 89] f = some (eraseF fc) := by
  intro f fc h
  unfold codes at h
  split at h
  · cases h; exact c4_ok
  · cases h; exact c11_ok
  · cases h; exact c12_ok
  · cases h; exact c13_ok
  · cases h; exact c14_ok
  · cases h; exact c15_ok
  · cases h; exact c21_ok
  · cases h; exact c22_ok
  · cases h; exact c23_ok
  · cases h; exact c24_ok
  · cases h; exact c34_ok
  · cases h; exact c35_ok
  · cases h; exact c36_ok
  · cases h; exact c37_ok
  · cases h
theorem codes4 : codes 4 = some c4 := rfl
theorem codes11 : codes 11 = some c11 := rfl
theorem codes12 : codes 12 = some c12 := rfl
theorem codes13 : codes 13 = some c13 := rfl
theorem codes14 : codes 14 = some c14 := rfl
theorem codes15 : codes 15 = some c15 := rfl
theorem codes21 : codes 21 = some c21 := rfl
theorem codes22 : codes 22 = some c22 := rfl
theorem codes23 : codes 23 = some c23 := rfl
theorem codes24 : codes 24 = some c24 := rfl
theorem codes34 : codes 34 = some c34 := rfl
theorem codes35 : codes 35 = some c35 := rfl
theorem codes36 : codes 36 = some c36 := rfl
theorem codes37 : codes 37 = some c37 := rfl
noncomputable def libs : List (Nat × (List PV → Option PV)) := [(33, osssS libReplaceAll)]
noncomputable abbrev baseL : Orc := blO 7 9 37 5 (libO libs)
end Go.Proofs.YthblnlmpfgfgcaaDoor.Pm
