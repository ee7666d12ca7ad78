/- The small machine's codes of some functions. Printed by dec.py. -/
import Derived.Test.YtjndlncimgoacaaDoorLib1
import Derived.Test.YtjndlncimgoacaaDoorProg
namespace Go.Proofs.YtjndlncimgoacaaDoor.Pm
set_option maxRecDepth 1000000
set_option maxHeartbeats 20000000
set_option linter.unusedVariables false
structure GWire where
  Mode : Int
  Cmd : Int
  Opt : Int
  Buf : List UInt8
  Over : Bool
structure GTok where
  Kind : Int
  Cmd : Int
  Opt : Int
  Data : List UInt8
def e_GTok : Enc GTok := ⟨4, fun x => [.int .i64 x.Kind, .int .i64 x.Cmd, .int .i64 x.Opt, .str x.Data], fun _ => rfl⟩
def e_GWire : Enc GWire := ⟨5, fun x => [.int .i64 x.Mode, .int .i64 x.Cmd, .int .i64 x.Opt, .str x.Buf, .bool x.Over], fun _ => rfl⟩
def p9_1 : List PO := [⟨(.some 2), (.mov (.const (.string ⟨#[]⟩))), .none⟩]
def p9_2 : List PO := [⟨(.some 3), (.mov (.tmp 0)), .none⟩, ⟨(.some 4), (.call 21 [(.tmp 3), (.const (.string ⟨#[255]⟩)), (.const (.string ⟨#[255, 255]⟩))]), .none⟩, ⟨(.some 2), (.mov (.tmp 4)), .none⟩]
def c9_b : PCode := (.seq (.reg p9_1) (.seq (.reg p9_2) .ret))
def c9 : FCode := ⟨5, c9_b, [(.tmp 2)], some ([2], [], []), false⟩
theorem c9_ok : compF Go.Proofs.Tryd.prog [19, 20, 24, 25, 26, 27] 9 = some (eraseF c9) := by kernel_rfl
def p15_4 : List PO := [⟨(.some 1), (.box 5 (.tmp 0)), .none⟩, ⟨(.some 2), (.mov (.const (.int .i64 0))), .none⟩]
def p15_5 : List PO := [⟨(.some 5), (.fld 0 (.tmp 1)), .none⟩, ⟨(.some 6), (.load .false 1 (.tmp 5)), .none⟩, ⟨(.some 7), (.cmpI .eql (.tmp 6) (.const (.int .i64 4))), .none⟩, ⟨(.some 8), (.mov (.tmp 7)), .none⟩, ⟨(.some 9), (.fld 0 (.tmp 1)), (.some (8, .false))⟩, ⟨(.some 10), (.load .false 1 (.tmp 9)), (.some (8, .false))⟩, ⟨(.some 11), (.cmpI .eql (.tmp 10) (.const (.int .i64 5))), (.some (8, .false))⟩, ⟨(.some 12), (.pick (.tmp 8) (.const (.bool .true)) (.tmp 11)), .none⟩, ⟨(.some 3), (.mov (.tmp 12)), .none⟩]
def p15_6 : List PO := [⟨(.some 13), (.fld 0 (.tmp 1)), .none⟩, ⟨(.some 14), (.load .false 1 (.tmp 13)), .none⟩, ⟨(.some 15), (.cmpI .geq (.tmp 14) (.const (.int .i64 0))), .none⟩, ⟨(.some 16), (.mov (.tmp 15)), .none⟩, ⟨(.some 17), (.fld 0 (.tmp 1)), (.some (16, .true))⟩, ⟨(.some 18), (.load .false 1 (.tmp 17)), (.some (16, .true))⟩, ⟨(.some 19), (.cmpI .leq (.tmp 18) (.const (.int .i64 5))), (.some (16, .true))⟩, ⟨(.some 20), (.pick (.tmp 16) (.tmp 19) (.const (.bool .false))), .none⟩, ⟨(.some 4), (.mov (.tmp 20)), .none⟩]
def p15_7 : List PO := [⟨(.some 21), (.fld 0 (.tmp 1)), .none⟩, ⟨(.some 22), (.load .false 1 (.tmp 21)), .none⟩, ⟨(.some 23), (.cmpI .eql (.tmp 22) (.const (.int .i64 2))), .none⟩]
def p15_8 : List PO := [⟨(.some 24), (.mov (.tmp 4)), .none⟩, ⟨(.some 25), (.mov (.tmp 24)), .none⟩, ⟨(.some 26), (.fld 1 (.tmp 1)), (.some (25, .true))⟩, ⟨(.some 27), (.load .false 1 (.tmp 26)), (.some (25, .true))⟩, ⟨(.some 28), (.cmpI .geq (.tmp 27) (.const (.int .i64 251))), (.some (25, .true))⟩, ⟨(.some 29), (.pick (.tmp 25) (.tmp 28) (.const (.bool .false))), .none⟩, ⟨(.some 30), (.mov (.tmp 29)), .none⟩, ⟨(.some 31), (.fld 1 (.tmp 1)), (.some (30, .true))⟩, ⟨(.some 32), (.load .false 1 (.tmp 31)), (.some (30, .true))⟩, ⟨(.some 33), (.cmpI .leq (.tmp 32) (.const (.int .i64 254))), (.some (30, .true))⟩, ⟨(.some 34), (.pick (.tmp 30) (.tmp 33) (.const (.bool .false))), .none⟩, ⟨(.some 4), (.mov (.tmp 34)), .none⟩]
def p15_9 : List PO := [⟨(.some 35), (.mov (.tmp 4)), .none⟩, ⟨(.some 36), (.mov (.tmp 35)), .none⟩, ⟨(.some 37), (.fld 1 (.tmp 1)), (.some (36, .true))⟩, ⟨(.some 38), (.load .false 1 (.tmp 37)), (.some (36, .true))⟩, ⟨(.some 39), (.cmpI .eql (.tmp 38) (.const (.int .i64 0))), (.some (36, .true))⟩, ⟨(.some 40), (.pick (.tmp 36) (.tmp 39) (.const (.bool .false))), .none⟩, ⟨(.some 4), (.mov (.tmp 40)), .none⟩]
def p15_10 : List PO := [⟨(.some 41), (.mov (.tmp 3)), .none⟩]
def p15_11 : List PO := [⟨(.some 42), (.mov (.tmp 4)), .none⟩, ⟨(.some 43), (.mov (.tmp 42)), .none⟩, ⟨(.some 44), (.fld 2 (.tmp 1)), (.some (43, .true))⟩, ⟨(.some 45), (.load .false 1 (.tmp 44)), (.some (43, .true))⟩, ⟨(.some 46), (.cmpI .geq (.tmp 45) (.const (.int .i64 0))), (.some (43, .true))⟩, ⟨(.some 47), (.pick (.tmp 43) (.tmp 46) (.const (.bool .false))), .none⟩, ⟨(.some 48), (.mov (.tmp 47)), .none⟩, ⟨(.some 49), (.fld 2 (.tmp 1)), (.some (48, .true))⟩, ⟨(.some 50), (.load .false 1 (.tmp 49)), (.some (48, .true))⟩, ⟨(.some 51), (.cmpI .leq (.tmp 50) (.const (.int .i64 255))), (.some (48, .true))⟩, ⟨(.some 52), (.pick (.tmp 48) (.tmp 51) (.const (.bool .false))), .none⟩, ⟨(.some 53), (.mov (.tmp 52)), .none⟩, ⟨(.some 54), (.fld 3 (.tmp 1)), (.some (53, .true))⟩, ⟨(.some 55), (.load .false 1 (.tmp 54)), (.some (53, .true))⟩, ⟨(.some 56), (.len .true (.tmp 55)), (.some (53, .true))⟩, ⟨(.some 57), (.cmpI .leq (.tmp 56) (.const (.int .i64 4096))), (.some (53, .true))⟩, ⟨(.some 58), (.pick (.tmp 53) (.tmp 57) (.const (.bool .false))), .none⟩, ⟨(.some 59), (.mov (.tmp 58)), .none⟩, ⟨(.some 60), (.fld 4 (.tmp 1)), (.some (59, .true))⟩, ⟨(.some 61), (.load .false 1 (.tmp 60)), (.some (59, .true))⟩, ⟨(.some 62), (.un .not (.tmp 61)), (.some (59, .true))⟩, ⟨(.some 63), (.mov (.tmp 62)), (.some (59, .true))⟩, ⟨(.some 64), (.fld 3 (.tmp 1)), (.some (63, .false))⟩, ⟨(.some 65), (.load .false 1 (.tmp 64)), (.some (63, .false))⟩, ⟨(.some 66), (.strO .eql (.tmp 65) (.const (.string ⟨#[]⟩))), (.some (63, .false))⟩, ⟨(.some 67), (.pick (.tmp 63) (.const (.bool .true)) (.tmp 66)), (.some (59, .true))⟩, ⟨(.some 68), (.pick (.tmp 59) (.tmp 67) (.const (.bool .false))), .none⟩, ⟨(.some 4), (.mov (.tmp 68)), .none⟩]
def p15_12 : List PO := [⟨(.some 69), (.mov (.tmp 4)), .none⟩, ⟨(.some 70), (.mov (.tmp 69)), .none⟩, ⟨(.some 71), (.fld 2 (.tmp 1)), (.some (70, .true))⟩, ⟨(.some 72), (.load .false 1 (.tmp 71)), (.some (70, .true))⟩, ⟨(.some 73), (.cmpI .eql (.tmp 72) (.const (.int .i64 0))), (.some (70, .true))⟩, ⟨(.some 74), (.pick (.tmp 70) (.tmp 73) (.const (.bool .false))), .none⟩, ⟨(.some 75), (.mov (.tmp 74)), .none⟩, ⟨(.some 76), (.fld 3 (.tmp 1)), (.some (75, .true))⟩, ⟨(.some 77), (.load .false 1 (.tmp 76)), (.some (75, .true))⟩, ⟨(.some 78), (.strO .eql (.tmp 77) (.const (.string ⟨#[]⟩))), (.some (75, .true))⟩, ⟨(.some 79), (.pick (.tmp 75) (.tmp 78) (.const (.bool .false))), .none⟩, ⟨(.some 80), (.mov (.tmp 79)), .none⟩, ⟨(.some 81), (.fld 4 (.tmp 1)), (.some (80, .true))⟩, ⟨(.some 82), (.load .false 1 (.tmp 81)), (.some (80, .true))⟩, ⟨(.some 83), (.un .not (.tmp 82)), (.some (80, .true))⟩, ⟨(.some 84), (.pick (.tmp 80) (.tmp 83) (.const (.bool .false))), .none⟩, ⟨(.some 4), (.mov (.tmp 84)), .none⟩]
def p15_13 : List PO := [⟨(.some 85), (.mov (.tmp 4)), .none⟩, ⟨(.some 86), (.un .not (.tmp 85)), .none⟩]
def p15_14 : List PO := [⟨(.some 2), (.mov (.const (.int .i64 4))), .none⟩]
def p15_15 : List PO := [⟨(.some 2), (.mov (.const (.int .i64 0))), .none⟩]
def c15_1 : PCode := (.keep [1, 3, 4] [(16, .id 16)] [] (.seq (.seq (.reg p15_10) (.cond (.tmp 41) (.reg p15_11) (.reg p15_12))) (.seq (.seq (.reg p15_13) (.cond (.tmp 86) (.seq (.reg p15_14) .ret) .skip)) (.seq (.reg p15_15) .ret))))
def c15_2 : PCode := (.keep [1, 3, 4] [(16, .id 16)] [] (.seq (.seq (.reg p15_7) (.cond (.tmp 23) (.reg p15_8) (.reg p15_9))) c15_1))
def c15_3 : PCode := (.keep [1, 3] [(16, .id 16)] [] (.seq (.reg p15_6) c15_2))
def c15_b : PCode := (.seq (.reg p15_4) (.seq (.reg p15_5) c15_3))
def c15 : FCode := ⟨87, c15_b, [(.tmp 2)], some ([2], [], []), false⟩
theorem c15_ok : compF Go.Proofs.Tryd.prog [19, 20, 24, 25, 26, 27] 15 = some (eraseF c15) := by kernel_rfl
def p20_1 : List PO := [⟨(.some 2), (.mov (.tmp 0)), .none⟩, ⟨(.some 3), (.nilC (.tmp 2)), .none⟩, ⟨(.some 4), (.fld 6 (.tmp 3)), .none⟩, ⟨(.some 5), (.load .false 1 (.tmp 4)), .none⟩, ⟨(.some 6), (.len .false (.tmp 5)), .none⟩, ⟨(.some 7), (.cmpI .gtr (.tmp 6) (.const (.int .i64 0))), .none⟩]
def p20_2 : List PO := [⟨(.some 8), (.mov (.tmp 0)), .none⟩, ⟨(.some 9), (.mov (.tmp 0)), .none⟩, ⟨(.some 10), (.nilC (.tmp 9)), .none⟩, ⟨(.some 11), (.fld 7 (.tmp 10)), .none⟩, ⟨(.some 12), (.load .false 1 (.tmp 11)), .none⟩, ⟨(.some 13), (.mov (.tmp 0)), .none⟩, ⟨(.some 14), (.nilC (.tmp 13)), .none⟩, ⟨(.some 15), (.fld 6 (.tmp 14)), .none⟩, ⟨(.some 16), (.load .false 1 (.tmp 15)), .none⟩, ⟨(.some 17), (.cvBS (.tmp 16)), .none⟩, ⟨(.some 18), (.build [(3, (.int .i64 0)), (1, (.string ⟨#[]⟩))] [(0, (1, (.const (.int .i64 1)))), (3, (1, (.tmp 17)))]), .none⟩, ⟨(.some 19), (.bsl 31 4 1 [(3, (.int .i64 0)), (1, (.string ⟨#[]⟩))] [(0, (4, (.tmp 18)))]), .none⟩, ⟨(.some 20), (.app 31 4 40 (.tmp 12) (.tmp 19)), .none⟩, ⟨(.some 21), (.nilC (.tmp 8)), .none⟩, ⟨(.some 22), (.fld 7 (.tmp 21)), .none⟩, ⟨.none, (.store 1 (.tmp 22) (.tmp 20)), .none⟩]
def p20_3 : List PO := [⟨(.some 23), (.mov (.tmp 0)), .none⟩, ⟨(.some 24), (.nilC (.tmp 23)), .none⟩, ⟨(.some 25), (.fld 6 (.tmp 24)), .none⟩, ⟨.none, (.store 1 (.tmp 25) (.const (.slice .none 0 0))), .none⟩]
def c20_b : PCode := (.seq (.reg p20_1) (.cond (.tmp 7) (.seq (.regD p20_2 [(4, 11)]) (.reg p20_3)) .skip))
def c20 : FCode := ⟨26, c20_b, [], some ([], [(0, .id 0), (1, .id 1), (2, .id 2), (3, .id 3)], [.cell 0 6 2 5 1]), false⟩
theorem c20_ok : compF Go.Proofs.Tryd.prog [19, 20, 24, 25, 26, 27] 20 = some (eraseF c20) := by kernel_rfl
def p25_1 : List PO := [⟨(.some 3), (.box 4 (.tmp 1)), .none⟩]
def p25_2 : List PO := [⟨(.some 4), (.mov (.tmp 0)), .none⟩, ⟨(.some 5), (.callr 20 [(.tmp 4)]), .none⟩]
def p25_3 : List PO := [⟨(.some 6), (.mov (.tmp 0)), .none⟩, ⟨(.some 7), (.mov (.tmp 0)), .none⟩, ⟨(.some 8), (.nilC (.tmp 7)), .none⟩, ⟨(.some 9), (.fld 7 (.tmp 8)), .none⟩, ⟨(.some 10), (.load .false 1 (.tmp 9)), .none⟩, ⟨(.some 11), (.load .true 4 (.tmp 3)), .none⟩, ⟨(.some 12), (.bsl 31 4 1 [(3, (.int .i64 0)), (1, (.string ⟨#[]⟩))] [(0, (4, (.tmp 11)))]), .none⟩, ⟨(.some 13), (.app 31 4 40 (.tmp 10) (.tmp 12)), .none⟩, ⟨(.some 14), (.nilC (.tmp 6)), .none⟩, ⟨(.some 15), (.fld 7 (.tmp 14)), .none⟩, ⟨.none, (.store 1 (.tmp 15) (.tmp 13)), .none⟩]
def c25_b : PCode := (.seq (.reg p25_1) (.seq (.reg p25_2) (.regD p25_3 [(4, 6)])))
def c25 : FCode := ⟨16, c25_b, [], some ([], [(0, .id 0), (1, .id 1), (2, .id 2), (3, .id 3)], []), false⟩
theorem c25_ok : compF Go.Proofs.Tryd.prog [19, 20, 24, 25, 26, 27] 25 = some (eraseF c25) := by kernel_rfl
def p24_1 : List PO := [⟨(.some 4), (.mov (.tmp 0)), .none⟩, ⟨(.some 5), (.nilC (.tmp 4)), .none⟩, ⟨(.some 6), (.fld 0 (.tmp 5)), .none⟩, ⟨(.some 7), (.fld 0 (.tmp 6)), .none⟩, ⟨.none, (.store 1 (.tmp 7) (.const (.int .i64 0))), .none⟩]
def p24_2 : List PO := [⟨(.some 14), (.mov (.tmp 1)), .none⟩, ⟨(.some 15), (.cmpI .eql (.tmp 14) (.const (.int .u8 255))), .none⟩, ⟨(.some 13), (.mov (.tmp 15)), .none⟩]
def p24_3 : List PO := [⟨(.some 16), (.mov (.tmp 0)), .none⟩, ⟨(.some 17), (.mov (.tmp 0)), .none⟩, ⟨(.some 18), (.nilC (.tmp 17)), .none⟩, ⟨(.some 19), (.fld 6 (.tmp 18)), .none⟩, ⟨(.some 20), (.load .false 1 (.tmp 19)), .none⟩, ⟨(.some 21), (.mov (.tmp 1)), .none⟩, ⟨(.some 22), (.bsl 5 1 1 [(1, (.int .u8 0))] [(0, (1, (.tmp 21)))]), .none⟩, ⟨(.some 23), (.app 5 1 1 (.tmp 20) (.tmp 22)), .none⟩, ⟨(.some 24), (.nilC (.tmp 16)), .none⟩, ⟨(.some 25), (.fld 6 (.tmp 24)), .none⟩, ⟨.none, (.store 1 (.tmp 25) (.tmp 23)), .none⟩]
def p24_4 : List PO := [⟨(.some 27), (.mov (.tmp 1)), .none⟩, ⟨(.some 28), (.cmpI .geq (.tmp 27) (.const (.int .u8 251))), .none⟩, ⟨(.some 26), (.mov (.tmp 28)), .none⟩]
def p24_5 : List PO := [⟨(.some 29), (.mov (.tmp 0)), .none⟩, ⟨(.some 30), (.mov (.tmp 0)), .none⟩, ⟨(.some 31), (.mov (.tmp 1)), .none⟩, ⟨(.some 32), (.cvI .i64 (.tmp 31)), .none⟩, ⟨(.some 33), (.nilC (.tmp 29)), .none⟩, ⟨(.some 34), (.fld 0 (.tmp 33)), .none⟩, ⟨(.some 35), (.fld 0 (.tmp 34)), .none⟩, ⟨.none, (.store 1 (.tmp 35) (.const (.int .i64 2))), .none⟩, ⟨(.some 36), (.nilC (.tmp 30)), .none⟩, ⟨(.some 37), (.fld 0 (.tmp 36)), .none⟩, ⟨(.some 38), (.fld 1 (.tmp 37)), .none⟩, ⟨.none, (.store 1 (.tmp 38) (.tmp 32)), .none⟩]
def p24_6 : List PO := [⟨(.some 40), (.mov (.tmp 1)), .none⟩, ⟨(.some 41), (.cmpI .eql (.tmp 40) (.const (.int .u8 250))), .none⟩, ⟨(.some 39), (.mov (.tmp 41)), .none⟩]
def p24_7 : List PO := [⟨(.some 42), (.mov (.tmp 0)), .none⟩, ⟨(.some 43), (.nilC (.tmp 42)), .none⟩, ⟨(.some 44), (.fld 0 (.tmp 43)), .none⟩, ⟨(.some 45), (.fld 0 (.tmp 44)), .none⟩, ⟨.none, (.store 1 (.tmp 45) (.const (.int .i64 3))), .none⟩]
def p24_8 : List PO := [⟨(.some 47), (.mov (.tmp 1)), .none⟩, ⟨(.some 48), (.cmpI .geq (.tmp 47) (.const (.int .u8 240))), .none⟩, ⟨(.some 46), (.mov (.tmp 48)), .none⟩]
def p24_9 : List PO := [⟨(.some 49), (.mov (.tmp 0)), .none⟩, ⟨(.some 50), (.mov (.tmp 1)), .none⟩, ⟨(.some 51), (.cvI .i64 (.tmp 50)), .none⟩, ⟨(.some 52), (.build [(3, (.int .i64 0)), (1, (.string ⟨#[]⟩))] [(0, (1, (.const (.int .i64 2)))), (1, (1, (.tmp 51)))]), .none⟩, ⟨(.some 53), (.callr 25 [(.tmp 49), (.tmp 52)]), .none⟩]
def p24_10 : List PO := [⟨(.some 8), (.mov (.tmp 0)), .none⟩, ⟨(.some 9), (.mov (.tmp 1)), .none⟩, ⟨(.some 10), (.cvI .i64 (.tmp 9)), .none⟩, ⟨(.some 11), (.build [(3, (.int .i64 0)), (1, (.string ⟨#[]⟩))] [(0, (1, (.const (.int .i64 5)))), (1, (1, (.tmp 10)))]), .none⟩, ⟨(.some 12), (.callr 25 [(.tmp 8), (.tmp 11)]), .none⟩]
def c24_11 : PCode := (.seq (.reg p24_2) (.cond (.tmp 13) (.reg p24_3) (.seq (.reg p24_4) (.cond (.tmp 26) (.reg p24_5) (.seq (.reg p24_6) (.cond (.tmp 39) (.reg p24_7) (.seq (.reg p24_8) (.cond (.tmp 46) (.reg p24_9) (.reg p24_10)))))))))
def c24_b : PCode := (.seq (.reg p24_1) (.block 0 c24_11))
def c24 : FCode := ⟨54, c24_b, [], some ([], [(0, .id 0), (1, .id 1), (2, .id 2), (3, .id 3)], []), false⟩
theorem c24_ok : compF Go.Proofs.Tryd.prog [19, 20, 24, 25, 26, 27] 24 = some (eraseF c24) := by kernel_rfl
def p26_2 : List PO := [⟨(.some 4), (.mov (.tmp 0)), .none⟩, ⟨(.some 5), (.nilC (.tmp 4)), .none⟩, ⟨(.some 6), (.fld 5 (.tmp 5)), .none⟩, ⟨(.some 7), (.load .false 1 (.tmp 6)), .none⟩, ⟨(.some 8), (.len .false (.tmp 7)), .none⟩, ⟨(.some 9), (.cmpI .eql (.tmp 8) (.const (.int .i64 4096))), .none⟩]
def p26_3 : List PO := [⟨(.some 10), (.mov (.tmp 0)), .none⟩, ⟨(.some 11), (.mov (.tmp 0)), .none⟩, ⟨(.some 12), (.nilC (.tmp 10)), .none⟩, ⟨(.some 13), (.fld 5 (.tmp 12)), .none⟩, ⟨.none, (.store 1 (.tmp 13) (.const (.slice .none 0 0))), .none⟩, ⟨(.some 14), (.nilC (.tmp 11)), .none⟩, ⟨(.some 15), (.fld 0 (.tmp 14)), .none⟩, ⟨(.some 16), (.fld 4 (.tmp 15)), .none⟩, ⟨.none, (.store 1 (.tmp 16) (.const (.bool .true))), .none⟩]
def p26_4 : List PO := [⟨(.some 17), (.mov (.tmp 0)), .none⟩, ⟨(.some 18), (.nilC (.tmp 17)), .none⟩, ⟨(.some 19), (.fld 0 (.tmp 18)), .none⟩, ⟨(.some 20), (.fld 4 (.tmp 19)), .none⟩, ⟨(.some 21), (.load .false 1 (.tmp 20)), .none⟩, ⟨(.some 22), (.un .not (.tmp 21)), .none⟩]
def p26_5 : List PO := [⟨(.some 23), (.mov (.tmp 0)), .none⟩, ⟨(.some 24), (.mov (.tmp 0)), .none⟩, ⟨(.some 25), (.nilC (.tmp 24)), .none⟩, ⟨(.some 26), (.fld 5 (.tmp 25)), .none⟩, ⟨(.some 27), (.load .false 1 (.tmp 26)), .none⟩, ⟨(.some 28), (.mov (.tmp 1)), .none⟩, ⟨(.some 29), (.bsl 5 1 1 [(1, (.int .u8 0))] [(0, (1, (.tmp 28)))]), .none⟩, ⟨(.some 30), (.app 5 1 1 (.tmp 27) (.tmp 29)), .none⟩, ⟨(.some 31), (.nilC (.tmp 23)), .none⟩, ⟨(.some 32), (.fld 5 (.tmp 31)), .none⟩, ⟨.none, (.store 1 (.tmp 32) (.tmp 30)), .none⟩]
def c26_1 : PCode := (.keep [0, 1] [(0, .id 0), (1, .id 1), (2, .id 2), (3, .id 3)] [.cell 0 5 1 5 1] (.seq (.reg p26_4) (.cond (.tmp 22) (.reg p26_5) .skip)))
def c26_b : PCode := (.seq (.seq (.reg p26_2) (.cond (.tmp 9) (.reg p26_3) .skip)) c26_1)
def c26 : FCode := ⟨33, c26_b, [], some ([], [(0, .id 0), (1, .id 1), (2, .id 2), (3, .id 3)], []), false⟩
theorem c26_ok : compF Go.Proofs.Tryd.prog [19, 20, 24, 25, 26, 27] 26 = some (eraseF c26) := by kernel_rfl
def p27_2 : List PO := [⟨(.some 15), (.mov (.tmp 1)), .none⟩, ⟨(.some 16), (.cmpI .eql (.tmp 15) (.const (.int .u8 240))), .none⟩, ⟨(.some 17), (.mov (.tmp 16)), .none⟩, ⟨(.some 18), (.mov (.tmp 0)), (.some (17, .true))⟩, ⟨(.some 19), (.nilC (.tmp 18)), (.some (17, .true))⟩, ⟨(.some 20), (.fld 0 (.tmp 19)), (.some (17, .true))⟩, ⟨(.some 21), (.fld 4 (.tmp 20)), (.some (17, .true))⟩, ⟨(.some 22), (.load .false 1 (.tmp 21)), (.some (17, .true))⟩, ⟨(.some 23), (.pick (.tmp 17) (.tmp 22) (.const (.bool .false))), .none⟩, ⟨(.some 14), (.mov (.tmp 23)), .none⟩]
def p27_3 : List PO := [⟨(.some 24), (.mov (.tmp 0)), .none⟩, ⟨(.some 25), (.mov (.tmp 0)), .none⟩, ⟨(.some 26), (.nilC (.tmp 25)), .none⟩, ⟨(.some 27), (.fld 0 (.tmp 26)), .none⟩, ⟨(.some 28), (.fld 2 (.tmp 27)), .none⟩, ⟨(.some 29), (.load .false 1 (.tmp 28)), .none⟩, ⟨(.some 30), (.build [(3, (.int .i64 0)), (1, (.string ⟨#[]⟩))] [(0, (1, (.const (.int .i64 5)))), (1, (1, (.const (.int .i64 250)))), (2, (1, (.tmp 29)))]), .none⟩, ⟨(.some 31), (.callr 25 [(.tmp 24), (.tmp 30)]), .none⟩]
def p27_4 : List PO := [⟨(.some 33), (.mov (.tmp 1)), .none⟩, ⟨(.some 34), (.cmpI .eql (.tmp 33) (.const (.int .u8 240))), .none⟩, ⟨(.some 32), (.mov (.tmp 34)), .none⟩]
def p27_5 : List PO := [⟨(.some 35), (.mov (.tmp 0)), .none⟩, ⟨(.some 36), (.mov (.tmp 0)), .none⟩, ⟨(.some 37), (.nilC (.tmp 36)), .none⟩, ⟨(.some 38), (.fld 0 (.tmp 37)), .none⟩, ⟨(.some 39), (.fld 2 (.tmp 38)), .none⟩, ⟨(.some 40), (.load .false 1 (.tmp 39)), .none⟩, ⟨(.some 41), (.mov (.tmp 0)), .none⟩, ⟨(.some 42), (.nilC (.tmp 41)), .none⟩, ⟨(.some 43), (.fld 5 (.tmp 42)), .none⟩, ⟨(.some 44), (.load .false 1 (.tmp 43)), .none⟩, ⟨(.some 45), (.cvBS (.tmp 44)), .none⟩, ⟨(.some 46), (.build [(3, (.int .i64 0)), (1, (.string ⟨#[]⟩))] [(0, (1, (.const (.int .i64 4)))), (2, (1, (.tmp 40))), (3, (1, (.tmp 45)))]), .none⟩, ⟨(.some 47), (.callr 25 [(.tmp 35), (.tmp 46)]), .none⟩]
def p27_6 : List PO := [⟨(.some 4), (.mov (.tmp 0)), .none⟩, ⟨(.some 5), (.mov (.tmp 1)), .none⟩, ⟨(.some 6), (.cvI .i64 (.tmp 5)), .none⟩, ⟨(.some 7), (.mov (.tmp 0)), .none⟩, ⟨(.some 8), (.nilC (.tmp 7)), .none⟩, ⟨(.some 9), (.fld 0 (.tmp 8)), .none⟩, ⟨(.some 10), (.fld 2 (.tmp 9)), .none⟩, ⟨(.some 11), (.load .false 1 (.tmp 10)), .none⟩, ⟨(.some 12), (.build [(3, (.int .i64 0)), (1, (.string ⟨#[]⟩))] [(0, (1, (.const (.int .i64 5)))), (1, (1, (.tmp 6))), (2, (1, (.tmp 11)))]), .none⟩, ⟨(.some 13), (.callr 25 [(.tmp 4), (.tmp 12)]), .none⟩]
def p27_7 : List PO := [⟨(.some 48), (.mov (.tmp 0)), .none⟩, ⟨(.some 49), (.mov (.tmp 0)), .none⟩, ⟨(.some 50), (.build [(3, (.int .i64 0)), (1, (.string ⟨#[]⟩)), (1, (.bool .false))] []), .none⟩, ⟨(.some 51), (.nilC (.tmp 48)), .none⟩, ⟨(.some 52), (.fld 0 (.tmp 51)), .none⟩, ⟨.none, (.store 5 (.tmp 52) (.tmp 50)), .none⟩, ⟨(.some 53), (.nilC (.tmp 49)), .none⟩, ⟨(.some 54), (.fld 5 (.tmp 53)), .none⟩, ⟨.none, (.store 1 (.tmp 54) (.const (.slice .none 0 0))), .none⟩]
def c27_1 : PCode := (.keep [0] [(0, .id 0), (1, .id 1), (2, .id 2), (3, .id 3)] [] (.reg p27_7))
def c27_b : PCode := (.seq (.block 0 (.seq (.reg p27_2) (.cond (.tmp 14) (.reg p27_3) (.seq (.reg p27_4) (.cond (.tmp 32) (.regD p27_5 []) (.reg p27_6)))))) c27_1)
def c27 : FCode := ⟨55, c27_b, [], some ([], [(0, .id 0), (2, .id 2), (3, .id 3), (1, .id 1)], []), false⟩
theorem c27_ok : compF Go.Proofs.Tryd.prog [19, 20, 24, 25, 26, 27] 27 = some (eraseF c27) := by kernel_rfl
def p19_1 : List PO := [⟨(.some 4), (.mov (.tmp 0)), .none⟩, ⟨(.some 5), (.nilC (.tmp 4)), .none⟩, ⟨(.some 6), (.fld 0 (.tmp 5)), .none⟩, ⟨(.some 7), (.fld 0 (.tmp 6)), .none⟩, ⟨(.some 8), (.load .false 1 (.tmp 7)), .none⟩]
def p19_2 : List PO := [⟨(.some 22), (.cmpI .eql (.tmp 8) (.const (.int .i64 0))), .none⟩, ⟨(.some 21), (.mov (.tmp 22)), .none⟩]
def p19_3 : List PO := [⟨(.some 23), (.mov (.tmp 1)), .none⟩, ⟨(.some 24), (.cmpI .eql (.tmp 23) (.const (.int .u8 255))), .none⟩]
def p19_4 : List PO := [⟨(.some 25), (.mov (.tmp 0)), .none⟩, ⟨(.some 26), (.nilC (.tmp 25)), .none⟩, ⟨(.some 27), (.fld 0 (.tmp 26)), .none⟩, ⟨(.some 28), (.fld 0 (.tmp 27)), .none⟩, ⟨.none, (.store 1 (.tmp 28) (.const (.int .i64 1))), .none⟩]
def p19_5 : List PO := [⟨(.some 29), (.mov (.tmp 0)), .none⟩, ⟨(.some 30), (.mov (.tmp 0)), .none⟩, ⟨(.some 31), (.nilC (.tmp 30)), .none⟩, ⟨(.some 32), (.fld 6 (.tmp 31)), .none⟩, ⟨(.some 33), (.load .false 1 (.tmp 32)), .none⟩, ⟨(.some 34), (.mov (.tmp 1)), .none⟩, ⟨(.some 35), (.bsl 5 1 1 [(1, (.int .u8 0))] [(0, (1, (.tmp 34)))]), .none⟩, ⟨(.some 36), (.app 5 1 1 (.tmp 33) (.tmp 35)), .none⟩, ⟨(.some 37), (.nilC (.tmp 29)), .none⟩, ⟨(.some 38), (.fld 6 (.tmp 37)), .none⟩, ⟨.none, (.store 1 (.tmp 38) (.tmp 36)), .none⟩]
def p19_6 : List PO := [⟨(.some 40), (.cmpI .eql (.tmp 8) (.const (.int .i64 1))), .none⟩, ⟨(.some 39), (.mov (.tmp 40)), .none⟩]
def p19_7 : List PO := [⟨(.some 41), (.mov (.tmp 0)), .none⟩, ⟨(.some 42), (.mov (.tmp 1)), .none⟩, ⟨(.some 43), (.callr 24 [(.tmp 41), (.tmp 42)]), .none⟩]
def p19_8 : List PO := [⟨(.some 45), (.cmpI .eql (.tmp 8) (.const (.int .i64 2))), .none⟩, ⟨(.some 44), (.mov (.tmp 45)), .none⟩]
def p19_9 : List PO := [⟨(.some 46), (.mov (.tmp 0)), .none⟩, ⟨(.some 47), (.mov (.tmp 0)), .none⟩, ⟨(.some 48), (.nilC (.tmp 47)), .none⟩, ⟨(.some 49), (.fld 0 (.tmp 48)), .none⟩, ⟨(.some 50), (.fld 1 (.tmp 49)), .none⟩, ⟨(.some 51), (.load .false 1 (.tmp 50)), .none⟩, ⟨(.some 52), (.mov (.tmp 1)), .none⟩, ⟨(.some 53), (.cvI .i64 (.tmp 52)), .none⟩, ⟨(.some 54), (.build [(3, (.int .i64 0)), (1, (.string ⟨#[]⟩))] [(0, (1, (.const (.int .i64 3)))), (1, (1, (.tmp 51))), (2, (1, (.tmp 53)))]), .none⟩, ⟨(.some 55), (.callr 25 [(.tmp 46), (.tmp 54)]), .none⟩]
def p19_10 : List PO := [⟨(.some 56), (.mov (.tmp 0)), .none⟩, ⟨(.some 57), (.mov (.tmp 0)), .none⟩, ⟨(.some 58), (.nilC (.tmp 56)), .none⟩, ⟨(.some 59), (.fld 0 (.tmp 58)), .none⟩, ⟨(.some 60), (.fld 0 (.tmp 59)), .none⟩, ⟨.none, (.store 1 (.tmp 60) (.const (.int .i64 0))), .none⟩, ⟨(.some 61), (.nilC (.tmp 57)), .none⟩, ⟨(.some 62), (.fld 0 (.tmp 61)), .none⟩, ⟨(.some 63), (.fld 1 (.tmp 62)), .none⟩, ⟨.none, (.store 1 (.tmp 63) (.const (.int .i64 0))), .none⟩]
def p19_11 : List PO := [⟨(.some 65), (.cmpI .eql (.tmp 8) (.const (.int .i64 3))), .none⟩, ⟨(.some 64), (.mov (.tmp 65)), .none⟩]
def p19_12 : List PO := [⟨(.some 66), (.mov (.tmp 0)), .none⟩, ⟨(.some 67), (.mov (.tmp 0)), .none⟩, ⟨(.some 68), (.mov (.tmp 1)), .none⟩, ⟨(.some 69), (.cvI .i64 (.tmp 68)), .none⟩, ⟨(.some 70), (.nilC (.tmp 66)), .none⟩, ⟨(.some 71), (.fld 0 (.tmp 70)), .none⟩, ⟨(.some 72), (.fld 0 (.tmp 71)), .none⟩, ⟨.none, (.store 1 (.tmp 72) (.const (.int .i64 4))), .none⟩, ⟨(.some 73), (.nilC (.tmp 67)), .none⟩, ⟨(.some 74), (.fld 0 (.tmp 73)), .none⟩, ⟨(.some 75), (.fld 2 (.tmp 74)), .none⟩, ⟨.none, (.store 1 (.tmp 75) (.tmp 69)), .none⟩]
def p19_13 : List PO := [⟨(.some 77), (.cmpI .eql (.tmp 8) (.const (.int .i64 4))), .none⟩, ⟨(.some 76), (.mov (.tmp 77)), .none⟩]
def p19_14 : List PO := [⟨(.some 78), (.mov (.tmp 1)), .none⟩, ⟨(.some 79), (.cmpI .eql (.tmp 78) (.const (.int .u8 255))), .none⟩]
def p19_15 : List PO := [⟨(.some 80), (.mov (.tmp 0)), .none⟩, ⟨(.some 81), (.nilC (.tmp 80)), .none⟩, ⟨(.some 82), (.fld 0 (.tmp 81)), .none⟩, ⟨(.some 83), (.fld 0 (.tmp 82)), .none⟩, ⟨.none, (.store 1 (.tmp 83) (.const (.int .i64 5))), .none⟩]
def p19_16 : List PO := [⟨(.some 84), (.mov (.tmp 0)), .none⟩, ⟨(.some 85), (.mov (.tmp 1)), .none⟩, ⟨(.some 86), (.callr 26 [(.tmp 84), (.tmp 85)]), .none⟩]
def p19_17 : List PO := [⟨(.some 9), (.mov (.tmp 1)), .none⟩, ⟨(.some 10), (.cmpI .eql (.tmp 9) (.const (.int .u8 255))), .none⟩]
def p19_18 : List PO := [⟨(.some 11), (.mov (.tmp 0)), .none⟩, ⟨(.some 12), (.nilC (.tmp 11)), .none⟩, ⟨(.some 13), (.fld 0 (.tmp 12)), .none⟩, ⟨(.some 14), (.fld 0 (.tmp 13)), .none⟩, ⟨.none, (.store 1 (.tmp 14) (.const (.int .i64 4))), .none⟩]
def p19_19 : List PO := [⟨(.some 15), (.mov (.tmp 0)), .none⟩, ⟨(.some 16), (.mov (.tmp 1)), .none⟩, ⟨(.some 17), (.callr 26 [(.tmp 15), (.tmp 16)]), .none⟩]
def p19_20 : List PO := [⟨(.some 18), (.mov (.tmp 0)), .none⟩, ⟨(.some 19), (.mov (.tmp 1)), .none⟩, ⟨(.some 20), (.callr 27 [(.tmp 18), (.tmp 19)]), .none⟩]
def c19_21 : PCode := (.cond (.tmp 64) (.reg p19_12) (.seq (.reg p19_13) (.cond (.tmp 76) (.seq (.reg p19_14) (.cond (.tmp 79) (.reg p19_15) (.reg p19_16))) (.seq (.reg p19_17) (.cond (.tmp 10) (.seq (.reg p19_18) (.reg p19_19)) (.reg p19_20))))))
def c19_22 : PCode := (.cond (.tmp 21) (.seq (.reg p19_3) (.cond (.tmp 24) (.reg p19_4) (.reg p19_5))) (.seq (.reg p19_6) (.cond (.tmp 39) (.reg p19_7) (.seq (.reg p19_8) (.cond (.tmp 44) (.seq (.reg p19_9) (.reg p19_10)) (.seq (.reg p19_11) c19_21))))))
def c19_b : PCode := (.seq (.reg p19_1) (.block 0 (.seq (.reg p19_2) c19_22)))
def c19 : FCode := ⟨87, c19_b, [], some ([], [(0, .id 0), (1, .id 1), (2, .id 2), (3, .id 3)], [.cell 0 5 1 5 1]), false⟩
theorem c19_ok : compF Go.Proofs.Tryd.prog [19, 20, 24, 25, 26, 27] 19 = some (eraseF c19) := by kernel_rfl
def p8_6 : List PO := [⟨(.some 2), (.box 5 (.tmp 0)), .none⟩, ⟨(.some 4), (.alloc [(3, (.int .i64 0)), (1, (.string ⟨#[]⟩)), (1, (.bool .false))]), .none⟩, ⟨(.some 5), (.nilS 31 4), .none⟩, ⟨(.some 6), (.mov (.const (.int .i64 0))), .none⟩]
def p8_7 : List PO := [⟨(.some 10), (.load .true 5 (.tmp 2)), .none⟩, ⟨(.some 11), (.call 15 [(.tmp 10)]), .none⟩, ⟨(.some 7), (.mov (.tmp 11)), .none⟩]
def p8_8 : List PO := [⟨(.some 12), (.mov (.tmp 7)), .none⟩, ⟨(.some 13), (.cmpI .neq (.tmp 12) (.const (.int .i64 0))), .none⟩]
def p8_9 : List PO := [⟨(.some 14), (.load .true 5 (.tmp 2)), .none⟩, ⟨(.some 15), (.mov (.tmp 7)), .none⟩, ⟨.none, (.store 5 (.tmp 4) (.tmp 14)), .none⟩, ⟨(.some 5), (.nilS 31 4), .none⟩, ⟨(.some 6), (.mov (.tmp 15)), .none⟩]
def p8_10 : List PO := [⟨(.some 16), (.load .true 5 (.tmp 2)), .none⟩, ⟨(.some 17), (.fld 3 (.tmp 2)), .none⟩, ⟨(.some 18), (.load .false 1 (.tmp 17)), .none⟩, ⟨(.some 19), (.cvSO 5 (.tmp 18)), .none⟩, ⟨(.some 20), (.build [(3, (.int .i64 0)), (1, (.string ⟨#[]⟩)), (1, (.bool .false)), (1, (.slice .none 0 0)), (1, (.slice .none 0 0)), (1, (.slice .none 0 0))] [(0, (5, (.tmp 16))), (5, (1, (.tmp 19)))]), .none⟩, ⟨(.some 21), (.box 8 (.tmp 20)), .none⟩, ⟨(.some 8), (.mov (.tmp 21)), .none⟩]
def p8_11 : List PO := [⟨(.some 22), (.mov (.tmp 1)), .none⟩, ⟨(.some 23), (.len .true (.tmp 22)), .none⟩, ⟨(.some 24), (.mov (.const (.int .i64 0))), .none⟩]
def p8_12 : List PO := [⟨(.some 25), (.cmpI .lss (.tmp 24) (.tmp 23)), .none⟩]
def p8_13 : List PO := [⟨(.some 26), (.mov (.tmp 24)), .none⟩, ⟨(.some 9), (.mov (.tmp 26)), .none⟩]
def p8_14 : List PO := [⟨(.some 27), (.mov (.tmp 8)), .none⟩, ⟨(.some 28), (.mov (.tmp 1)), .none⟩, ⟨(.some 29), (.mov (.tmp 9)), .none⟩, ⟨(.some 30), (.ixStr (.tmp 28) (.tmp 29)), .none⟩, ⟨(.some 31), (.callr 19 [(.tmp 27), (.tmp 30)]), .none⟩]
def p8_15 : List PO := [⟨(.some 32), (.arI .add (.tmp 24) (.const (.int .i64 1))), .none⟩, ⟨(.some 24), (.mov (.tmp 32)), .none⟩]
def c8_2 : PCode := (.keep [1, 4, 8, 23, 24] [(40, .id 40), (176, .id 176), (160, .id 160), (449, .id 449), (450, .id 450)] [] (.seq (.block 1 (.seq (.reg p8_13) (.reg p8_14))) (.reg p8_15)))
def c8_3 : PCode := (.keep [1, 4, 8, 23, 24, 25] [(40, .id 40), (176, .id 176), (160, .id 160), (449, .id 449), (450, .id 450)] [] (.seq (.cond (.tmp 25) .skip (.keep [4, 8] [(40, .id 40), (176, .id 176), (160, .id 160), (449, .id 449), (450, .id 450)] [] (.exit 0))) c8_2))
def c8_4 : PCode := (.keep [1, 4, 8, 23, 24] [(40, .id 40), (176, .id 176), (160, .id 160), (449, (.cell 176 6)), (450, (.cell 176 7))] [.cell 176 6 449 5 1, .cell 176 7 450 31 4] (.seq (.reg p8_12) c8_3))
def p8_16 : List PO := [⟨(.some 33), (.mov (.tmp 8)), .none⟩, ⟨(.some 34), (.callr 20 [(.tmp 33)]), .none⟩]
def p8_17 : List PO := [⟨(.some 35), (.mov (.tmp 8)), .none⟩, ⟨(.some 36), (.mov (.tmp 8)), .none⟩, ⟨(.some 37), (.nilC (.tmp 36)), .none⟩, ⟨(.some 38), (.fld 5 (.tmp 37)), .none⟩, ⟨(.some 39), (.load .false 1 (.tmp 38)), .none⟩, ⟨(.some 40), (.cvBS (.tmp 39)), .none⟩, ⟨(.some 41), (.nilC (.tmp 35)), .none⟩, ⟨(.some 42), (.fld 0 (.tmp 41)), .none⟩, ⟨(.some 43), (.fld 3 (.tmp 42)), .none⟩, ⟨.none, (.store 1 (.tmp 43) (.tmp 40)), .none⟩]
def p8_18 : List PO := [⟨(.some 44), (.mov (.tmp 8)), .none⟩, ⟨(.some 45), (.nilC (.tmp 44)), .none⟩, ⟨(.some 46), (.fld 0 (.tmp 45)), .none⟩, ⟨(.some 47), (.load .true 5 (.tmp 46)), .none⟩, ⟨(.some 48), (.mov (.tmp 8)), .none⟩, ⟨(.some 49), (.nilC (.tmp 48)), .none⟩, ⟨(.some 50), (.fld 7 (.tmp 49)), .none⟩, ⟨(.some 51), (.load .false 1 (.tmp 50)), .none⟩, ⟨.none, (.store 5 (.tmp 4) (.tmp 47)), .none⟩, ⟨(.some 5), (.mov (.tmp 51)), .none⟩, ⟨(.some 6), (.mov (.const (.int .i64 0))), .none⟩]
def c8_1 : PCode := (.keep [4, 8] [(40, .id 40), (176, .id 176), (160, .id 160), (449, .id 449), (450, .id 450)] [] (.seq (.reg p8_16) (.seq (.reg p8_17) (.seq (.regD p8_18 [(7, 8)]) .ret))))
def c8_5 : PCode := (.keep [1, 2, 4] [(24, .id 24), (40, .id 40)] [] (.seq (.reg p8_10) (.seq (.seq (.reg p8_11) (.block 0 (.loop c8_4))) c8_1)))
def c8_b : PCode := (.seq (.reg p8_6) (.seq (.seq (.reg p8_7) (.seq (.reg p8_8) (.cond (.tmp 13) (.seq (.reg p8_9) .ret) .skip))) c8_5))
def c8 : FCode := ⟨52, c8_b, [(.cell 4 .true 5), (.tmp 5), (.tmp 6)], some ([4, 5, 6], [(40, .id 40), (451, (.slot 5 none))], []), false⟩
theorem c8_ok : compF Go.Proofs.Tryd.prog [19, 20, 24, 25, 26, 27] 8 = some (eraseF c8) := by kernel_rfl
def p12_5 : List PO := [⟨(.some 4), (.mov (.const (.bool .false))), .none⟩]
def p12_6 : List PO := [⟨(.some 6), (.mov (.tmp 0)), .none⟩, ⟨(.some 7), (.len .false (.tmp 6)), .none⟩, ⟨(.some 8), (.mov (.tmp 1)), .none⟩, ⟨(.some 9), (.len .false (.tmp 8)), .none⟩, ⟨(.some 10), (.cmpI .neq (.tmp 7) (.tmp 9)), .none⟩]
def p12_7 : List PO := [⟨(.some 4), (.mov (.const (.bool .false))), .none⟩]
def p12_8 : List PO := [⟨(.some 11), (.mov (.tmp 0)), .none⟩, ⟨(.some 12), (.len .false (.tmp 11)), .none⟩, ⟨(.some 13), (.mov (.const (.int .i64 0))), .none⟩]
def p12_9 : List PO := [⟨(.some 14), (.cmpI .lss (.tmp 13) (.tmp 12)), .none⟩]
def p12_10 : List PO := [⟨(.some 15), (.mov (.tmp 13)), .none⟩, ⟨(.some 5), (.mov (.tmp 15)), .none⟩]
def p12_11 : List PO := [⟨(.some 16), (.mov (.tmp 0)), .none⟩, ⟨(.some 17), (.mov (.tmp 5)), .none⟩, ⟨(.some 18), (.ixS 31 4 (.tmp 16) (.tmp 17)), .none⟩, ⟨(.some 19), (.load .true 4 (.tmp 18)), .none⟩, ⟨(.some 20), (.mov (.tmp 1)), .none⟩, ⟨(.some 21), (.mov (.tmp 5)), .none⟩, ⟨(.some 22), (.ixS 31 4 (.tmp 20) (.tmp 21)), .none⟩, ⟨(.some 23), (.load .true 4 (.tmp 22)), .none⟩, ⟨(.some 24), (.eqA .true [(3, .int), (1, .str)] (.tmp 19) (.tmp 23)), .none⟩]
def p12_12 : List PO := [⟨(.some 4), (.mov (.const (.bool .false))), .none⟩]
def p12_13 : List PO := [⟨(.some 25), (.arI .add (.tmp 13) (.const (.int .i64 1))), .none⟩, ⟨(.some 13), (.mov (.tmp 25)), .none⟩]
def c12_1 : PCode := (.keep [0, 1, 12, 13] [] [] (.seq (.block 1 (.seq (.reg p12_10) (.seq (.regD p12_11 []) (.cond (.tmp 24) (.seq (.reg p12_12) .ret) .skip)))) (.reg p12_13)))
def c12_2 : PCode := (.keep [0, 1, 12, 13, 14] [] [] (.seq (.cond (.tmp 14) .skip (.keep [] [] [] (.exit 0))) c12_1))
def c12_3 : PCode := (.keep [0, 1, 12, 13] [] [] (.seq (.reg p12_9) c12_2))
def p12_14 : List PO := [⟨(.some 4), (.mov (.const (.bool .true))), .none⟩]
def c12_4 : PCode := (.keep [0, 1] [] [] (.seq (.seq (.reg p12_8) (.block 0 (.loop c12_3))) (.seq (.reg p12_14) .ret)))
def c12_b : PCode := (.seq (.reg p12_5) (.seq (.seq (.reg p12_6) (.cond (.tmp 10) (.seq (.reg p12_7) .ret) .skip)) c12_4))
def c12 : FCode := ⟨26, c12_b, [(.tmp 4)], some ([4], [], []), false⟩
theorem c12_ok : compF Go.Proofs.Tryd.prog [19, 20, 24, 25, 26, 27] 12 = some (eraseF c12) := by kernel_rfl
def p10_1 : List PO := [⟨(.some 0), (.mov (.const (.bool .false))), .none⟩]
def p10_2 : List PO := [⟨(.some 5), (.build [(3, (.int .i64 0)), (1, (.string ⟨#[]⟩)), (1, (.bool .false))] []), .none⟩, ⟨(.some 6), (.call 8 [(.tmp 5), (.const (.string ⟨#[97, 255, 255, 98, 255, 251, 1, 255]⟩))]), .none⟩, ⟨(.some 4), (.mov (.tmp 6)), .none⟩, ⟨(.some 7), (.ext (.tmp 4) 0), .none⟩, ⟨(.some 8), (.ext (.tmp 4) 1), .none⟩, ⟨(.some 9), (.ext (.tmp 4) 2), .none⟩, ⟨(.some 1), (.alloc [(3, (.int .i64 0)), (1, (.string ⟨#[]⟩)), (1, (.bool .false))]), .none⟩, ⟨.none, (.store 5 (.tmp 1) (.tmp 7)), .none⟩, ⟨(.some 2), (.mov (.tmp 8)), .none⟩, ⟨(.some 3), (.mov (.tmp 9)), .none⟩]
def p10_3 : List PO := [⟨(.some 10), (.mov (.tmp 3)), .none⟩, ⟨(.some 11), (.cmpI .eql (.tmp 10) (.const (.int .i64 0))), .none⟩, ⟨(.some 12), (.mov (.tmp 11)), .none⟩, ⟨(.some 13), (.load .true 5 (.tmp 1)), (.some (12, .true))⟩, ⟨(.some 14), (.build [(3, (.int .i64 0)), (1, (.string ⟨#[]⟩)), (1, (.bool .false))] [(0, (1, (.const (.int .i64 1))))]), (.some (12, .true))⟩, ⟨(.some 15), (.eqA .false [(3, .int), (1, .str), (1, .bool)] (.tmp 13) (.tmp 14)), (.some (12, .true))⟩, ⟨(.some 16), (.pick (.tmp 12) (.tmp 15) (.const (.bool .false))), .none⟩, ⟨(.some 17), (.mov (.tmp 16)), .none⟩, ⟨(.some 18), (.mov (.tmp 2)), (.some (17, .true))⟩, ⟨(.some 19), (.build [(3, (.int .i64 0)), (1, (.string ⟨#[]⟩))] [(0, (1, (.const (.int .i64 1)))), (3, (1, (.const (.string ⟨#[97, 255, 98]⟩))))]), (.some (17, .true))⟩, ⟨(.some 20), (.build [(3, (.int .i64 0)), (1, (.string ⟨#[]⟩))] [(0, (1, (.const (.int .i64 3)))), (1, (1, (.const (.int .i64 251)))), (2, (1, (.const (.int .i64 1))))]), (.some (17, .true))⟩, ⟨(.some 21), (.bsl 31 4 2 [(3, (.int .i64 0)), (1, (.string ⟨#[]⟩)), (3, (.int .i64 0)), (1, (.string ⟨#[]⟩))] [(0, (4, (.tmp 19))), (4, (4, (.tmp 20)))]), (.some (17, .true))⟩, ⟨(.some 22), (.call 12 [(.tmp 18), (.tmp 21)]), (.some (17, .true))⟩, ⟨(.some 23), (.pick (.tmp 17) (.tmp 22) (.const (.bool .false))), .none⟩, ⟨(.some 24), (.mov (.tmp 23)), .none⟩, ⟨(.some 25), (.call 9 [(.const (.string ⟨#[255]⟩))]), (.some (24, .true))⟩, ⟨(.some 26), (.strO .eql (.tmp 25) (.const (.string ⟨#[255, 255]⟩))), (.some (24, .true))⟩, ⟨(.some 27), (.pick (.tmp 24) (.tmp 26) (.const (.bool .false))), .none⟩, ⟨(.some 0), (.mov (.tmp 27)), .none⟩]
def c10_b : PCode := (.seq (.reg p10_1) (.seq (.reg p10_2) (.seq (.reg p10_3) .ret)))
def c10 : FCode := ⟨28, c10_b, [(.tmp 0)], some ([0], [], []), false⟩
theorem c10_ok : compF Go.Proofs.Tryd.prog [19, 20, 24, 25, 26, 27] 10 = some (eraseF c10) := by kernel_rfl
def p3_3 : List PO := [⟨(.some 2), (.mov (.const (.bool .false))), .none⟩]
def p3_4 : List PO := [⟨(.some 7), (.build [(3, (.int .i64 0)), (1, (.string ⟨#[]⟩)), (1, (.bool .false))] []), .none⟩, ⟨(.some 8), (.mov (.tmp 0)), .none⟩, ⟨(.some 9), (.call 9 [(.tmp 8)]), .none⟩, ⟨(.some 10), (.call 8 [(.tmp 7), (.tmp 9)]), .none⟩, ⟨(.some 6), (.mov (.tmp 10)), .none⟩, ⟨(.some 11), (.ext (.tmp 6) 0), .none⟩, ⟨(.some 12), (.ext (.tmp 6) 1), .none⟩, ⟨(.some 13), (.ext (.tmp 6) 2), .none⟩, ⟨(.some 3), (.alloc [(3, (.int .i64 0)), (1, (.string ⟨#[]⟩)), (1, (.bool .false))]), .none⟩, ⟨.none, (.store 5 (.tmp 3) (.tmp 11)), .none⟩, ⟨(.some 4), (.mov (.tmp 12)), .none⟩, ⟨(.some 5), (.mov (.tmp 13)), .none⟩]
def p3_5 : List PO := [⟨(.some 14), (.call 10 []), .none⟩, ⟨(.some 15), (.un .not (.tmp 14)), .none⟩, ⟨(.some 16), (.mov (.tmp 15)), .none⟩, ⟨(.some 17), (.mov (.tmp 5)), (.some (16, .false))⟩, ⟨(.some 18), (.cmpI .neq (.tmp 17) (.const (.int .i64 0))), (.some (16, .false))⟩, ⟨(.some 19), (.pick (.tmp 16) (.const (.bool .true)) (.tmp 18)), .none⟩, ⟨(.some 20), (.mov (.tmp 19)), .none⟩, ⟨(.some 21), (.load .true 5 (.tmp 3)), (.some (20, .false))⟩, ⟨(.some 22), (.build [(3, (.int .i64 0)), (1, (.string ⟨#[]⟩)), (1, (.bool .false))] []), (.some (20, .false))⟩, ⟨(.some 23), (.eqA .true [(3, .int), (1, .str), (1, .bool)] (.tmp 21) (.tmp 22)), (.some (20, .false))⟩, ⟨(.some 24), (.pick (.tmp 20) (.const (.bool .true)) (.tmp 23)), .none⟩, ⟨(.some 25), (.mov (.tmp 24)), .none⟩, ⟨(.some 26), (.mov (.tmp 4)), (.some (25, .false))⟩, ⟨(.some 27), (.len .false (.tmp 26)), (.some (25, .false))⟩, ⟨(.some 28), (.cmpI .gtr (.tmp 27) (.const (.int .i64 1))), (.some (25, .false))⟩, ⟨(.some 29), (.pick (.tmp 25) (.const (.bool .true)) (.tmp 28)), .none⟩]
def p3_6 : List PO := [⟨(.some 2), (.mov (.const (.bool .false))), .none⟩]
def p3_7 : List PO := [⟨(.some 30), (.mov (.tmp 0)), .none⟩, ⟨(.some 31), (.strO .eql (.tmp 30) (.const (.string ⟨#[]⟩))), .none⟩]
def p3_8 : List PO := [⟨(.some 32), (.mov (.tmp 4)), .none⟩, ⟨(.some 33), (.len .false (.tmp 32)), .none⟩, ⟨(.some 34), (.cmpI .eql (.tmp 33) (.const (.int .i64 0))), .none⟩, ⟨(.some 2), (.mov (.tmp 34)), .none⟩]
def p3_9 : List PO := [⟨(.some 35), (.mov (.tmp 4)), .none⟩, ⟨(.some 36), (.len .false (.tmp 35)), .none⟩, ⟨(.some 37), (.cmpI .eql (.tmp 36) (.const (.int .i64 1))), .none⟩, ⟨(.some 38), (.mov (.tmp 37)), .none⟩, ⟨(.some 39), (.mov (.tmp 4)), (.some (38, .true))⟩, ⟨(.some 40), (.ixS 31 4 (.tmp 39) (.const (.int .i64 0))), (.some (38, .true))⟩, ⟨(.some 41), (.load .true 4 (.tmp 40)), (.some (38, .true))⟩, ⟨(.some 42), (.mov (.tmp 0)), (.some (38, .true))⟩, ⟨(.some 43), (.build [(3, (.int .i64 0)), (1, (.string ⟨#[]⟩))] [(0, (1, (.const (.int .i64 1)))), (3, (1, (.tmp 42)))]), (.some (38, .true))⟩, ⟨(.some 44), (.eqA .false [(3, .int), (1, .str)] (.tmp 41) (.tmp 43)), (.some (38, .true))⟩, ⟨(.some 45), (.pick (.tmp 38) (.tmp 44) (.const (.bool .false))), .none⟩, ⟨(.some 2), (.mov (.tmp 45)), .none⟩]
def c3_1 : PCode := (.keep [0, 4] [(88, .id 88)] [] (.seq (.reg p3_9) .ret))
def c3_2 : PCode := (.keep [0, 4] [(88, .id 88)] [] (.seq (.seq (.reg p3_7) (.cond (.tmp 31) (.seq (.reg p3_8) .ret) .skip)) c3_1))
def c3_b : PCode := (.seq (.reg p3_3) (.seq (.reg p3_4) (.seq (.seq (.reg p3_5) (.cond (.tmp 29) (.seq (.reg p3_6) .ret) .skip)) c3_2)))
def c3 : FCode := ⟨46, c3_b, [(.tmp 2)], some ([2], [], []), false⟩
theorem c3_ok : compF Go.Proofs.Tryd.prog [19, 20, 24, 25, 26, 27] 3 = some (eraseF c3) := by kernel_rfl
def p22_1 : List PO := [⟨(.some 6), (.mov (.const (.bool .false))), .none⟩]
def p22_2 : List PO := [⟨(.some 7), (.mov (.tmp 1)), .none⟩, ⟨(.some 8), (.mov (.tmp 0)), .none⟩, ⟨(.some 9), (.cmpI .leq (.tmp 7) (.tmp 8)), .none⟩, ⟨(.some 10), (.mov (.tmp 9)), .none⟩, ⟨(.some 11), (.mov (.tmp 0)), (.some (10, .true))⟩, ⟨(.some 12), (.mov (.tmp 2)), (.some (10, .true))⟩, ⟨(.some 13), (.cmpI .leq (.tmp 11) (.tmp 12)), (.some (10, .true))⟩, ⟨(.some 14), (.pick (.tmp 10) (.tmp 13) (.const (.bool .false))), .none⟩, ⟨(.some 6), (.mov (.tmp 14)), .none⟩]
def c22_b : PCode := (.seq (.reg p22_1) (.seq (.reg p22_2) .ret))
def c22 : FCode := ⟨15, c22_b, [(.tmp 6)], some ([6], [], []), false⟩
theorem c22_ok : compF Go.Proofs.Tryd.prog [19, 20, 24, 25, 26, 27] 22 = some (eraseF c22) := by kernel_rfl
def p11_1 : List PO := [⟨(.some 1), (.box 5 (.tmp 0)), .none⟩, ⟨(.some 2), (.mov (.const (.int .i64 0))), .none⟩]
def p11_2 : List PO := [⟨(.some 4), (.fld 0 (.tmp 1)), .none⟩, ⟨(.some 5), (.load .false 1 (.tmp 4)), .none⟩, ⟨(.some 6), (.call 22 [(.tmp 5), (.const (.int .i64 0)), (.const (.int .i64 5))]), .none⟩, ⟨(.some 3), (.mov (.tmp 6)), .none⟩]
def p11_3 : List PO := [⟨(.some 7), (.fld 0 (.tmp 1)), .none⟩, ⟨(.some 8), (.load .false 1 (.tmp 7)), .none⟩, ⟨(.some 9), (.cmpI .eql (.tmp 8) (.const (.int .i64 2))), .none⟩]
def p11_4 : List PO := [⟨(.some 10), (.fld 1 (.tmp 1)), .none⟩, ⟨(.some 11), (.load .false 1 (.tmp 10)), .none⟩, ⟨(.some 12), (.call 22 [(.tmp 11), (.const (.int .i64 251)), (.const (.int .i64 254))]), .none⟩, ⟨(.some 13), (.mov (.tmp 12)), .none⟩, ⟨(.some 14), (.load .true 5 (.tmp 1)), (.some (13, .true))⟩, ⟨(.some 15), (.fld 1 (.tmp 1)), (.some (13, .true))⟩, ⟨(.some 16), (.load .false 1 (.tmp 15)), (.some (13, .true))⟩, ⟨(.some 17), (.build [(3, (.int .i64 0)), (1, (.string ⟨#[]⟩)), (1, (.bool .false))] [(0, (1, (.const (.int .i64 2)))), (1, (1, (.tmp 16)))]), (.some (13, .true))⟩, ⟨(.some 18), (.eqA .false [(3, .int), (1, .str), (1, .bool)] (.tmp 14) (.tmp 17)), (.some (13, .true))⟩, ⟨(.some 19), (.pick (.tmp 13) (.tmp 18) (.const (.bool .false))), .none⟩, ⟨(.some 3), (.mov (.tmp 19)), .none⟩]
def p11_5 : List PO := [⟨(.some 20), (.fld 0 (.tmp 1)), .none⟩, ⟨(.some 21), (.load .false 1 (.tmp 20)), .none⟩, ⟨(.some 22), (.cmpI .lss (.tmp 21) (.const (.int .i64 4))), .none⟩]
def p11_6 : List PO := [⟨(.some 23), (.mov (.tmp 3)), .none⟩, ⟨(.some 24), (.mov (.tmp 23)), .none⟩, ⟨(.some 25), (.load .true 5 (.tmp 1)), (.some (24, .true))⟩, ⟨(.some 26), (.fld 0 (.tmp 1)), (.some (24, .true))⟩, ⟨(.some 27), (.load .false 1 (.tmp 26)), (.some (24, .true))⟩, ⟨(.some 28), (.build [(3, (.int .i64 0)), (1, (.string ⟨#[]⟩)), (1, (.bool .false))] [(0, (1, (.tmp 27)))]), (.some (24, .true))⟩, ⟨(.some 29), (.eqA .false [(3, .int), (1, .str), (1, .bool)] (.tmp 25) (.tmp 28)), (.some (24, .true))⟩, ⟨(.some 30), (.pick (.tmp 24) (.tmp 29) (.const (.bool .false))), .none⟩, ⟨(.some 3), (.mov (.tmp 30)), .none⟩]
def p11_7 : List PO := [⟨(.some 31), (.mov (.tmp 3)), .none⟩, ⟨(.some 32), (.mov (.tmp 31)), .none⟩, ⟨(.some 33), (.fld 1 (.tmp 1)), (.some (32, .true))⟩, ⟨(.some 34), (.load .false 1 (.tmp 33)), (.some (32, .true))⟩, ⟨(.some 35), (.cmpI .eql (.tmp 34) (.const (.int .i64 0))), (.some (32, .true))⟩, ⟨(.some 36), (.pick (.tmp 32) (.tmp 35) (.const (.bool .false))), .none⟩, ⟨(.some 37), (.mov (.tmp 36)), .none⟩, ⟨(.some 38), (.fld 2 (.tmp 1)), (.some (37, .true))⟩, ⟨(.some 39), (.load .false 1 (.tmp 38)), (.some (37, .true))⟩, ⟨(.some 40), (.call 22 [(.tmp 39), (.const (.int .i64 0)), (.const (.int .i64 255))]), (.some (37, .true))⟩, ⟨(.some 41), (.pick (.tmp 37) (.tmp 40) (.const (.bool .false))), .none⟩, ⟨(.some 42), (.mov (.tmp 41)), .none⟩, ⟨(.some 43), (.fld 3 (.tmp 1)), (.some (42, .true))⟩, ⟨(.some 44), (.load .false 1 (.tmp 43)), (.some (42, .true))⟩, ⟨(.some 45), (.len .true (.tmp 44)), (.some (42, .true))⟩, ⟨(.some 46), (.cmpI .leq (.tmp 45) (.const (.int .i64 4096))), (.some (42, .true))⟩, ⟨(.some 47), (.pick (.tmp 42) (.tmp 46) (.const (.bool .false))), .none⟩, ⟨(.some 48), (.mov (.tmp 47)), .none⟩, ⟨(.some 49), (.fld 4 (.tmp 1)), (.some (48, .true))⟩, ⟨(.some 50), (.load .false 1 (.tmp 49)), (.some (48, .true))⟩, ⟨(.some 51), (.un .not (.tmp 50)), (.some (48, .true))⟩, ⟨(.some 52), (.mov (.tmp 51)), (.some (48, .true))⟩, ⟨(.some 53), (.fld 3 (.tmp 1)), (.some (52, .false))⟩, ⟨(.some 54), (.load .false 1 (.tmp 53)), (.some (52, .false))⟩, ⟨(.some 55), (.strO .eql (.tmp 54) (.const (.string ⟨#[]⟩))), (.some (52, .false))⟩, ⟨(.some 56), (.pick (.tmp 52) (.const (.bool .true)) (.tmp 55)), (.some (48, .true))⟩, ⟨(.some 57), (.pick (.tmp 48) (.tmp 56) (.const (.bool .false))), .none⟩, ⟨(.some 3), (.mov (.tmp 57)), .none⟩]
def p11_8 : List PO := [⟨(.some 58), (.mov (.tmp 3)), .none⟩, ⟨(.some 59), (.un .not (.tmp 58)), .none⟩]
def p11_9 : List PO := [⟨(.some 2), (.mov (.const (.int .i64 4))), .none⟩]
def p11_10 : List PO := [⟨(.some 2), (.mov (.const (.int .i64 0))), .none⟩]
def c11_11 : PCode := (.seq (.seq (.reg p11_3) (.cond (.tmp 9) (.reg p11_4) (.seq (.reg p11_5) (.cond (.tmp 22) (.reg p11_6) (.reg p11_7))))) (.seq (.seq (.reg p11_8) (.cond (.tmp 59) (.seq (.reg p11_9) .ret) .skip)) (.seq (.reg p11_10) .ret)))
def c11_b : PCode := (.seq (.reg p11_1) (.seq (.reg p11_2) c11_11))
def c11 : FCode := ⟨60, c11_b, [(.tmp 2)], some ([2], [], []), false⟩
theorem c11_ok : compF Go.Proofs.Tryd.prog [19, 20, 24, 25, 26, 27] 11 = some (eraseF c11) := by kernel_rfl
def p14_8 : List PO := [⟨(.some 1), (.box 4 (.tmp 0)), .none⟩, ⟨(.some 2), (.mov (.const (.string ⟨#[]⟩))), .none⟩, ⟨(.some 3), (.mov (.const (.int .i64 0))), .none⟩]
def p14_9 : List PO := [⟨(.some 6), (.fld 0 (.tmp 1)), .none⟩, ⟨(.some 7), (.load .false 1 (.tmp 6)), .none⟩, ⟨(.some 8), (.build [(3, (.int .i64 0)), (1, (.string ⟨#[]⟩))] [(0, (1, (.tmp 7)))]), .none⟩, ⟨(.some 4), (.alloc [(3, (.int .i64 0)), (1, (.string ⟨#[]⟩))]), .none⟩, ⟨.none, (.store 4 (.tmp 4) (.tmp 8)), .none⟩]
def p14_10 : List PO := [⟨(.some 9), (.fld 2 (.tmp 1)), .none⟩, ⟨(.some 10), (.load .false 1 (.tmp 9)), .none⟩, ⟨(.some 11), (.cmpI .geq (.tmp 10) (.const (.int .i64 0))), .none⟩, ⟨(.some 12), (.mov (.tmp 11)), .none⟩, ⟨(.some 13), (.fld 2 (.tmp 1)), (.some (12, .true))⟩, ⟨(.some 14), (.load .false 1 (.tmp 13)), (.some (12, .true))⟩, ⟨(.some 15), (.cmpI .leq (.tmp 14) (.const (.int .i64 255))), (.some (12, .true))⟩, ⟨(.some 16), (.pick (.tmp 12) (.tmp 15) (.const (.bool .false))), .none⟩, ⟨(.some 5), (.mov (.tmp 16)), .none⟩]
def p14_11 : List PO := [⟨(.some 18), (.fld 0 (.tmp 1)), .none⟩, ⟨(.some 19), (.load .false 1 (.tmp 18)), .none⟩, ⟨(.some 20), (.cmpI .eql (.tmp 19) (.const (.int .i64 1))), .none⟩, ⟨(.some 21), (.mov (.tmp 20)), .none⟩, ⟨(.some 22), (.fld 1 (.tmp 1)), (.some (21, .true))⟩, ⟨(.some 23), (.load .false 1 (.tmp 22)), (.some (21, .true))⟩, ⟨(.some 24), (.cmpI .eql (.tmp 23) (.const (.int .i64 0))), (.some (21, .true))⟩, ⟨(.some 25), (.pick (.tmp 21) (.tmp 24) (.const (.bool .false))), .none⟩, ⟨(.some 26), (.mov (.tmp 25)), .none⟩, ⟨(.some 27), (.fld 2 (.tmp 1)), (.some (26, .true))⟩, ⟨(.some 28), (.load .false 1 (.tmp 27)), (.some (26, .true))⟩, ⟨(.some 29), (.cmpI .eql (.tmp 28) (.const (.int .i64 0))), (.some (26, .true))⟩, ⟨(.some 30), (.pick (.tmp 26) (.tmp 29) (.const (.bool .false))), .none⟩, ⟨(.some 17), (.mov (.tmp 30)), .none⟩]
def p14_12 : List PO := [⟨(.some 31), (.fld 3 (.tmp 1)), .none⟩, ⟨(.some 32), (.load .false 1 (.tmp 31)), .none⟩, ⟨(.some 33), (.call 9 [(.tmp 32)]), .none⟩, ⟨(.some 2), (.mov (.tmp 33)), .none⟩, ⟨(.some 3), (.mov (.const (.int .i64 0))), .none⟩]
def p14_13 : List PO := [⟨(.some 35), (.fld 0 (.tmp 1)), .none⟩, ⟨(.some 36), (.load .false 1 (.tmp 35)), .none⟩, ⟨(.some 37), (.cmpI .eql (.tmp 36) (.const (.int .i64 2))), .none⟩, ⟨(.some 38), (.mov (.tmp 37)), .none⟩, ⟨(.some 39), (.fld 1 (.tmp 1)), (.some (38, .true))⟩, ⟨(.some 40), (.load .false 1 (.tmp 39)), (.some (38, .true))⟩, ⟨(.some 41), (.cmpI .geq (.tmp 40) (.const (.int .i64 240))), (.some (38, .true))⟩, ⟨(.some 42), (.pick (.tmp 38) (.tmp 41) (.const (.bool .false))), .none⟩, ⟨(.some 43), (.mov (.tmp 42)), .none⟩, ⟨(.some 44), (.fld 1 (.tmp 1)), (.some (43, .true))⟩, ⟨(.some 45), (.load .false 1 (.tmp 44)), (.some (43, .true))⟩, ⟨(.some 46), (.cmpI .leq (.tmp 45) (.const (.int .i64 249))), (.some (43, .true))⟩, ⟨(.some 47), (.pick (.tmp 43) (.tmp 46) (.const (.bool .false))), .none⟩, ⟨(.some 34), (.mov (.tmp 47)), .none⟩]
def p14_14 : List PO := [⟨(.some 48), (.fld 1 (.tmp 1)), .none⟩, ⟨(.some 49), (.load .false 1 (.tmp 48)), .none⟩, ⟨(.some 50), (.fld 1 (.tmp 4)), .none⟩, ⟨.none, (.store 1 (.tmp 50) (.tmp 49)), .none⟩]
def p14_15 : List PO := [⟨(.some 51), (.load .true 4 (.tmp 1)), .none⟩, ⟨(.some 52), (.load .true 4 (.tmp 4)), .none⟩, ⟨(.some 53), (.eqA .false [(3, .int), (1, .str)] (.tmp 51) (.tmp 52)), .none⟩]
def p14_16 : List PO := [⟨(.some 54), (.fld 1 (.tmp 1)), .none⟩, ⟨(.some 55), (.load .false 1 (.tmp 54)), .none⟩, ⟨(.some 56), (.cvI .u8 (.tmp 55)), .none⟩, ⟨(.some 57), (.bsl 5 1 2 [(2, (.int .u8 0))] [(0, (1, (.const (.int .u8 255)))), (1, (1, (.tmp 56)))]), .none⟩, ⟨(.some 58), (.cvBS (.tmp 57)), .none⟩, ⟨(.some 2), (.mov (.tmp 58)), .none⟩, ⟨(.some 3), (.mov (.const (.int .i64 0))), .none⟩]
def p14_17 : List PO := [⟨(.some 60), (.fld 0 (.tmp 1)), .none⟩, ⟨(.some 61), (.load .false 1 (.tmp 60)), .none⟩, ⟨(.some 62), (.cmpI .eql (.tmp 61) (.const (.int .i64 3))), .none⟩, ⟨(.some 63), (.mov (.tmp 62)), .none⟩, ⟨(.some 64), (.fld 1 (.tmp 1)), (.some (63, .true))⟩, ⟨(.some 65), (.load .false 1 (.tmp 64)), (.some (63, .true))⟩, ⟨(.some 66), (.cmpI .geq (.tmp 65) (.const (.int .i64 251))), (.some (63, .true))⟩, ⟨(.some 67), (.pick (.tmp 63) (.tmp 66) (.const (.bool .false))), .none⟩, ⟨(.some 68), (.mov (.tmp 67)), .none⟩, ⟨(.some 69), (.fld 1 (.tmp 1)), (.some (68, .true))⟩, ⟨(.some 70), (.load .false 1 (.tmp 69)), (.some (68, .true))⟩, ⟨(.some 71), (.cmpI .leq (.tmp 70) (.const (.int .i64 254))), (.some (68, .true))⟩, ⟨(.some 72), (.pick (.tmp 68) (.tmp 71) (.const (.bool .false))), .none⟩, ⟨(.some 73), (.mov (.tmp 72)), .none⟩, ⟨(.some 74), (.mov (.tmp 5)), (.some (73, .true))⟩, ⟨(.some 75), (.pick (.tmp 73) (.tmp 74) (.const (.bool .false))), .none⟩, ⟨(.some 76), (.mov (.tmp 75)), .none⟩, ⟨(.some 77), (.fld 3 (.tmp 1)), (.some (76, .true))⟩, ⟨(.some 78), (.load .false 1 (.tmp 77)), (.some (76, .true))⟩, ⟨(.some 79), (.strO .eql (.tmp 78) (.const (.string ⟨#[]⟩))), (.some (76, .true))⟩, ⟨(.some 80), (.pick (.tmp 76) (.tmp 79) (.const (.bool .false))), .none⟩, ⟨(.some 59), (.mov (.tmp 80)), .none⟩]
def p14_18 : List PO := [⟨(.some 81), (.fld 1 (.tmp 1)), .none⟩, ⟨(.some 82), (.load .false 1 (.tmp 81)), .none⟩, ⟨(.some 83), (.cvI .u8 (.tmp 82)), .none⟩, ⟨(.some 84), (.fld 2 (.tmp 1)), .none⟩, ⟨(.some 85), (.load .false 1 (.tmp 84)), .none⟩, ⟨(.some 86), (.cvI .u8 (.tmp 85)), .none⟩, ⟨(.some 87), (.bsl 5 1 3 [(3, (.int .u8 0))] [(0, (1, (.const (.int .u8 255)))), (1, (1, (.tmp 83))), (2, (1, (.tmp 86)))]), .none⟩, ⟨(.some 88), (.cvBS (.tmp 87)), .none⟩, ⟨(.some 2), (.mov (.tmp 88)), .none⟩, ⟨(.some 3), (.mov (.const (.int .i64 0))), .none⟩]
def p14_19 : List PO := [⟨(.some 90), (.fld 0 (.tmp 1)), .none⟩, ⟨(.some 91), (.load .false 1 (.tmp 90)), .none⟩, ⟨(.some 92), (.cmpI .eql (.tmp 91) (.const (.int .i64 4))), .none⟩, ⟨(.some 93), (.mov (.tmp 92)), .none⟩, ⟨(.some 94), (.fld 1 (.tmp 1)), (.some (93, .true))⟩, ⟨(.some 95), (.load .false 1 (.tmp 94)), (.some (93, .true))⟩, ⟨(.some 96), (.cmpI .eql (.tmp 95) (.const (.int .i64 0))), (.some (93, .true))⟩, ⟨(.some 97), (.pick (.tmp 93) (.tmp 96) (.const (.bool .false))), .none⟩, ⟨(.some 98), (.mov (.tmp 97)), .none⟩, ⟨(.some 99), (.mov (.tmp 5)), (.some (98, .true))⟩, ⟨(.some 100), (.pick (.tmp 98) (.tmp 99) (.const (.bool .false))), .none⟩, ⟨(.some 89), (.mov (.tmp 100)), .none⟩]
def p14_20 : List PO := [⟨(.some 101), (.fld 3 (.tmp 1)), .none⟩, ⟨(.some 102), (.load .false 1 (.tmp 101)), .none⟩, ⟨(.some 103), (.len .true (.tmp 102)), .none⟩, ⟨(.some 104), (.cmpI .gtr (.tmp 103) (.const (.int .i64 4096))), .none⟩]
def p14_21 : List PO := [⟨(.some 2), (.mov (.const (.string ⟨#[]⟩))), .none⟩, ⟨(.some 3), (.mov (.const (.int .i64 2))), .none⟩]
def p14_22 : List PO := [⟨(.some 105), (.fld 2 (.tmp 1)), .none⟩, ⟨(.some 106), (.load .false 1 (.tmp 105)), .none⟩, ⟨(.some 107), (.cvI .u8 (.tmp 106)), .none⟩, ⟨(.some 108), (.bsl 5 1 3 [(3, (.int .u8 0))] [(0, (1, (.const (.int .u8 255)))), (1, (1, (.const (.int .u8 250)))), (2, (1, (.tmp 107)))]), .none⟩, ⟨(.some 109), (.cvBS (.tmp 108)), .none⟩, ⟨(.some 110), (.fld 3 (.tmp 1)), .none⟩, ⟨(.some 111), (.load .false 1 (.tmp 110)), .none⟩, ⟨(.some 112), (.call 9 [(.tmp 111)]), .none⟩, ⟨(.some 113), (.strO .add (.tmp 109) (.tmp 112)), .none⟩, ⟨(.some 114), (.strO .add (.tmp 113) (.const (.string ⟨#[255, 240]⟩))), .none⟩, ⟨(.some 2), (.mov (.tmp 114)), .none⟩, ⟨(.some 3), (.mov (.const (.int .i64 0))), .none⟩]
def c14_1 : PCode := (.keep [1] [(16, .id 16)] [] (.seq (.regD p14_22 [(3, 6), (1, 7), (3, 7), (4, 7)]) .ret))
def c14_3 : PCode := (.keep [1, 89] [(16, .id 16)] [] (.cond (.tmp 89) (.seq (.seq (.reg p14_20) (.cond (.tmp 104) (.seq (.reg p14_21) .ret) .skip)) c14_1) .skip))
def c14_4 : PCode := (.keep [1, 5] [(16, .id 16)] [] (.seq (.reg p14_19) c14_3))
def c14_5 : PCode := (.keep [1, 5] [(16, .id 16)] [] (.seq (.reg p14_17) (.cond (.tmp 59) (.seq (.reg p14_18) .ret) c14_4)))
def c14_6 : PCode := (.keep [1, 4, 5] [(16, .id 16), (40, .id 40)] [] (.seq (.reg p14_13) (.cond (.tmp 34) (.seq (.reg p14_14) (.seq (.reg p14_15) (.cond (.tmp 53) (.seq (.reg p14_16) .ret) .skip))) c14_5)))
def p14_23 : List PO := [⟨(.some 2), (.mov (.const (.string ⟨#[]⟩))), .none⟩, ⟨(.some 3), (.mov (.const (.int .i64 1))), .none⟩]
def c14_2 : PCode := (.seq (.reg p14_23) .ret)
def c14_7 : PCode := (.keep [1, 4, 5] [(16, .id 16), (40, .id 40)] [] (.seq (.block 0 (.seq (.reg p14_11) (.cond (.tmp 17) (.seq (.reg p14_12) .ret) c14_6))) c14_2))
def c14_b : PCode := (.seq (.reg p14_8) (.seq (.reg p14_9) (.seq (.reg p14_10) c14_7)))
def c14 : FCode := ⟨115, c14_b, [(.tmp 2), (.tmp 3)], some ([2, 3], [], []), false⟩
theorem c14_ok : compF Go.Proofs.Tryd.prog [19, 20, 24, 25, 26, 27] 14 = some (eraseF c14) := by kernel_rfl
def p5_4 : List PO := [⟨(.some 3), (.box 5 (.tmp 0)), .none⟩, ⟨(.some 5), (.box 4 (.tmp 2)), .none⟩, ⟨(.some 6), (.mov (.const (.bool .false))), .none⟩]
def p5_5 : List PO := [⟨(.some 13), (.load .true 4 (.tmp 5)), .none⟩, ⟨(.some 14), (.call 14 [(.tmp 13)]), .none⟩, ⟨(.some 12), (.mov (.tmp 14)), .none⟩, ⟨(.some 15), (.ext (.tmp 12) 0), .none⟩, ⟨(.some 16), (.ext (.tmp 12) 1), .none⟩, ⟨(.some 7), (.mov (.tmp 15)), .none⟩, ⟨(.some 8), (.mov (.tmp 16)), .none⟩]
def p5_6 : List PO := [⟨(.some 17), (.call 10 []), .none⟩, ⟨(.some 18), (.un .not (.tmp 17)), .none⟩, ⟨(.some 19), (.mov (.tmp 18)), .none⟩, ⟨(.some 20), (.mov (.tmp 8)), (.some (19, .false))⟩, ⟨(.some 21), (.cmpI .neq (.tmp 20) (.const (.int .i64 0))), (.some (19, .false))⟩, ⟨(.some 22), (.pick (.tmp 19) (.const (.bool .true)) (.tmp 21)), .none⟩, ⟨(.some 23), (.mov (.tmp 22)), .none⟩, ⟨(.some 24), (.load .true 5 (.tmp 3)), (.some (23, .false))⟩, ⟨(.some 25), (.call 15 [(.tmp 24)]), (.some (23, .false))⟩, ⟨(.some 26), (.cmpI .neq (.tmp 25) (.const (.int .i64 0))), (.some (23, .false))⟩, ⟨(.some 27), (.pick (.tmp 23) (.const (.bool .true)) (.tmp 26)), .none⟩]
def p5_7 : List PO := [⟨(.some 28), (.call 10 []), .none⟩, ⟨(.some 6), (.mov (.tmp 28)), .none⟩]
def p5_8 : List PO := [⟨(.some 30), (.load .true 5 (.tmp 3)), .none⟩, ⟨(.some 31), (.mov (.tmp 1)), .none⟩, ⟨(.some 32), (.strO .add (.tmp 31) (.const (.string ⟨#[255, 240, 255, 240, 255, 241]⟩))), .none⟩, ⟨(.some 33), (.mov (.tmp 7)), .none⟩, ⟨(.some 34), (.strO .add (.tmp 32) (.tmp 33)), .none⟩, ⟨(.some 35), (.call 8 [(.tmp 30), (.tmp 34)]), .none⟩, ⟨(.some 29), (.mov (.tmp 35)), .none⟩, ⟨(.some 36), (.ext (.tmp 29) 0), .none⟩, ⟨(.some 37), (.ext (.tmp 29) 1), .none⟩, ⟨(.some 38), (.ext (.tmp 29) 2), .none⟩, ⟨(.some 9), (.alloc [(3, (.int .i64 0)), (1, (.string ⟨#[]⟩)), (1, (.bool .false))]), .none⟩, ⟨.none, (.store 5 (.tmp 9) (.tmp 36)), .none⟩, ⟨(.some 10), (.mov (.tmp 37)), .none⟩, ⟨(.some 8), (.mov (.tmp 38)), .none⟩]
def p5_9 : List PO := [⟨(.some 39), (.mov (.tmp 8)), .none⟩, ⟨(.some 40), (.cmpI .neq (.tmp 39) (.const (.int .i64 0))), .none⟩, ⟨(.some 41), (.mov (.tmp 40)), .none⟩, ⟨(.some 42), (.load .true 5 (.tmp 9)), (.some (41, .false))⟩, ⟨(.some 43), (.build [(3, (.int .i64 0)), (1, (.string ⟨#[]⟩)), (1, (.bool .false))] []), (.some (41, .false))⟩, ⟨(.some 44), (.eqA .true [(3, .int), (1, .str), (1, .bool)] (.tmp 42) (.tmp 43)), (.some (41, .false))⟩, ⟨(.some 45), (.pick (.tmp 41) (.const (.bool .true)) (.tmp 44)), .none⟩]
def p5_10 : List PO := [⟨(.some 6), (.mov (.const (.bool .false))), .none⟩]
def p5_11 : List PO := [⟨(.some 46), (.mov (.tmp 10)), .none⟩, ⟨(.some 47), (.len .false (.tmp 46)), .none⟩, ⟨(.some 11), (.mov (.tmp 47)), .none⟩]
def p5_12 : List PO := [⟨(.some 48), (.mov (.tmp 7)), .none⟩, ⟨(.some 49), (.strO .eql (.tmp 48) (.const (.string ⟨#[]⟩))), .none⟩]
def p5_13 : List PO := [⟨(.some 6), (.mov (.const (.bool .true))), .none⟩]
def p5_14 : List PO := [⟨(.some 50), (.mov (.tmp 11)), .none⟩, ⟨(.some 51), (.cmpI .gtr (.tmp 50) (.const (.int .i64 0))), .none⟩, ⟨(.some 52), (.mov (.tmp 51)), .none⟩, ⟨(.some 53), (.mov (.tmp 10)), (.some (52, .true))⟩, ⟨(.some 54), (.mov (.tmp 11)), (.some (52, .true))⟩, ⟨(.some 55), (.arI .sub (.tmp 54) (.const (.int .i64 1))), (.some (52, .true))⟩, ⟨(.some 56), (.ixS 31 4 (.tmp 53) (.tmp 55)), (.some (52, .true))⟩, ⟨(.some 57), (.load .true 4 (.tmp 56)), (.some (52, .true))⟩, ⟨(.some 58), (.load .true 4 (.tmp 5)), (.some (52, .true))⟩, ⟨(.some 59), (.eqA .false [(3, .int), (1, .str)] (.tmp 57) (.tmp 58)), (.some (52, .true))⟩, ⟨(.some 60), (.pick (.tmp 52) (.tmp 59) (.const (.bool .false))), .none⟩, ⟨(.some 6), (.mov (.tmp 60)), .none⟩]
def c5_1 : PCode := (.keep [5, 10, 11] [(48, .id 48), (288, .id 288)] [] (.seq (.regD p5_14 []) .ret))
def c5_2 : PCode := (.keep [5, 7, 10] [(48, .id 48), (288, .id 288)] [] (.seq (.reg p5_11) (.seq (.seq (.reg p5_12) (.cond (.tmp 49) (.seq (.reg p5_13) .ret) .skip)) c5_1)))
def c5_3 : PCode := (.keep [1, 3, 5, 7] [(32, .id 32), (48, .id 48)] [] (.seq (.reg p5_8) (.seq (.seq (.reg p5_9) (.cond (.tmp 45) (.seq (.reg p5_10) .ret) .skip)) c5_2)))
def c5_b : PCode := (.seq (.reg p5_4) (.seq (.reg p5_5) (.seq (.seq (.reg p5_6) (.cond (.tmp 27) (.seq (.reg p5_7) .ret) .skip)) c5_3)))
def c5 : FCode := ⟨61, c5_b, [(.tmp 6)], some ([6], [], []), false⟩
theorem c5_ok : compF Go.Proofs.Tryd.prog [19, 20, 24, 25, 26, 27] 5 = some (eraseF c5) := by kernel_rfl
def p16_1 : List PO := [⟨(.some 2), (.nilS 31 4), .none⟩]
def p16_2 : List PO := [⟨(.some 3), (.mov (.tmp 0)), .none⟩, ⟨(.some 4), (.isN .false (.tmp 3)), .none⟩]
def p16_3 : List PO := [⟨(.some 2), (.nilS 31 4), .none⟩]
def p16_4 : List PO := [⟨(.some 5), (.bsl 31 4 0 [] []), .none⟩, ⟨(.some 6), (.mov (.tmp 0)), .none⟩, ⟨(.some 7), (.app 31 4 40 (.tmp 5) (.tmp 6)), .none⟩, ⟨(.some 2), (.mov (.tmp 7)), .none⟩]
def c16_b : PCode := (.seq (.reg p16_1) (.seq (.seq (.reg p16_2) (.cond (.tmp 4) (.seq (.reg p16_3) .ret) .skip)) (.seq (.reg p16_4) .ret)))
def c16 : FCode := ⟨8, c16_b, [(.tmp 2)], some ([2], [(97, (.slot 2 none))], []), true⟩
theorem c16_ok : compF Go.Proofs.Tryd.prog [19, 20, 24, 25, 26, 27] 16 = some (eraseF c16) := by kernel_rfl
def codes : Nat → Option FCode
  | 3 => some c3
  | 5 => some c5
  | 8 => some c8
  | 9 => some c9
  | 10 => some c10
  | 11 => some c11
  | 12 => some c12
  | 14 => some c14
  | 15 => some c15
  | 16 => some c16
  | 19 => some c19
  | 20 => some c20
  | 22 => some c22
  | 24 => some c24
  | 25 => some c25
  | 26 => some c26
  | 27 => some c27
  | _ => none
theorem codes_ok : ∀ f fc, codes f = some fc → compF Go.Proofs.Tryd.prog [19, 20, 24, 25, 26, 27] f = some (eraseF fc) := by
  intro f fc h
  unfold codes at h
  split at h
  · cases h; exact c3_ok
  · cases h; exact c5_ok
  · cases h; exact c8_ok
  · cases h; exact c9_ok
  · cases h; exact c10_ok
  · cases h; exact c11_ok
  · cases h; exact c12_ok
  · cases h; exact c14_ok
  · cases h; exact c15_ok
  · cases h; exact c16_ok
  · cases h; exact c19_ok
  · cases h; exact c20_ok
  · cases h; exact c22_ok
  · cases h; exact c24_ok
  · cases h; exact c25_ok
  · cases h; exact c26_ok
  · cases h; exact c27_ok
  · cases h
theorem codes3 : codes 3 = some c3 := rfl
theorem codes5 : codes 5 = some c5 := rfl
theorem codes8 : codes 8 = some c8 := rfl
theorem codes9 : codes 9 = some c9 := rfl
theorem codes10 : codes 10 = some c10 := rfl
theorem codes11 : codes 11 = some c11 := rfl
theorem codes12 : codes 12 = some c12 := rfl
theorem codes14 : codes 14 = some c14 := rfl
theorem codes15 : codes 15 = some c15 := rfl
theorem codes16 : codes 16 = some c16 := rfl
theorem codes19 : codes 19 = some c19 := rfl
theorem codes20 : codes 20 = some c20 := rfl
theorem codes22 : codes 22 = some c22 := rfl
theorem codes24 : codes 24 = some c24 := rfl
theorem codes25 : codes 25 = some c25 := rfl
theorem codes26 : codes 26 = some c26 := rfl
theorem codes27 : codes 27 = some c27 := rfl
noncomputable def libs : List (Nat × (List PV → Option PD)) := [(21, osssS libReplaceAll)]
noncomputable abbrev baseL : Orc := libO libs
end Go.Proofs.YtjndlncimgoacaaDoor.Pm
