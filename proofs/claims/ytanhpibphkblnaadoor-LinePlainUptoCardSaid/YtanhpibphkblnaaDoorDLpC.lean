/- The small machine's codes of some functions. Printed by dec.py. -/
import Derived.Test.YtanhpibphkblnaaDoorLib1
import Derived.Test.YtanhpibphkblnaaDoorProg
namespace Go.Proofs.YtanhpibphkblnaaDoor.Pm
set_option maxRecDepth 1000000
set_option maxHeartbeats 20000000
set_option linter.unusedVariables false
structure GKeys where
  Levels : Nat → UInt8
  Chars : Nat → UInt8
structure GMask where
  Bits : Nat → Int
structure GEditor where
  Buf : List UInt8
  Quote : Bool
def e_RGMask : Enc GMask := ⟨4, fun x => ((eInt .u64).rowD 4 x.Bits ++ []), fun x => by simp only [List.length_append, List.length_cons, List.length_nil, Enc.rowD_len]; rfl⟩
def e_RGKeys : Enc GKeys := ⟨38, fun x => (eU8.rowD 19 x.Levels ++ (eU8.rowD 19 x.Chars ++ [])), fun x => by simp only [List.length_append, List.length_cons, List.length_nil, Enc.rowD_len]; rfl⟩
def p34_1 : List PO := [⟨(.some 1), (.box 2 (.tmp 0)), .none⟩, ⟨(.some 2), (.mov (.const (.int .i64 0))), .none⟩]
def p34_2 : List PO := [⟨(.some 3), (.fld 0 (.tmp 1)), .none⟩, ⟨(.some 4), (.load .false 1 (.tmp 3)), .none⟩, ⟨(.some 5), (.len .true (.tmp 4)), .none⟩, ⟨(.some 6), (.cmpI .geq (.tmp 5) (.const (.int .i64 1024))), .none⟩]
def p34_3 : List PO := [⟨(.some 2), (.mov (.const (.int .i64 2))), .none⟩]
def p34_4 : List PO := [⟨(.some 2), (.mov (.const (.int .i64 0))), .none⟩]
def c34_b : PCode := (.seq (.reg p34_1) (.seq (.seq (.reg p34_2) (.cond (.tmp 6) (.seq (.reg p34_3) .ret) .skip)) (.seq (.reg p34_4) .ret)))
def c34 : FCode := ⟨7, c34_b, [(.tmp 2)], some ([2], [], []), false⟩
theorem c34_ok : compF Go.Proofs.Tryd.prog [54, 67, 68, 200069, 69, 71, 91, 96] 34 = some (eraseF c34) := by kernel_rfl
def p53_5 : List PO := [⟨(.some 1), (.box 38 (.tmp 0)), .none⟩, ⟨(.some 2), (.mov (.const (.int .i64 0))), .none⟩]
def p53_6 : List PO := [⟨(.some 5), (.fld 0 (.tmp 1)), .none⟩, ⟨(.some 6), (.load .true 19 (.tmp 5)), .none⟩, ⟨(.some 7), (.mov (.const (.int .i64 0))), .none⟩]
def p53_7 : List PO := [⟨(.some 8), (.cmpI .lss (.tmp 7) (.const (.int .i64 19))), .none⟩]
def p53_8 : List PO := [⟨(.some 9), (.ixV .false 19 1 (.tmp 6) (.tmp 7)), .none⟩, ⟨(.some 4), (.mov (.tmp 9)), .none⟩]
def p53_9 : List PO := [⟨(.some 10), (.mov (.tmp 4)), .none⟩, ⟨(.some 11), (.cmpI .gtr (.tmp 10) (.const (.int .u8 2))), .none⟩]
def p53_10 : List PO := [⟨(.some 2), (.mov (.const (.int .i64 4))), .none⟩]
def p53_11 : List PO := [⟨(.some 12), (.arI .add (.tmp 7) (.const (.int .i64 1))), .none⟩, ⟨(.some 7), (.mov (.tmp 12)), .none⟩]
def c53_2 : PCode := (.keep [1, 6, 7] [(16, .id 16)] [] (.seq (.block 1 (.seq (.reg p53_8) (.seq (.reg p53_9) (.cond (.tmp 11) (.seq (.reg p53_10) .ret) .skip)))) (.reg p53_11)))
def c53_3 : PCode := (.keep [1, 6, 7, 8] [(16, .id 16)] [] (.seq (.cond (.tmp 8) .skip (.keep [1] [(16, .id 16)] [] (.exit 0))) c53_2))
def c53_4 : PCode := (.keep [1, 6, 7] [(16, .id 16)] [] (.seq (.reg p53_7) c53_3))
def p53_12 : List PO := [⟨(.some 13), (.fld 0 (.tmp 1)), .none⟩, ⟨(.some 14), (.ixA 19 1 (.tmp 13) (.const (.int .i64 0))), .none⟩, ⟨(.some 15), (.load .false 1 (.tmp 14)), .none⟩, ⟨(.some 16), (.cmpI .neq (.tmp 15) (.const (.int .u8 0))), .none⟩, ⟨(.some 17), (.mov (.tmp 16)), .none⟩, ⟨(.some 18), (.fld 19 (.tmp 1)), (.some (17, .false))⟩, ⟨(.some 19), (.ixA 19 1 (.tmp 18) (.const (.int .i64 0))), (.some (17, .false))⟩, ⟨(.some 20), (.load .false 1 (.tmp 19)), (.some (17, .false))⟩, ⟨(.some 21), (.cmpI .neq (.tmp 20) (.const (.int .u8 0))), (.some (17, .false))⟩, ⟨(.some 22), (.pick (.tmp 17) (.const (.bool .true)) (.tmp 21)), .none⟩]
def p53_13 : List PO := [⟨(.some 2), (.mov (.const (.int .i64 4))), .none⟩]
def p53_14 : List PO := [⟨(.some 2), (.mov (.const (.int .i64 0))), .none⟩]
def c53_1 : PCode := (.keep [1] [(16, .id 16)] [] (.seq (.seq (.reg p53_12) (.cond (.tmp 22) (.seq (.reg p53_13) .ret) .skip)) (.seq (.reg p53_14) .ret)))
def c53_b : PCode := (.seq (.reg p53_5) (.seq (.seq (.reg p53_6) (.block 0 (.loop c53_4))) c53_1))
def c53 : FCode := ⟨23, c53_b, [(.tmp 2)], some ([2], [], []), false⟩
theorem c53_ok : compF Go.Proofs.Tryd.prog [54, 67, 68, 200069, 69, 71, 91, 96] 53 = some (eraseF c53) := by kernel_rfl
def p71_1 : List PO := [⟨(.some 2), (.mov (.tmp 0)), .none⟩, ⟨(.some 3), (.mov (.tmp 0)), .none⟩, ⟨(.some 4), (.nilC (.tmp 3)), .none⟩, ⟨(.some 5), (.fld 44 (.tmp 4)), .none⟩, ⟨(.some 6), (.load .false 1 (.tmp 5)), .none⟩, ⟨(.some 7), (.mov (.tmp 0)), .none⟩, ⟨(.some 8), (.nilC (.tmp 7)), .none⟩, ⟨(.some 9), (.fld 0 (.tmp 8)), .none⟩, ⟨(.some 10), (.load .false 1 (.tmp 9)), .none⟩, ⟨(.some 11), (.cvBS (.tmp 10)), .none⟩, ⟨(.some 12), (.bsl 9 1 1 [(1, (.string ⟨#[]⟩))] [(0, (1, (.tmp 11)))]), .none⟩, ⟨(.some 13), (.app 9 1 16 (.tmp 6) (.tmp 12)), .none⟩, ⟨(.some 14), (.nilC (.tmp 2)), .none⟩, ⟨(.some 15), (.fld 44 (.tmp 14)), .none⟩, ⟨.none, (.store 1 (.tmp 15) (.tmp 13)), .none⟩]
def p71_2 : List PO := [⟨(.some 16), (.mov (.tmp 0)), .none⟩, ⟨(.some 17), (.nilC (.tmp 16)), .none⟩, ⟨(.some 18), (.fld 0 (.tmp 17)), .none⟩, ⟨.none, (.store 1 (.tmp 18) (.const (.slice .none 0 0))), .none⟩]
def c71_b : PCode := (.seq (.regD p71_1 [(4, 10)]) (.reg p71_2))
def c71 : FCode := ⟨19, c71_b, [], some ([], [(0, .id 0), (2, .id 2), (3, .id 3), (1, .id 1)], []), false⟩
theorem c71_ok : compF Go.Proofs.Tryd.prog [54, 67, 68, 200069, 69, 71, 91, 96] 71 = some (eraseF c71) := by kernel_rfl
def p67_1 : List PO := [⟨(.some 4), (.mov (.const (.bool .false))), .none⟩]
def p67_2 : List PO := [⟨(.some 5), (.mov (.tmp 0)), .none⟩, ⟨(.some 6), (.mov (.tmp 0)), .none⟩, ⟨(.some 7), (.mov (.tmp 0)), .none⟩, ⟨(.some 8), (.nilC (.tmp 7)), .none⟩, ⟨(.some 9), (.fld 0 (.tmp 8)), .none⟩, ⟨(.some 10), (.load .false 1 (.tmp 9)), .none⟩, ⟨(.some 11), (.mov (.tmp 1)), .none⟩, ⟨(.some 12), (.bsl 5 1 1 [(1, (.int .u8 0))] [(0, (1, (.tmp 11)))]), .none⟩, ⟨(.some 13), (.app 5 1 1 (.tmp 10) (.tmp 12)), .none⟩, ⟨(.some 14), (.mov (.tmp 0)), .none⟩, ⟨(.some 15), (.nilC (.tmp 14)), .none⟩, ⟨(.some 16), (.fld 45 (.tmp 15)), .none⟩, ⟨(.some 17), (.load .false 1 (.tmp 16)), .none⟩, ⟨(.some 18), (.mov (.tmp 1)), .none⟩, ⟨(.some 19), (.bsl 5 1 1 [(1, (.int .u8 0))] [(0, (1, (.tmp 18)))]), .none⟩, ⟨(.some 20), (.app 5 1 1 (.tmp 17) (.tmp 19)), .none⟩, ⟨(.some 21), (.nilC (.tmp 5)), .none⟩, ⟨(.some 22), (.fld 0 (.tmp 21)), .none⟩, ⟨.none, (.store 1 (.tmp 22) (.tmp 13)), .none⟩, ⟨(.some 23), (.nilC (.tmp 6)), .none⟩, ⟨(.some 24), (.fld 45 (.tmp 23)), .none⟩, ⟨.none, (.store 1 (.tmp 24) (.tmp 20)), .none⟩]
def p67_3 : List PO := [⟨(.some 25), (.mov (.tmp 0)), .none⟩, ⟨(.some 26), (.nilC (.tmp 25)), .none⟩, ⟨(.some 27), (.fld 0 (.tmp 26)), .none⟩, ⟨(.some 28), (.load .false 1 (.tmp 27)), .none⟩, ⟨(.some 29), (.len .false (.tmp 28)), .none⟩, ⟨(.some 30), (.cmpI .lss (.tmp 29) (.const (.int .i64 1024))), .none⟩]
def p67_4 : List PO := [⟨(.some 4), (.mov (.const (.bool .false))), .none⟩]
def p67_5 : List PO := [⟨(.some 31), (.mov (.tmp 0)), .none⟩, ⟨(.some 32), (.callr 71 [(.tmp 31)]), .none⟩]
def p67_6 : List PO := [⟨(.some 4), (.mov (.const (.bool .true))), .none⟩]
def c67_7 : PCode := (.seq (.regD p67_2 [(5, 7), (7, 12), (8, 12), (5, 14), (7, 14), (8, 14), (12, 14)]) (.seq (.seq (.reg p67_3) (.cond (.tmp 30) (.seq (.reg p67_4) .ret) .skip)) (.seq (.reg p67_5) (.seq (.reg p67_6) .ret))))
def c67_b : PCode := (.seq (.reg p67_1) c67_7)
def c67 : FCode := ⟨33, c67_b, [(.tmp 4)], some ([4], [(0, .id 0), (1, .id 1), (2, .id 2), (3, .id 3)], [.cell 0 0 1 5 1]), false⟩
theorem c67_ok : compF Go.Proofs.Tryd.prog [54, 67, 68, 200069, 69, 71, 91, 96] 67 = some (eraseF c67) := by kernel_rfl
def p68_1 : List PO := [⟨(.some 6), (.mov (.const (.bool .false))), .none⟩]
def p68_2 : List PO := [⟨(.some 7), (.mov (.tmp 0)), .none⟩, ⟨(.some 8), (.mov (.tmp 2)), .none⟩, ⟨(.some 9), (.nilC (.tmp 7)), .none⟩, ⟨(.some 10), (.fld 2 (.tmp 9)), .none⟩, ⟨(.some 11), (.fld 0 (.tmp 10)), .none⟩, ⟨(.some 12), (.ixA 19 1 (.tmp 11) (.tmp 8)), .none⟩, ⟨(.some 13), (.load .false 1 (.tmp 12)), .none⟩, ⟨(.some 14), (.cmpI .neq (.tmp 13) (.const (.int .u8 0))), .none⟩, ⟨(.some 15), (.mov (.tmp 14)), .none⟩, ⟨(.some 16), (.mov (.tmp 0)), (.some (15, .true))⟩, ⟨(.some 17), (.mov (.tmp 2)), (.some (15, .true))⟩, ⟨(.some 18), (.nilC (.tmp 16)), (.some (15, .true))⟩, ⟨(.some 19), (.fld 2 (.tmp 18)), (.some (15, .true))⟩, ⟨(.some 20), (.fld 19 (.tmp 19)), (.some (15, .true))⟩, ⟨(.some 21), (.ixA 19 1 (.tmp 20) (.tmp 17)), (.some (15, .true))⟩, ⟨(.some 22), (.load .false 1 (.tmp 21)), (.some (15, .true))⟩, ⟨(.some 23), (.mov (.tmp 1)), (.some (15, .true))⟩, ⟨(.some 24), (.cmpI .eql (.tmp 22) (.tmp 23)), (.some (15, .true))⟩, ⟨(.some 25), (.pick (.tmp 15) (.tmp 24) (.const (.bool .false))), .none⟩, ⟨(.some 6), (.mov (.tmp 25)), .none⟩]
def c68_b : PCode := (.seq (.reg p68_1) (.seq (.reg p68_2) .ret))
def c68 : FCode := ⟨26, c68_b, [(.tmp 6)], some ([6], [(0, .id 0), (1, .id 1), (2, .id 2), (3, .id 3)], []), false⟩
theorem c68_ok : compF Go.Proofs.Tryd.prog [54, 67, 68, 200069, 69, 71, 91, 96] 68 = some (eraseF c68) := by kernel_rfl
def p69_1 : List PO := [⟨(.some 4), (.mov (.tmp 0)), .none⟩, ⟨(.some 5), (.mov (.tmp 0)), .none⟩, ⟨(.some 6), (.nilC (.tmp 5)), .none⟩, ⟨(.some 7), (.fld 0 (.tmp 6)), .none⟩, ⟨(.some 8), (.load .false 1 (.tmp 7)), .none⟩, ⟨(.some 9), (.mov (.tmp 0)), .none⟩, ⟨(.some 10), (.nilC (.tmp 9)), .none⟩, ⟨(.some 11), (.fld 0 (.tmp 10)), .none⟩, ⟨(.some 12), (.load .false 1 (.tmp 11)), .none⟩, ⟨(.some 13), (.len .false (.tmp 12)), .none⟩, ⟨(.some 14), (.mov (.tmp 1)), .none⟩, ⟨(.some 15), (.arI .sub (.tmp 13) (.tmp 14)), .none⟩, ⟨(.some 16), (.slC 5 1 (.tmp 8) .none (.some (.tmp 15))), .none⟩, ⟨(.some 17), (.nilC (.tmp 4)), .none⟩, ⟨(.some 18), (.fld 0 (.tmp 17)), .none⟩, ⟨.none, (.store 1 (.tmp 18) (.tmp 16)), .none⟩]
def p69_2 : List PO := [⟨(.some 19), (.mov (.tmp 0)), .none⟩, ⟨(.some 20), (.mov (.tmp 0)), .none⟩, ⟨(.some 21), (.nilC (.tmp 20)), .none⟩, ⟨(.some 22), (.fld 45 (.tmp 21)), .none⟩, ⟨(.some 23), (.load .false 1 (.tmp 22)), .none⟩, ⟨(.some 24), (.mov (.tmp 1)), .none⟩, ⟨(.some 25), (.call 20 [(.const (.string ⟨#[8, 32, 8]⟩)), (.tmp 24)]), .none⟩, ⟨(.some 26), (.app 5 1 1 (.tmp 23) (.tmp 25)), .none⟩, ⟨(.some 27), (.nilC (.tmp 19)), .none⟩, ⟨(.some 28), (.fld 45 (.tmp 27)), .none⟩, ⟨.none, (.store 1 (.tmp 28) (.tmp 26)), .none⟩]
def c69_b : PCode := (.seq (.regD p69_1 []) (.regD p69_2 [(4, 6)]))
def c69 : FCode := ⟨29, c69_b, [], some ([], [(0, .id 0), (1, .id 1), (2, .id 2), (3, .id 3)], []), false⟩
theorem c69_ok : compF Go.Proofs.Tryd.prog [54, 67, 68, 200069, 69, 71, 91, 96] 69 = some (eraseF c69) := by kernel_rfl
def p15_1 : List PO := [⟨(.some 2), (.box 4 (.tmp 0)), .none⟩, ⟨(.some 4), (.mov (.const (.bool .false))), .none⟩]
def p15_2 : List PO := [⟨(.some 5), (.mov (.tmp 1)), .none⟩, ⟨(.some 6), (.arI .quo (.tmp 5) (.const (.int .u8 64))), .none⟩, ⟨(.some 7), (.fld 0 (.tmp 2)), .none⟩, ⟨(.some 8), (.ixA 4 1 (.tmp 7) (.tmp 6)), .none⟩, ⟨(.some 9), (.load .false 1 (.tmp 8)), .none⟩, ⟨(.some 10), (.mov (.tmp 1)), .none⟩, ⟨(.some 11), (.arI .rem (.tmp 10) (.const (.int .u8 64))), .none⟩, ⟨(.some 12), (.sh .shr (.tmp 9) (.tmp 11)), .none⟩, ⟨(.some 13), (.arI .and (.tmp 12) (.const (.int .u64 1))), .none⟩, ⟨(.some 14), (.cmpI .eql (.tmp 13) (.const (.int .u64 1))), .none⟩, ⟨(.some 4), (.mov (.tmp 14)), .none⟩]
def c15_b : PCode := (.seq (.reg p15_1) (.seq (.reg p15_2) .ret))
def c15 : FCode := ⟨15, c15_b, [(.tmp 4)], some ([4], [], []), false⟩
theorem c15_ok : compF Go.Proofs.Tryd.prog [54, 67, 68, 200069, 69, 71, 91, 96] 15 = some (eraseF c15) := by kernel_rfl
def p54_2 : List PO := [⟨(.some 9), (.mov (.tmp 0)), .none⟩, ⟨(.some 10), (.nilC (.tmp 9)), .none⟩, ⟨(.some 11), (.fld 1 (.tmp 10)), .none⟩, ⟨(.some 12), (.load .false 1 (.tmp 11)), .none⟩, ⟨(.some 8), (.mov (.tmp 12)), .none⟩]
def p54_3 : List PO := [⟨(.some 13), (.mov (.tmp 0)), .none⟩, ⟨(.some 14), (.nilC (.tmp 13)), .none⟩, ⟨(.some 15), (.fld 1 (.tmp 14)), .none⟩, ⟨.none, (.store 1 (.tmp 15) (.const (.bool .false))), .none⟩]
def p54_4 : List PO := [⟨(.some 16), (.mov (.tmp 0)), .none⟩, ⟨(.some 17), (.mov (.tmp 1)), .none⟩, ⟨(.some 18), (.callr 67 [(.tmp 16), (.tmp 17)]), .none⟩]
def p54_5 : List PO := [⟨(.some 20), (.mov (.tmp 0)), .none⟩, ⟨(.some 21), (.mov (.tmp 1)), .none⟩, ⟨(.some 22), (.callr 68 [(.tmp 20), (.tmp 21), (.const (.int .i64 14))]), .none⟩, ⟨(.some 19), (.mov (.tmp 22)), .none⟩]
def p54_6 : List PO := [⟨(.some 23), (.mov (.tmp 0)), .none⟩, ⟨(.some 24), (.nilC (.tmp 23)), .none⟩, ⟨(.some 25), (.fld 1 (.tmp 24)), .none⟩, ⟨.none, (.store 1 (.tmp 25) (.const (.bool .true))), .none⟩]
def p54_7 : List PO := [⟨(.some 27), (.mov (.tmp 0)), .none⟩, ⟨(.some 28), (.mov (.tmp 1)), .none⟩, ⟨(.some 29), (.callr 68 [(.tmp 27), (.tmp 28), (.const (.int .i64 10))]), .none⟩, ⟨(.some 26), (.mov (.tmp 29)), .none⟩]
def p54_8 : List PO := [⟨(.some 30), (.mov (.tmp 0)), .none⟩, ⟨(.some 31), (.mov (.tmp 0)), .none⟩, ⟨(.some 32), (.nilC (.tmp 31)), .none⟩, ⟨(.some 33), (.fld 0 (.tmp 32)), .none⟩, ⟨(.some 34), (.load .false 1 (.tmp 33)), .none⟩, ⟨(.some 35), (.len .false (.tmp 34)), .none⟩, ⟨(.some 36), (.mn [(.const (.int .i64 1)), (.tmp 35)]), .none⟩, ⟨(.some 37), (.callr 69 [(.tmp 30), (.tmp 36)]), .none⟩]
def p54_9 : List PO := [⟨(.some 39), (.mov (.tmp 0)), .none⟩, ⟨(.some 40), (.mov (.tmp 1)), .none⟩, ⟨(.some 41), (.callr 68 [(.tmp 39), (.tmp 40), (.const (.int .i64 12))]), .none⟩, ⟨(.some 38), (.mov (.tmp 41)), .none⟩]
def p54_10 : List PO := [⟨(.some 42), (.mov (.tmp 0)), .none⟩, ⟨(.some 43), (.nilC (.tmp 42)), .none⟩, ⟨(.some 44), (.fld 0 (.tmp 43)), .none⟩, ⟨(.some 45), (.load .false 1 (.tmp 44)), .none⟩, ⟨(.some 46), (.cvBS (.tmp 45)), .none⟩, ⟨(.some 47), (.call 21 [(.tmp 46), (.const (.string ⟨#[32]⟩))]), .none⟩, ⟨(.some 4), (.mov (.tmp 47)), .none⟩]
def p54_11 : List PO := [⟨(.some 48), (.mov (.tmp 0)), .none⟩, ⟨(.some 49), (.mov (.tmp 0)), .none⟩, ⟨(.some 50), (.nilC (.tmp 49)), .none⟩, ⟨(.some 51), (.fld 0 (.tmp 50)), .none⟩, ⟨(.some 52), (.load .false 1 (.tmp 51)), .none⟩, ⟨(.some 53), (.len .false (.tmp 52)), .none⟩, ⟨(.some 54), (.mov (.tmp 4)), .none⟩, ⟨(.some 55), (.call 70 [(.tmp 54), (.const (.int .u8 32))]), .none⟩, ⟨(.some 56), (.arI .sub (.tmp 53) (.tmp 55)), .none⟩, ⟨(.some 57), (.arI .sub (.tmp 56) (.const (.int .i64 1))), .none⟩, ⟨(.some 58), (.callr 69 [(.tmp 48), (.tmp 57)]), .none⟩]
def p54_12 : List PO := [⟨(.some 60), (.mov (.tmp 0)), .none⟩, ⟨(.some 61), (.mov (.tmp 1)), .none⟩, ⟨(.some 62), (.callr 68 [(.tmp 60), (.tmp 61), (.const (.int .i64 11))]), .none⟩, ⟨(.some 59), (.mov (.tmp 62)), .none⟩]
def p54_13 : List PO := [⟨(.some 63), (.mov (.tmp 0)), .none⟩, ⟨(.some 64), (.mov (.tmp 0)), .none⟩, ⟨(.some 65), (.nilC (.tmp 64)), .none⟩, ⟨(.some 66), (.fld 0 (.tmp 65)), .none⟩, ⟨(.some 67), (.load .false 1 (.tmp 66)), .none⟩, ⟨(.some 68), (.len .false (.tmp 67)), .none⟩, ⟨(.some 69), (.callr 69 [(.tmp 63), (.tmp 68)]), .none⟩]
def p54_14 : List PO := [⟨(.some 71), (.mov (.tmp 0)), .none⟩, ⟨(.some 72), (.mov (.tmp 1)), .none⟩, ⟨(.some 73), (.callr 68 [(.tmp 71), (.tmp 72), (.const (.int .i64 13))]), .none⟩, ⟨(.some 70), (.mov (.tmp 73)), .none⟩]
def p54_15 : List PO := [⟨(.some 74), (.mov (.tmp 0)), .none⟩, ⟨(.some 75), (.mov (.tmp 0)), .none⟩, ⟨(.some 76), (.nilC (.tmp 75)), .none⟩, ⟨(.some 77), (.fld 45 (.tmp 76)), .none⟩, ⟨(.some 78), (.load .false 1 (.tmp 77)), .none⟩, ⟨(.some 79), (.bsl 5 1 2 [(2, (.int .u8 0))] [(0, (1, (.const (.int .u8 13)))), (1, (1, (.const (.int .u8 10))))]), .none⟩, ⟨(.some 80), (.app 5 1 1 (.tmp 78) (.tmp 79)), .none⟩, ⟨(.some 81), (.mov (.tmp 0)), .none⟩, ⟨(.some 82), (.nilC (.tmp 81)), .none⟩, ⟨(.some 83), (.fld 0 (.tmp 82)), .none⟩, ⟨(.some 84), (.load .false 1 (.tmp 83)), .none⟩, ⟨(.some 85), (.app 5 1 1 (.tmp 80) (.tmp 84)), .none⟩, ⟨(.some 86), (.nilC (.tmp 74)), .none⟩, ⟨(.some 87), (.fld 45 (.tmp 86)), .none⟩, ⟨.none, (.store 1 (.tmp 87) (.tmp 85)), .none⟩]
def p54_16 : List PO := [⟨(.some 89), (.mov (.tmp 1)), .none⟩, ⟨(.some 90), (.cmpI .eql (.tmp 89) (.const (.int .u8 13))), .none⟩, ⟨(.some 91), (.mov (.tmp 90)), .none⟩, ⟨(.some 92), (.mov (.tmp 1)), (.some (91, .false))⟩, ⟨(.some 93), (.cmpI .eql (.tmp 92) (.const (.int .u8 10))), (.some (91, .false))⟩, ⟨(.some 94), (.pick (.tmp 91) (.const (.bool .true)) (.tmp 93)), .none⟩, ⟨(.some 95), (.mov (.tmp 94)), .none⟩, ⟨(.some 96), (.mov (.tmp 0)), (.some (95, .false))⟩, ⟨(.some 97), (.mov (.tmp 1)), (.some (95, .false))⟩, ⟨(.some 98), (.callr 68 [(.tmp 96), (.tmp 97), (.const (.int .i64 17))]), (.some (95, .false))⟩, ⟨(.some 99), (.pick (.tmp 95) (.const (.bool .true)) (.tmp 98)), .none⟩, ⟨(.some 100), (.mov (.tmp 99)), .none⟩, ⟨(.some 101), (.mov (.tmp 0)), (.some (100, .false))⟩, ⟨(.some 102), (.mov (.tmp 1)), (.some (100, .false))⟩, ⟨(.some 103), (.callr 68 [(.tmp 101), (.tmp 102), (.const (.int .i64 18))]), (.some (100, .false))⟩, ⟨(.some 104), (.pick (.tmp 100) (.const (.bool .true)) (.tmp 103)), .none⟩, ⟨(.some 105), (.mov (.tmp 104)), .none⟩, ⟨(.some 106), (.mov (.tmp 0)), (.some (105, .false))⟩, ⟨(.some 107), (.nilC (.tmp 106)), (.some (105, .false))⟩, ⟨(.some 108), (.fld 40 (.tmp 107)), (.some (105, .false))⟩, ⟨(.some 109), (.load .true 4 (.tmp 108)), (.some (105, .false))⟩, ⟨(.some 110), (.mov (.tmp 1)), (.some (105, .false))⟩, ⟨(.some 111), (.call 15 [(.tmp 109), (.tmp 110)]), (.some (105, .false))⟩, ⟨(.some 112), (.pick (.tmp 105) (.const (.bool .true)) (.tmp 111)), .none⟩, ⟨(.some 88), (.mov (.tmp 112)), .none⟩]
def p54_17 : List PO := [⟨(.some 113), (.mov (.tmp 0)), .none⟩, ⟨(.some 114), (.mov (.tmp 1)), .none⟩, ⟨(.some 115), (.callr 67 [(.tmp 113), (.tmp 114)]), .none⟩, ⟨(.some 116), (.un .not (.tmp 115)), .none⟩]
def p54_18 : List PO := [⟨(.some 117), (.mov (.tmp 0)), .none⟩, ⟨(.some 118), (.callr 71 [(.tmp 117)]), .none⟩]
def p54_19 : List PO := [⟨(.some 5), (.mov (.tmp 0)), .none⟩, ⟨(.some 6), (.mov (.tmp 1)), .none⟩, ⟨(.some 7), (.callr 67 [(.tmp 5), (.tmp 6)]), .none⟩]
def c54_1 : PCode := (.keep [0, 1, 88] [(0, .id 0), (1, .id 1), (2, .id 2), (3, .id 3)] [] (.cond (.tmp 88) (.seq (.reg p54_17) (.cond (.tmp 116) (.reg p54_18) .skip)) (.reg p54_19)))
def c54_20 : PCode := (.cond (.tmp 38) (.seq (.reg p54_10) (.regD p54_11 [(4, 7), (5, 7)])) (.seq (.reg p54_12) (.cond (.tmp 59) (.reg p54_13) (.seq (.reg p54_14) (.cond (.tmp 70) (.regD p54_15 [(4, 5), (5, 10), (6, 10)]) (.seq (.reg p54_16) c54_1))))))
def c54_21 : PCode := (.block 0 (.seq (.reg p54_2) (.cond (.tmp 8) (.seq (.reg p54_3) (.reg p54_4)) (.seq (.reg p54_5) (.cond (.tmp 19) (.reg p54_6) (.seq (.reg p54_7) (.cond (.tmp 26) (.reg p54_8) (.seq (.reg p54_9) c54_20))))))))
def c54_b : PCode := c54_21
def c54 : FCode := ⟨119, c54_b, [], some ([], [(0, .id 0), (1, .id 1), (2, .id 2), (3, .id 3)], [.cell 0 0 1 5 1]), false⟩
theorem c54_ok : compF Go.Proofs.Tryd.prog [54, 67, 68, 200069, 69, 71, 91, 96] 54 = some (eraseF c54) := by kernel_rfl
def p24_8 : List PO := [⟨(.some 4), (.box 2 (.tmp 0)), .none⟩, ⟨(.some 5), (.box 38 (.tmp 1)), .none⟩, ⟨(.some 6), (.box 4 (.tmp 2)), .none⟩, ⟨(.some 8), (.alloc [(1, (.string ⟨#[]⟩)), (1, (.bool .false))]), .none⟩, ⟨(.some 9), (.nilS 9 1), .none⟩, ⟨(.some 10), (.mov (.const (.string ⟨#[]⟩))), .none⟩, ⟨(.some 11), (.mov (.const (.int .i64 0))), .none⟩]
def p24_9 : List PO := [⟨(.some 16), (.load .true 2 (.tmp 4)), .none⟩, ⟨(.some 17), (.call 34 [(.tmp 16)]), .none⟩, ⟨(.some 12), (.mov (.tmp 17)), .none⟩]
def p24_10 : List PO := [⟨(.some 18), (.mov (.tmp 12)), .none⟩, ⟨(.some 19), (.cmpI .neq (.tmp 18) (.const (.int .i64 0))), .none⟩]
def p24_11 : List PO := [⟨(.some 20), (.load .true 2 (.tmp 4)), .none⟩, ⟨(.some 21), (.mov (.tmp 12)), .none⟩, ⟨.none, (.store 2 (.tmp 8) (.tmp 20)), .none⟩, ⟨(.some 9), (.nilS 9 1), .none⟩, ⟨(.some 10), (.mov (.const (.string ⟨#[]⟩))), .none⟩, ⟨(.some 11), (.mov (.tmp 21)), .none⟩]
def p24_12 : List PO := [⟨(.some 22), (.load .true 38 (.tmp 5)), .none⟩, ⟨(.some 23), (.call 53 [(.tmp 22)]), .none⟩, ⟨(.some 13), (.mov (.tmp 23)), .none⟩]
def p24_13 : List PO := [⟨(.some 24), (.mov (.tmp 13)), .none⟩, ⟨(.some 25), (.cmpI .neq (.tmp 24) (.const (.int .i64 0))), .none⟩]
def p24_14 : List PO := [⟨(.some 26), (.load .true 2 (.tmp 4)), .none⟩, ⟨(.some 27), (.mov (.tmp 13)), .none⟩, ⟨.none, (.store 2 (.tmp 8) (.tmp 26)), .none⟩, ⟨(.some 9), (.nilS 9 1), .none⟩, ⟨(.some 10), (.mov (.const (.string ⟨#[]⟩))), .none⟩, ⟨(.some 11), (.mov (.tmp 27)), .none⟩]
def p24_15 : List PO := [⟨(.some 28), (.mov (.tmp 3)), .none⟩, ⟨(.some 29), (.len .true (.tmp 28)), .none⟩, ⟨(.some 30), (.cmpI .gtr (.tmp 29) (.const (.int .i64 4096))), .none⟩]
def p24_16 : List PO := [⟨(.some 31), (.load .true 2 (.tmp 4)), .none⟩, ⟨.none, (.store 2 (.tmp 8) (.tmp 31)), .none⟩, ⟨(.some 9), (.nilS 9 1), .none⟩, ⟨(.some 10), (.mov (.const (.string ⟨#[]⟩))), .none⟩, ⟨(.some 11), (.mov (.const (.int .i64 2))), .none⟩]
def p24_17 : List PO := [⟨(.some 32), (.fld 0 (.tmp 4)), .none⟩, ⟨(.some 33), (.load .false 1 (.tmp 32)), .none⟩, ⟨(.some 34), (.cvSO 5 (.tmp 33)), .none⟩, ⟨(.some 35), (.fld 1 (.tmp 4)), .none⟩, ⟨(.some 36), (.load .false 1 (.tmp 35)), .none⟩, ⟨(.some 37), (.load .true 38 (.tmp 5)), .none⟩, ⟨(.some 38), (.load .true 4 (.tmp 6)), .none⟩, ⟨(.some 39), (.build [(1, (.slice .none 0 0)), (1, (.bool .false)), (38, (.int .u8 0)), (4, (.int .u64 0)), (1, (.slice .none 0 0)), (1, (.slice .none 0 0))] [(0, (1, (.tmp 34))), (1, (1, (.tmp 36))), (2, (38, (.tmp 37))), (40, (4, (.tmp 38)))]), .none⟩, ⟨(.some 40), (.box 46 (.tmp 39)), .none⟩, ⟨(.some 14), (.mov (.tmp 40)), .none⟩]
def p24_18 : List PO := [⟨(.some 41), (.mov (.tmp 3)), .none⟩, ⟨(.some 42), (.len .true (.tmp 41)), .none⟩, ⟨(.some 43), (.mov (.const (.int .i64 0))), .none⟩]
def p24_19 : List PO := [⟨(.some 44), (.cmpI .lss (.tmp 43) (.tmp 42)), .none⟩]
def p24_20 : List PO := [⟨(.some 45), (.mov (.tmp 43)), .none⟩, ⟨(.some 15), (.mov (.tmp 45)), .none⟩]
def p24_21 : List PO := [⟨(.some 46), (.mov (.tmp 14)), .none⟩, ⟨(.some 47), (.mov (.tmp 3)), .none⟩, ⟨(.some 48), (.mov (.tmp 15)), .none⟩, ⟨(.some 49), (.ixStr (.tmp 47) (.tmp 48)), .none⟩, ⟨(.some 50), (.callr 54 [(.tmp 46), (.tmp 49)]), .none⟩]
def p24_22 : List PO := [⟨(.some 51), (.arI .add (.tmp 43) (.const (.int .i64 1))), .none⟩, ⟨(.some 43), (.mov (.tmp 51)), .none⟩]
def c24_2 : PCode := (.keep [3, 8, 14, 42, 43] [(72, .id 72), (328, .id 328), (280, .id 280), (601, .id 601), (602, .id 602)] [] (.seq (.block 1 (.seq (.reg p24_20) (.reg p24_21))) (.reg p24_22)))
def c24_3 : PCode := (.keep [3, 8, 14, 42, 43, 44] [(72, .id 72), (328, .id 328), (280, .id 280), (601, .id 601), (602, .id 602)] [] (.seq (.cond (.tmp 44) .skip (.keep [8, 14] [(72, .id 72), (328, .id 328), (280, .id 280), (601, .id 601), (602, .id 602)] [] (.exit 0))) c24_2))
def c24_4 : PCode := (.keep [3, 8, 14, 42, 43] [(72, .id 72), (328, .id 328), (280, .id 280), (601, (.cell 328 44)), (602, (.cell 328 45))] [.cell 328 44 601 9 1, .cell 328 45 602 5 1] (.seq (.reg p24_19) c24_3))
def p24_23 : List PO := [⟨(.some 52), (.mov (.tmp 14)), .none⟩, ⟨(.some 53), (.nilC (.tmp 52)), .none⟩, ⟨(.some 54), (.fld 0 (.tmp 53)), .none⟩, ⟨(.some 55), (.load .false 1 (.tmp 54)), .none⟩, ⟨(.some 56), (.cvBS (.tmp 55)), .none⟩, ⟨(.some 57), (.mov (.tmp 14)), .none⟩, ⟨(.some 58), (.nilC (.tmp 57)), .none⟩, ⟨(.some 59), (.fld 1 (.tmp 58)), .none⟩, ⟨(.some 60), (.load .false 1 (.tmp 59)), .none⟩, ⟨(.some 61), (.build [(1, (.string ⟨#[]⟩)), (1, (.bool .false))] [(0, (1, (.tmp 56))), (1, (1, (.tmp 60)))]), .none⟩, ⟨(.some 62), (.mov (.tmp 14)), .none⟩, ⟨(.some 63), (.nilC (.tmp 62)), .none⟩, ⟨(.some 64), (.fld 44 (.tmp 63)), .none⟩, ⟨(.some 65), (.load .false 1 (.tmp 64)), .none⟩, ⟨(.some 66), (.mov (.tmp 14)), .none⟩, ⟨(.some 67), (.nilC (.tmp 66)), .none⟩, ⟨(.some 68), (.fld 45 (.tmp 67)), .none⟩, ⟨(.some 69), (.load .false 1 (.tmp 68)), .none⟩, ⟨(.some 70), (.cvBS (.tmp 69)), .none⟩, ⟨.none, (.store 2 (.tmp 8) (.tmp 61)), .none⟩, ⟨(.some 9), (.mov (.tmp 65)), .none⟩, ⟨(.some 10), (.mov (.tmp 70)), .none⟩, ⟨(.some 11), (.mov (.const (.int .i64 0))), .none⟩]
def c24_1 : PCode := (.keep [8, 14] [(72, .id 72), (328, .id 328), (280, .id 280), (601, .id 601), (602, .id 602)] [] (.seq (.regD p24_23 [(13, 19), (17, 19), (18, 19)]) .ret))
def c24_5 : PCode := (.keep [3, 4, 5, 6, 8] [(40, .id 40), (48, .id 48), (56, .id 56), (72, .id 72)] [] (.seq (.reg p24_17) (.seq (.seq (.reg p24_18) (.block 0 (.loop c24_4))) c24_1)))
def c24_6 : PCode := (.keep [3, 4, 5, 6, 8] [(40, .id 40), (48, .id 48), (56, .id 56), (72, .id 72)] [] (.seq (.seq (.reg p24_15) (.cond (.tmp 30) (.seq (.reg p24_16) .ret) .skip)) c24_5))
def c24_7 : PCode := (.keep [3, 4, 5, 6, 8] [(40, .id 40), (48, .id 48), (56, .id 56), (72, .id 72)] [] (.seq (.seq (.reg p24_12) (.seq (.reg p24_13) (.cond (.tmp 25) (.seq (.reg p24_14) .ret) .skip))) c24_6))
def c24_b : PCode := (.seq (.reg p24_8) (.seq (.seq (.reg p24_9) (.seq (.reg p24_10) (.cond (.tmp 19) (.seq (.reg p24_11) .ret) .skip))) c24_7))
def c24 : FCode := ⟨71, c24_b, [(.cell 8 .true 2), (.tmp 9), (.tmp 10), (.tmp 11)], some ([8, 9, 10, 11], [(72, .id 72), (603, (.slot 9 none))], []), false⟩
theorem c24_ok : compF Go.Proofs.Tryd.prog [54, 67, 68, 200069, 69, 71, 91, 96] 24 = some (eraseF c24) := by kernel_rfl
def p28_4 : List PO := [⟨(.some 0), (.alloc [(38, (.int .u8 0))]), .none⟩]
def p28_5 : List PO := [⟨(.some 1), (.alloc [(38, (.int .u8 0))]), .none⟩]
def p28_6 : List PO := [⟨(.some 4), (.bsl 3 1 5 [(5, (.int .i64 0))] [(0, (1, (.const (.int .i64 10)))), (1, (1, (.const (.int .i64 11)))), (2, (1, (.const (.int .i64 12)))), (3, (1, (.const (.int .i64 13)))), (4, (1, (.const (.int .i64 14))))]), .none⟩, ⟨(.some 5), (.len .false (.tmp 4)), .none⟩, ⟨(.some 6), (.mov (.const (.int .i64 0))), .none⟩]
def p28_7 : List PO := [⟨(.some 7), (.cmpI .lss (.tmp 6) (.tmp 5)), .none⟩]
def p28_8 : List PO := [⟨(.some 8), (.mov (.tmp 6)), .none⟩, ⟨(.some 9), (.ixS 3 1 (.tmp 4) (.tmp 6)), .none⟩, ⟨(.some 10), (.load .false 1 (.tmp 9)), .none⟩, ⟨(.some 2), (.mov (.tmp 8)), .none⟩, ⟨(.some 3), (.mov (.tmp 10)), .none⟩]
def p28_9 : List PO := [⟨(.some 11), (.mov (.tmp 3)), .none⟩, ⟨(.some 12), (.mov (.tmp 3)), .none⟩, ⟨(.some 13), (.mov (.tmp 2)), .none⟩, ⟨(.some 14), (.ixStr (.const (.string ⟨#[127, 21, 23, 18, 22]⟩)) (.tmp 13)), .none⟩, ⟨(.some 15), (.fld 0 (.tmp 1)), .none⟩, ⟨(.some 16), (.ixA 19 1 (.tmp 15) (.tmp 11)), .none⟩, ⟨.none, (.store 1 (.tmp 16) (.const (.int .u8 2))), .none⟩, ⟨(.some 17), (.fld 19 (.tmp 1)), .none⟩, ⟨(.some 18), (.ixA 19 1 (.tmp 17) (.tmp 12)), .none⟩, ⟨.none, (.store 1 (.tmp 18) (.tmp 14)), .none⟩]
def p28_10 : List PO := [⟨(.some 19), (.arI .add (.tmp 6) (.const (.int .i64 1))), .none⟩, ⟨(.some 6), (.mov (.tmp 19)), .none⟩]
def c28_1 : PCode := (.keep [0, 1, 4, 5, 6] [(8, .id 8), (16, .id 16), (40, .id 40)] [] (.seq (.block 1 (.seq (.reg p28_8) (.regD p28_9 []))) (.reg p28_10)))
def c28_2 : PCode := (.keep [0, 1, 4, 5, 6, 7] [(8, .id 8), (16, .id 16), (40, .id 40)] [] (.seq (.cond (.tmp 7) .skip (.keep [0, 1] [(8, .id 8), (16, .id 16)] [] (.exit 0))) c28_1))
def c28_3 : PCode := (.keep [0, 1, 4, 5, 6] [(8, .id 8), (16, .id 16), (40, .id 40)] [] (.seq (.reg p28_7) c28_2))
def p28_11 : List PO := [⟨(.some 20), (.load .true 38 (.tmp 1)), .none⟩, ⟨.none, (.store 38 (.tmp 0) (.tmp 20)), .none⟩]
def c28_b : PCode := (.seq (.reg p28_4) (.seq (.reg p28_5) (.seq (.seq (.reg p28_6) (.block 0 (.loop c28_3))) (.seq (.reg p28_11) .ret))))
def c28 : FCode := ⟨21, c28_b, [(.cell 0 .true 38)], some ([0], [(8, .id 8)], []), false⟩
theorem c28_ok : compF Go.Proofs.Tryd.prog [54, 67, 68, 200069, 69, 71, 91, 96] 28 = some (eraseF c28) := by kernel_rfl
def p26_5 : List PO := [⟨(.some 4), (.mov (.const (.bool .false))), .none⟩]
def p26_6 : List PO := [⟨(.some 6), (.mov (.tmp 0)), .none⟩, ⟨(.some 7), (.len .false (.tmp 6)), .none⟩, ⟨(.some 8), (.mov (.tmp 1)), .none⟩, ⟨(.some 9), (.len .false (.tmp 8)), .none⟩, ⟨(.some 10), (.cmpI .neq (.tmp 7) (.tmp 9)), .none⟩]
def p26_7 : List PO := [⟨(.some 4), (.mov (.const (.bool .false))), .none⟩]
def p26_8 : List PO := [⟨(.some 11), (.mov (.tmp 0)), .none⟩, ⟨(.some 12), (.len .false (.tmp 11)), .none⟩, ⟨(.some 13), (.mov (.const (.int .i64 0))), .none⟩]
def p26_9 : List PO := [⟨(.some 14), (.cmpI .lss (.tmp 13) (.tmp 12)), .none⟩]
def p26_10 : List PO := [⟨(.some 15), (.mov (.tmp 13)), .none⟩, ⟨(.some 5), (.mov (.tmp 15)), .none⟩]
def p26_11 : List PO := [⟨(.some 16), (.mov (.tmp 0)), .none⟩, ⟨(.some 17), (.mov (.tmp 5)), .none⟩, ⟨(.some 18), (.ixS 9 1 (.tmp 16) (.tmp 17)), .none⟩, ⟨(.some 19), (.load .false 1 (.tmp 18)), .none⟩, ⟨(.some 20), (.mov (.tmp 1)), .none⟩, ⟨(.some 21), (.mov (.tmp 5)), .none⟩, ⟨(.some 22), (.ixS 9 1 (.tmp 20) (.tmp 21)), .none⟩, ⟨(.some 23), (.load .false 1 (.tmp 22)), .none⟩, ⟨(.some 24), (.strO .neq (.tmp 19) (.tmp 23)), .none⟩]
def p26_12 : List PO := [⟨(.some 4), (.mov (.const (.bool .false))), .none⟩]
def p26_13 : List PO := [⟨(.some 25), (.arI .add (.tmp 13) (.const (.int .i64 1))), .none⟩, ⟨(.some 13), (.mov (.tmp 25)), .none⟩]
def c26_1 : PCode := (.keep [0, 1, 12, 13] [] [] (.seq (.block 1 (.seq (.reg p26_10) (.seq (.regD p26_11 []) (.cond (.tmp 24) (.seq (.reg p26_12) .ret) .skip)))) (.reg p26_13)))
def c26_2 : PCode := (.keep [0, 1, 12, 13, 14] [] [] (.seq (.cond (.tmp 14) .skip (.keep [] [] [] (.exit 0))) c26_1))
def c26_3 : PCode := (.keep [0, 1, 12, 13] [] [] (.seq (.reg p26_9) c26_2))
def p26_14 : List PO := [⟨(.some 4), (.mov (.const (.bool .true))), .none⟩]
def c26_4 : PCode := (.keep [0, 1] [] [] (.seq (.seq (.reg p26_8) (.block 0 (.loop c26_3))) (.seq (.reg p26_14) .ret)))
def c26_b : PCode := (.seq (.reg p26_5) (.seq (.seq (.reg p26_6) (.cond (.tmp 10) (.seq (.reg p26_7) .ret) .skip)) c26_4))
def c26 : FCode := ⟨26, c26_b, [(.tmp 4)], some ([4], [], []), false⟩
theorem c26_ok : compF Go.Proofs.Tryd.prog [54, 67, 68, 200069, 69, 71, 91, 96] 26 = some (eraseF c26) := by kernel_rfl
def p25_1 : List PO := [⟨(.some 0), (.mov (.const (.bool .false))), .none⟩]
def p25_2 : List PO := [⟨(.some 6), (.build [(1, (.string ⟨#[]⟩)), (1, (.bool .false))] []), .none⟩, ⟨(.some 7), (.call 28 []), .none⟩, ⟨(.some 8), (.build [(4, (.int .u64 0))] []), .none⟩, ⟨(.some 9), (.call 24 [(.tmp 6), (.tmp 7), (.tmp 8), (.const (.string ⟨#[108, 120, 127, 115, 32, 45, 108, 13, 120]⟩))]), .none⟩, ⟨(.some 5), (.mov (.tmp 9)), .none⟩, ⟨(.some 10), (.ext (.tmp 5) 0), .none⟩, ⟨(.some 11), (.ext (.tmp 5) 1), .none⟩, ⟨(.some 12), (.ext (.tmp 5) 2), .none⟩, ⟨(.some 13), (.ext (.tmp 5) 3), .none⟩, ⟨(.some 1), (.alloc [(1, (.string ⟨#[]⟩)), (1, (.bool .false))]), .none⟩, ⟨.none, (.store 2 (.tmp 1) (.tmp 10)), .none⟩, ⟨(.some 2), (.mov (.tmp 11)), .none⟩, ⟨(.some 3), (.mov (.tmp 12)), .none⟩, ⟨(.some 4), (.mov (.tmp 13)), .none⟩]
def p25_3 : List PO := [⟨(.some 14), (.mov (.tmp 4)), .none⟩, ⟨(.some 15), (.cmpI .eql (.tmp 14) (.const (.int .i64 0))), .none⟩, ⟨(.some 16), (.mov (.tmp 15)), .none⟩, ⟨(.some 17), (.fld 0 (.tmp 1)), (.some (16, .true))⟩, ⟨(.some 18), (.load .false 1 (.tmp 17)), (.some (16, .true))⟩, ⟨(.some 19), (.strO .eql (.tmp 18) (.const (.string ⟨#[120]⟩))), (.some (16, .true))⟩, ⟨(.some 20), (.pick (.tmp 16) (.tmp 19) (.const (.bool .false))), .none⟩, ⟨(.some 21), (.mov (.tmp 20)), .none⟩, ⟨(.some 22), (.mov (.tmp 2)), (.some (21, .true))⟩, ⟨(.some 23), (.bsl 9 1 1 [(1, (.string ⟨#[]⟩))] [(0, (1, (.const (.string ⟨#[108, 115, 32, 45, 108, 13]⟩))))]), (.some (21, .true))⟩, ⟨(.some 24), (.call 26 [(.tmp 22), (.tmp 23)]), (.some (21, .true))⟩, ⟨(.some 25), (.pick (.tmp 21) (.tmp 24) (.const (.bool .false))), .none⟩, ⟨(.some 26), (.mov (.tmp 25)), .none⟩, ⟨(.some 27), (.mov (.tmp 3)), (.some (26, .true))⟩, ⟨(.some 28), (.strO .eql (.tmp 27) (.const (.string ⟨#[108, 120, 8, 32, 8, 115, 32, 45, 108, 13, 120]⟩))), (.some (26, .true))⟩, ⟨(.some 29), (.pick (.tmp 26) (.tmp 28) (.const (.bool .false))), .none⟩, ⟨(.some 0), (.mov (.tmp 29)), .none⟩]
def c25_b : PCode := (.seq (.reg p25_1) (.seq (.reg p25_2) (.seq (.reg p25_3) .ret)))
def c25 : FCode := ⟨30, c25_b, [(.tmp 0)], some ([0], [], []), false⟩
theorem c25_ok : compF Go.Proofs.Tryd.prog [54, 67, 68, 200069, 69, 71, 91, 96] 25 = some (eraseF c25) := by kernel_rfl
def p29_4 : List PO := [⟨(.some 2), (.box 38 (.tmp 0)), .none⟩, ⟨(.some 4), (.mov (.const (.bool .false))), .none⟩]
def p29_5 : List PO := [⟨(.some 7), (.bsl 3 1 5 [(5, (.int .i64 0))] [(0, (1, (.const (.int .i64 10)))), (1, (1, (.const (.int .i64 11)))), (2, (1, (.const (.int .i64 12)))), (3, (1, (.const (.int .i64 13)))), (4, (1, (.const (.int .i64 14))))]), .none⟩, ⟨(.some 8), (.len .false (.tmp 7)), .none⟩, ⟨(.some 9), (.mov (.const (.int .i64 0))), .none⟩]
def p29_6 : List PO := [⟨(.some 10), (.cmpI .lss (.tmp 9) (.tmp 8)), .none⟩]
def p29_7 : List PO := [⟨(.some 11), (.ixS 3 1 (.tmp 7) (.tmp 9)), .none⟩, ⟨(.some 12), (.load .false 1 (.tmp 11)), .none⟩, ⟨(.some 6), (.mov (.tmp 12)), .none⟩]
def p29_8 : List PO := [⟨(.some 13), (.mov (.tmp 6)), .none⟩, ⟨(.some 14), (.fld 0 (.tmp 2)), .none⟩, ⟨(.some 15), (.ixA 19 1 (.tmp 14) (.tmp 13)), .none⟩, ⟨(.some 16), (.load .false 1 (.tmp 15)), .none⟩, ⟨(.some 17), (.cmpI .neq (.tmp 16) (.const (.int .u8 0))), .none⟩, ⟨(.some 18), (.mov (.tmp 17)), .none⟩, ⟨(.some 19), (.mov (.tmp 6)), (.some (18, .true))⟩, ⟨(.some 20), (.fld 19 (.tmp 2)), (.some (18, .true))⟩, ⟨(.some 21), (.ixA 19 1 (.tmp 20) (.tmp 19)), (.some (18, .true))⟩, ⟨(.some 22), (.load .false 1 (.tmp 21)), (.some (18, .true))⟩, ⟨(.some 23), (.mov (.tmp 1)), (.some (18, .true))⟩, ⟨(.some 24), (.cmpI .eql (.tmp 22) (.tmp 23)), (.some (18, .true))⟩, ⟨(.some 25), (.pick (.tmp 18) (.tmp 24) (.const (.bool .false))), .none⟩]
def p29_9 : List PO := [⟨(.some 4), (.mov (.const (.bool .true))), .none⟩]
def p29_10 : List PO := [⟨(.some 26), (.arI .add (.tmp 9) (.const (.int .i64 1))), .none⟩, ⟨(.some 9), (.mov (.tmp 26)), .none⟩]
def c29_1 : PCode := (.keep [1, 2, 7, 8, 9] [(24, .id 24), (64, .id 64)] [] (.seq (.block 1 (.seq (.reg p29_7) (.seq (.reg p29_8) (.cond (.tmp 25) (.seq (.reg p29_9) .ret) .skip)))) (.reg p29_10)))
def c29_2 : PCode := (.keep [1, 2, 7, 8, 9, 10] [(24, .id 24), (64, .id 64)] [] (.seq (.cond (.tmp 10) .skip (.keep [] [] [] (.exit 0))) c29_1))
def c29_3 : PCode := (.keep [1, 2, 7, 8, 9] [(24, .id 24), (64, .id 64)] [] (.seq (.reg p29_6) c29_2))
def p29_11 : List PO := [⟨(.some 4), (.mov (.const (.bool .false))), .none⟩]
def c29_b : PCode := (.seq (.reg p29_4) (.seq (.seq (.reg p29_5) (.block 0 (.loop c29_3))) (.seq (.reg p29_11) .ret)))
def c29 : FCode := ⟨27, c29_b, [(.tmp 4)], some ([4], [], []), false⟩
theorem c29_ok : compF Go.Proofs.Tryd.prog [54, 67, 68, 200069, 69, 71, 91, 96] 29 = some (eraseF c29) := by kernel_rfl
def p27_1 : List PO := [⟨(.some 2), (.nilS 9 1), .none⟩]
def p27_2 : List PO := [⟨(.some 3), (.mov (.tmp 0)), .none⟩, ⟨(.some 4), (.isN .false (.tmp 3)), .none⟩]
def p27_3 : List PO := [⟨(.some 2), (.nilS 9 1), .none⟩]
def p27_4 : List PO := [⟨(.some 5), (.bsl 9 1 0 [] []), .none⟩, ⟨(.some 6), (.mov (.tmp 0)), .none⟩, ⟨(.some 7), (.app 9 1 16 (.tmp 5) (.tmp 6)), .none⟩, ⟨(.some 2), (.mov (.tmp 7)), .none⟩]
def c27_b : PCode := (.seq (.reg p27_1) (.seq (.seq (.reg p27_2) (.cond (.tmp 4) (.seq (.reg p27_3) .ret) .skip)) (.seq (.reg p27_4) .ret)))
def c27 : FCode := ⟨8, c27_b, [(.tmp 2)], some ([2], [(97, (.slot 2 none))], []), true⟩
theorem c27_ok : compF Go.Proofs.Tryd.prog [54, 67, 68, 200069, 69, 71, 91, 96] 27 = some (eraseF c27) := by kernel_rfl
def p31_1 : List PO := [⟨(.some 2), (.box 4 (.tmp 0)), .none⟩, ⟨(.some 4), (.mov (.const (.bool .false))), .none⟩]
def p31_2 : List PO := [⟨(.some 5), (.mov (.tmp 1)), .none⟩, ⟨(.some 6), (.arI .quo (.tmp 5) (.const (.int .i64 64))), .none⟩, ⟨(.some 7), (.fld 0 (.tmp 2)), .none⟩, ⟨(.some 8), (.ixA 4 1 (.tmp 7) (.tmp 6)), .none⟩, ⟨(.some 9), (.load .false 1 (.tmp 8)), .none⟩, ⟨(.some 10), (.mov (.tmp 1)), .none⟩, ⟨(.some 11), (.arI .rem (.tmp 10) (.const (.int .i64 64))), .none⟩, ⟨(.some 12), (.sh .shl (.const (.int .u64 1)) (.tmp 11)), .none⟩, ⟨(.some 13), (.arI .quo (.tmp 9) (.tmp 12)), .none⟩, ⟨(.some 14), (.arI .rem (.tmp 13) (.const (.int .u64 2))), .none⟩, ⟨(.some 15), (.cmpI .eql (.tmp 14) (.const (.int .u64 1))), .none⟩, ⟨(.some 4), (.mov (.tmp 15)), .none⟩]
def c31_b : PCode := (.seq (.reg p31_1) (.seq (.regD p31_2 []) .ret))
def c31 : FCode := ⟨16, c31_b, [(.tmp 4)], some ([4], [], []), false⟩
theorem c31_ok : compF Go.Proofs.Tryd.prog [54, 67, 68, 200069, 69, 71, 91, 96] 31 = some (eraseF c31) := by kernel_rfl
def p32_1 : List PO := [⟨(.some 2), (.box 38 (.tmp 0)), .none⟩, ⟨(.some 4), (.mov (.const (.int .i64 0))), .none⟩]
def p32_2 : List PO := [⟨(.some 5), (.mov (.tmp 1)), .none⟩, ⟨(.some 6), (.fld 0 (.tmp 2)), .none⟩, ⟨(.some 7), (.ixA 19 1 (.tmp 6) (.tmp 5)), .none⟩, ⟨(.some 8), (.load .false 1 (.tmp 7)), .none⟩, ⟨(.some 9), (.cmpI .eql (.tmp 8) (.const (.int .u8 0))), .none⟩]
def p32_3 : List PO := [⟨(.some 4), (.mov (.const (.int .i64 (-1)))), .none⟩]
def p32_4 : List PO := [⟨(.some 10), (.mov (.tmp 1)), .none⟩, ⟨(.some 11), (.fld 19 (.tmp 2)), .none⟩, ⟨(.some 12), (.ixA 19 1 (.tmp 11) (.tmp 10)), .none⟩, ⟨(.some 13), (.load .false 1 (.tmp 12)), .none⟩, ⟨(.some 14), (.cvI .i64 (.tmp 13)), .none⟩, ⟨(.some 4), (.mov (.tmp 14)), .none⟩]
def c32_b : PCode := (.seq (.reg p32_1) (.seq (.seq (.reg p32_2) (.cond (.tmp 9) (.seq (.reg p32_3) .ret) .skip)) (.seq (.reg p32_4) .ret)))
def c32 : FCode := ⟨15, c32_b, [(.tmp 4)], some ([4], [], []), false⟩
theorem c32_ok : compF Go.Proofs.Tryd.prog [54, 67, 68, 200069, 69, 71, 91, 96] 32 = some (eraseF c32) := by kernel_rfl
def p30_1 : List PO := [⟨(.some 4), (.mov (.const (.bool .false))), .none⟩]
def p30_2 : List PO := [⟨(.some 5), (.mov (.tmp 0)), .none⟩, ⟨(.some 6), (.cmpI .eql (.tmp 5) (.const (.int .u8 13))), .none⟩, ⟨(.some 7), (.mov (.tmp 6)), .none⟩, ⟨(.some 8), (.mov (.tmp 0)), (.some (7, .false))⟩, ⟨(.some 9), (.cmpI .eql (.tmp 8) (.const (.int .u8 10))), (.some (7, .false))⟩, ⟨(.some 10), (.pick (.tmp 7) (.const (.bool .true)) (.tmp 9)), .none⟩, ⟨(.some 11), (.mov (.tmp 10)), .none⟩, ⟨(.some 12), (.load .true 4 (.tmp 1)), (.some (11, .false))⟩, ⟨(.some 13), (.mov (.tmp 0)), (.some (11, .false))⟩, ⟨(.some 14), (.cvI .i64 (.tmp 13)), (.some (11, .false))⟩, ⟨(.some 15), (.call 31 [(.tmp 12), (.tmp 14)]), (.some (11, .false))⟩, ⟨(.some 16), (.pick (.tmp 11) (.const (.bool .true)) (.tmp 15)), .none⟩, ⟨(.some 17), (.mov (.tmp 16)), .none⟩, ⟨(.some 18), (.mov (.tmp 0)), (.some (17, .false))⟩, ⟨(.some 19), (.cvI .i64 (.tmp 18)), (.some (17, .false))⟩, ⟨(.some 20), (.load .true 38 (.tmp 2)), (.some (17, .false))⟩, ⟨(.some 21), (.call 32 [(.tmp 20), (.const (.int .i64 17))]), (.some (17, .false))⟩, ⟨(.some 22), (.cmpI .eql (.tmp 19) (.tmp 21)), (.some (17, .false))⟩, ⟨(.some 23), (.pick (.tmp 17) (.const (.bool .true)) (.tmp 22)), .none⟩, ⟨(.some 24), (.mov (.tmp 23)), .none⟩, ⟨(.some 25), (.mov (.tmp 0)), (.some (24, .false))⟩, ⟨(.some 26), (.cvI .i64 (.tmp 25)), (.some (24, .false))⟩, ⟨(.some 27), (.load .true 38 (.tmp 2)), (.some (24, .false))⟩, ⟨(.some 28), (.call 32 [(.tmp 27), (.const (.int .i64 18))]), (.some (24, .false))⟩, ⟨(.some 29), (.cmpI .eql (.tmp 26) (.tmp 28)), (.some (24, .false))⟩, ⟨(.some 30), (.pick (.tmp 24) (.const (.bool .true)) (.tmp 29)), .none⟩, ⟨(.some 4), (.mov (.tmp 30)), .none⟩]
def c30_b : PCode := (.seq (.reg p30_1) (.seq (.reg p30_2) .ret))
def c30 : FCode := ⟨31, c30_b, [(.tmp 4)], some ([4], [], []), false⟩
theorem c30_ok : compF Go.Proofs.Tryd.prog [54, 67, 68, 200069, 69, 71, 91, 96] 30 = some (eraseF c30) := by kernel_rfl
def p9_16 : List PO := [⟨(.some 3), (.box 38 (.tmp 0)), .none⟩, ⟨(.some 4), (.box 4 (.tmp 1)), .none⟩, ⟨(.some 6), (.mov (.const (.bool .false))), .none⟩]
def p9_17 : List PO := [⟨(.some 19), (.build [(1, (.string ⟨#[]⟩)), (1, (.bool .false))] []), .none⟩, ⟨(.some 20), (.load .true 38 (.tmp 3)), .none⟩, ⟨(.some 21), (.load .true 4 (.tmp 4)), .none⟩, ⟨(.some 22), (.mov (.tmp 2)), .none⟩, ⟨(.some 23), (.call 24 [(.tmp 19), (.tmp 20), (.tmp 21), (.tmp 22)]), .none⟩, ⟨(.some 18), (.mov (.tmp 23)), .none⟩, ⟨(.some 24), (.ext (.tmp 18) 0), .none⟩, ⟨(.some 25), (.ext (.tmp 18) 1), .none⟩, ⟨(.some 26), (.ext (.tmp 18) 2), .none⟩, ⟨(.some 27), (.ext (.tmp 18) 3), .none⟩, ⟨(.some 7), (.alloc [(1, (.string ⟨#[]⟩)), (1, (.bool .false))]), .none⟩, ⟨.none, (.store 2 (.tmp 7) (.tmp 24)), .none⟩, ⟨(.some 8), (.mov (.tmp 25)), .none⟩, ⟨(.some 9), (.mov (.tmp 26)), .none⟩, ⟨(.some 10), (.mov (.tmp 27)), .none⟩]
def p9_18 : List PO := [⟨(.some 28), (.call 25 []), .none⟩, ⟨(.some 29), (.un .not (.tmp 28)), .none⟩, ⟨(.some 30), (.mov (.tmp 29)), .none⟩, ⟨(.some 31), (.mov (.tmp 10)), (.some (30, .false))⟩, ⟨(.some 32), (.cmpI .neq (.tmp 31) (.const (.int .i64 0))), (.some (30, .false))⟩, ⟨(.some 33), (.pick (.tmp 30) (.const (.bool .true)) (.tmp 32)), .none⟩]
def p9_19 : List PO := [⟨(.some 34), (.call 25 []), .none⟩, ⟨(.some 6), (.mov (.tmp 34)), .none⟩]
def p9_20 : List PO := [⟨(.some 35), (.mov (.tmp 2)), .none⟩, ⟨(.some 36), (.len .true (.tmp 35)), .none⟩, ⟨(.some 37), (.mov (.const (.int .i64 0))), .none⟩]
def p9_21 : List PO := [⟨(.some 38), (.cmpI .lss (.tmp 37) (.tmp 36)), .none⟩]
def p9_22 : List PO := [⟨(.some 39), (.mov (.tmp 37)), .none⟩, ⟨(.some 11), (.mov (.tmp 39)), .none⟩]
def p9_23 : List PO := [⟨(.some 40), (.load .true 38 (.tmp 3)), .none⟩, ⟨(.some 41), (.mov (.tmp 2)), .none⟩, ⟨(.some 42), (.mov (.tmp 11)), .none⟩, ⟨(.some 43), (.ixStr (.tmp 41) (.tmp 42)), .none⟩, ⟨(.some 44), (.call 29 [(.tmp 40), (.tmp 43)]), .none⟩]
def p9_24 : List PO := [⟨(.some 6), (.mov (.const (.bool .true))), .none⟩]
def p9_25 : List PO := [⟨(.some 45), (.arI .add (.tmp 37) (.const (.int .i64 1))), .none⟩, ⟨(.some 37), (.mov (.tmp 45)), .none⟩]
def c9_12 : PCode := (.keep [2, 3, 4, 7, 8, 9, 36, 37] [(32, .id 32), (40, .id 40), (64, .id 64), (192, .id 192)] [] (.seq (.block 1 (.seq (.reg p9_22) (.seq (.regD p9_23 []) (.cond (.tmp 44) (.seq (.reg p9_24) .ret) .skip)))) (.reg p9_25)))
def c9_13 : PCode := (.keep [2, 3, 4, 7, 8, 9, 36, 37, 38] [(32, .id 32), (40, .id 40), (64, .id 64), (192, .id 192)] [] (.seq (.cond (.tmp 38) .skip (.keep [2, 3, 4, 7, 8, 9] [(32, .id 32), (40, .id 40), (64, .id 64), (192, .id 192)] [] (.exit 0))) c9_12))
def c9_14 : PCode := (.keep [2, 3, 4, 7, 8, 9, 36, 37] [(32, .id 32), (40, .id 40), (64, .id 64), (192, .id 192)] [] (.seq (.reg p9_21) c9_13))
def p9_26 : List PO := [⟨(.some 46), (.mkF 30 [(.tmp 4), (.tmp 3)]), .none⟩, ⟨(.some 12), (.mov (.tmp 46)), .none⟩]
def p9_27 : List PO := [⟨(.some 47), (.mov (.tmp 8)), .none⟩, ⟨(.some 48), (.call 27 [(.tmp 47)]), .none⟩, ⟨(.some 49), (.fld 0 (.tmp 7)), .none⟩, ⟨(.some 50), (.load .false 1 (.tmp 49)), .none⟩, ⟨(.some 51), (.bsl 9 1 1 [(1, (.string ⟨#[]⟩))] [(0, (1, (.tmp 50)))]), .none⟩, ⟨(.some 52), (.app 9 1 16 (.tmp 48) (.tmp 51)), .none⟩, ⟨(.some 53), (.len .false (.tmp 52)), .none⟩, ⟨(.some 54), (.mov (.const (.int .i64 0))), .none⟩]
def p9_28 : List PO := [⟨(.some 55), (.cmpI .lss (.tmp 54) (.tmp 53)), .none⟩]
def p9_29 : List PO := [⟨(.some 56), (.ixS 9 1 (.tmp 52) (.tmp 54)), .none⟩, ⟨(.some 57), (.load .false 1 (.tmp 56)), .none⟩, ⟨(.some 14), (.mov (.tmp 57)), .none⟩]
def p9_30 : List PO := [⟨(.some 15), (.mov (.const (.int .i64 0))), .none⟩]
def p9_31 : List PO := [⟨(.some 58), (.mov (.tmp 15)), .none⟩, ⟨(.some 59), (.arI .add (.tmp 58) (.const (.int .i64 1))), .none⟩, ⟨(.some 60), (.mov (.tmp 14)), .none⟩, ⟨(.some 61), (.len .true (.tmp 60)), .none⟩, ⟨(.some 62), (.cmpI .lss (.tmp 59) (.tmp 61)), .none⟩]
def p9_32 : List PO := [⟨(.some 65), (.mov (.tmp 12)), .none⟩, ⟨(.some 66), (.mov (.tmp 14)), .none⟩, ⟨(.some 67), (.mov (.tmp 15)), .none⟩, ⟨(.some 68), (.ixStr (.tmp 66) (.tmp 67)), .none⟩, ⟨(.some 69), (.callv (.tmp 65) [(.tmp 68)]), .none⟩]
def p9_33 : List PO := [⟨(.some 6), (.mov (.const (.bool .false))), .none⟩]
def p9_34 : List PO := [⟨(.some 63), (.mov (.tmp 15)), .none⟩, ⟨(.some 64), (.arI .add (.tmp 63) (.const (.int .i64 1))), .none⟩, ⟨(.some 15), (.mov (.tmp 64)), .none⟩]
def c9_6 : PCode := (.keep [2, 7, 8, 9, 12, 14, 15, 52, 53, 54] [(64, .id 64), (192, .id 192), (40, .id 40), (32, .id 32), (392, .id 392)] [] (.seq (.block 5 (.seq (.reg p9_32) (.cond (.tmp 69) (.seq (.reg p9_33) .ret) .skip))) (.reg p9_34)))
def c9_7 : PCode := (.keep [2, 7, 8, 9, 12, 14, 15, 52, 53, 54] [(64, .id 64), (192, .id 192), (40, .id 40), (32, .id 32), (392, .id 392)] [] (.seq (.seq (.reg p9_31) (.cond (.tmp 62) .skip (.keep [2, 7, 8, 9, 12, 52, 53, 54] [(64, .id 64), (192, .id 192), (40, .id 40), (32, .id 32), (392, .id 392)] [] (.exit 4)))) c9_6))
def p9_35 : List PO := [⟨(.some 70), (.arI .add (.tmp 54) (.const (.int .i64 1))), .none⟩, ⟨(.some 54), (.mov (.tmp 70)), .none⟩]
def c9_8 : PCode := (.keep [2, 7, 8, 9, 12, 52, 53, 54] [(64, .id 64), (192, .id 192), (40, .id 40), (32, .id 32), (392, .id 392)] [] (.seq (.block 3 (.seq (.reg p9_29) (.seq (.reg p9_30) (.block 4 (.loop c9_7))))) (.reg p9_35)))
def c9_9 : PCode := (.keep [2, 7, 8, 9, 12, 52, 53, 54, 55] [(64, .id 64), (192, .id 192), (40, .id 40), (32, .id 32), (392, .id 392)] [] (.seq (.cond (.tmp 55) .skip (.keep [2, 7, 8, 9, 12] [(64, .id 64), (192, .id 192), (40, .id 40), (32, .id 32)] [] (.exit 2))) c9_8))
def c9_10 : PCode := (.keep [2, 7, 8, 9, 12, 52, 53, 54] [(64, .id 64), (192, .id 192), (40, .id 40), (32, .id 32), (392, .id 392)] [] (.seq (.reg p9_28) c9_9))
def p9_36 : List PO := [⟨(.some 71), (.mov (.tmp 8)), .none⟩, ⟨(.some 72), (.len .false (.tmp 71)), .none⟩, ⟨(.some 73), (.mov (.const (.int .i64 0))), .none⟩]
def p9_37 : List PO := [⟨(.some 74), (.cmpI .lss (.tmp 73) (.tmp 72)), .none⟩]
def p9_38 : List PO := [⟨(.some 75), (.ixS 9 1 (.tmp 71) (.tmp 73)), .none⟩, ⟨(.some 76), (.load .false 1 (.tmp 75)), .none⟩, ⟨(.some 17), (.mov (.tmp 76)), .none⟩]
def p9_39 : List PO := [⟨(.some 77), (.mov (.tmp 17)), .none⟩, ⟨(.some 78), (.strO .eql (.tmp 77) (.const (.string ⟨#[]⟩))), .none⟩, ⟨(.some 79), (.mov (.tmp 78)), .none⟩, ⟨(.some 80), (.mov (.tmp 12)), (.some (79, .false))⟩, ⟨(.some 81), (.mov (.tmp 17)), (.some (79, .false))⟩, ⟨(.some 82), (.mov (.tmp 17)), (.some (79, .false))⟩, ⟨(.some 83), (.len .true (.tmp 82)), (.some (79, .false))⟩, ⟨(.some 84), (.arI .sub (.tmp 83) (.const (.int .i64 1))), (.some (79, .false))⟩, ⟨(.some 85), (.ixStr (.tmp 81) (.tmp 84)), (.some (79, .false))⟩, ⟨(.some 86), (.callv (.tmp 80) [(.tmp 85)]), (.some (79, .false))⟩, ⟨(.some 87), (.un .not (.tmp 86)), (.some (79, .false))⟩, ⟨(.some 88), (.mov (.tmp 87)), (.some (79, .false))⟩, ⟨(.some 89), (.mov (.tmp 17)), (.some (88, .true))⟩, ⟨(.some 90), (.len .true (.tmp 89)), (.some (88, .true))⟩, ⟨(.some 91), (.cmpI .neq (.tmp 90) (.const (.int .i64 1024))), (.some (88, .true))⟩, ⟨(.some 92), (.pick (.tmp 88) (.tmp 91) (.const (.bool .false))), (.some (79, .false))⟩, ⟨(.some 93), (.pick (.tmp 79) (.const (.bool .true)) (.tmp 92)), .none⟩]
def p9_40 : List PO := [⟨(.some 6), (.mov (.const (.bool .false))), .none⟩]
def p9_41 : List PO := [⟨(.some 94), (.arI .add (.tmp 73) (.const (.int .i64 1))), .none⟩, ⟨(.some 73), (.mov (.tmp 94)), .none⟩]
def c9_2 : PCode := (.keep [2, 7, 8, 9, 12, 71, 72, 73] [(64, .id 64), (192, .id 192), (40, .id 40), (32, .id 32)] [] (.seq (.block 7 (.seq (.reg p9_38) (.seq (.reg p9_39) (.cond (.tmp 93) (.seq (.reg p9_40) .ret) .skip)))) (.reg p9_41)))
def c9_3 : PCode := (.keep [2, 7, 8, 9, 12, 71, 72, 73, 74] [(64, .id 64), (192, .id 192), (40, .id 40), (32, .id 32)] [] (.seq (.cond (.tmp 74) .skip (.keep [2, 7, 8, 9] [(64, .id 64), (192, .id 192)] [] (.exit 6))) c9_2))
def c9_4 : PCode := (.keep [2, 7, 8, 9, 12, 71, 72, 73] [(64, .id 64), (192, .id 192), (40, .id 40), (32, .id 32)] [] (.seq (.reg p9_37) c9_3))
def p9_42 : List PO := [⟨(.some 95), (.mov (.tmp 8)), .none⟩, ⟨(.some 96), (.call 33 [(.tmp 95), (.const (.string ⟨#[]⟩))]), .none⟩, ⟨(.some 97), (.fld 0 (.tmp 7)), .none⟩, ⟨(.some 98), (.load .false 1 (.tmp 97)), .none⟩, ⟨(.some 99), (.strO .add (.tmp 96) (.tmp 98)), .none⟩, ⟨(.some 100), (.mov (.tmp 2)), .none⟩, ⟨(.some 101), (.strO .eql (.tmp 99) (.tmp 100)), .none⟩, ⟨(.some 102), (.mov (.tmp 101)), .none⟩, ⟨(.some 103), (.mov (.tmp 9)), (.some (102, .true))⟩, ⟨(.some 104), (.mov (.tmp 2)), (.some (102, .true))⟩, ⟨(.some 105), (.strO .eql (.tmp 103) (.tmp 104)), (.some (102, .true))⟩, ⟨(.some 106), (.pick (.tmp 102) (.tmp 105) (.const (.bool .false))), .none⟩, ⟨(.some 107), (.mov (.tmp 106)), .none⟩, ⟨(.some 108), (.fld 1 (.tmp 7)), (.some (107, .true))⟩, ⟨(.some 109), (.load .false 1 (.tmp 108)), (.some (107, .true))⟩, ⟨(.some 110), (.un .not (.tmp 109)), (.some (107, .true))⟩, ⟨(.some 111), (.pick (.tmp 107) (.tmp 110) (.const (.bool .false))), .none⟩, ⟨(.some 6), (.mov (.tmp 111)), .none⟩]
def c9_1 : PCode := (.keep [2, 7, 8, 9] [(64, .id 64), (192, .id 192)] [] (.seq (.regD p9_42 [(1, 3)]) .ret))
def c9_5 : PCode := (.keep [2, 7, 8, 9, 12] [(64, .id 64), (192, .id 192), (40, .id 40), (32, .id 32)] [] (.seq (.seq (.reg p9_36) (.block 6 (.loop c9_4))) c9_1))
def c9_11 : PCode := (.keep [2, 3, 4, 7, 8, 9] [(32, .id 32), (40, .id 40), (64, .id 64), (192, .id 192)] [] (.seq (.reg p9_26) (.seq (.seq (.regD p9_27 [(1, 3), (1, 4)]) (.block 2 (.loop c9_10))) c9_5)))
def c9_15 : PCode := (.keep [2, 3, 4, 7, 8, 9] [(32, .id 32), (40, .id 40), (64, .id 64), (192, .id 192)] [] (.seq (.seq (.reg p9_20) (.block 0 (.loop c9_14))) c9_11))
def c9_b : PCode := (.seq (.reg p9_16) (.seq (.reg p9_17) (.seq (.seq (.reg p9_18) (.cond (.tmp 33) (.seq (.reg p9_19) .ret) .skip)) c9_15)))
def c9 : FCode := ⟨112, c9_b, [(.tmp 6)], some ([6], [], []), false⟩
theorem c9_ok : compF Go.Proofs.Tryd.prog [54, 67, 68, 200069, 69, 71, 91, 96] 9 = some (eraseF c9) := by kernel_rfl
def codes : Nat → Option FCode
  | 9 => some c9
  | 15 => some c15
  | 24 => some c24
  | 25 => some c25
  | 26 => some c26
  | 27 => some c27
  | 28 => some c28
  | 29 => some c29
  | 30 => some c30
  | 31 => some c31
  | 32 => some c32
  | 34 => some c34
  | 53 => some c53
  | 54 => some c54
  | 67 => some c67
  | 68 => some c68
  | 69 => some c69
  | 71 => some c71
  | _ => none
theorem codes_ok : ∀ f fc, codes f = some fc → compF Go.Proofs.Tryd.prog [54, 67, 68, 200069, 69, 71, 91, 96] f = some (eraseF fc) := by
  intro f fc h
  unfold codes at h
  split at h
  · cases h; exact c9_ok
  · cases h; exact c15_ok
  · cases h; exact c24_ok
  · cases h; exact c25_ok
  · cases h; exact c26_ok
  · cases h; exact c27_ok
  · cases h; exact c28_ok
  · cases h; exact c29_ok
  · cases h; exact c30_ok
  · cases h; exact c31_ok
  · cases h; exact c32_ok
  · cases h; exact c34_ok
  · cases h; exact c53_ok
  · cases h; exact c54_ok
  · cases h; exact c67_ok
  · cases h; exact c68_ok
  · cases h; exact c69_ok
  · cases h; exact c71_ok
  · cases h
theorem codes9 : codes 9 = some c9 := rfl
theorem codes15 : codes 15 = some c15 := rfl
theorem codes24 : codes 24 = some c24 := rfl
theorem codes25 : codes 25 = some c25 := rfl
theorem codes26 : codes 26 = some c26 := rfl
theorem codes27 : codes 27 = some c27 := rfl
theorem codes28 : codes 28 = some c28 := rfl
theorem codes29 : codes 29 = some c29 := rfl
theorem codes30 : codes 30 = some c30 := rfl
theorem codes31 : codes 31 = some c31 := rfl
theorem codes32 : codes 32 = some c32 := rfl
theorem codes34 : codes 34 = some c34 := rfl
theorem codes53 : codes 53 = some c53 := rfl
theorem codes54 : codes 54 = some c54 := rfl
theorem codes67 : codes 67 = some c67 := rfl
theorem codes68 : codes 68 = some c68 := rfl
theorem codes69 : codes 69 = some c69 := rfl
theorem codes71 : codes 71 = some c71 := rfl
noncomputable def libs : List (Nat × (List PV → Option PV)) := [(20, osiS libRepeat), (21, ossS libTrimRight), (70, osuI libLastIndexByte), (33, oSsS libJoin)]
noncomputable abbrev baseL : Orc := libO libs
end Go.Proofs.YtanhpibphkblnaaDoor.Pm
