/- The small machine's codes of some functions. Printed by dec.py. -/
import Derived.Test.YthblnlmpfgfgcaaDoorLibB
import Derived.Test.YthblnlmpfgfgcaaDoorLib1
import Derived.Test.YthblnlmpfgfgcaaDoorProg
namespace Go.Proofs.YthblnlmpfgfgcaaDoor.Pm
set_option maxRecDepth 1000000
set_option maxHeartbeats 20000000
set_option linter.unusedVariables false
structure GKeys where
  Levels : Nat → UInt8
  Chars : Nat → UInt8
structure GMask where
  Bits : Nat → Int
structure GEditor where
  Buf : List UInt8
  Quote : Bool
structure Gtypist where
  buf : List UInt8
  quote : Bool
  k : GKeys
  m : GMask
  lines : List (List UInt8)
  echo : List UInt8
def bx_Gtypist (x : Gtypist) (c3 c2 c1 : PV) : List PV := (c3 :: ((.d (.bool x.quote)) :: ((eU8.row 19 x.k.Levels) ++ ((eU8.row 19 x.k.Chars) ++ (((eInt .u64).row 4 x.m.Bits) ++ (c2 :: (c1 :: [])))))))
def p16_4 : List PO := [⟨(.some 0), (.alloc [(38, (.int .u8 0))]), .none⟩]
def p16_5 : List PO := [⟨(.some 1), (.alloc [(38, (.int .u8 0))]), .none⟩]
def p16_6 : List PO := [⟨(.some 4), (.bsl 3 1 5 [(5, (.int .i64 0))] [(0, (1, (.const (.int .i64 10)))), (1, (1, (.const (.int .i64 11)))), (2, (1, (.const (.int .i64 12)))), (3, (1, (.const (.int .i64 13)))), (4, (1, (.const (.int .i64 14))))]), .none⟩, ⟨(.some 5), (.len .false (.tmp 4)), .none⟩, ⟨(.some 6), (.mov (.const (.int .i64 0))), .none⟩]
def p16_7 : List PO := [⟨(.some 7), (.cmpI .lss (.tmp 6) (.tmp 5)), .none⟩]
def p16_8 : List PO := [⟨(.some 8), (.mov (.tmp 6)), .none⟩, ⟨(.some 9), (.ixS 3 1 (.tmp 4) (.tmp 6)), .none⟩, ⟨(.some 10), (.load .false 1 (.tmp 9)), .none⟩, ⟨(.some 2), (.mov (.tmp 8)), .none⟩, ⟨(.some 3), (.mov (.tmp 10)), .none⟩]
def p16_9 : List PO := [⟨(.some 11), (.mov (.tmp 3)), .none⟩, ⟨(.some 12), (.mov (.tmp 3)), .none⟩, ⟨(.some 13), (.mov (.tmp 2)), .none⟩, ⟨(.some 14), (.ixStr (.const (.string ⟨#[127, 21, 23, 18, 22]⟩)) (.tmp 13)), .none⟩, ⟨(.some 15), (.fld 0 (.tmp 1)), .none⟩, ⟨(.some 16), (.ixA 19 1 (.tmp 15) (.tmp 11)), .none⟩, ⟨.none, (.store 1 (.tmp 16) (.const (.int .u8 2))), .none⟩, ⟨(.some 17), (.fld 19 (.tmp 1)), .none⟩, ⟨(.some 18), (.ixA 19 1 (.tmp 17) (.tmp 12)), .none⟩, ⟨.none, (.store 1 (.tmp 18) (.tmp 14)), .none⟩]
def p16_10 : List PO := [⟨(.some 19), (.arI .add (.tmp 6) (.const (.int .i64 1))), .none⟩, ⟨(.some 6), (.mov (.tmp 19)), .none⟩]
def c16_1 : PCode := (.keep [0, 1, 4, 5, 6] [(8, .id 8), (16, .id 16), (40, .id 40)] [] (.seq (.block 1 (.seq (.reg p16_8) (.regD p16_9 []))) (.reg p16_10)))
def c16_2 : PCode := (.keep [0, 1, 4, 5, 6, 7] [(8, .id 8), (16, .id 16), (40, .id 40)] [] (.seq (.cond (.tmp 7) .skip (.keep [0, 1] [(8, .id 8), (16, .id 16)] [] (.exit 0))) c16_1))
def c16_3 : PCode := (.keep [0, 1, 4, 5, 6] [(8, .id 8), (16, .id 16), (40, .id 40)] [] (.seq (.reg p16_7) c16_2))
def p16_11 : List PO := [⟨(.some 20), (.load .true 38 (.tmp 1)), .none⟩, ⟨.none, (.store 38 (.tmp 0) (.tmp 20)), .none⟩]
def c16_b : PCode := (.seq (.reg p16_4) (.seq (.reg p16_5) (.seq (.seq (.reg p16_6) (.block 0 (.loop c16_3))) (.seq (.reg p16_11) .ret))))
def c16 : FCode := ⟨21, c16_b, [(.cell 0 .true 38)], some ([0], [(8, .id 8)], []), false⟩
theorem c16_ok : compF Go.Proofs.Tryd.prog [7, 9, 18, 20, 23, 24, 26, 27, 200028, 28, 32, 34, 35, 36, 37, 47, 48, 58, 89] 16 = some (eraseF c16) := by kernel_rfl
def p6_1 : List PO := [⟨(.some 1), (.box 2 (.tmp 0)), .none⟩, ⟨(.some 2), (.mov (.const (.int .i64 0))), .none⟩]
def p6_2 : List PO := [⟨(.some 3), (.fld 0 (.tmp 1)), .none⟩, ⟨(.some 4), (.load .false 1 (.tmp 3)), .none⟩, ⟨(.some 5), (.len .true (.tmp 4)), .none⟩, ⟨(.some 6), (.cmpI .geq (.tmp 5) (.const (.int .i64 1024))), .none⟩]
def p6_3 : List PO := [⟨(.some 2), (.mov (.const (.int .i64 2))), .none⟩]
def p6_4 : List PO := [⟨(.some 2), (.mov (.const (.int .i64 0))), .none⟩]
def c6_b : PCode := (.seq (.reg p6_1) (.seq (.seq (.reg p6_2) (.cond (.tmp 6) (.seq (.reg p6_3) .ret) .skip)) (.seq (.reg p6_4) .ret)))
def c6 : FCode := ⟨7, c6_b, [(.tmp 2)], some ([2], [], []), false⟩
theorem c6_ok : compF Go.Proofs.Tryd.prog [7, 9, 18, 20, 23, 24, 26, 27, 200028, 28, 32, 34, 35, 36, 37, 47, 48, 58, 89] 6 = some (eraseF c6) := by kernel_rfl
def p19_5 : List PO := [⟨(.some 1), (.box 38 (.tmp 0)), .none⟩, ⟨(.some 2), (.mov (.const (.int .i64 0))), .none⟩]
def p19_6 : List PO := [⟨(.some 5), (.fld 0 (.tmp 1)), .none⟩, ⟨(.some 6), (.load .true 19 (.tmp 5)), .none⟩, ⟨(.some 7), (.mov (.const (.int .i64 0))), .none⟩]
def p19_7 : List PO := [⟨(.some 8), (.cmpI .lss (.tmp 7) (.const (.int .i64 19))), .none⟩]
def p19_8 : List PO := [⟨(.some 9), (.ixV .false 19 1 (.tmp 6) (.tmp 7)), .none⟩, ⟨(.some 4), (.mov (.tmp 9)), .none⟩]
def p19_9 : List PO := [⟨(.some 10), (.mov (.tmp 4)), .none⟩, ⟨(.some 11), (.cmpI .gtr (.tmp 10) (.const (.int .u8 2))), .none⟩]
def p19_10 : List PO := [⟨(.some 2), (.mov (.const (.int .i64 4))), .none⟩]
def p19_11 : List PO := [⟨(.some 12), (.arI .add (.tmp 7) (.const (.int .i64 1))), .none⟩, ⟨(.some 7), (.mov (.tmp 12)), .none⟩]
def c19_2 : PCode := (.keep [1, 6, 7] [(16, .id 16)] [] (.seq (.block 1 (.seq (.reg p19_8) (.seq (.reg p19_9) (.cond (.tmp 11) (.seq (.reg p19_10) .ret) .skip)))) (.reg p19_11)))
def c19_3 : PCode := (.keep [1, 6, 7, 8] [(16, .id 16)] [] (.seq (.cond (.tmp 8) .skip (.keep [1] [(16, .id 16)] [] (.exit 0))) c19_2))
def c19_4 : PCode := (.keep [1, 6, 7] [(16, .id 16)] [] (.seq (.reg p19_7) c19_3))
def p19_12 : List PO := [⟨(.some 13), (.fld 0 (.tmp 1)), .none⟩, ⟨(.some 14), (.ixA 19 1 (.tmp 13) (.const (.int .i64 0))), .none⟩, ⟨(.some 15), (.load .false 1 (.tmp 14)), .none⟩, ⟨(.some 16), (.cmpI .neq (.tmp 15) (.const (.int .u8 0))), .none⟩, ⟨(.some 17), (.mov (.tmp 16)), .none⟩, ⟨(.some 18), (.fld 19 (.tmp 1)), (.some (17, .false))⟩, ⟨(.some 19), (.ixA 19 1 (.tmp 18) (.const (.int .i64 0))), (.some (17, .false))⟩, ⟨(.some 20), (.load .false 1 (.tmp 19)), (.some (17, .false))⟩, ⟨(.some 21), (.cmpI .neq (.tmp 20) (.const (.int .u8 0))), (.some (17, .false))⟩, ⟨(.some 22), (.pick (.tmp 17) (.const (.bool .true)) (.tmp 21)), .none⟩]
def p19_13 : List PO := [⟨(.some 2), (.mov (.const (.int .i64 4))), .none⟩]
def p19_14 : List PO := [⟨(.some 2), (.mov (.const (.int .i64 0))), .none⟩]
def c19_1 : PCode := (.keep [1] [(16, .id 16)] [] (.seq (.seq (.reg p19_12) (.cond (.tmp 22) (.seq (.reg p19_13) .ret) .skip)) (.seq (.reg p19_14) .ret)))
def c19_b : PCode := (.seq (.reg p19_5) (.seq (.seq (.reg p19_6) (.block 0 (.loop c19_4))) c19_1))
def c19 : FCode := ⟨23, c19_b, [(.tmp 2)], some ([2], [], []), false⟩
theorem c19_ok : compF Go.Proofs.Tryd.prog [7, 9, 18, 20, 23, 24, 26, 27, 200028, 28, 32, 34, 35, 36, 37, 47, 48, 58, 89] 19 = some (eraseF c19) := by kernel_rfl
def p32_1 : List PO := [⟨(.some 2), (.mov (.tmp 0)), .none⟩, ⟨(.some 3), (.mov (.tmp 0)), .none⟩, ⟨(.some 4), (.nilC (.tmp 3)), .none⟩, ⟨(.some 5), (.fld 44 (.tmp 4)), .none⟩, ⟨(.some 6), (.load .false 1 (.tmp 5)), .none⟩, ⟨(.some 7), (.mov (.tmp 0)), .none⟩, ⟨(.some 8), (.nilC (.tmp 7)), .none⟩, ⟨(.some 9), (.fld 0 (.tmp 8)), .none⟩, ⟨(.some 10), (.load .false 1 (.tmp 9)), .none⟩, ⟨(.some 11), (.cvBS (.tmp 10)), .none⟩, ⟨(.some 12), (.bsl 9 1 1 [(1, (.string ⟨#[]⟩))] [(0, (1, (.tmp 11)))]), .none⟩, ⟨(.some 13), (.app 9 1 16 (.tmp 6) (.tmp 12)), .none⟩, ⟨(.some 14), (.nilC (.tmp 2)), .none⟩, ⟨(.some 15), (.fld 44 (.tmp 14)), .none⟩, ⟨.none, (.store 1 (.tmp 15) (.tmp 13)), .none⟩]
def p32_2 : List PO := [⟨(.some 16), (.mov (.tmp 0)), .none⟩, ⟨(.some 17), (.nilC (.tmp 16)), .none⟩, ⟨(.some 18), (.fld 0 (.tmp 17)), .none⟩, ⟨.none, (.store 1 (.tmp 18) (.const (.slice .none 0 0))), .none⟩]
def c32_b : PCode := (.seq (.regD p32_1 [(4, 10)]) (.reg p32_2))
def c32 : FCode := ⟨19, c32_b, [], some ([1000001, 1000002, 1000003], [(0, .id 0), (2, .id 2), (3, .id 3), (1, .id 1)], []), false⟩
theorem c32_ok : compF Go.Proofs.Tryd.prog [7, 9, 18, 20, 23, 24, 26, 27, 200028, 28, 32, 34, 35, 36, 37, 47, 48, 58, 89] 32 = some (eraseF c32) := by kernel_rfl
def p26_1 : List PO := [⟨(.some 4), (.mov (.const (.bool .false))), .none⟩]
def p26_2 : List PO := [⟨(.some 5), (.mov (.tmp 0)), .none⟩, ⟨(.some 6), (.mov (.tmp 0)), .none⟩, ⟨(.some 7), (.mov (.tmp 0)), .none⟩, ⟨(.some 8), (.nilC (.tmp 7)), .none⟩, ⟨(.some 9), (.fld 0 (.tmp 8)), .none⟩, ⟨(.some 10), (.load .false 1 (.tmp 9)), .none⟩, ⟨(.some 11), (.mov (.tmp 1)), .none⟩, ⟨(.some 12), (.bsl 5 1 1 [(1, (.int .u8 0))] [(0, (1, (.tmp 11)))]), .none⟩, ⟨(.some 13), (.app 5 1 1 (.tmp 10) (.tmp 12)), .none⟩, ⟨(.some 14), (.mov (.tmp 0)), .none⟩, ⟨(.some 15), (.nilC (.tmp 14)), .none⟩, ⟨(.some 16), (.fld 45 (.tmp 15)), .none⟩, ⟨(.some 17), (.load .false 1 (.tmp 16)), .none⟩, ⟨(.some 18), (.mov (.tmp 1)), .none⟩, ⟨(.some 19), (.bsl 5 1 1 [(1, (.int .u8 0))] [(0, (1, (.tmp 18)))]), .none⟩, ⟨(.some 20), (.app 5 1 1 (.tmp 17) (.tmp 19)), .none⟩, ⟨(.some 21), (.nilC (.tmp 5)), .none⟩, ⟨(.some 22), (.fld 0 (.tmp 21)), .none⟩, ⟨.none, (.store 1 (.tmp 22) (.tmp 13)), .none⟩, ⟨(.some 23), (.nilC (.tmp 6)), .none⟩, ⟨(.some 24), (.fld 45 (.tmp 23)), .none⟩, ⟨.none, (.store 1 (.tmp 24) (.tmp 20)), .none⟩]
def p26_3 : List PO := [⟨(.some 25), (.mov (.tmp 0)), .none⟩, ⟨(.some 26), (.nilC (.tmp 25)), .none⟩, ⟨(.some 27), (.fld 0 (.tmp 26)), .none⟩, ⟨(.some 28), (.load .false 1 (.tmp 27)), .none⟩, ⟨(.some 29), (.len .false (.tmp 28)), .none⟩, ⟨(.some 30), (.cmpI .lss (.tmp 29) (.const (.int .i64 1024))), .none⟩]
def p26_4 : List PO := [⟨(.some 4), (.mov (.const (.bool .false))), .none⟩]
def p26_5 : List PO := [⟨(.some 31), (.mov (.tmp 0)), .none⟩, ⟨(.some 32), (.callr 32 [(.tmp 31)]), .none⟩]
def p26_6 : List PO := [⟨(.some 4), (.mov (.const (.bool .true))), .none⟩]
def c26_7 : PCode := (.seq (.regD p26_2 [(5, 7), (7, 12), (8, 12), (5, 14), (7, 14), (8, 14), (12, 14)]) (.seq (.seq (.reg p26_3) (.cond (.tmp 30) (.seq (.reg p26_4) .ret) .skip)) (.seq (.reg p26_5) (.seq (.reg p26_6) .ret))))
def c26_b : PCode := (.seq (.reg p26_1) c26_7)
def c26 : FCode := ⟨33, c26_b, [(.tmp 4)], some ([4, 1000001, 1000002, 1000003], [(0, .id 0), (1, .id 1), (2, .id 2), (3, .id 3)], [.cell 0 0 1 5 1]), false⟩
theorem c26_ok : compF Go.Proofs.Tryd.prog [7, 9, 18, 20, 23, 24, 26, 27, 200028, 28, 32, 34, 35, 36, 37, 47, 48, 58, 89] 26 = some (eraseF c26) := by kernel_rfl
def p27_1 : List PO := [⟨(.some 6), (.mov (.const (.bool .false))), .none⟩]
def p27_2 : List PO := [⟨(.some 7), (.mov (.tmp 0)), .none⟩, ⟨(.some 8), (.mov (.tmp 2)), .none⟩, ⟨(.some 9), (.nilC (.tmp 7)), .none⟩, ⟨(.some 10), (.fld 2 (.tmp 9)), .none⟩, ⟨(.some 11), (.fld 0 (.tmp 10)), .none⟩, ⟨(.some 12), (.ixA 19 1 (.tmp 11) (.tmp 8)), .none⟩, ⟨(.some 13), (.load .false 1 (.tmp 12)), .none⟩, ⟨(.some 14), (.cmpI .neq (.tmp 13) (.const (.int .u8 0))), .none⟩, ⟨(.some 15), (.mov (.tmp 14)), .none⟩, ⟨(.some 16), (.mov (.tmp 0)), (.some (15, .true))⟩, ⟨(.some 17), (.mov (.tmp 2)), (.some (15, .true))⟩, ⟨(.some 18), (.nilC (.tmp 16)), (.some (15, .true))⟩, ⟨(.some 19), (.fld 2 (.tmp 18)), (.some (15, .true))⟩, ⟨(.some 20), (.fld 19 (.tmp 19)), (.some (15, .true))⟩, ⟨(.some 21), (.ixA 19 1 (.tmp 20) (.tmp 17)), (.some (15, .true))⟩, ⟨(.some 22), (.load .false 1 (.tmp 21)), (.some (15, .true))⟩, ⟨(.some 23), (.mov (.tmp 1)), (.some (15, .true))⟩, ⟨(.some 24), (.cmpI .eql (.tmp 22) (.tmp 23)), (.some (15, .true))⟩, ⟨(.some 25), (.pick (.tmp 15) (.tmp 24) (.const (.bool .false))), .none⟩, ⟨(.some 6), (.mov (.tmp 25)), .none⟩]
def c27_b : PCode := (.seq (.reg p27_1) (.seq (.reg p27_2) .ret))
def c27 : FCode := ⟨26, c27_b, [(.tmp 6)], some ([6, 1000001, 1000002, 1000003], [(0, .id 0), (1, .id 1), (2, .id 2), (3, .id 3)], []), false⟩
theorem c27_ok : compF Go.Proofs.Tryd.prog [7, 9, 18, 20, 23, 24, 26, 27, 200028, 28, 32, 34, 35, 36, 37, 47, 48, 58, 89] 27 = some (eraseF c27) := by kernel_rfl
def p28_1 : List PO := [⟨(.some 4), (.mov (.tmp 0)), .none⟩, ⟨(.some 5), (.mov (.tmp 0)), .none⟩, ⟨(.some 6), (.nilC (.tmp 5)), .none⟩, ⟨(.some 7), (.fld 0 (.tmp 6)), .none⟩, ⟨(.some 8), (.load .false 1 (.tmp 7)), .none⟩, ⟨(.some 9), (.mov (.tmp 0)), .none⟩, ⟨(.some 10), (.nilC (.tmp 9)), .none⟩, ⟨(.some 11), (.fld 0 (.tmp 10)), .none⟩, ⟨(.some 12), (.load .false 1 (.tmp 11)), .none⟩, ⟨(.some 13), (.len .false (.tmp 12)), .none⟩, ⟨(.some 14), (.mov (.tmp 1)), .none⟩, ⟨(.some 15), (.arI .sub (.tmp 13) (.tmp 14)), .none⟩, ⟨(.some 16), (.slC 5 1 (.tmp 8) .none (.some (.tmp 15))), .none⟩, ⟨(.some 17), (.nilC (.tmp 4)), .none⟩, ⟨(.some 18), (.fld 0 (.tmp 17)), .none⟩, ⟨.none, (.store 1 (.tmp 18) (.tmp 16)), .none⟩]
def p28_2 : List PO := [⟨(.some 19), (.mov (.tmp 0)), .none⟩, ⟨(.some 20), (.mov (.tmp 0)), .none⟩, ⟨(.some 21), (.nilC (.tmp 20)), .none⟩, ⟨(.some 22), (.fld 45 (.tmp 21)), .none⟩, ⟨(.some 23), (.load .false 1 (.tmp 22)), .none⟩, ⟨(.some 24), (.mov (.tmp 1)), .none⟩, ⟨(.some 25), (.call 38 [(.const (.string ⟨#[8, 32, 8]⟩)), (.tmp 24)]), .none⟩, ⟨(.some 26), (.app 5 1 1 (.tmp 23) (.tmp 25)), .none⟩, ⟨(.some 27), (.nilC (.tmp 19)), .none⟩, ⟨(.some 28), (.fld 45 (.tmp 27)), .none⟩, ⟨.none, (.store 1 (.tmp 28) (.tmp 26)), .none⟩]
def c28_b : PCode := (.seq (.regD p28_1 []) (.regD p28_2 [(4, 6)]))
def c28 : FCode := ⟨29, c28_b, [], some ([1000001, 1000002, 1000003], [(0, .id 0), (1, .id 1), (2, .id 2), (3, .id 3)], []), false⟩
theorem c28_ok : compF Go.Proofs.Tryd.prog [7, 9, 18, 20, 23, 24, 26, 27, 200028, 28, 32, 34, 35, 36, 37, 47, 48, 58, 89] 28 = some (eraseF c28) := by kernel_rfl
def p31_1 : List PO := [⟨(.some 2), (.box 4 (.tmp 0)), .none⟩, ⟨(.some 4), (.mov (.const (.bool .false))), .none⟩]
def p31_2 : List PO := [⟨(.some 5), (.mov (.tmp 1)), .none⟩, ⟨(.some 6), (.arI .quo (.tmp 5) (.const (.int .u8 64))), .none⟩, ⟨(.some 7), (.fld 0 (.tmp 2)), .none⟩, ⟨(.some 8), (.ixA 4 1 (.tmp 7) (.tmp 6)), .none⟩, ⟨(.some 9), (.load .false 1 (.tmp 8)), .none⟩, ⟨(.some 10), (.mov (.tmp 1)), .none⟩, ⟨(.some 11), (.arI .rem (.tmp 10) (.const (.int .u8 64))), .none⟩, ⟨(.some 12), (.sh .shr (.tmp 9) (.tmp 11)), .none⟩, ⟨(.some 13), (.arI .and (.tmp 12) (.const (.int .u64 1))), .none⟩, ⟨(.some 14), (.cmpI .eql (.tmp 13) (.const (.int .u64 1))), .none⟩, ⟨(.some 4), (.mov (.tmp 14)), .none⟩]
def c31_b : PCode := (.seq (.reg p31_1) (.seq (.reg p31_2) .ret))
def c31 : FCode := ⟨15, c31_b, [(.tmp 4)], some ([4], [], []), false⟩
theorem c31_ok : compF Go.Proofs.Tryd.prog [7, 9, 18, 20, 23, 24, 26, 27, 200028, 28, 32, 34, 35, 36, 37, 47, 48, 58, 89] 31 = some (eraseF c31) := by kernel_rfl
def p20_2 : List PO := [⟨(.some 9), (.mov (.tmp 0)), .none⟩, ⟨(.some 10), (.nilC (.tmp 9)), .none⟩, ⟨(.some 11), (.fld 1 (.tmp 10)), .none⟩, ⟨(.some 12), (.load .false 1 (.tmp 11)), .none⟩, ⟨(.some 8), (.mov (.tmp 12)), .none⟩]
def p20_3 : List PO := [⟨(.some 13), (.mov (.tmp 0)), .none⟩, ⟨(.some 14), (.nilC (.tmp 13)), .none⟩, ⟨(.some 15), (.fld 1 (.tmp 14)), .none⟩, ⟨.none, (.store 1 (.tmp 15) (.const (.bool .false))), .none⟩]
def p20_4 : List PO := [⟨(.some 16), (.mov (.tmp 0)), .none⟩, ⟨(.some 17), (.mov (.tmp 1)), .none⟩, ⟨(.some 18), (.callr 26 [(.tmp 16), (.tmp 17)]), .none⟩]
def p20_5 : List PO := [⟨(.some 20), (.mov (.tmp 0)), .none⟩, ⟨(.some 21), (.mov (.tmp 1)), .none⟩, ⟨(.some 22), (.callr 27 [(.tmp 20), (.tmp 21), (.const (.int .i64 14))]), .none⟩, ⟨(.some 19), (.mov (.tmp 22)), .none⟩]
def p20_6 : List PO := [⟨(.some 23), (.mov (.tmp 0)), .none⟩, ⟨(.some 24), (.nilC (.tmp 23)), .none⟩, ⟨(.some 25), (.fld 1 (.tmp 24)), .none⟩, ⟨.none, (.store 1 (.tmp 25) (.const (.bool .true))), .none⟩]
def p20_7 : List PO := [⟨(.some 27), (.mov (.tmp 0)), .none⟩, ⟨(.some 28), (.mov (.tmp 1)), .none⟩, ⟨(.some 29), (.callr 27 [(.tmp 27), (.tmp 28), (.const (.int .i64 10))]), .none⟩, ⟨(.some 26), (.mov (.tmp 29)), .none⟩]
def p20_8 : List PO := [⟨(.some 30), (.mov (.tmp 0)), .none⟩, ⟨(.some 31), (.mov (.tmp 0)), .none⟩, ⟨(.some 32), (.nilC (.tmp 31)), .none⟩, ⟨(.some 33), (.fld 0 (.tmp 32)), .none⟩, ⟨(.some 34), (.load .false 1 (.tmp 33)), .none⟩, ⟨(.some 35), (.len .false (.tmp 34)), .none⟩, ⟨(.some 36), (.mn [(.const (.int .i64 1)), (.tmp 35)]), .none⟩, ⟨(.some 37), (.callr 28 [(.tmp 30), (.tmp 36)]), .none⟩]
def p20_9 : List PO := [⟨(.some 39), (.mov (.tmp 0)), .none⟩, ⟨(.some 40), (.mov (.tmp 1)), .none⟩, ⟨(.some 41), (.callr 27 [(.tmp 39), (.tmp 40), (.const (.int .i64 12))]), .none⟩, ⟨(.some 38), (.mov (.tmp 41)), .none⟩]
def p20_10 : List PO := [⟨(.some 42), (.mov (.tmp 0)), .none⟩, ⟨(.some 43), (.nilC (.tmp 42)), .none⟩, ⟨(.some 44), (.fld 0 (.tmp 43)), .none⟩, ⟨(.some 45), (.load .false 1 (.tmp 44)), .none⟩, ⟨(.some 46), (.cvBS (.tmp 45)), .none⟩, ⟨(.some 47), (.call 29 [(.tmp 46), (.const (.string ⟨#[32]⟩))]), .none⟩, ⟨(.some 4), (.mov (.tmp 47)), .none⟩]
def p20_11 : List PO := [⟨(.some 48), (.mov (.tmp 0)), .none⟩, ⟨(.some 49), (.mov (.tmp 0)), .none⟩, ⟨(.some 50), (.nilC (.tmp 49)), .none⟩, ⟨(.some 51), (.fld 0 (.tmp 50)), .none⟩, ⟨(.some 52), (.load .false 1 (.tmp 51)), .none⟩, ⟨(.some 53), (.len .false (.tmp 52)), .none⟩, ⟨(.some 54), (.mov (.tmp 4)), .none⟩, ⟨(.some 55), (.call 30 [(.tmp 54), (.const (.int .u8 32))]), .none⟩, ⟨(.some 56), (.arI .sub (.tmp 53) (.tmp 55)), .none⟩, ⟨(.some 57), (.arI .sub (.tmp 56) (.const (.int .i64 1))), .none⟩, ⟨(.some 58), (.callr 28 [(.tmp 48), (.tmp 57)]), .none⟩]
def p20_12 : List PO := [⟨(.some 60), (.mov (.tmp 0)), .none⟩, ⟨(.some 61), (.mov (.tmp 1)), .none⟩, ⟨(.some 62), (.callr 27 [(.tmp 60), (.tmp 61), (.const (.int .i64 11))]), .none⟩, ⟨(.some 59), (.mov (.tmp 62)), .none⟩]
def p20_13 : List PO := [⟨(.some 63), (.mov (.tmp 0)), .none⟩, ⟨(.some 64), (.mov (.tmp 0)), .none⟩, ⟨(.some 65), (.nilC (.tmp 64)), .none⟩, ⟨(.some 66), (.fld 0 (.tmp 65)), .none⟩, ⟨(.some 67), (.load .false 1 (.tmp 66)), .none⟩, ⟨(.some 68), (.len .false (.tmp 67)), .none⟩, ⟨(.some 69), (.callr 28 [(.tmp 63), (.tmp 68)]), .none⟩]
def p20_14 : List PO := [⟨(.some 71), (.mov (.tmp 0)), .none⟩, ⟨(.some 72), (.mov (.tmp 1)), .none⟩, ⟨(.some 73), (.callr 27 [(.tmp 71), (.tmp 72), (.const (.int .i64 13))]), .none⟩, ⟨(.some 70), (.mov (.tmp 73)), .none⟩]
def p20_15 : List PO := [⟨(.some 74), (.mov (.tmp 0)), .none⟩, ⟨(.some 75), (.mov (.tmp 0)), .none⟩, ⟨(.some 76), (.nilC (.tmp 75)), .none⟩, ⟨(.some 77), (.fld 45 (.tmp 76)), .none⟩, ⟨(.some 78), (.load .false 1 (.tmp 77)), .none⟩, ⟨(.some 79), (.bsl 5 1 2 [(2, (.int .u8 0))] [(0, (1, (.const (.int .u8 13)))), (1, (1, (.const (.int .u8 10))))]), .none⟩, ⟨(.some 80), (.app 5 1 1 (.tmp 78) (.tmp 79)), .none⟩, ⟨(.some 81), (.mov (.tmp 0)), .none⟩, ⟨(.some 82), (.nilC (.tmp 81)), .none⟩, ⟨(.some 83), (.fld 0 (.tmp 82)), .none⟩, ⟨(.some 84), (.load .false 1 (.tmp 83)), .none⟩, ⟨(.some 85), (.app 5 1 1 (.tmp 80) (.tmp 84)), .none⟩, ⟨(.some 86), (.nilC (.tmp 74)), .none⟩, ⟨(.some 87), (.fld 45 (.tmp 86)), .none⟩, ⟨.none, (.store 1 (.tmp 87) (.tmp 85)), .none⟩]
def p20_16 : List PO := [⟨(.some 89), (.mov (.tmp 1)), .none⟩, ⟨(.some 90), (.cmpI .eql (.tmp 89) (.const (.int .u8 13))), .none⟩, ⟨(.some 91), (.mov (.tmp 90)), .none⟩, ⟨(.some 92), (.mov (.tmp 1)), (.some (91, .false))⟩, ⟨(.some 93), (.cmpI .eql (.tmp 92) (.const (.int .u8 10))), (.some (91, .false))⟩, ⟨(.some 94), (.pick (.tmp 91) (.const (.bool .true)) (.tmp 93)), .none⟩, ⟨(.some 95), (.mov (.tmp 94)), .none⟩, ⟨(.some 96), (.mov (.tmp 0)), (.some (95, .false))⟩, ⟨(.some 97), (.mov (.tmp 1)), (.some (95, .false))⟩, ⟨(.some 98), (.callr 27 [(.tmp 96), (.tmp 97), (.const (.int .i64 17))]), (.some (95, .false))⟩, ⟨(.some 99), (.pick (.tmp 95) (.const (.bool .true)) (.tmp 98)), .none⟩, ⟨(.some 100), (.mov (.tmp 99)), .none⟩, ⟨(.some 101), (.mov (.tmp 0)), (.some (100, .false))⟩, ⟨(.some 102), (.mov (.tmp 1)), (.some (100, .false))⟩, ⟨(.some 103), (.callr 27 [(.tmp 101), (.tmp 102), (.const (.int .i64 18))]), (.some (100, .false))⟩, ⟨(.some 104), (.pick (.tmp 100) (.const (.bool .true)) (.tmp 103)), .none⟩, ⟨(.some 105), (.mov (.tmp 104)), .none⟩, ⟨(.some 106), (.mov (.tmp 0)), (.some (105, .false))⟩, ⟨(.some 107), (.nilC (.tmp 106)), (.some (105, .false))⟩, ⟨(.some 108), (.fld 40 (.tmp 107)), (.some (105, .false))⟩, ⟨(.some 109), (.load .true 4 (.tmp 108)), (.some (105, .false))⟩, ⟨(.some 110), (.mov (.tmp 1)), (.some (105, .false))⟩, ⟨(.some 111), (.call 31 [(.tmp 109), (.tmp 110)]), (.some (105, .false))⟩, ⟨(.some 112), (.pick (.tmp 105) (.const (.bool .true)) (.tmp 111)), .none⟩, ⟨(.some 88), (.mov (.tmp 112)), .none⟩]
def p20_17 : List PO := [⟨(.some 113), (.mov (.tmp 0)), .none⟩, ⟨(.some 114), (.mov (.tmp 1)), .none⟩, ⟨(.some 115), (.callr 26 [(.tmp 113), (.tmp 114)]), .none⟩, ⟨(.some 116), (.un .not (.tmp 115)), .none⟩]
def p20_18 : List PO := [⟨(.some 117), (.mov (.tmp 0)), .none⟩, ⟨(.some 118), (.callr 32 [(.tmp 117)]), .none⟩]
def p20_19 : List PO := [⟨(.some 5), (.mov (.tmp 0)), .none⟩, ⟨(.some 6), (.mov (.tmp 1)), .none⟩, ⟨(.some 7), (.callr 26 [(.tmp 5), (.tmp 6)]), .none⟩]
def c20_1 : PCode := (.keep [0, 1, 88, 1000001, 1000002, 1000003] [(0, .id 0), (1, .id 1), (2, .id 2), (3, .id 3)] [] (.cond (.tmp 88) (.seq (.reg p20_17) (.cond (.tmp 116) (.reg p20_18) .skip)) (.reg p20_19)))
def c20_20 : PCode := (.cond (.tmp 38) (.seq (.reg p20_10) (.regD p20_11 [(4, 7), (5, 7)])) (.seq (.reg p20_12) (.cond (.tmp 59) (.reg p20_13) (.seq (.reg p20_14) (.cond (.tmp 70) (.regD p20_15 [(4, 5), (5, 10), (6, 10)]) (.seq (.reg p20_16) c20_1))))))
def c20_21 : PCode := (.block 0 (.seq (.reg p20_2) (.cond (.tmp 8) (.seq (.reg p20_3) (.reg p20_4)) (.seq (.reg p20_5) (.cond (.tmp 19) (.reg p20_6) (.seq (.reg p20_7) (.cond (.tmp 26) (.reg p20_8) (.seq (.reg p20_9) c20_20))))))))
def c20_b : PCode := c20_21
def c20 : FCode := ⟨119, c20_b, [], some ([1000001, 1000002, 1000003], [(0, .id 0), (1, .id 1), (2, .id 2), (3, .id 3)], [.cell 0 0 1 5 1]), false⟩
theorem c20_ok : compF Go.Proofs.Tryd.prog [7, 9, 18, 20, 23, 24, 26, 27, 200028, 28, 32, 34, 35, 36, 37, 47, 48, 58, 89] 20 = some (eraseF c20) := by kernel_rfl
def p8_8 : List PO := [⟨(.some 4), (.box 2 (.tmp 0)), .none⟩, ⟨(.some 5), (.box 38 (.tmp 1)), .none⟩, ⟨(.some 6), (.box 4 (.tmp 2)), .none⟩, ⟨(.some 8), (.alloc [(1, (.string ⟨#[]⟩)), (1, (.bool .false))]), .none⟩, ⟨(.some 9), (.nilS 9 1), .none⟩, ⟨(.some 10), (.mov (.const (.string ⟨#[]⟩))), .none⟩, ⟨(.some 11), (.mov (.const (.int .i64 0))), .none⟩]
def p8_9 : List PO := [⟨(.some 16), (.load .true 2 (.tmp 4)), .none⟩, ⟨(.some 17), (.call 6 [(.tmp 16)]), .none⟩, ⟨(.some 12), (.mov (.tmp 17)), .none⟩]
def p8_10 : List PO := [⟨(.some 18), (.mov (.tmp 12)), .none⟩, ⟨(.some 19), (.cmpI .neq (.tmp 18) (.const (.int .i64 0))), .none⟩]
def p8_11 : List PO := [⟨(.some 20), (.load .true 2 (.tmp 4)), .none⟩, ⟨(.some 21), (.mov (.tmp 12)), .none⟩, ⟨.none, (.store 2 (.tmp 8) (.tmp 20)), .none⟩, ⟨(.some 9), (.nilS 9 1), .none⟩, ⟨(.some 10), (.mov (.const (.string ⟨#[]⟩))), .none⟩, ⟨(.some 11), (.mov (.tmp 21)), .none⟩]
def p8_12 : List PO := [⟨(.some 22), (.load .true 38 (.tmp 5)), .none⟩, ⟨(.some 23), (.call 19 [(.tmp 22)]), .none⟩, ⟨(.some 13), (.mov (.tmp 23)), .none⟩]
def p8_13 : List PO := [⟨(.some 24), (.mov (.tmp 13)), .none⟩, ⟨(.some 25), (.cmpI .neq (.tmp 24) (.const (.int .i64 0))), .none⟩]
def p8_14 : List PO := [⟨(.some 26), (.load .true 2 (.tmp 4)), .none⟩, ⟨(.some 27), (.mov (.tmp 13)), .none⟩, ⟨.none, (.store 2 (.tmp 8) (.tmp 26)), .none⟩, ⟨(.some 9), (.nilS 9 1), .none⟩, ⟨(.some 10), (.mov (.const (.string ⟨#[]⟩))), .none⟩, ⟨(.some 11), (.mov (.tmp 27)), .none⟩]
def p8_15 : List PO := [⟨(.some 28), (.mov (.tmp 3)), .none⟩, ⟨(.some 29), (.len .true (.tmp 28)), .none⟩, ⟨(.some 30), (.cmpI .gtr (.tmp 29) (.const (.int .i64 4096))), .none⟩]
def p8_16 : List PO := [⟨(.some 31), (.load .true 2 (.tmp 4)), .none⟩, ⟨.none, (.store 2 (.tmp 8) (.tmp 31)), .none⟩, ⟨(.some 9), (.nilS 9 1), .none⟩, ⟨(.some 10), (.mov (.const (.string ⟨#[]⟩))), .none⟩, ⟨(.some 11), (.mov (.const (.int .i64 2))), .none⟩]
def p8_17 : List PO := [⟨(.some 32), (.fld 0 (.tmp 4)), .none⟩, ⟨(.some 33), (.load .false 1 (.tmp 32)), .none⟩, ⟨(.some 34), (.cvSO 5 (.tmp 33)), .none⟩, ⟨(.some 35), (.fld 1 (.tmp 4)), .none⟩, ⟨(.some 36), (.load .false 1 (.tmp 35)), .none⟩, ⟨(.some 37), (.load .true 38 (.tmp 5)), .none⟩, ⟨(.some 38), (.load .true 4 (.tmp 6)), .none⟩, ⟨(.some 39), (.build [(1, (.slice .none 0 0)), (1, (.bool .false)), (38, (.int .u8 0)), (4, (.int .u64 0)), (1, (.slice .none 0 0)), (1, (.slice .none 0 0))] [(0, (1, (.tmp 34))), (1, (1, (.tmp 36))), (2, (38, (.tmp 37))), (40, (4, (.tmp 38)))]), .none⟩, ⟨(.some 40), (.box 46 (.tmp 39)), .none⟩, ⟨(.some 14), (.mov (.tmp 40)), .none⟩]
def p8_18 : List PO := [⟨(.some 41), (.mov (.tmp 3)), .none⟩, ⟨(.some 42), (.len .true (.tmp 41)), .none⟩, ⟨(.some 43), (.mov (.const (.int .i64 0))), .none⟩]
def p8_19 : List PO := [⟨(.some 44), (.cmpI .lss (.tmp 43) (.tmp 42)), .none⟩]
def p8_20 : List PO := [⟨(.some 45), (.mov (.tmp 43)), .none⟩, ⟨(.some 15), (.mov (.tmp 45)), .none⟩]
def p8_21 : List PO := [⟨(.some 46), (.mov (.tmp 14)), .none⟩, ⟨(.some 47), (.mov (.tmp 3)), .none⟩, ⟨(.some 48), (.mov (.tmp 15)), .none⟩, ⟨(.some 49), (.ixStr (.tmp 47) (.tmp 48)), .none⟩, ⟨(.some 50), (.callr 20 [(.tmp 46), (.tmp 49)]), .none⟩]
def p8_22 : List PO := [⟨(.some 51), (.arI .add (.tmp 43) (.const (.int .i64 1))), .none⟩, ⟨(.some 43), (.mov (.tmp 51)), .none⟩]
def c8_2 : PCode := (.keep [3, 8, 14, 42, 43] [(72, .id 72), (328, .id 328), (280, .id 280), (601, .id 601), (602, .id 602)] [] (.seq (.block 1 (.seq (.reg p8_20) (.reg p8_21))) (.reg p8_22)))
def c8_3 : PCode := (.keep [3, 8, 14, 42, 43, 44] [(72, .id 72), (328, .id 328), (280, .id 280), (601, .id 601), (602, .id 602)] [] (.seq (.cond (.tmp 44) .skip (.keep [8, 14] [(72, .id 72), (328, .id 328), (280, .id 280), (601, .id 601), (602, .id 602)] [] (.exit 0))) c8_2))
def c8_4 : PCode := (.keep [3, 8, 14, 42, 43] [(72, .id 72), (328, .id 328), (280, .id 280), (601, (.cell 328 44)), (602, (.cell 328 45))] [.cell 328 44 601 9 1, .cell 328 45 602 5 1] (.seq (.reg p8_19) c8_3))
def p8_23 : List PO := [⟨(.some 52), (.mov (.tmp 14)), .none⟩, ⟨(.some 53), (.nilC (.tmp 52)), .none⟩, ⟨(.some 54), (.fld 0 (.tmp 53)), .none⟩, ⟨(.some 55), (.load .false 1 (.tmp 54)), .none⟩, ⟨(.some 56), (.cvBS (.tmp 55)), .none⟩, ⟨(.some 57), (.mov (.tmp 14)), .none⟩, ⟨(.some 58), (.nilC (.tmp 57)), .none⟩, ⟨(.some 59), (.fld 1 (.tmp 58)), .none⟩, ⟨(.some 60), (.load .false 1 (.tmp 59)), .none⟩, ⟨(.some 61), (.build [(1, (.string ⟨#[]⟩)), (1, (.bool .false))] [(0, (1, (.tmp 56))), (1, (1, (.tmp 60)))]), .none⟩, ⟨(.some 62), (.mov (.tmp 14)), .none⟩, ⟨(.some 63), (.nilC (.tmp 62)), .none⟩, ⟨(.some 64), (.fld 44 (.tmp 63)), .none⟩, ⟨(.some 65), (.load .false 1 (.tmp 64)), .none⟩, ⟨(.some 66), (.mov (.tmp 14)), .none⟩, ⟨(.some 67), (.nilC (.tmp 66)), .none⟩, ⟨(.some 68), (.fld 45 (.tmp 67)), .none⟩, ⟨(.some 69), (.load .false 1 (.tmp 68)), .none⟩, ⟨(.some 70), (.cvBS (.tmp 69)), .none⟩, ⟨.none, (.store 2 (.tmp 8) (.tmp 61)), .none⟩, ⟨(.some 9), (.mov (.tmp 65)), .none⟩, ⟨(.some 10), (.mov (.tmp 70)), .none⟩, ⟨(.some 11), (.mov (.const (.int .i64 0))), .none⟩]
def c8_1 : PCode := (.keep [8, 14] [(72, .id 72), (328, .id 328), (280, .id 280), (601, .id 601), (602, .id 602)] [] (.seq (.regD p8_23 [(13, 19), (17, 19), (18, 19)]) .ret))
def c8_5 : PCode := (.keep [3, 4, 5, 6, 8] [(40, .id 40), (48, .id 48), (56, .id 56), (72, .id 72)] [] (.seq (.reg p8_17) (.seq (.seq (.reg p8_18) (.block 0 (.loop c8_4))) c8_1)))
def c8_6 : PCode := (.keep [3, 4, 5, 6, 8] [(40, .id 40), (48, .id 48), (56, .id 56), (72, .id 72)] [] (.seq (.seq (.reg p8_15) (.cond (.tmp 30) (.seq (.reg p8_16) .ret) .skip)) c8_5))
def c8_7 : PCode := (.keep [3, 4, 5, 6, 8] [(40, .id 40), (48, .id 48), (56, .id 56), (72, .id 72)] [] (.seq (.seq (.reg p8_12) (.seq (.reg p8_13) (.cond (.tmp 25) (.seq (.reg p8_14) .ret) .skip))) c8_6))
def c8_b : PCode := (.seq (.reg p8_8) (.seq (.seq (.reg p8_9) (.seq (.reg p8_10) (.cond (.tmp 19) (.seq (.reg p8_11) .ret) .skip))) c8_7))
def c8 : FCode := ⟨71, c8_b, [(.cell 8 .true 2), (.tmp 9), (.tmp 10), (.tmp 11)], some ([8, 9, 10, 11], [(72, .id 72), (603, (.slot 9 none))], []), false⟩
theorem c8_ok : compF Go.Proofs.Tryd.prog [7, 9, 18, 20, 23, 24, 26, 27, 200028, 28, 32, 34, 35, 36, 37, 47, 48, 58, 89] 8 = some (eraseF c8) := by kernel_rfl
def p17_5 : List PO := [⟨(.some 4), (.mov (.const (.bool .false))), .none⟩]
def p17_6 : List PO := [⟨(.some 6), (.mov (.tmp 0)), .none⟩, ⟨(.some 7), (.len .false (.tmp 6)), .none⟩, ⟨(.some 8), (.mov (.tmp 1)), .none⟩, ⟨(.some 9), (.len .false (.tmp 8)), .none⟩, ⟨(.some 10), (.cmpI .neq (.tmp 7) (.tmp 9)), .none⟩]
def p17_7 : List PO := [⟨(.some 4), (.mov (.const (.bool .false))), .none⟩]
def p17_8 : List PO := [⟨(.some 11), (.mov (.tmp 0)), .none⟩, ⟨(.some 12), (.len .false (.tmp 11)), .none⟩, ⟨(.some 13), (.mov (.const (.int .i64 0))), .none⟩]
def p17_9 : List PO := [⟨(.some 14), (.cmpI .lss (.tmp 13) (.tmp 12)), .none⟩]
def p17_10 : List PO := [⟨(.some 15), (.mov (.tmp 13)), .none⟩, ⟨(.some 5), (.mov (.tmp 15)), .none⟩]
def p17_11 : List PO := [⟨(.some 16), (.mov (.tmp 0)), .none⟩, ⟨(.some 17), (.mov (.tmp 5)), .none⟩, ⟨(.some 18), (.ixS 9 1 (.tmp 16) (.tmp 17)), .none⟩, ⟨(.some 19), (.load .false 1 (.tmp 18)), .none⟩, ⟨(.some 20), (.mov (.tmp 1)), .none⟩, ⟨(.some 21), (.mov (.tmp 5)), .none⟩, ⟨(.some 22), (.ixS 9 1 (.tmp 20) (.tmp 21)), .none⟩, ⟨(.some 23), (.load .false 1 (.tmp 22)), .none⟩, ⟨(.some 24), (.strO .neq (.tmp 19) (.tmp 23)), .none⟩]
def p17_12 : List PO := [⟨(.some 4), (.mov (.const (.bool .false))), .none⟩]
def p17_13 : List PO := [⟨(.some 25), (.arI .add (.tmp 13) (.const (.int .i64 1))), .none⟩, ⟨(.some 13), (.mov (.tmp 25)), .none⟩]
def c17_1 : PCode := (.keep [0, 1, 12, 13] [] [] (.seq (.block 1 (.seq (.reg p17_10) (.seq (.regD p17_11 []) (.cond (.tmp 24) (.seq (.reg p17_12) .ret) .skip)))) (.reg p17_13)))
def c17_2 : PCode := (.keep [0, 1, 12, 13, 14] [] [] (.seq (.cond (.tmp 14) .skip (.keep [] [] [] (.exit 0))) c17_1))
def c17_3 : PCode := (.keep [0, 1, 12, 13] [] [] (.seq (.reg p17_9) c17_2))
def p17_14 : List PO := [⟨(.some 4), (.mov (.const (.bool .true))), .none⟩]
def c17_4 : PCode := (.keep [0, 1] [] [] (.seq (.seq (.reg p17_8) (.block 0 (.loop c17_3))) (.seq (.reg p17_14) .ret)))
def c17_b : PCode := (.seq (.reg p17_5) (.seq (.seq (.reg p17_6) (.cond (.tmp 10) (.seq (.reg p17_7) .ret) .skip)) c17_4))
def c17 : FCode := ⟨26, c17_b, [(.tmp 4)], some ([4], [], []), false⟩
theorem c17_ok : compF Go.Proofs.Tryd.prog [7, 9, 18, 20, 23, 24, 26, 27, 200028, 28, 32, 34, 35, 36, 37, 47, 48, 58, 89] 17 = some (eraseF c17) := by kernel_rfl
def p5_1 : List PO := [⟨(.some 0), (.mov (.const (.bool .false))), .none⟩]
def p5_2 : List PO := [⟨(.some 6), (.build [(1, (.string ⟨#[]⟩)), (1, (.bool .false))] []), .none⟩, ⟨(.some 7), (.call 16 []), .none⟩, ⟨(.some 8), (.build [(4, (.int .u64 0))] []), .none⟩, ⟨(.some 9), (.call 8 [(.tmp 6), (.tmp 7), (.tmp 8), (.const (.string ⟨#[108, 120, 127, 115, 32, 45, 108, 13, 120]⟩))]), .none⟩, ⟨(.some 5), (.mov (.tmp 9)), .none⟩, ⟨(.some 10), (.ext (.tmp 5) 0), .none⟩, ⟨(.some 11), (.ext (.tmp 5) 1), .none⟩, ⟨(.some 12), (.ext (.tmp 5) 2), .none⟩, ⟨(.some 13), (.ext (.tmp 5) 3), .none⟩, ⟨(.some 1), (.alloc [(1, (.string ⟨#[]⟩)), (1, (.bool .false))]), .none⟩, ⟨.none, (.store 2 (.tmp 1) (.tmp 10)), .none⟩, ⟨(.some 2), (.mov (.tmp 11)), .none⟩, ⟨(.some 3), (.mov (.tmp 12)), .none⟩, ⟨(.some 4), (.mov (.tmp 13)), .none⟩]
def p5_3 : List PO := [⟨(.some 14), (.mov (.tmp 4)), .none⟩, ⟨(.some 15), (.cmpI .eql (.tmp 14) (.const (.int .i64 0))), .none⟩, ⟨(.some 16), (.mov (.tmp 15)), .none⟩, ⟨(.some 17), (.fld 0 (.tmp 1)), (.some (16, .true))⟩, ⟨(.some 18), (.load .false 1 (.tmp 17)), (.some (16, .true))⟩, ⟨(.some 19), (.strO .eql (.tmp 18) (.const (.string ⟨#[120]⟩))), (.some (16, .true))⟩, ⟨(.some 20), (.pick (.tmp 16) (.tmp 19) (.const (.bool .false))), .none⟩, ⟨(.some 21), (.mov (.tmp 20)), .none⟩, ⟨(.some 22), (.mov (.tmp 2)), (.some (21, .true))⟩, ⟨(.some 23), (.bsl 9 1 1 [(1, (.string ⟨#[]⟩))] [(0, (1, (.const (.string ⟨#[108, 115, 32, 45, 108, 13]⟩))))]), (.some (21, .true))⟩, ⟨(.some 24), (.call 17 [(.tmp 22), (.tmp 23)]), (.some (21, .true))⟩, ⟨(.some 25), (.pick (.tmp 21) (.tmp 24) (.const (.bool .false))), .none⟩, ⟨(.some 26), (.mov (.tmp 25)), .none⟩, ⟨(.some 27), (.mov (.tmp 3)), (.some (26, .true))⟩, ⟨(.some 28), (.strO .eql (.tmp 27) (.const (.string ⟨#[108, 120, 8, 32, 8, 115, 32, 45, 108, 13, 120]⟩))), (.some (26, .true))⟩, ⟨(.some 29), (.pick (.tmp 26) (.tmp 28) (.const (.bool .false))), .none⟩, ⟨(.some 0), (.mov (.tmp 29)), .none⟩]
def c5_b : PCode := (.seq (.reg p5_1) (.seq (.reg p5_2) (.seq (.reg p5_3) .ret)))
def c5 : FCode := ⟨30, c5_b, [(.tmp 0)], some ([0], [], []), false⟩
theorem c5_ok : compF Go.Proofs.Tryd.prog [7, 9, 18, 20, 23, 24, 26, 27, 200028, 28, 32, 34, 35, 36, 37, 47, 48, 58, 89] 5 = some (eraseF c5) := by kernel_rfl
def p10_5 : List PO := [⟨(.some 1), (.box 38 (.tmp 0)), .none⟩, ⟨(.some 2), (.mov (.const (.int .i64 0))), .none⟩]
def p10_6 : List PO := [⟨(.some 4), (.mov (.const (.int .i64 0))), .none⟩]
def p10_7 : List PO := [⟨(.some 5), (.cmpI .lss (.tmp 4) (.const (.int .i64 19))), .none⟩]
def p10_8 : List PO := [⟨(.some 6), (.mov (.tmp 4)), .none⟩, ⟨(.some 3), (.mov (.tmp 6)), .none⟩]
def p10_9 : List PO := [⟨(.some 7), (.mov (.tmp 3)), .none⟩, ⟨(.some 8), (.fld 0 (.tmp 1)), .none⟩, ⟨(.some 9), (.ixA 19 1 (.tmp 8) (.tmp 7)), .none⟩, ⟨(.some 10), (.load .false 1 (.tmp 9)), .none⟩, ⟨(.some 11), (.cmpI .gtr (.tmp 10) (.const (.int .u8 2))), .none⟩, ⟨(.some 12), (.mov (.tmp 11)), .none⟩, ⟨(.some 13), (.mov (.tmp 3)), (.some (12, .false))⟩, ⟨(.some 14), (.cmpI .eql (.tmp 13) (.const (.int .i64 0))), (.some (12, .false))⟩, ⟨(.some 15), (.mov (.tmp 14)), (.some (12, .false))⟩, ⟨(.some 16), (.mov (.tmp 3)), (.some (15, .true))⟩, ⟨(.some 17), (.fld 0 (.tmp 1)), (.some (15, .true))⟩, ⟨(.some 18), (.ixA 19 1 (.tmp 17) (.tmp 16)), (.some (15, .true))⟩, ⟨(.some 19), (.load .false 1 (.tmp 18)), (.some (15, .true))⟩, ⟨(.some 20), (.mov (.tmp 3)), (.some (15, .true))⟩, ⟨(.some 21), (.fld 19 (.tmp 1)), (.some (15, .true))⟩, ⟨(.some 22), (.ixA 19 1 (.tmp 21) (.tmp 20)), (.some (15, .true))⟩, ⟨(.some 23), (.load .false 1 (.tmp 22)), (.some (15, .true))⟩, ⟨(.some 24), (.arI .add (.tmp 19) (.tmp 23)), (.some (15, .true))⟩, ⟨(.some 25), (.cmpI .neq (.tmp 24) (.const (.int .u8 0))), (.some (15, .true))⟩, ⟨(.some 26), (.pick (.tmp 15) (.tmp 25) (.const (.bool .false))), (.some (12, .false))⟩, ⟨(.some 27), (.pick (.tmp 12) (.const (.bool .true)) (.tmp 26)), .none⟩]
def p10_10 : List PO := [⟨(.some 2), (.mov (.const (.int .i64 4))), .none⟩]
def p10_11 : List PO := [⟨(.some 28), (.arI .add (.tmp 4) (.const (.int .i64 1))), .none⟩, ⟨(.some 4), (.mov (.tmp 28)), .none⟩]
def c10_2 : PCode := (.keep [1, 4] [(16, .id 16)] [] (.seq (.block 1 (.seq (.reg p10_8) (.seq (.regD p10_9 []) (.cond (.tmp 27) (.seq (.reg p10_10) .ret) .skip)))) (.reg p10_11)))
def c10_3 : PCode := (.keep [1, 4, 5] [(16, .id 16)] [] (.seq (.cond (.tmp 5) .skip (.keep [1] [(16, .id 16)] [] (.exit 0))) c10_2))
def c10_4 : PCode := (.keep [1, 4] [(16, .id 16)] [] (.seq (.reg p10_7) c10_3))
def p10_12 : List PO := [⟨(.some 29), (.fld 19 (.tmp 1)), .none⟩, ⟨(.some 30), (.ixA 19 1 (.tmp 29) (.const (.int .i64 0))), .none⟩, ⟨(.some 31), (.load .false 1 (.tmp 30)), .none⟩, ⟨(.some 32), (.cmpI .gtr (.tmp 31) (.const (.int .u8 0))), .none⟩]
def p10_13 : List PO := [⟨(.some 2), (.mov (.const (.int .i64 4))), .none⟩]
def p10_14 : List PO := [⟨(.some 2), (.mov (.const (.int .i64 0))), .none⟩]
def c10_1 : PCode := (.keep [1] [(16, .id 16)] [] (.seq (.seq (.reg p10_12) (.cond (.tmp 32) (.seq (.reg p10_13) .ret) .skip)) (.seq (.reg p10_14) .ret)))
def c10_b : PCode := (.seq (.reg p10_5) (.seq (.seq (.reg p10_6) (.block 0 (.loop c10_4))) c10_1))
def c10 : FCode := ⟨33, c10_b, [(.tmp 2)], some ([2], [], []), false⟩
theorem c10_ok : compF Go.Proofs.Tryd.prog [7, 9, 18, 20, 23, 24, 26, 27, 200028, 28, 32, 34, 35, 36, 37, 47, 48, 58, 89] 10 = some (eraseF c10) := by kernel_rfl
def p3_6 : List PO := [⟨(.some 3), (.box 38 (.tmp 0)), .none⟩, ⟨(.some 4), (.box 4 (.tmp 1)), .none⟩, ⟨(.some 6), (.mov (.const (.bool .false))), .none⟩]
def p3_7 : List PO := [⟨(.some 13), (.fld 0 (.tmp 3)), .none⟩, ⟨(.some 14), (.ixA 19 1 (.tmp 13) (.const (.int .i64 14))), .none⟩, ⟨.none, (.store 1 (.tmp 14) (.const (.int .u8 2))), .none⟩, ⟨(.some 15), (.fld 19 (.tmp 3)), .none⟩, ⟨(.some 16), (.ixA 19 1 (.tmp 15) (.const (.int .i64 14))), .none⟩, ⟨.none, (.store 1 (.tmp 16) (.const (.int .u8 22))), .none⟩]
def p3_8 : List PO := [⟨(.some 17), (.call 5 []), .none⟩, ⟨(.some 18), (.un .not (.tmp 17)), .none⟩, ⟨(.some 19), (.mov (.tmp 18)), .none⟩, ⟨(.some 20), (.mov (.tmp 2)), (.some (19, .false))⟩, ⟨(.some 21), (.len .true (.tmp 20)), (.some (19, .false))⟩, ⟨(.some 22), (.cmpI .gtr (.tmp 21) (.const (.int .i64 1000))), (.some (19, .false))⟩, ⟨(.some 23), (.pick (.tmp 19) (.const (.bool .true)) (.tmp 22)), .none⟩, ⟨(.some 24), (.mov (.tmp 23)), .none⟩, ⟨(.some 25), (.build [(1, (.string ⟨#[]⟩)), (1, (.bool .false))] []), (.some (24, .false))⟩, ⟨(.some 26), (.call 6 [(.tmp 25)]), (.some (24, .false))⟩, ⟨(.some 27), (.cmpI .neq (.tmp 26) (.const (.int .i64 0))), (.some (24, .false))⟩, ⟨(.some 28), (.pick (.tmp 24) (.const (.bool .true)) (.tmp 27)), .none⟩]
def p3_9 : List PO := [⟨(.some 29), (.call 5 []), .none⟩, ⟨(.some 6), (.mov (.tmp 29)), .none⟩]
def p3_10 : List PO := [⟨(.some 7), (.allocB 37), .none⟩]
def p3_11 : List PO := [⟨(.some 30), (.mov (.tmp 2)), .none⟩, ⟨(.some 31), (.len .true (.tmp 30)), .none⟩, ⟨(.some 32), (.mov (.const (.int .i64 0))), .none⟩]
def p3_12 : List PO := [⟨(.some 33), (.cmpI .lss (.tmp 32) (.tmp 31)), .none⟩]
def p3_13 : List PO := [⟨(.some 34), (.mov (.tmp 32)), .none⟩, ⟨(.some 8), (.mov (.tmp 34)), .none⟩]
def p3_14 : List PO := [⟨(.some 35), (.mov (.tmp 2)), .none⟩, ⟨(.some 36), (.mov (.tmp 8)), .none⟩, ⟨(.some 37), (.mov (.tmp 8)), .none⟩, ⟨(.some 38), (.arI .add (.tmp 37) (.const (.int .i64 1))), .none⟩, ⟨(.some 39), (.slStr (.tmp 35) (.some (.tmp 36)) (.some (.tmp 38))), .none⟩, ⟨(.some 40), (.strO .add (.const (.string ⟨#[22]⟩)) (.tmp 39)), .none⟩, ⟨(.some 41), (.callr 7 [(.tmp 7), (.tmp 40)]), .none⟩]
def p3_15 : List PO := [⟨(.some 42), (.arI .add (.tmp 32) (.const (.int .i64 1))), .none⟩, ⟨(.some 32), (.mov (.tmp 42)), .none⟩]
def c3_2 : PCode := (.keep [2, 3, 4, 7, 31, 32] [(32, .id 32), (40, .id 40), (64, .id 64), (649, .id 649)] [] (.seq (.block 1 (.seq (.reg p3_13) (.reg p3_14))) (.reg p3_15)))
def c3_3 : PCode := (.keep [2, 3, 4, 7, 31, 32, 33] [(32, .id 32), (40, .id 40), (64, .id 64), (649, .id 649)] [] (.seq (.cond (.tmp 33) .skip (.keep [2, 3, 4, 7] [(32, .id 32), (40, .id 40), (64, .id 64), (649, .id 649)] [] (.exit 0))) c3_2))
def c3_4 : PCode := (.keep [2, 3, 4, 7, 31, 32] [(32, .id 32), (40, .id 40), (64, .id 64), (649, (.cell 64 1))] [.cell 64 1 649 5 1] (.seq (.reg p3_12) c3_3))
def p3_16 : List PO := [⟨(.some 44), (.build [(1, (.string ⟨#[]⟩)), (1, (.bool .false))] []), .none⟩, ⟨(.some 45), (.load .true 38 (.tmp 3)), .none⟩, ⟨(.some 46), (.load .true 4 (.tmp 4)), .none⟩, ⟨(.some 47), (.callr 9 [(.tmp 7)]), .none⟩, ⟨(.some 48), (.call 8 [(.tmp 44), (.tmp 45), (.tmp 46), (.tmp 47)]), .none⟩, ⟨(.some 43), (.mov (.tmp 48)), .none⟩, ⟨(.some 49), (.ext (.tmp 43) 0), .none⟩, ⟨(.some 50), (.ext (.tmp 43) 1), .none⟩, ⟨(.some 51), (.ext (.tmp 43) 2), .none⟩, ⟨(.some 52), (.ext (.tmp 43) 3), .none⟩, ⟨(.some 9), (.alloc [(1, (.string ⟨#[]⟩)), (1, (.bool .false))]), .none⟩, ⟨.none, (.store 2 (.tmp 9) (.tmp 49)), .none⟩, ⟨(.some 10), (.mov (.tmp 50)), .none⟩, ⟨(.some 11), (.mov (.tmp 51)), .none⟩, ⟨(.some 12), (.mov (.tmp 52)), .none⟩]
def p3_17 : List PO := [⟨(.some 53), (.mov (.tmp 12)), .none⟩, ⟨(.some 54), (.load .true 38 (.tmp 3)), .none⟩, ⟨(.some 55), (.call 10 [(.tmp 54)]), .none⟩, ⟨(.some 56), (.cmpI .eql (.tmp 53) (.tmp 55)), .none⟩, ⟨(.some 57), (.mov (.tmp 56)), .none⟩, ⟨(.some 58), (.mov (.tmp 12)), (.some (57, .true))⟩, ⟨(.some 59), (.cmpI .neq (.tmp 58) (.const (.int .i64 0))), (.some (57, .true))⟩, ⟨(.some 60), (.mov (.tmp 59)), (.some (57, .true))⟩, ⟨(.some 61), (.load .true 2 (.tmp 9)), (.some (60, .false))⟩, ⟨(.some 62), (.mov (.tmp 2)), (.some (60, .false))⟩, ⟨(.some 63), (.build [(1, (.string ⟨#[]⟩)), (1, (.bool .false))] [(0, (1, (.tmp 62)))]), (.some (60, .false))⟩, ⟨(.some 64), (.eqA .false [(1, .str), (1, .bool)] (.tmp 61) (.tmp 63)), (.some (60, .false))⟩, ⟨(.some 65), (.mov (.tmp 64)), (.some (60, .false))⟩, ⟨(.some 66), (.mov (.tmp 10)), (.some (65, .true))⟩, ⟨(.some 67), (.len .false (.tmp 66)), (.some (65, .true))⟩, ⟨(.some 68), (.cmpI .eql (.tmp 67) (.const (.int .i64 0))), (.some (65, .true))⟩, ⟨(.some 69), (.pick (.tmp 65) (.tmp 68) (.const (.bool .false))), (.some (60, .false))⟩, ⟨(.some 70), (.mov (.tmp 69)), (.some (60, .false))⟩, ⟨(.some 71), (.mov (.tmp 11)), (.some (70, .true))⟩, ⟨(.some 72), (.mov (.tmp 2)), (.some (70, .true))⟩, ⟨(.some 73), (.strO .eql (.tmp 71) (.tmp 72)), (.some (70, .true))⟩, ⟨(.some 74), (.pick (.tmp 70) (.tmp 73) (.const (.bool .false))), (.some (60, .false))⟩, ⟨(.some 75), (.pick (.tmp 60) (.const (.bool .true)) (.tmp 74)), (.some (57, .true))⟩, ⟨(.some 76), (.pick (.tmp 57) (.tmp 75) (.const (.bool .false))), .none⟩, ⟨(.some 6), (.mov (.tmp 76)), .none⟩]
def c3_1 : PCode := (.keep [2, 3, 4, 7] [(32, .id 32), (40, .id 40), (64, .id 64), (649, .id 649)] [] (.seq (.regD p3_16 [(1, 3), (2, 3), (1, 10), (2, 10), (3, 10), (4, 10)]) (.seq (.reg p3_17) .ret)))
def c3_5 : PCode := (.keep [2, 3, 4] [(32, .id 32), (40, .id 40)] [] (.seq (.reg p3_10) (.seq (.seq (.reg p3_11) (.block 0 (.loop c3_4))) c3_1)))
def c3_b : PCode := (.seq (.reg p3_6) (.seq (.reg p3_7) (.seq (.seq (.reg p3_8) (.cond (.tmp 28) (.seq (.reg p3_9) .ret) .skip)) c3_5)))
def c3 : FCode := ⟨77, c3_b, [(.tmp 6)], some ([6], [], []), false⟩
theorem c3_ok : compF Go.Proofs.Tryd.prog [7, 9, 18, 20, 23, 24, 26, 27, 200028, 28, 32, 34, 35, 36, 37, 47, 48, 58, 89] 3 = some (eraseF c3) := by kernel_rfl
def codes : Nat → Option FCode
  | 3 => some c3
  | 5 => some c5
  | 6 => some c6
  | 8 => some c8
  | 10 => some c10
  | 16 => some c16
  | 17 => some c17
  | 19 => some c19
  | 20 => some c20
  | 26 => some c26
  | 27 => some c27
  | 28 => some c28
  | 31 => some c31
  | 32 => some c32
  | _ => none
theorem codes_ok : ∀ f fc, codes f = some fc → compF Go.Proofs.Tryd.prog [7, 9, 18, 20, 23, 24, 26, 27, 200028, 28, 32, 34, 35, 36, 37, 47, 48, 58, 89] f = some (eraseF fc) := by
  intro f fc h
  unfold codes at h
  split at h
  · cases h; exact c3_ok
  · cases h; exact c5_ok
  · cases h; exact c6_ok
  · cases h; exact c8_ok
  · cases h; exact c10_ok
  · cases h; exact c16_ok
  · cases h; exact c17_ok
  · cases h; exact c19_ok
  · cases h; exact c20_ok
  · cases h; exact c26_ok
  · cases h; exact c27_ok
  · cases h; exact c28_ok
  · cases h; exact c31_ok
  · cases h; exact c32_ok
  · cases h
theorem codes3 : codes 3 = some c3 := rfl
theorem codes5 : codes 5 = some c5 := rfl
theorem codes6 : codes 6 = some c6 := rfl
theorem codes8 : codes 8 = some c8 := rfl
theorem codes10 : codes 10 = some c10 := rfl
theorem codes16 : codes 16 = some c16 := rfl
theorem codes17 : codes 17 = some c17 := rfl
theorem codes19 : codes 19 = some c19 := rfl
theorem codes20 : codes 20 = some c20 := rfl
theorem codes26 : codes 26 = some c26 := rfl
theorem codes27 : codes 27 = some c27 := rfl
theorem codes28 : codes 28 = some c28 := rfl
theorem codes31 : codes 31 = some c31 := rfl
theorem codes32 : codes 32 = some c32 := rfl
noncomputable def libs : List (Nat × (List PV → Option PV)) := [(38, osiS libRepeat), (29, ossS libTrimRight), (30, osuI libLastIndexByte)]
noncomputable abbrev baseL : Orc := blO 7 9 37 5 (libO libs)
end Go.Proofs.YthblnlmpfgfgcaaDoor.Pm
