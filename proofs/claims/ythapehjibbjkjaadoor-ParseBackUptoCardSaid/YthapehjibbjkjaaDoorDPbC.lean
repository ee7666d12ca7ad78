/- The small machine's codes of some functions. Printed by dec.py. -/
import Derived.Test.YthapehjibbjkjaaDoorLib1
import Derived.Test.YthapehjibbjkjaaDoorLibV
import Derived.Test.YthapehjibbjkjaaDoorProg
namespace Go.Proofs.YthapehjibbjkjaaDoor.Pm
set_option maxRecDepth 1000000
set_option maxHeartbeats 20000000
set_option linter.unusedVariables false
structure GAct where
  Kind : Int
  Code : Int
  Mark : Int
  Inter : List UInt8
  Args : List Int
  Text : List UInt8
structure GParser where
  State : Int
  Mark : Int
  Inter : List UInt8
  Args : List UInt8
  Text : List UInt8
def e_GAct : Enc GAct := ⟨6, fun x => [.int .i64 x.Kind, .int .i64 x.Code, .int .i64 x.Mark, .str x.Inter, .sl x.Args.length ((eInt .i64).cells x.Args), .str x.Text], fun _ => rfl⟩
def p8_2 : List PO := [⟨(.some 1), (.box 6 (.tmp 0)), .none⟩, ⟨(.some 2), (.mov (.const (.bool .false))), .none⟩]
def p8_3 : List PO := [⟨(.some 6), (.fld 0 (.tmp 1)), .none⟩, ⟨(.some 7), (.load .false 1 (.tmp 6)), .none⟩, ⟨(.some 8), (.cmpI .eql (.tmp 7) (.const (.int .i64 4))), .none⟩, ⟨(.some 9), (.fld 0 (.tmp 1)), .none⟩, ⟨(.some 10), (.load .false 1 (.tmp 9)), .none⟩, ⟨(.some 11), (.cmpI .eql (.tmp 10) (.const (.int .i64 3))), .none⟩, ⟨(.some 12), (.fld 0 (.tmp 1)), .none⟩, ⟨(.some 13), (.load .false 1 (.tmp 12)), .none⟩, ⟨(.some 14), (.cmpI .eql (.tmp 13) (.const (.int .i64 5))), .none⟩, ⟨(.some 3), (.mov (.tmp 8)), .none⟩, ⟨(.some 4), (.mov (.tmp 11)), .none⟩, ⟨(.some 5), (.mov (.tmp 14)), .none⟩]
def p8_4 : List PO := [⟨(.some 15), (.mov (.tmp 3)), .none⟩, ⟨(.some 16), (.mov (.tmp 15)), .none⟩, ⟨(.some 17), (.fld 2 (.tmp 1)), (.some (16, .false))⟩, ⟨(.some 18), (.load .false 1 (.tmp 17)), (.some (16, .false))⟩, ⟨(.some 19), (.cmpI .eql (.tmp 18) (.const (.int .i64 0))), (.some (16, .false))⟩, ⟨(.some 20), (.mov (.tmp 19)), (.some (16, .false))⟩, ⟨(.some 21), (.fld 4 (.tmp 1)), (.some (20, .true))⟩, ⟨(.some 22), (.load .false 1 (.tmp 21)), (.some (20, .true))⟩, ⟨(.some 23), (.len .false (.tmp 22)), (.some (20, .true))⟩, ⟨(.some 24), (.cmpI .eql (.tmp 23) (.const (.int .i64 0))), (.some (20, .true))⟩, ⟨(.some 25), (.pick (.tmp 20) (.tmp 24) (.const (.bool .false))), (.some (16, .false))⟩, ⟨(.some 26), (.pick (.tmp 16) (.const (.bool .true)) (.tmp 25)), .none⟩, ⟨(.some 27), (.mov (.tmp 26)), .none⟩, ⟨(.some 28), (.mov (.tmp 3)), (.some (27, .true))⟩, ⟨(.some 29), (.mov (.tmp 28)), (.some (27, .true))⟩, ⟨(.some 30), (.mov (.tmp 4)), (.some (29, .false))⟩, ⟨(.some 31), (.pick (.tmp 29) (.const (.bool .true)) (.tmp 30)), (.some (27, .true))⟩, ⟨(.some 32), (.mov (.tmp 31)), (.some (27, .true))⟩, ⟨(.some 33), (.fld 3 (.tmp 1)), (.some (32, .false))⟩, ⟨(.some 34), (.load .false 1 (.tmp 33)), (.some (32, .false))⟩, ⟨(.some 35), (.strO .eql (.tmp 34) (.const (.string ⟨#[]⟩))), (.some (32, .false))⟩, ⟨(.some 36), (.pick (.tmp 32) (.const (.bool .true)) (.tmp 35)), (.some (27, .true))⟩, ⟨(.some 37), (.pick (.tmp 27) (.tmp 36) (.const (.bool .false))), .none⟩, ⟨(.some 38), (.mov (.tmp 37)), .none⟩, ⟨(.some 39), (.mov (.tmp 5)), (.some (38, .true))⟩, ⟨(.some 40), (.mov (.tmp 39)), (.some (38, .true))⟩, ⟨(.some 41), (.fld 5 (.tmp 1)), (.some (40, .false))⟩, ⟨(.some 42), (.load .false 1 (.tmp 41)), (.some (40, .false))⟩, ⟨(.some 43), (.strO .eql (.tmp 42) (.const (.string ⟨#[]⟩))), (.some (40, .false))⟩, ⟨(.some 44), (.pick (.tmp 40) (.const (.bool .true)) (.tmp 43)), (.some (38, .true))⟩, ⟨(.some 45), (.pick (.tmp 38) (.tmp 44) (.const (.bool .false))), .none⟩, ⟨(.some 46), (.mov (.tmp 45)), .none⟩, ⟨(.some 47), (.mov (.tmp 5)), (.some (46, .true))⟩, ⟨(.some 48), (.un .not (.tmp 47)), (.some (46, .true))⟩, ⟨(.some 49), (.mov (.tmp 48)), (.some (46, .true))⟩, ⟨(.some 50), (.fld 1 (.tmp 1)), (.some (49, .false))⟩, ⟨(.some 51), (.load .false 1 (.tmp 50)), (.some (49, .false))⟩, ⟨(.some 52), (.cmpI .eql (.tmp 51) (.const (.int .i64 0))), (.some (49, .false))⟩, ⟨(.some 53), (.pick (.tmp 49) (.const (.bool .true)) (.tmp 52)), (.some (46, .true))⟩, ⟨(.some 54), (.pick (.tmp 46) (.tmp 53) (.const (.bool .false))), .none⟩, ⟨(.some 2), (.mov (.tmp 54)), .none⟩]
def c8_1 : PCode := (.keep [1, 3, 4, 5] [(16, .id 16)] [] (.seq (.reg p8_4) .ret))
def c8_b : PCode := (.seq (.reg p8_2) (.seq (.regD p8_3 []) c8_1))
def c8 : FCode := ⟨55, c8_b, [(.tmp 2)], some ([2], [], []), false⟩
theorem c8_ok : compF Go.Proofs.Tryd.prog [100005, 17, 28, 29, 30, 31, 32, 33, 34, 46, 47, 48, 60, 74] 8 = some (eraseF c8) := by kernel_rfl
def p10_1 : List PO := [⟨(.some 6), (.mov (.const (.bool .false))), .none⟩]
def p10_2 : List PO := [⟨(.some 7), (.mov (.tmp 0)), .none⟩, ⟨(.some 8), (.mov (.tmp 1)), .none⟩, ⟨(.some 9), (.cmpI .geq (.tmp 7) (.tmp 8)), .none⟩, ⟨(.some 10), (.mov (.tmp 9)), .none⟩, ⟨(.some 11), (.mov (.tmp 0)), (.some (10, .true))⟩, ⟨(.some 12), (.mov (.tmp 2)), (.some (10, .true))⟩, ⟨(.some 13), (.cmpI .leq (.tmp 11) (.tmp 12)), (.some (10, .true))⟩, ⟨(.some 14), (.pick (.tmp 10) (.tmp 13) (.const (.bool .false))), .none⟩, ⟨(.some 6), (.mov (.tmp 14)), .none⟩]
def c10_b : PCode := (.seq (.reg p10_1) (.seq (.reg p10_2) .ret))
def c10 : FCode := ⟨15, c10_b, [(.tmp 6)], some ([6], [], []), false⟩
theorem c10_ok : compF Go.Proofs.Tryd.prog [100005, 17, 28, 29, 30, 31, 32, 33, 34, 46, 47, 48, 60, 74] 10 = some (eraseF c10) := by kernel_rfl
def p9_1 : List PO := [⟨(.some 2), (.mov (.const (.bool .false))), .none⟩]
def p9_2 : List PO := [⟨(.some 3), (.mov (.tmp 0)), .none⟩, ⟨(.some 4), (.call 10 [(.tmp 3), (.const (.int .i64 0)), (.const (.int .i64 1114111))]), .none⟩, ⟨(.some 5), (.mov (.tmp 4)), .none⟩, ⟨(.some 6), (.mov (.tmp 0)), (.some (5, .true))⟩, ⟨(.some 7), (.call 10 [(.tmp 6), (.const (.int .i64 55296)), (.const (.int .i64 57343))]), (.some (5, .true))⟩, ⟨(.some 8), (.un .not (.tmp 7)), (.some (5, .true))⟩, ⟨(.some 9), (.pick (.tmp 5) (.tmp 8) (.const (.bool .false))), .none⟩, ⟨(.some 2), (.mov (.tmp 9)), .none⟩]
def c9_b : PCode := (.seq (.reg p9_1) (.seq (.reg p9_2) .ret))
def c9 : FCode := ⟨10, c9_b, [(.tmp 2)], some ([2], [], []), false⟩
theorem c9_ok : compF Go.Proofs.Tryd.prog [100005, 17, 28, 29, 30, 31, 32, 33, 34, 46, 47, 48, 60, 74] 9 = some (eraseF c9) := by kernel_rfl
def p11_4 : List PO := [⟨(.some 4), (.mov (.const (.bool .false))), .none⟩]
def p11_5 : List PO := [⟨(.some 6), (.mov (.tmp 0)), .none⟩, ⟨(.some 7), (.len .true (.tmp 6)), .none⟩, ⟨(.some 8), (.mov (.const (.int .i64 0))), .none⟩]
def p11_6 : List PO := [⟨(.some 9), (.cmpI .lss (.tmp 8) (.tmp 7)), .none⟩]
def p11_7 : List PO := [⟨(.some 10), (.mov (.tmp 8)), .none⟩, ⟨(.some 5), (.mov (.tmp 10)), .none⟩]
def p11_8 : List PO := [⟨(.some 11), (.mov (.tmp 0)), .none⟩, ⟨(.some 12), (.mov (.tmp 5)), .none⟩, ⟨(.some 13), (.ixStr (.tmp 11) (.tmp 12)), .none⟩, ⟨(.some 14), (.cvI .i64 (.tmp 13)), .none⟩, ⟨(.some 15), (.call 10 [(.tmp 14), (.const (.int .i64 32)), (.const (.int .i64 47))]), .none⟩, ⟨(.some 16), (.un .not (.tmp 15)), .none⟩]
def p11_9 : List PO := [⟨(.some 4), (.mov (.const (.bool .false))), .none⟩]
def p11_10 : List PO := [⟨(.some 17), (.arI .add (.tmp 8) (.const (.int .i64 1))), .none⟩, ⟨(.some 8), (.mov (.tmp 17)), .none⟩]
def c11_1 : PCode := (.keep [0, 1, 7, 8] [] [] (.seq (.block 1 (.seq (.reg p11_7) (.seq (.reg p11_8) (.cond (.tmp 16) (.seq (.reg p11_9) .ret) .skip)))) (.reg p11_10)))
def c11_2 : PCode := (.keep [0, 1, 7, 8, 9] [] [] (.seq (.cond (.tmp 9) .skip (.keep [0, 1] [] [] (.exit 0))) c11_1))
def c11_3 : PCode := (.keep [0, 1, 7, 8] [] [] (.seq (.reg p11_6) c11_2))
def p11_11 : List PO := [⟨(.some 18), (.mov (.tmp 0)), .none⟩, ⟨(.some 19), (.len .true (.tmp 18)), .none⟩, ⟨(.some 20), (.mov (.tmp 1)), .none⟩, ⟨(.some 21), (.cmpI .leq (.tmp 19) (.tmp 20)), .none⟩, ⟨(.some 4), (.mov (.tmp 21)), .none⟩]
def c11_b : PCode := (.seq (.reg p11_4) (.seq (.seq (.reg p11_5) (.block 0 (.loop c11_3))) (.seq (.reg p11_11) .ret)))
def c11 : FCode := ⟨22, c11_b, [(.tmp 4)], some ([4], [], []), false⟩
theorem c11_ok : compF Go.Proofs.Tryd.prog [100005, 17, 28, 29, 30, 31, 32, 33, 34, 46, 47, 48, 60, 74] 11 = some (eraseF c11) := by kernel_rfl
def p13_3 : List PO := [⟨(.some 2), (.nilS 3 1), .none⟩]
def p13_4 : List PO := [⟨(.some 3), (.nilS 3 1), .none⟩]
def p13_5 : List PO := [⟨(.some 6), (.mov (.tmp 0)), .none⟩, ⟨(.some 7), (.rng (.tmp 6)), .none⟩]
def p13_6 : List PO := [⟨(.some 8), (.nxt (.tmp 7)), .none⟩, ⟨(.some 9), (.ext (.tmp 8) 0), .none⟩]
def p13_7 : List PO := [⟨(.some 10), (.ext (.tmp 8) 2), .none⟩, ⟨(.some 5), (.mov (.tmp 10)), .none⟩]
def p13_8 : List PO := [⟨(.some 11), (.mov (.tmp 3)), .none⟩, ⟨(.some 12), (.mov (.tmp 5)), .none⟩, ⟨(.some 13), (.cvI .i64 (.tmp 12)), .none⟩, ⟨(.some 14), (.bsl 3 1 1 [(1, (.int .i64 0))] [(0, (1, (.tmp 13)))]), .none⟩, ⟨(.some 15), (.app 3 1 8 (.tmp 11) (.tmp 14)), .none⟩, ⟨(.some 3), (.mov (.tmp 15)), .none⟩]
def c13_1 : PCode := (.keep [3, 7, 8] [(32, .id 32), (64, .id 64)] [] (.block 1 (.seq (.reg p13_7) (.reg p13_8))))
def c13_2 : PCode := (.keep [3, 7] [(32, .id 32), (64, .id 64)] [] (.seq (.reg p13_6) (.seq (.cond (.tmp 9) .skip (.keep [3] [(32, .id 32)] [] (.exit 0))) c13_1)))
def p13_9 : List PO := [⟨(.some 16), (.mov (.tmp 3)), .none⟩, ⟨(.some 2), (.mov (.tmp 16)), .none⟩]
def c13_b : PCode := (.seq (.reg p13_3) (.seq (.reg p13_4) (.seq (.seq (.reg p13_5) (.block 0 (.loop c13_2))) (.seq (.reg p13_9) .ret))))
def c13 : FCode := ⟨17, c13_b, [(.tmp 2)], some ([2], [(32, .id 32)], []), false⟩
theorem c13_ok : compF Go.Proofs.Tryd.prog [100005, 17, 28, 29, 30, 31, 32, 33, 34, 46, 47, 48, 60, 74] 13 = some (eraseF c13) := by kernel_rfl
def p23_1 : List PO := [⟨(.some 2), (.mov (.const (.bool .false))), .none⟩]
def p23_2 : List PO := [⟨(.some 3), (.mov (.tmp 0)), .none⟩, ⟨(.some 4), (.cmpI .lss (.tmp 3) (.const (.int .i64 (-1)))), .none⟩, ⟨(.some 5), (.mov (.tmp 4)), .none⟩, ⟨(.some 6), (.mov (.tmp 0)), (.some (5, .false))⟩, ⟨(.some 7), (.cmpI .gtr (.tmp 6) (.const (.int .i64 16383))), (.some (5, .false))⟩, ⟨(.some 8), (.pick (.tmp 5) (.const (.bool .true)) (.tmp 7)), .none⟩, ⟨(.some 2), (.mov (.tmp 8)), .none⟩]
def c23_b : PCode := (.seq (.reg p23_1) (.seq (.reg p23_2) .ret))
def c23 : FCode := ⟨9, c23_b, [(.tmp 2)], some ([2], [], []), false⟩
theorem c23_ok : compF Go.Proofs.Tryd.prog [100005, 17, 28, 29, 30, 31, 32, 33, 34, 46, 47, 48, 60, 74] 23 = some (eraseF c23) := by kernel_rfl
def p37_4 : List PO := [⟨(.some 4), (.mov (.const (.int .i64 0))), .none⟩]
def p37_5 : List PO := [⟨(.some 6), (.mov (.tmp 0)), .none⟩, ⟨(.some 7), (.len .false (.tmp 6)), .none⟩, ⟨(.some 8), (.mov (.const (.int .i64 0))), .none⟩]
def p37_6 : List PO := [⟨(.some 9), (.cmpI .lss (.tmp 8) (.tmp 7)), .none⟩]
def p37_7 : List PO := [⟨(.some 10), (.mov (.tmp 8)), .none⟩, ⟨(.some 5), (.mov (.tmp 10)), .none⟩]
def p37_8 : List PO := [⟨(.some 11), (.mov (.tmp 1)), .none⟩, ⟨(.some 12), (.mov (.tmp 0)), .none⟩, ⟨(.some 13), (.mov (.tmp 5)), .none⟩, ⟨(.some 14), (.ixS 3 1 (.tmp 12) (.tmp 13)), .none⟩, ⟨(.some 15), (.load .false 1 (.tmp 14)), .none⟩, ⟨(.some 16), (.callv (.tmp 11) [(.tmp 15)]), .none⟩]
def p37_9 : List PO := [⟨(.some 17), (.mov (.tmp 5)), .none⟩, ⟨(.some 4), (.mov (.tmp 17)), .none⟩]
def p37_10 : List PO := [⟨(.some 18), (.arI .add (.tmp 8) (.const (.int .i64 1))), .none⟩, ⟨(.some 8), (.mov (.tmp 18)), .none⟩]
def c37_1 : PCode := (.keep [0, 1, 7, 8] [] [] (.seq (.block 1 (.seq (.reg p37_7) (.seq (.reg p37_8) (.cond (.tmp 16) (.seq (.reg p37_9) .ret) .skip)))) (.reg p37_10)))
def c37_2 : PCode := (.keep [0, 1, 7, 8, 9] [] [] (.seq (.cond (.tmp 9) .skip (.keep [] [] [] (.exit 0))) c37_1))
def c37_3 : PCode := (.keep [0, 1, 7, 8] [] [] (.seq (.reg p37_6) c37_2))
def p37_11 : List PO := [⟨(.some 4), (.mov (.const (.int .i64 (-1)))), .none⟩]
def c37_b : PCode := (.seq (.reg p37_4) (.seq (.seq (.reg p37_5) (.block 0 (.loop c37_3))) (.seq (.reg p37_11) .ret)))
def c37 : FCode := ⟨19, c37_b, [(.tmp 4)], some ([4], [], []), false⟩
theorem c37_ok : compF Go.Proofs.Tryd.prog [100005, 17, 28, 29, 30, 31, 32, 33, 34, 46, 47, 48, 60, 74] 37 = some (eraseF c37) := by kernel_rfl
def p22_1 : List PO := [⟨(.some 4), (.mov (.const (.bool .false))), .none⟩]
def p22_2 : List PO := [⟨(.some 5), (.mov (.tmp 0)), .none⟩, ⟨(.some 6), (.mov (.tmp 1)), .none⟩, ⟨(.some 7), (.call 37 [(.tmp 5), (.tmp 6)]), .none⟩, ⟨(.some 8), (.cmpI .geq (.tmp 7) (.const (.int .i64 0))), .none⟩, ⟨(.some 4), (.mov (.tmp 8)), .none⟩]
def c22_b : PCode := (.seq (.reg p22_1) (.seq (.reg p22_2) .ret))
def c22 : FCode := ⟨9, c22_b, [(.tmp 4)], some ([4], [], []), false⟩
theorem c22_ok : compF Go.Proofs.Tryd.prog [100005, 17, 28, 29, 30, 31, 32, 33, 34, 46, 47, 48, 60, 74] 22 = some (eraseF c22) := by kernel_rfl
def p14_6 : List PO := [⟨(.some 2), (.mov (.const (.string ⟨#[]⟩))), .none⟩, ⟨(.some 3), (.mov (.const (.int .i64 0))), .none⟩]
def p14_7 : List PO := [⟨(.some 7), (.mov (.tmp 0)), .none⟩, ⟨(.some 8), (.len .false (.tmp 7)), .none⟩, ⟨(.some 9), (.cmpI .eql (.tmp 8) (.const (.int .i64 0))), .none⟩, ⟨(.some 10), (.mov (.tmp 9)), .none⟩, ⟨(.some 11), (.mov (.tmp 0)), (.some (10, .false))⟩, ⟨(.some 12), (.call 22 [(.tmp 11), (.func 23)]), (.some (10, .false))⟩, ⟨(.some 13), (.pick (.tmp 10) (.const (.bool .true)) (.tmp 12)), .none⟩]
def p14_8 : List PO := [⟨(.some 2), (.mov (.const (.string ⟨#[]⟩))), .none⟩, ⟨(.some 3), (.mov (.const (.int .i64 1))), .none⟩]
def p14_9 : List PO := [⟨(.some 14), (.mov (.tmp 0)), .none⟩, ⟨(.some 15), (.len .false (.tmp 14)), .none⟩, ⟨(.some 16), (.cmpI .gtr (.tmp 15) (.const (.int .i64 32))), .none⟩]
def p14_10 : List PO := [⟨(.some 2), (.mov (.const (.string ⟨#[]⟩))), .none⟩, ⟨(.some 3), (.mov (.const (.int .i64 2))), .none⟩]
def p14_11 : List PO := [⟨(.some 4), (.nilS 9 1), .none⟩]
def p14_12 : List PO := [⟨(.some 17), (.mov (.tmp 0)), .none⟩, ⟨(.some 18), (.len .false (.tmp 17)), .none⟩, ⟨(.some 19), (.mov (.const (.int .i64 0))), .none⟩]
def p14_13 : List PO := [⟨(.some 20), (.cmpI .lss (.tmp 19) (.tmp 18)), .none⟩]
def p14_14 : List PO := [⟨(.some 21), (.ixS 3 1 (.tmp 17) (.tmp 19)), .none⟩, ⟨(.some 22), (.load .false 1 (.tmp 21)), .none⟩, ⟨(.some 6), (.mov (.tmp 22)), .none⟩]
def p14_15 : List PO := [⟨(.some 23), (.mov (.tmp 6)), .none⟩, ⟨(.some 24), (.cmpI .lss (.tmp 23) (.const (.int .i64 0))), .none⟩]
def p14_16 : List PO := [⟨(.some 25), (.mov (.tmp 4)), .none⟩, ⟨(.some 26), (.bsl 9 1 1 [(1, (.string ⟨#[]⟩))] [(0, (1, (.const (.string ⟨#[]⟩))))]), .none⟩, ⟨(.some 27), (.app 9 1 16 (.tmp 25) (.tmp 26)), .none⟩, ⟨(.some 4), (.mov (.tmp 27)), .none⟩]
def p14_17 : List PO := [⟨(.some 28), (.mov (.tmp 4)), .none⟩, ⟨(.some 29), (.mov (.tmp 6)), .none⟩, ⟨(.some 30), (.call 24 [(.tmp 29)]), .none⟩, ⟨(.some 31), (.bsl 9 1 1 [(1, (.string ⟨#[]⟩))] [(0, (1, (.tmp 30)))]), .none⟩, ⟨(.some 32), (.app 9 1 16 (.tmp 28) (.tmp 31)), .none⟩, ⟨(.some 4), (.mov (.tmp 32)), .none⟩]
def p14_18 : List PO := [⟨(.some 33), (.arI .add (.tmp 19) (.const (.int .i64 1))), .none⟩, ⟨(.some 19), (.mov (.tmp 33)), .none⟩]
def c14_1 : PCode := (.keep [4, 17, 18, 19] [(40, .id 40)] [] (.seq (.block 1 (.seq (.reg p14_14) (.seq (.reg p14_15) (.cond (.tmp 24) (.reg p14_16) (.reg p14_17))))) (.reg p14_18)))
def c14_2 : PCode := (.keep [4, 17, 18, 19, 20] [(40, .id 40)] [] (.seq (.cond (.tmp 20) .skip (.keep [4] [(40, .id 40)] [] (.exit 0))) c14_1))
def c14_3 : PCode := (.keep [4, 17, 18, 19] [(40, .id 40)] [] (.seq (.reg p14_13) c14_2))
def p14_19 : List PO := [⟨(.some 34), (.mov (.tmp 4)), .none⟩, ⟨(.some 35), (.call 25 [(.tmp 34), (.const (.string ⟨#[59]⟩))]), .none⟩, ⟨(.some 2), (.mov (.tmp 35)), .none⟩, ⟨(.some 3), (.mov (.const (.int .i64 0))), .none⟩]
def c14_4 : PCode := (.keep [0] [] [] (.seq (.reg p14_11) (.seq (.seq (.reg p14_12) (.block 0 (.loop c14_3))) (.seq (.reg p14_19) .ret))))
def c14_5 : PCode := (.keep [0] [] [] (.seq (.seq (.reg p14_9) (.cond (.tmp 16) (.seq (.reg p14_10) .ret) .skip)) c14_4))
def c14_b : PCode := (.seq (.reg p14_6) (.seq (.seq (.reg p14_7) (.cond (.tmp 13) (.seq (.reg p14_8) .ret) .skip)) c14_5))
def c14 : FCode := ⟨36, c14_b, [(.tmp 2), (.tmp 3)], some ([2, 3], [], []), false⟩
theorem c14_ok : compF Go.Proofs.Tryd.prog [100005, 17, 28, 29, 30, 31, 32, 33, 34, 46, 47, 48, 60, 74] 14 = some (eraseF c14) := by kernel_rfl
def p15_4 : List PO := [⟨(.some 2), (.mov (.const (.bool .false))), .none⟩]
def p15_5 : List PO := [⟨(.some 5), (.mov (.tmp 0)), .none⟩, ⟨(.some 6), (.len .true (.tmp 5)), .none⟩, ⟨(.some 7), (.cmpI .gtr (.tmp 6) (.const (.int .i64 256))), .none⟩, ⟨(.some 8), (.mov (.tmp 7)), .none⟩, ⟨(.some 9), (.mov (.tmp 0)), (.some (8, .false))⟩, ⟨(.some 10), (.call 26 [(.tmp 9)]), (.some (8, .false))⟩, ⟨(.some 11), (.un .not (.tmp 10)), (.some (8, .false))⟩, ⟨(.some 12), (.pick (.tmp 8) (.const (.bool .true)) (.tmp 11)), .none⟩]
def p15_6 : List PO := [⟨(.some 2), (.mov (.const (.bool .false))), .none⟩]
def p15_7 : List PO := [⟨(.some 13), (.mov (.tmp 0)), .none⟩, ⟨(.some 14), (.rng (.tmp 13)), .none⟩]
def p15_8 : List PO := [⟨(.some 15), (.nxt (.tmp 14)), .none⟩, ⟨(.some 16), (.ext (.tmp 15) 0), .none⟩]
def p15_9 : List PO := [⟨(.some 17), (.ext (.tmp 15) 2), .none⟩, ⟨(.some 4), (.mov (.tmp 17)), .none⟩]
def p15_10 : List PO := [⟨(.some 18), (.mov (.tmp 4)), .none⟩, ⟨(.some 19), (.cmpI .lss (.tmp 18) (.const (.int .i32 32))), .none⟩, ⟨(.some 20), (.mov (.tmp 19)), .none⟩, ⟨(.some 21), (.mov (.tmp 4)), (.some (20, .false))⟩, ⟨(.some 22), (.cvI .i64 (.tmp 21)), (.some (20, .false))⟩, ⟨(.some 23), (.call 10 [(.tmp 22), (.const (.int .i64 127)), (.const (.int .i64 159))]), (.some (20, .false))⟩, ⟨(.some 24), (.pick (.tmp 20) (.const (.bool .true)) (.tmp 23)), .none⟩]
def p15_11 : List PO := [⟨(.some 2), (.mov (.const (.bool .false))), .none⟩]
def c15_1 : PCode := (.keep [14, 15] [(120, .id 120)] [] (.block 1 (.seq (.reg p15_9) (.seq (.reg p15_10) (.cond (.tmp 24) (.seq (.reg p15_11) .ret) .skip)))))
def c15_2 : PCode := (.keep [14] [(120, .id 120)] [] (.seq (.reg p15_8) (.seq (.cond (.tmp 16) .skip (.keep [] [] [] (.exit 0))) c15_1)))
def p15_12 : List PO := [⟨(.some 2), (.mov (.const (.bool .true))), .none⟩]
def c15_3 : PCode := (.keep [0] [] [] (.seq (.seq (.reg p15_7) (.block 0 (.loop c15_2))) (.seq (.reg p15_12) .ret)))
def c15_b : PCode := (.seq (.reg p15_4) (.seq (.seq (.reg p15_5) (.cond (.tmp 12) (.seq (.reg p15_6) .ret) .skip)) c15_3))
def c15 : FCode := ⟨25, c15_b, [(.tmp 2)], some ([2], [], []), false⟩
theorem c15_ok : compF Go.Proofs.Tryd.prog [100005, 17, 28, 29, 30, 31, 32, 33, 34, 46, 47, 48, 60, 74] 15 = some (eraseF c15) := by kernel_rfl
def p4_6 : List PO := [⟨(.some 1), (.box 6 (.tmp 0)), .none⟩, ⟨(.some 2), (.nilS 3 1), .none⟩, ⟨(.some 3), (.mov (.const (.int .i64 0))), .none⟩]
def p4_7 : List PO := [⟨(.some 8), (.load .true 6 (.tmp 1)), .none⟩, ⟨(.some 9), (.call 8 [(.tmp 8)]), .none⟩, ⟨(.some 10), (.un .not (.tmp 9)), .none⟩]
def p4_8 : List PO := [⟨(.some 2), (.nilS 3 1), .none⟩, ⟨(.some 3), (.mov (.const (.int .i64 1))), .none⟩]
def p4_9 : List PO := [⟨(.some 11), (.fld 1 (.tmp 1)), .none⟩, ⟨(.some 12), (.load .false 1 (.tmp 11)), .none⟩, ⟨(.some 4), (.mov (.tmp 12)), .none⟩]
def p4_10 : List PO := [⟨(.some 13), (.fld 0 (.tmp 1)), .none⟩, ⟨(.some 14), (.load .false 1 (.tmp 13)), .none⟩]
def p4_11 : List PO := [⟨(.some 16), (.cmpI .eql (.tmp 14) (.const (.int .i64 1))), .none⟩, ⟨(.some 15), (.mov (.tmp 16)), .none⟩]
def p4_12 : List PO := [⟨(.some 17), (.mov (.tmp 4)), .none⟩, ⟨(.some 18), (.cmpI .geq (.tmp 17) (.const (.int .i64 32))), .none⟩, ⟨(.some 19), (.mov (.tmp 18)), .none⟩, ⟨(.some 20), (.mov (.tmp 4)), (.some (19, .true))⟩, ⟨(.some 21), (.call 9 [(.tmp 20)]), (.some (19, .true))⟩, ⟨(.some 22), (.pick (.tmp 19) (.tmp 21) (.const (.bool .false))), .none⟩, ⟨(.some 23), (.mov (.tmp 22)), .none⟩, ⟨(.some 24), (.mov (.tmp 4)), (.some (23, .true))⟩, ⟨(.some 25), (.call 10 [(.tmp 24), (.const (.int .i64 127)), (.const (.int .i64 159))]), (.some (23, .true))⟩, ⟨(.some 26), (.un .not (.tmp 25)), (.some (23, .true))⟩, ⟨(.some 27), (.pick (.tmp 23) (.tmp 26) (.const (.bool .false))), .none⟩]
def p4_13 : List PO := [⟨(.some 28), (.mov (.tmp 4)), .none⟩, ⟨(.some 29), (.bsl 3 1 1 [(1, (.int .i64 0))] [(0, (1, (.tmp 28)))]), .none⟩, ⟨(.some 2), (.mov (.tmp 29)), .none⟩, ⟨(.some 3), (.mov (.const (.int .i64 0))), .none⟩]
def p4_14 : List PO := [⟨(.some 31), (.cmpI .eql (.tmp 14) (.const (.int .i64 2))), .none⟩, ⟨(.some 30), (.mov (.tmp 31)), .none⟩]
def p4_15 : List PO := [⟨(.some 32), (.mov (.tmp 4)), .none⟩, ⟨(.some 33), (.call 10 [(.tmp 32), (.const (.int .i64 0)), (.const (.int .i64 31))]), .none⟩, ⟨(.some 34), (.mov (.tmp 33)), .none⟩, ⟨(.some 35), (.mov (.tmp 4)), (.some (34, .true))⟩, ⟨(.some 36), (.cmpI .neq (.tmp 35) (.const (.int .i64 24))), (.some (34, .true))⟩, ⟨(.some 37), (.pick (.tmp 34) (.tmp 36) (.const (.bool .false))), .none⟩, ⟨(.some 38), (.mov (.tmp 37)), .none⟩, ⟨(.some 39), (.mov (.tmp 4)), (.some (38, .true))⟩, ⟨(.some 40), (.cmpI .neq (.tmp 39) (.const (.int .i64 26))), (.some (38, .true))⟩, ⟨(.some 41), (.pick (.tmp 38) (.tmp 40) (.const (.bool .false))), .none⟩, ⟨(.some 42), (.mov (.tmp 41)), .none⟩, ⟨(.some 43), (.mov (.tmp 4)), (.some (42, .true))⟩, ⟨(.some 44), (.cmpI .neq (.tmp 43) (.const (.int .i64 27))), (.some (42, .true))⟩, ⟨(.some 45), (.pick (.tmp 42) (.tmp 44) (.const (.bool .false))), .none⟩]
def p4_16 : List PO := [⟨(.some 46), (.mov (.tmp 4)), .none⟩, ⟨(.some 47), (.bsl 3 1 1 [(1, (.int .i64 0))] [(0, (1, (.tmp 46)))]), .none⟩, ⟨(.some 2), (.mov (.tmp 47)), .none⟩, ⟨(.some 3), (.mov (.const (.int .i64 0))), .none⟩]
def p4_17 : List PO := [⟨(.some 49), (.cmpI .eql (.tmp 14) (.const (.int .i64 3))), .none⟩, ⟨(.some 48), (.mov (.tmp 49)), .none⟩]
def p4_18 : List PO := [⟨(.some 50), (.fld 3 (.tmp 1)), .none⟩, ⟨(.some 51), (.load .false 1 (.tmp 50)), .none⟩, ⟨(.some 52), (.call 11 [(.tmp 51), (.const (.int .i64 2))]), .none⟩, ⟨(.some 53), (.mov (.tmp 52)), .none⟩, ⟨(.some 54), (.mov (.tmp 4)), (.some (53, .true))⟩, ⟨(.some 55), (.call 10 [(.tmp 54), (.const (.int .i64 48)), (.const (.int .i64 126))]), (.some (53, .true))⟩, ⟨(.some 56), (.pick (.tmp 53) (.tmp 55) (.const (.bool .false))), .none⟩, ⟨(.some 57), (.mov (.tmp 56)), .none⟩, ⟨(.some 58), (.fld 3 (.tmp 1)), (.some (57, .true))⟩, ⟨(.some 59), (.load .false 1 (.tmp 58)), (.some (57, .true))⟩, ⟨(.some 60), (.strO .neq (.tmp 59) (.const (.string ⟨#[]⟩))), (.some (57, .true))⟩, ⟨(.some 61), (.mov (.tmp 60)), (.some (57, .true))⟩, ⟨(.some 62), (.mov (.tmp 4)), (.some (61, .false))⟩, ⟨(.some 63), (.cvI .u8 (.tmp 62)), (.some (61, .false))⟩, ⟨(.some 64), (.call 12 [(.const (.string ⟨#[91, 93, 80, 88, 94, 95]⟩)), (.tmp 63)]), (.some (61, .false))⟩, ⟨(.some 65), (.cmpI .lss (.tmp 64) (.const (.int .i64 0))), (.some (61, .false))⟩, ⟨(.some 66), (.pick (.tmp 61) (.const (.bool .true)) (.tmp 65)), (.some (57, .true))⟩, ⟨(.some 67), (.pick (.tmp 57) (.tmp 66) (.const (.bool .false))), .none⟩]
def p4_19 : List PO := [⟨(.some 68), (.bsl 3 1 1 [(1, (.int .i64 0))] [(0, (1, (.const (.int .i64 27))))]), .none⟩, ⟨(.some 69), (.fld 3 (.tmp 1)), .none⟩, ⟨(.some 70), (.load .false 1 (.tmp 69)), .none⟩, ⟨(.some 71), (.call 13 [(.tmp 70)]), .none⟩, ⟨(.some 72), (.app 3 1 8 (.tmp 68) (.tmp 71)), .none⟩, ⟨(.some 73), (.mov (.tmp 4)), .none⟩, ⟨(.some 74), (.bsl 3 1 1 [(1, (.int .i64 0))] [(0, (1, (.tmp 73)))]), .none⟩, ⟨(.some 75), (.app 3 1 8 (.tmp 72) (.tmp 74)), .none⟩, ⟨(.some 2), (.mov (.tmp 75)), .none⟩, ⟨(.some 3), (.mov (.const (.int .i64 0))), .none⟩]
def c4_1 : PCode := (.keep [1, 4] [(16, .id 16)] [] (.seq (.reg p4_19) .ret))
def p4_20 : List PO := [⟨(.some 77), (.cmpI .eql (.tmp 14) (.const (.int .i64 4))), .none⟩, ⟨(.some 76), (.mov (.tmp 77)), .none⟩]
def p4_21 : List PO := [⟨(.some 79), (.fld 4 (.tmp 1)), .none⟩, ⟨(.some 80), (.load .false 1 (.tmp 79)), .none⟩, ⟨(.some 81), (.call 14 [(.tmp 80)]), .none⟩, ⟨(.some 78), (.mov (.tmp 81)), .none⟩, ⟨(.some 82), (.ext (.tmp 78) 0), .none⟩, ⟨(.some 83), (.ext (.tmp 78) 1), .none⟩, ⟨(.some 5), (.mov (.tmp 82)), .none⟩, ⟨(.some 6), (.mov (.tmp 83)), .none⟩]
def p4_22 : List PO := [⟨(.some 84), (.fld 2 (.tmp 1)), .none⟩, ⟨(.some 85), (.load .false 1 (.tmp 84)), .none⟩, ⟨(.some 86), (.cmpI .eql (.tmp 85) (.const (.int .i64 0))), .none⟩, ⟨(.some 87), (.mov (.tmp 86)), .none⟩, ⟨(.some 88), (.fld 2 (.tmp 1)), (.some (87, .false))⟩, ⟨(.some 89), (.load .false 1 (.tmp 88)), (.some (87, .false))⟩, ⟨(.some 90), (.call 10 [(.tmp 89), (.const (.int .i64 60)), (.const (.int .i64 63))]), (.some (87, .false))⟩, ⟨(.some 91), (.pick (.tmp 87) (.const (.bool .true)) (.tmp 90)), .none⟩, ⟨(.some 92), (.mov (.tmp 91)), .none⟩, ⟨(.some 93), (.fld 3 (.tmp 1)), (.some (92, .true))⟩, ⟨(.some 94), (.load .false 1 (.tmp 93)), (.some (92, .true))⟩, ⟨(.some 95), (.call 11 [(.tmp 94), (.const (.int .i64 2))]), (.some (92, .true))⟩, ⟨(.some 96), (.pick (.tmp 92) (.tmp 95) (.const (.bool .false))), .none⟩, ⟨(.some 97), (.mov (.tmp 96)), .none⟩, ⟨(.some 98), (.mov (.tmp 4)), (.some (97, .true))⟩, ⟨(.some 99), (.call 10 [(.tmp 98), (.const (.int .i64 64)), (.const (.int .i64 126))]), (.some (97, .true))⟩, ⟨(.some 100), (.pick (.tmp 97) (.tmp 99) (.const (.bool .false))), .none⟩, ⟨(.some 101), (.mov (.tmp 100)), .none⟩, ⟨(.some 102), (.mov (.tmp 6)), (.some (101, .true))⟩, ⟨(.some 103), (.cmpI .eql (.tmp 102) (.const (.int .i64 0))), (.some (101, .true))⟩, ⟨(.some 104), (.pick (.tmp 101) (.tmp 103) (.const (.bool .false))), .none⟩, ⟨(.some 105), (.mov (.tmp 104)), .none⟩, ⟨(.some 106), (.mov (.tmp 5)), (.some (105, .true))⟩, ⟨(.some 107), (.len .true (.tmp 106)), (.some (105, .true))⟩, ⟨(.some 108), (.cmpI .leq (.tmp 107) (.const (.int .i64 100))), (.some (105, .true))⟩, ⟨(.some 109), (.pick (.tmp 105) (.tmp 108) (.const (.bool .false))), .none⟩]
def p4_23 : List PO := [⟨(.some 110), (.bsl 3 1 2 [(2, (.int .i64 0))] [(0, (1, (.const (.int .i64 27)))), (1, (1, (.const (.int .i64 91))))]), .none⟩, ⟨(.some 7), (.mov (.tmp 110)), .none⟩]
def p4_24 : List PO := [⟨(.some 111), (.fld 2 (.tmp 1)), .none⟩, ⟨(.some 112), (.load .false 1 (.tmp 111)), .none⟩, ⟨(.some 113), (.cmpI .neq (.tmp 112) (.const (.int .i64 0))), .none⟩]
def p4_25 : List PO := [⟨(.some 114), (.mov (.tmp 7)), .none⟩, ⟨(.some 115), (.fld 2 (.tmp 1)), .none⟩, ⟨(.some 116), (.load .false 1 (.tmp 115)), .none⟩, ⟨(.some 117), (.bsl 3 1 1 [(1, (.int .i64 0))] [(0, (1, (.tmp 116)))]), .none⟩, ⟨(.some 118), (.app 3 1 8 (.tmp 114) (.tmp 117)), .none⟩, ⟨(.some 7), (.mov (.tmp 118)), .none⟩]
def p4_26 : List PO := [⟨(.some 119), (.mov (.tmp 7)), .none⟩, ⟨(.some 120), (.mov (.tmp 5)), .none⟩, ⟨(.some 121), (.fld 3 (.tmp 1)), .none⟩, ⟨(.some 122), (.load .false 1 (.tmp 121)), .none⟩, ⟨(.some 123), (.strO .add (.tmp 120) (.tmp 122)), .none⟩, ⟨(.some 124), (.call 13 [(.tmp 123)]), .none⟩, ⟨(.some 125), (.app 3 1 8 (.tmp 119) (.tmp 124)), .none⟩, ⟨(.some 126), (.mov (.tmp 4)), .none⟩, ⟨(.some 127), (.bsl 3 1 1 [(1, (.int .i64 0))] [(0, (1, (.tmp 126)))]), .none⟩, ⟨(.some 128), (.app 3 1 8 (.tmp 125) (.tmp 127)), .none⟩, ⟨(.some 2), (.mov (.tmp 128)), .none⟩, ⟨(.some 3), (.mov (.const (.int .i64 0))), .none⟩]
def c4_3 : PCode := (.keep [1, 4, 5, 7] [(16, .id 16), (888, .id 888)] [] (.seq (.reg p4_26) .ret))
def c4_4 : PCode := (.keep [1, 4, 5] [(16, .id 16)] [] (.seq (.reg p4_23) (.seq (.seq (.reg p4_24) (.cond (.tmp 113) (.reg p4_25) .skip)) c4_3)))
def p4_27 : List PO := [⟨(.some 130), (.cmpI .eql (.tmp 14) (.const (.int .i64 5))), .none⟩, ⟨(.some 129), (.mov (.tmp 130)), .none⟩]
def p4_28 : List PO := [⟨(.some 131), (.fld 5 (.tmp 1)), .none⟩, ⟨(.some 132), (.load .false 1 (.tmp 131)), .none⟩, ⟨(.some 133), (.call 15 [(.tmp 132)]), .none⟩]
def p4_29 : List PO := [⟨(.some 134), (.bsl 3 1 2 [(2, (.int .i64 0))] [(0, (1, (.const (.int .i64 27)))), (1, (1, (.const (.int .i64 93))))]), .none⟩, ⟨(.some 135), (.fld 5 (.tmp 1)), .none⟩, ⟨(.some 136), (.load .false 1 (.tmp 135)), .none⟩, ⟨(.some 137), (.call 13 [(.tmp 136)]), .none⟩, ⟨(.some 138), (.app 3 1 8 (.tmp 134) (.tmp 137)), .none⟩, ⟨(.some 139), (.bsl 3 1 1 [(1, (.int .i64 0))] [(0, (1, (.const (.int .i64 7))))]), .none⟩, ⟨(.some 140), (.app 3 1 8 (.tmp 138) (.tmp 139)), .none⟩, ⟨(.some 2), (.mov (.tmp 140)), .none⟩, ⟨(.some 3), (.mov (.const (.int .i64 0))), .none⟩]
def c4_30 : PCode := (.cond (.tmp 76) (.seq (.reg p4_21) (.seq (.reg p4_22) (.cond (.tmp 109) c4_4 .skip))) (.seq (.reg p4_27) (.cond (.tmp 129) (.seq (.reg p4_28) (.cond (.tmp 133) (.seq (.reg p4_29) .ret) .skip)) .skip)))
def c4_31 : PCode := (.seq (.reg p4_14) (.cond (.tmp 30) (.seq (.reg p4_15) (.cond (.tmp 45) (.seq (.reg p4_16) .ret) .skip)) (.seq (.reg p4_17) (.cond (.tmp 48) (.seq (.reg p4_18) (.cond (.tmp 67) c4_1 .skip)) (.seq (.reg p4_20) c4_30)))))
def p4_32 : List PO := [⟨(.some 2), (.nilS 3 1), .none⟩, ⟨(.some 3), (.mov (.const (.int .i64 1))), .none⟩]
def c4_2 : PCode := (.seq (.reg p4_32) .ret)
def c4_5 : PCode := (.keep [1] [(16, .id 16)] [] (.seq (.reg p4_9) (.seq (.seq (.reg p4_10) (.block 0 (.seq (.reg p4_11) (.cond (.tmp 15) (.seq (.reg p4_12) (.cond (.tmp 27) (.seq (.reg p4_13) .ret) .skip)) c4_31)))) c4_2)))
def c4_b : PCode := (.seq (.reg p4_6) (.seq (.seq (.reg p4_7) (.cond (.tmp 10) (.seq (.reg p4_8) .ret) .skip)) c4_5))
def c4 : FCode := ⟨141, c4_b, [(.tmp 2), (.tmp 3)], some ([2, 3], [(1161, (.slot 2 none))], []), false⟩
theorem c4_ok : compF Go.Proofs.Tryd.prog [100005, 17, 28, 29, 30, 31, 32, 33, 34, 46, 47, 48, 60, 74] 4 = some (eraseF c4) := by kernel_rfl
def p27_14 : List PO := [⟨(.some 2), (.nilS 3 1), .none⟩, ⟨(.some 3), (.mov (.const (.int .i64 0))), .none⟩]
def p27_15 : List PO := [⟨(.some 10), (.mov (.tmp 0)), .none⟩, ⟨(.some 11), (.call 43 [(.tmp 10), (.const (.string ⟨#[48, 49, 50, 51, 52, 53, 54, 55, 56, 57, 59]⟩))]), .none⟩, ⟨(.some 12), (.strO .neq (.tmp 11) (.const (.string ⟨#[]⟩))), .none⟩]
def p27_16 : List PO := [⟨(.some 2), (.nilS 3 1), .none⟩, ⟨(.some 3), (.mov (.const (.int .i64 4))), .none⟩]
def p27_17 : List PO := [⟨(.some 13), (.mov (.tmp 0)), .none⟩, ⟨(.some 14), (.len .true (.tmp 13)), .none⟩, ⟨(.some 15), (.mov (.const (.int .i64 0))), .none⟩]
def p27_18 : List PO := [⟨(.some 16), (.cmpI .lss (.tmp 15) (.tmp 14)), .none⟩]
def p27_19 : List PO := [⟨(.some 17), (.mov (.tmp 15)), .none⟩, ⟨(.some 4), (.mov (.tmp 17)), .none⟩]
def p27_20 : List PO := [⟨(.some 18), (.mov (.tmp 0)), .none⟩, ⟨(.some 19), (.mov (.tmp 4)), .none⟩, ⟨(.some 20), (.ixStr (.tmp 18) (.tmp 19)), .none⟩, ⟨(.some 21), (.cmpI .neq (.tmp 20) (.const (.int .u8 59))), .none⟩, ⟨(.some 22), (.mov (.tmp 21)), .none⟩, ⟨(.some 23), (.mov (.tmp 0)), (.some (22, .true))⟩, ⟨(.some 24), (.mov (.tmp 4)), (.some (22, .true))⟩, ⟨(.some 25), (.ixStr (.tmp 23) (.tmp 24)), (.some (22, .true))⟩, ⟨(.some 26), (.cmpI .lss (.tmp 25) (.const (.int .u8 48))), (.some (22, .true))⟩, ⟨(.some 27), (.mov (.tmp 26)), (.some (22, .true))⟩, ⟨(.some 28), (.mov (.tmp 0)), (.some (27, .false))⟩, ⟨(.some 29), (.mov (.tmp 4)), (.some (27, .false))⟩, ⟨(.some 30), (.ixStr (.tmp 28) (.tmp 29)), (.some (27, .false))⟩, ⟨(.some 31), (.cmpI .gtr (.tmp 30) (.const (.int .u8 57))), (.some (27, .false))⟩, ⟨(.some 32), (.pick (.tmp 27) (.const (.bool .true)) (.tmp 31)), (.some (22, .true))⟩, ⟨(.some 33), (.pick (.tmp 22) (.tmp 32) (.const (.bool .false))), .none⟩]
def p27_21 : List PO := [⟨(.some 2), (.nilS 3 1), .none⟩, ⟨(.some 3), (.mov (.const (.int .i64 4))), .none⟩]
def p27_22 : List PO := [⟨(.some 34), (.arI .add (.tmp 15) (.const (.int .i64 1))), .none⟩, ⟨(.some 15), (.mov (.tmp 34)), .none⟩]
def c27_10 : PCode := (.keep [0, 14, 15] [] [] (.seq (.block 1 (.seq (.reg p27_19) (.seq (.reg p27_20) (.cond (.tmp 33) (.seq (.reg p27_21) .ret) .skip)))) (.reg p27_22)))
def c27_11 : PCode := (.keep [0, 14, 15, 16] [] [] (.seq (.cond (.tmp 16) .skip (.keep [0] [] [] (.exit 0))) c27_10))
def c27_12 : PCode := (.keep [0, 14, 15] [] [] (.seq (.reg p27_18) c27_11))
def p27_23 : List PO := [⟨(.some 5), (.nilS 3 1), .none⟩]
def p27_24 : List PO := [⟨(.some 35), (.mov (.tmp 0)), .none⟩, ⟨(.some 36), (.call 44 [(.tmp 35), (.const (.string ⟨#[59]⟩))]), .none⟩, ⟨(.some 37), (.len .false (.tmp 36)), .none⟩, ⟨(.some 38), (.mov (.const (.int .i64 0))), .none⟩]
def p27_25 : List PO := [⟨(.some 39), (.cmpI .lss (.tmp 38) (.tmp 37)), .none⟩]
def p27_26 : List PO := [⟨(.some 40), (.ixS 9 1 (.tmp 36) (.tmp 38)), .none⟩, ⟨(.some 41), (.load .false 1 (.tmp 40)), .none⟩, ⟨(.some 7), (.mov (.tmp 41)), .none⟩]
def p27_27 : List PO := [⟨(.some 42), (.mov (.tmp 5)), .none⟩, ⟨(.some 43), (.len .false (.tmp 42)), .none⟩, ⟨(.some 44), (.cmpI .eql (.tmp 43) (.const (.int .i64 32))), .none⟩]
def p27_28 : List PO := [⟨(.some 8), (.mov (.const (.int .i64 (-1)))), .none⟩]
def p27_29 : List PO := [⟨(.some 45), (.mov (.tmp 7)), .none⟩, ⟨(.some 46), (.len .true (.tmp 45)), .none⟩, ⟨(.some 47), (.mov (.const (.int .i64 0))), .none⟩]
def p27_30 : List PO := [⟨(.some 48), (.cmpI .lss (.tmp 47) (.tmp 46)), .none⟩]
def p27_31 : List PO := [⟨(.some 49), (.mov (.tmp 47)), .none⟩, ⟨(.some 9), (.mov (.tmp 49)), .none⟩]
def p27_32 : List PO := [⟨(.some 50), (.mov (.tmp 8)), .none⟩, ⟨(.some 51), (.mx [(.tmp 50), (.const (.int .i64 0))]), .none⟩, ⟨(.some 52), (.arI .mul (.tmp 51) (.const (.int .i64 10))), .none⟩, ⟨(.some 53), (.mov (.tmp 7)), .none⟩, ⟨(.some 54), (.mov (.tmp 9)), .none⟩, ⟨(.some 55), (.ixStr (.tmp 53) (.tmp 54)), .none⟩, ⟨(.some 56), (.arI .sub (.tmp 55) (.const (.int .u8 48))), .none⟩, ⟨(.some 57), (.cvI .i64 (.tmp 56)), .none⟩, ⟨(.some 58), (.arI .add (.tmp 52) (.tmp 57)), .none⟩, ⟨(.some 59), (.mn [(.tmp 58), (.const (.int .i64 16383))]), .none⟩, ⟨(.some 8), (.mov (.tmp 59)), .none⟩]
def p27_33 : List PO := [⟨(.some 60), (.arI .add (.tmp 47) (.const (.int .i64 1))), .none⟩, ⟨(.some 47), (.mov (.tmp 60)), .none⟩]
def c27_1 : PCode := (.keep [5, 7, 8, 36, 37, 38, 46, 47] [(48, .id 48)] [] (.seq (.block 5 (.seq (.reg p27_31) (.reg p27_32))) (.reg p27_33)))
def c27_2 : PCode := (.keep [5, 7, 8, 36, 37, 38, 46, 47, 48] [(48, .id 48)] [] (.seq (.cond (.tmp 48) .skip (.keep [5, 8, 36, 37, 38] [(48, .id 48)] [] (.exit 4))) c27_1))
def c27_3 : PCode := (.keep [5, 7, 8, 36, 37, 38, 46, 47] [(48, .id 48)] [] (.seq (.reg p27_30) c27_2))
def p27_34 : List PO := [⟨(.some 61), (.mov (.tmp 5)), .none⟩, ⟨(.some 62), (.mov (.tmp 8)), .none⟩, ⟨(.some 63), (.bsl 3 1 1 [(1, (.int .i64 0))] [(0, (1, (.tmp 62)))]), .none⟩, ⟨(.some 64), (.app 3 1 8 (.tmp 61) (.tmp 63)), .none⟩, ⟨(.some 5), (.mov (.tmp 64)), .none⟩]
def c27_4 : PCode := (.keep [5, 7, 36, 37, 38] [(48, .id 48)] [] (.seq (.reg p27_28) (.seq (.seq (.reg p27_29) (.block 4 (.loop c27_3))) (.reg p27_34))))
def p27_35 : List PO := [⟨(.some 65), (.arI .add (.tmp 38) (.const (.int .i64 1))), .none⟩, ⟨(.some 38), (.mov (.tmp 65)), .none⟩]
def c27_5 : PCode := (.reg p27_35)
def c27_6 : PCode := (.keep [5, 36, 37, 38] [(48, .id 48)] [] (.seq (.block 3 (.seq (.reg p27_26) (.seq (.seq (.reg p27_27) (.cond (.tmp 44) (.keep [5] [(48, .id 48)] [] (.exit 2)) .skip)) c27_4))) c27_5))
def c27_7 : PCode := (.keep [5, 36, 37, 38, 39] [(48, .id 48)] [] (.seq (.cond (.tmp 39) .skip (.keep [5] [(48, .id 48)] [] (.exit 2))) c27_6))
def c27_8 : PCode := (.keep [5, 36, 37, 38] [(48, .id 48)] [] (.seq (.reg p27_25) c27_7))
def p27_36 : List PO := [⟨(.some 66), (.mov (.tmp 5)), .none⟩, ⟨(.some 2), (.mov (.tmp 66)), .none⟩, ⟨(.some 3), (.mov (.const (.int .i64 0))), .none⟩]
def c27_9 : PCode := (.keep [0] [] [] (.seq (.reg p27_23) (.seq (.seq (.reg p27_24) (.block 2 (.loop c27_8))) (.seq (.reg p27_36) .ret))))
def c27_13 : PCode := (.keep [0] [] [] (.seq (.seq (.reg p27_17) (.block 0 (.loop c27_12))) c27_9))
def c27_b : PCode := (.seq (.reg p27_14) (.seq (.seq (.reg p27_15) (.cond (.tmp 12) (.seq (.reg p27_16) .ret) .skip)) c27_13))
def c27 : FCode := ⟨67, c27_b, [(.tmp 2), (.tmp 3)], some ([2, 3], [(569, (.slot 2 none))], []), false⟩
theorem c27_ok : compF Go.Proofs.Tryd.prog [100005, 17, 28, 29, 30, 31, 32, 33, 34, 46, 47, 48, 60, 74] 27 = some (eraseF c27) := by kernel_rfl
def p16_5 : List PO := [⟨(.some 1), (.box 5 (.tmp 0)), .none⟩, ⟨(.some 2), (.mov (.const (.int .i64 0))), .none⟩]
def p16_6 : List PO := [⟨(.some 7), (.fld 0 (.tmp 1)), .none⟩, ⟨(.some 8), (.load .false 1 (.tmp 7)), .none⟩, ⟨(.some 9), (.cmpI .eql (.tmp 8) (.const (.int .i64 2))), .none⟩, ⟨(.some 10), (.mov (.tmp 9)), .none⟩, ⟨(.some 11), (.fld 0 (.tmp 1)), (.some (10, .false))⟩, ⟨(.some 12), (.load .false 1 (.tmp 11)), (.some (10, .false))⟩, ⟨(.some 13), (.cmpI .eql (.tmp 12) (.const (.int .i64 5))), (.some (10, .false))⟩, ⟨(.some 14), (.pick (.tmp 10) (.const (.bool .true)) (.tmp 13)), .none⟩, ⟨(.some 3), (.mov (.tmp 14)), .none⟩]
def p16_7 : List PO := [⟨(.some 16), (.fld 3 (.tmp 1)), .none⟩, ⟨(.some 17), (.load .false 1 (.tmp 16)), .none⟩, ⟨(.some 18), (.call 27 [(.tmp 17)]), .none⟩, ⟨(.some 15), (.mov (.tmp 18)), .none⟩, ⟨(.some 19), (.ext (.tmp 15) 0), .none⟩, ⟨(.some 20), (.ext (.tmp 15) 1), .none⟩, ⟨(.some 4), (.mov (.tmp 19)), .none⟩, ⟨(.some 5), (.mov (.tmp 20)), .none⟩]
def p16_8 : List PO := [⟨(.some 21), (.fld 0 (.tmp 1)), .none⟩, ⟨(.some 22), (.load .false 1 (.tmp 21)), .none⟩, ⟨(.some 23), (.call 10 [(.tmp 22), (.const (.int .i64 0)), (.const (.int .i64 10))]), .none⟩, ⟨(.some 6), (.mov (.tmp 23)), .none⟩]
def p16_9 : List PO := [⟨(.some 24), (.mov (.tmp 6)), .none⟩, ⟨(.some 25), (.mov (.tmp 24)), .none⟩, ⟨(.some 26), (.fld 1 (.tmp 1)), (.some (25, .true))⟩, ⟨(.some 27), (.load .false 1 (.tmp 26)), (.some (25, .true))⟩, ⟨(.some 28), (.cmpI .eql (.tmp 27) (.const (.int .i64 0))), (.some (25, .true))⟩, ⟨(.some 29), (.mov (.tmp 28)), (.some (25, .true))⟩, ⟨(.some 30), (.fld 1 (.tmp 1)), (.some (29, .false))⟩, ⟨(.some 31), (.load .false 1 (.tmp 30)), (.some (29, .false))⟩, ⟨(.some 32), (.call 10 [(.tmp 31), (.const (.int .i64 60)), (.const (.int .i64 63))]), (.some (29, .false))⟩, ⟨(.some 33), (.mov (.tmp 32)), (.some (29, .false))⟩, ⟨(.some 34), (.fld 0 (.tmp 1)), (.some (33, .true))⟩, ⟨(.some 35), (.load .false 1 (.tmp 34)), (.some (33, .true))⟩, ⟨(.some 36), (.cmpI .eql (.tmp 35) (.const (.int .i64 4))), (.some (33, .true))⟩, ⟨(.some 37), (.mov (.tmp 36)), (.some (33, .true))⟩, ⟨(.some 38), (.fld 0 (.tmp 1)), (.some (37, .false))⟩, ⟨(.some 39), (.load .false 1 (.tmp 38)), (.some (37, .false))⟩, ⟨(.some 40), (.cmpI .eql (.tmp 39) (.const (.int .i64 5))), (.some (37, .false))⟩, ⟨(.some 41), (.pick (.tmp 37) (.const (.bool .true)) (.tmp 40)), (.some (33, .true))⟩, ⟨(.some 42), (.pick (.tmp 33) (.tmp 41) (.const (.bool .false))), (.some (29, .false))⟩, ⟨(.some 43), (.pick (.tmp 29) (.const (.bool .true)) (.tmp 42)), (.some (25, .true))⟩, ⟨(.some 44), (.pick (.tmp 25) (.tmp 43) (.const (.bool .false))), .none⟩, ⟨(.some 6), (.mov (.tmp 44)), .none⟩]
def p16_10 : List PO := [⟨(.some 45), (.mov (.tmp 6)), .none⟩, ⟨(.some 46), (.mov (.tmp 45)), .none⟩, ⟨(.some 47), (.fld 2 (.tmp 1)), (.some (46, .true))⟩, ⟨(.some 48), (.load .false 1 (.tmp 47)), (.some (46, .true))⟩, ⟨(.some 49), (.call 11 [(.tmp 48), (.const (.int .i64 3))]), (.some (46, .true))⟩, ⟨(.some 50), (.pick (.tmp 46) (.tmp 49) (.const (.bool .false))), .none⟩, ⟨(.some 51), (.mov (.tmp 50)), .none⟩, ⟨(.some 52), (.fld 2 (.tmp 1)), (.some (51, .true))⟩, ⟨(.some 53), (.load .false 1 (.tmp 52)), (.some (51, .true))⟩, ⟨(.some 54), (.strO .neq (.tmp 53) (.const (.string ⟨#[]⟩))), (.some (51, .true))⟩, ⟨(.some 55), (.mov (.tmp 3)), (.some (51, .true))⟩, ⟨(.some 56), (.eqB .false (.tmp 54) (.tmp 55)), (.some (51, .true))⟩, ⟨(.some 57), (.pick (.tmp 51) (.tmp 56) (.const (.bool .false))), .none⟩, ⟨(.some 6), (.mov (.tmp 57)), .none⟩]
def p16_11 : List PO := [⟨(.some 58), (.mov (.tmp 6)), .none⟩, ⟨(.some 59), (.mov (.tmp 58)), .none⟩, ⟨(.some 60), (.mov (.tmp 5)), (.some (59, .true))⟩, ⟨(.some 61), (.cmpI .eql (.tmp 60) (.const (.int .i64 0))), (.some (59, .true))⟩, ⟨(.some 62), (.pick (.tmp 59) (.tmp 61) (.const (.bool .false))), .none⟩, ⟨(.some 63), (.mov (.tmp 62)), .none⟩, ⟨(.some 64), (.fld 3 (.tmp 1)), (.some (63, .true))⟩, ⟨(.some 65), (.load .false 1 (.tmp 64)), (.some (63, .true))⟩, ⟨(.some 66), (.len .true (.tmp 65)), (.some (63, .true))⟩, ⟨(.some 67), (.cmpI .leq (.tmp 66) (.const (.int .i64 100))), (.some (63, .true))⟩, ⟨(.some 68), (.pick (.tmp 63) (.tmp 67) (.const (.bool .false))), .none⟩, ⟨(.some 69), (.mov (.tmp 68)), .none⟩, ⟨(.some 70), (.fld 3 (.tmp 1)), (.some (69, .true))⟩, ⟨(.some 71), (.load .false 1 (.tmp 70)), (.some (69, .true))⟩, ⟨(.some 72), (.strO .eql (.tmp 71) (.const (.string ⟨#[]⟩))), (.some (69, .true))⟩, ⟨(.some 73), (.mov (.tmp 72)), (.some (69, .true))⟩, ⟨(.some 74), (.fld 0 (.tmp 1)), (.some (73, .false))⟩, ⟨(.some 75), (.load .false 1 (.tmp 74)), (.some (73, .false))⟩, ⟨(.some 76), (.cmpI .eql (.tmp 75) (.const (.int .i64 4))), (.some (73, .false))⟩, ⟨(.some 77), (.pick (.tmp 73) (.const (.bool .true)) (.tmp 76)), (.some (69, .true))⟩, ⟨(.some 78), (.mov (.tmp 77)), (.some (69, .true))⟩, ⟨(.some 79), (.fld 0 (.tmp 1)), (.some (78, .false))⟩, ⟨(.some 80), (.load .false 1 (.tmp 79)), (.some (78, .false))⟩, ⟨(.some 81), (.cmpI .eql (.tmp 80) (.const (.int .i64 5))), (.some (78, .false))⟩, ⟨(.some 82), (.pick (.tmp 78) (.const (.bool .true)) (.tmp 81)), (.some (69, .true))⟩, ⟨(.some 83), (.pick (.tmp 69) (.tmp 82) (.const (.bool .false))), .none⟩, ⟨(.some 6), (.mov (.tmp 83)), .none⟩]
def p16_12 : List PO := [⟨(.some 84), (.mov (.tmp 6)), .none⟩, ⟨(.some 85), (.mov (.tmp 84)), .none⟩, ⟨(.some 86), (.fld 4 (.tmp 1)), (.some (85, .true))⟩, ⟨(.some 87), (.load .false 1 (.tmp 86)), (.some (85, .true))⟩, ⟨(.some 88), (.len .true (.tmp 87)), (.some (85, .true))⟩, ⟨(.some 89), (.cmpI .leq (.tmp 88) (.const (.int .i64 256))), (.some (85, .true))⟩, ⟨(.some 90), (.pick (.tmp 85) (.tmp 89) (.const (.bool .false))), .none⟩, ⟨(.some 91), (.mov (.tmp 90)), .none⟩, ⟨(.some 92), (.fld 4 (.tmp 1)), (.some (91, .true))⟩, ⟨(.some 93), (.load .false 1 (.tmp 92)), (.some (91, .true))⟩, ⟨(.some 94), (.strO .eql (.tmp 93) (.const (.string ⟨#[]⟩))), (.some (91, .true))⟩, ⟨(.some 95), (.mov (.tmp 94)), (.some (91, .true))⟩, ⟨(.some 96), (.fld 0 (.tmp 1)), (.some (95, .false))⟩, ⟨(.some 97), (.load .false 1 (.tmp 96)), (.some (95, .false))⟩, ⟨(.some 98), (.cmpI .eql (.tmp 97) (.const (.int .i64 7))), (.some (95, .false))⟩, ⟨(.some 99), (.pick (.tmp 95) (.const (.bool .true)) (.tmp 98)), (.some (91, .true))⟩, ⟨(.some 100), (.mov (.tmp 99)), (.some (91, .true))⟩, ⟨(.some 101), (.fld 0 (.tmp 1)), (.some (100, .false))⟩, ⟨(.some 102), (.load .false 1 (.tmp 101)), (.some (100, .false))⟩, ⟨(.some 103), (.cmpI .eql (.tmp 102) (.const (.int .i64 8))), (.some (100, .false))⟩, ⟨(.some 104), (.pick (.tmp 100) (.const (.bool .true)) (.tmp 103)), (.some (91, .true))⟩, ⟨(.some 105), (.pick (.tmp 91) (.tmp 104) (.const (.bool .false))), .none⟩, ⟨(.some 6), (.mov (.tmp 105)), .none⟩]
def p16_13 : List PO := [⟨(.some 106), (.mov (.tmp 6)), .none⟩, ⟨(.some 107), (.un .not (.tmp 106)), .none⟩]
def p16_14 : List PO := [⟨(.some 2), (.mov (.const (.int .i64 4))), .none⟩]
def p16_15 : List PO := [⟨(.some 2), (.mov (.const (.int .i64 0))), .none⟩]
def c16_1 : PCode := (.keep [1, 6] [(16, .id 16)] [] (.seq (.reg p16_12) (.seq (.seq (.reg p16_13) (.cond (.tmp 107) (.seq (.reg p16_14) .ret) .skip)) (.seq (.reg p16_15) .ret))))
def c16_2 : PCode := (.keep [1, 5, 6] [(16, .id 16)] [] (.seq (.reg p16_11) c16_1))
def c16_3 : PCode := (.keep [1, 3, 5, 6] [(16, .id 16)] [] (.seq (.reg p16_10) c16_2))
def c16_4 : PCode := (.keep [1, 3] [(16, .id 16)] [] (.seq (.reg p16_7) (.seq (.reg p16_8) (.seq (.reg p16_9) c16_3))))
def c16_b : PCode := (.seq (.reg p16_5) (.seq (.reg p16_6) c16_4))
def c16 : FCode := ⟨108, c16_b, [(.tmp 2)], some ([2], [], []), false⟩
theorem c16_ok : compF Go.Proofs.Tryd.prog [100005, 17, 28, 29, 30, 31, 32, 33, 34, 46, 47, 48, 60, 74] 16 = some (eraseF c16) := by kernel_rfl
def p29_1 : List PO := [⟨(.some 3), (.box 6 (.tmp 1)), .none⟩]
def p29_2 : List PO := [⟨(.some 4), (.mov (.tmp 0)), .none⟩, ⟨(.some 5), (.mov (.tmp 0)), .none⟩, ⟨(.some 6), (.nilC (.tmp 5)), .none⟩, ⟨(.some 7), (.fld 5 (.tmp 6)), .none⟩, ⟨(.some 8), (.load .false 1 (.tmp 7)), .none⟩, ⟨(.some 9), (.load .true 6 (.tmp 3)), .none⟩, ⟨(.some 10), (.bsl 25 6 1 [(3, (.int .i64 0)), (1, (.string ⟨#[]⟩)), (1, (.slice .none 0 0)), (1, (.string ⟨#[]⟩))] [(0, (6, (.tmp 9)))]), .none⟩, ⟨(.some 11), (.app 25 6 80 (.tmp 8) (.tmp 10)), .none⟩, ⟨(.some 12), (.nilC (.tmp 4)), .none⟩, ⟨(.some 13), (.fld 5 (.tmp 12)), .none⟩, ⟨.none, (.store 1 (.tmp 13) (.tmp 11)), .none⟩]
def c29_b : PCode := (.seq (.reg p29_1) (.regD p29_2 [(4, 6)]))
def c29 : FCode := ⟨14, c29_b, [], some ([1000001], [(0, .id 0), (1, .id 1)], []), false⟩
theorem c29_ok : compF Go.Proofs.Tryd.prog [100005, 17, 28, 29, 30, 31, 32, 33, 34, 46, 47, 48, 60, 74] 29 = some (eraseF c29) := by kernel_rfl
def p30_1 : List PO := [⟨(.some 4), (.mov (.tmp 0)), .none⟩, ⟨(.some 5), (.mov (.tmp 1)), .none⟩, ⟨(.some 6), (.build [(2, (.int .i64 0)), (3, (.string ⟨#[]⟩))] [(0, (1, (.tmp 5)))]), .none⟩, ⟨(.some 7), (.nilC (.tmp 4)), .none⟩, ⟨(.some 8), (.fld 0 (.tmp 7)), .none⟩, ⟨.none, (.store 5 (.tmp 8) (.tmp 6)), .none⟩]
def c30_b : PCode := (.reg p30_1)
def c30 : FCode := ⟨9, c30_b, [], some ([1000001], [(0, .id 0), (1, .id 1)], []), false⟩
theorem c30_ok : compF Go.Proofs.Tryd.prog [100005, 17, 28, 29, 30, 31, 32, 33, 34, 46, 47, 48, 60, 74] 30 = some (eraseF c30) := by kernel_rfl
def p31_1 : List PO := [⟨(.some 4), (.mov (.tmp 0)), .none⟩, ⟨(.some 5), (.build [(3, (.int .i64 0)), (1, (.string ⟨#[]⟩)), (1, (.slice .none 0 0)), (1, (.string ⟨#[]⟩))] [(0, (1, (.const (.int .i64 6))))]), .none⟩, ⟨(.some 6), (.callr 29 [(.tmp 4), (.tmp 5)]), .none⟩]
def p31_2 : List PO := [⟨(.some 7), (.mov (.tmp 0)), .none⟩, ⟨(.some 8), (.mov (.tmp 1)), .none⟩, ⟨(.some 9), (.callr 30 [(.tmp 7), (.tmp 8)]), .none⟩]
def c31_b : PCode := (.seq (.reg p31_1) (.reg p31_2))
def c31 : FCode := ⟨10, c31_b, [], some ([1000001], [(0, .id 0), (1, .id 1)], []), false⟩
theorem c31_ok : compF Go.Proofs.Tryd.prog [100005, 17, 28, 29, 30, 31, 32, 33, 34, 46, 47, 48, 60, 74] 31 = some (eraseF c31) := by kernel_rfl
def p74_2 : List PO := [⟨(.some 4), (.nilS 5 1), .none⟩]
def p74_3 : List PO := [⟨(.some 6), (.mov (.tmp 1)), .none⟩, ⟨(.some 7), (.cvI .u32 (.tmp 6)), .none⟩, ⟨(.some 5), (.mov (.tmp 7)), .none⟩]
def p74_4 : List PO := [⟨(.some 12), (.mov (.tmp 5)), .none⟩, ⟨(.some 13), (.cmpI .leq (.tmp 12) (.const (.int .u32 2047))), .none⟩, ⟨(.some 11), (.mov (.tmp 13)), .none⟩]
def p74_5 : List PO := [⟨(.some 14), (.mov (.tmp 0)), .none⟩, ⟨(.some 15), (.mov (.tmp 1)), .none⟩, ⟨(.some 16), (.sh .shr (.tmp 15) (.const (.int .u64 6))), .none⟩, ⟨(.some 17), (.cvI .u8 (.tmp 16)), .none⟩, ⟨(.some 18), (.arI .or (.const (.int .u8 192)) (.tmp 17)), .none⟩, ⟨(.some 19), (.mov (.tmp 1)), .none⟩, ⟨(.some 20), (.cvI .u8 (.tmp 19)), .none⟩, ⟨(.some 21), (.arI .and (.tmp 20) (.const (.int .u8 63))), .none⟩, ⟨(.some 22), (.arI .or (.const (.int .u8 128)) (.tmp 21)), .none⟩, ⟨(.some 23), (.bsl 5 1 2 [(2, (.int .u8 0))] [(0, (1, (.tmp 18))), (1, (1, (.tmp 22)))]), .none⟩, ⟨(.some 24), (.app 5 1 1 (.tmp 14) (.tmp 23)), .none⟩, ⟨(.some 4), (.mov (.tmp 24)), .none⟩]
def p74_6 : List PO := [⟨(.some 26), (.mov (.tmp 5)), .none⟩, ⟨(.some 27), (.cmpI .lss (.tmp 26) (.const (.int .u32 55296))), .none⟩, ⟨(.some 25), (.mov (.tmp 27)), .none⟩]
def p74_7 : List PO := [⟨(.some 28), (.mov (.tmp 5)), .none⟩, ⟨(.some 29), (.cmpI .lss (.const (.int .u32 57343)) (.tmp 28)), .none⟩, ⟨(.some 30), (.mov (.tmp 29)), .none⟩, ⟨(.some 31), (.mov (.tmp 5)), (.some (30, .true))⟩, ⟨(.some 32), (.cmpI .leq (.tmp 31) (.const (.int .u32 65535))), (.some (30, .true))⟩, ⟨(.some 33), (.pick (.tmp 30) (.tmp 32) (.const (.bool .false))), .none⟩, ⟨(.some 25), (.mov (.tmp 33)), .none⟩]
def p74_8 : List PO := [⟨(.some 34), (.mov (.tmp 0)), .none⟩, ⟨(.some 35), (.mov (.tmp 1)), .none⟩, ⟨(.some 36), (.sh .shr (.tmp 35) (.const (.int .u64 12))), .none⟩, ⟨(.some 37), (.cvI .u8 (.tmp 36)), .none⟩, ⟨(.some 38), (.arI .or (.const (.int .u8 224)) (.tmp 37)), .none⟩, ⟨(.some 39), (.mov (.tmp 1)), .none⟩, ⟨(.some 40), (.sh .shr (.tmp 39) (.const (.int .u64 6))), .none⟩, ⟨(.some 41), (.cvI .u8 (.tmp 40)), .none⟩, ⟨(.some 42), (.arI .and (.tmp 41) (.const (.int .u8 63))), .none⟩, ⟨(.some 43), (.arI .or (.const (.int .u8 128)) (.tmp 42)), .none⟩, ⟨(.some 44), (.mov (.tmp 1)), .none⟩, ⟨(.some 45), (.cvI .u8 (.tmp 44)), .none⟩, ⟨(.some 46), (.arI .and (.tmp 45) (.const (.int .u8 63))), .none⟩, ⟨(.some 47), (.arI .or (.const (.int .u8 128)) (.tmp 46)), .none⟩, ⟨(.some 48), (.bsl 5 1 3 [(3, (.int .u8 0))] [(0, (1, (.tmp 38))), (1, (1, (.tmp 43))), (2, (1, (.tmp 47)))]), .none⟩, ⟨(.some 49), (.app 5 1 1 (.tmp 34) (.tmp 48)), .none⟩, ⟨(.some 4), (.mov (.tmp 49)), .none⟩]
def p74_9 : List PO := [⟨(.some 51), (.mov (.tmp 5)), .none⟩, ⟨(.some 52), (.cmpI .gtr (.tmp 51) (.const (.int .u32 65535))), .none⟩, ⟨(.some 53), (.mov (.tmp 52)), .none⟩, ⟨(.some 54), (.mov (.tmp 5)), (.some (53, .true))⟩, ⟨(.some 55), (.cmpI .leq (.tmp 54) (.const (.int .u32 1114111))), (.some (53, .true))⟩, ⟨(.some 56), (.pick (.tmp 53) (.tmp 55) (.const (.bool .false))), .none⟩, ⟨(.some 50), (.mov (.tmp 56)), .none⟩]
def p74_10 : List PO := [⟨(.some 57), (.mov (.tmp 0)), .none⟩, ⟨(.some 58), (.mov (.tmp 1)), .none⟩, ⟨(.some 59), (.sh .shr (.tmp 58) (.const (.int .u64 18))), .none⟩, ⟨(.some 60), (.cvI .u8 (.tmp 59)), .none⟩, ⟨(.some 61), (.arI .or (.const (.int .u8 240)) (.tmp 60)), .none⟩, ⟨(.some 62), (.mov (.tmp 1)), .none⟩, ⟨(.some 63), (.sh .shr (.tmp 62) (.const (.int .u64 12))), .none⟩, ⟨(.some 64), (.cvI .u8 (.tmp 63)), .none⟩, ⟨(.some 65), (.arI .and (.tmp 64) (.const (.int .u8 63))), .none⟩, ⟨(.some 66), (.arI .or (.const (.int .u8 128)) (.tmp 65)), .none⟩, ⟨(.some 67), (.mov (.tmp 1)), .none⟩, ⟨(.some 68), (.sh .shr (.tmp 67) (.const (.int .u64 6))), .none⟩, ⟨(.some 69), (.cvI .u8 (.tmp 68)), .none⟩, ⟨(.some 70), (.arI .and (.tmp 69) (.const (.int .u8 63))), .none⟩, ⟨(.some 71), (.arI .or (.const (.int .u8 128)) (.tmp 70)), .none⟩, ⟨(.some 72), (.mov (.tmp 1)), .none⟩, ⟨(.some 73), (.cvI .u8 (.tmp 72)), .none⟩, ⟨(.some 74), (.arI .and (.tmp 73) (.const (.int .u8 63))), .none⟩, ⟨(.some 75), (.arI .or (.const (.int .u8 128)) (.tmp 74)), .none⟩, ⟨(.some 76), (.bsl 5 1 4 [(4, (.int .u8 0))] [(0, (1, (.tmp 61))), (1, (1, (.tmp 66))), (2, (1, (.tmp 71))), (3, (1, (.tmp 75)))]), .none⟩, ⟨(.some 77), (.app 5 1 1 (.tmp 57) (.tmp 76)), .none⟩, ⟨(.some 4), (.mov (.tmp 77)), .none⟩]
def p74_11 : List PO := [⟨(.some 8), (.mov (.tmp 0)), .none⟩, ⟨(.some 9), (.bsl 5 1 3 [(3, (.int .u8 0))] [(0, (1, (.const (.int .u8 239)))), (1, (1, (.const (.int .u8 191)))), (2, (1, (.const (.int .u8 189))))]), .none⟩, ⟨(.some 10), (.app 5 1 1 (.tmp 8) (.tmp 9)), .none⟩, ⟨(.some 4), (.mov (.tmp 10)), .none⟩]
def c74_1 : PCode := (.keep [0, 1, 5, 25, 1000000] [(0, .id 0)] [] (.cond (.tmp 25) (.seq (.reg p74_8) .ret) (.seq (.reg p74_9) (.cond (.tmp 50) (.seq (.reg p74_10) .ret) (.seq (.reg p74_11) .ret)))))
def c74_b : PCode := (.seq (.reg p74_2) (.seq (.reg p74_3) (.block 0 (.seq (.reg p74_4) (.cond (.tmp 11) (.seq (.reg p74_5) .ret) (.seq (.seq (.reg p74_6) (.cond (.tmp 25) .skip (.reg p74_7))) c74_1))))))
def c74 : FCode := ⟨78, c74_b, [(.tmp 4)], some ([4, 1000000], [(0, .id 0)], []), false⟩
theorem c74_ok : compF Go.Proofs.Tryd.prog [100005, 17, 28, 29, 30, 31, 32, 33, 34, 46, 47, 48, 60, 74] 74 = some (eraseF c74) := by kernel_rfl
def p60_1 : List PO := [⟨(.some 4), (.nilS 5 1), .none⟩]
def p60_2 : List PO := [⟨(.some 5), (.mov (.tmp 1)), .none⟩, ⟨(.some 6), (.cvI .u32 (.tmp 5)), .none⟩, ⟨(.some 7), (.cmpI .leq (.tmp 6) (.const (.int .u32 127))), .none⟩]
def p60_3 : List PO := [⟨(.some 8), (.mov (.tmp 0)), .none⟩, ⟨(.some 9), (.mov (.tmp 1)), .none⟩, ⟨(.some 10), (.cvI .u8 (.tmp 9)), .none⟩, ⟨(.some 11), (.bsl 5 1 1 [(1, (.int .u8 0))] [(0, (1, (.tmp 10)))]), .none⟩, ⟨(.some 12), (.app 5 1 1 (.tmp 8) (.tmp 11)), .none⟩, ⟨(.some 4), (.mov (.tmp 12)), .none⟩]
def p60_4 : List PO := [⟨(.some 13), (.mov (.tmp 0)), .none⟩, ⟨(.some 14), (.mov (.tmp 1)), .none⟩, ⟨(.some 15), (.callr 74 [(.tmp 13), (.tmp 14)]), .none⟩, ⟨(.some 4), (.mov (.tmp 15)), .none⟩]
def c60_b : PCode := (.seq (.reg p60_1) (.seq (.seq (.reg p60_2) (.cond (.tmp 7) (.seq (.reg p60_3) .ret) .skip)) (.seq (.reg p60_4) .ret)))
def c60 : FCode := ⟨16, c60_b, [(.tmp 4)], some ([4, 1000000], [(0, .id 0)], []), false⟩
theorem c60_ok : compF Go.Proofs.Tryd.prog [100005, 17, 28, 29, 30, 31, 32, 33, 34, 46, 47, 48, 60, 74] 60 = some (eraseF c60) := by kernel_rfl
def p45_4 : List PO := [⟨(.some 2), (.mov (.const (.string ⟨#[]⟩))), .none⟩]
def p45_5 : List PO := [⟨(.some 3), (.nilS 5 1), .none⟩]
def p45_6 : List PO := [⟨(.some 6), (.mov (.tmp 0)), .none⟩, ⟨(.some 7), (.len .false (.tmp 6)), .none⟩, ⟨(.some 8), (.mov (.const (.int .i64 0))), .none⟩]
def p45_7 : List PO := [⟨(.some 9), (.cmpI .lss (.tmp 8) (.tmp 7)), .none⟩]
def p45_8 : List PO := [⟨(.some 10), (.ixS 3 1 (.tmp 6) (.tmp 8)), .none⟩, ⟨(.some 11), (.load .false 1 (.tmp 10)), .none⟩, ⟨(.some 5), (.mov (.tmp 11)), .none⟩]
def p45_9 : List PO := [⟨(.some 12), (.mov (.tmp 5)), .none⟩, ⟨(.some 13), (.cmpI .lss (.tmp 12) (.const (.int .i64 0))), .none⟩, ⟨(.some 14), (.mov (.tmp 13)), .none⟩, ⟨(.some 15), (.mov (.tmp 5)), (.some (14, .false))⟩, ⟨(.some 16), (.cmpI .gtr (.tmp 15) (.const (.int .i64 1114111))), (.some (14, .false))⟩, ⟨(.some 17), (.pick (.tmp 14) (.const (.bool .true)) (.tmp 16)), .none⟩, ⟨(.some 18), (.mov (.tmp 17)), .none⟩, ⟨(.some 19), (.mov (.tmp 5)), (.some (18, .false))⟩, ⟨(.some 20), (.cmpI .geq (.tmp 19) (.const (.int .i64 55296))), (.some (18, .false))⟩, ⟨(.some 21), (.mov (.tmp 20)), (.some (18, .false))⟩, ⟨(.some 22), (.mov (.tmp 5)), (.some (21, .true))⟩, ⟨(.some 23), (.cmpI .leq (.tmp 22) (.const (.int .i64 57343))), (.some (21, .true))⟩, ⟨(.some 24), (.pick (.tmp 21) (.tmp 23) (.const (.bool .false))), (.some (18, .false))⟩, ⟨(.some 25), (.pick (.tmp 18) (.const (.bool .true)) (.tmp 24)), .none⟩]
def p45_10 : List PO := [⟨(.some 5), (.mov (.const (.int .i64 65533))), .none⟩]
def p45_11 : List PO := [⟨(.some 26), (.mov (.tmp 3)), .none⟩, ⟨(.some 27), (.mov (.tmp 5)), .none⟩, ⟨(.some 28), (.cvI .i32 (.tmp 27)), .none⟩, ⟨(.some 29), (.callr 60 [(.tmp 26), (.tmp 28)]), .none⟩, ⟨(.some 3), (.mov (.tmp 29)), .none⟩]
def p45_12 : List PO := [⟨(.some 30), (.arI .add (.tmp 8) (.const (.int .i64 1))), .none⟩, ⟨(.some 8), (.mov (.tmp 30)), .none⟩]
def c45_1 : PCode := (.keep [3, 6, 7, 8] [(32, .id 32)] [] (.seq (.block 1 (.seq (.reg p45_8) (.seq (.seq (.reg p45_9) (.cond (.tmp 25) (.reg p45_10) .skip)) (.reg p45_11)))) (.reg p45_12)))
def c45_2 : PCode := (.keep [3, 6, 7, 8, 9] [(32, .id 32)] [] (.seq (.cond (.tmp 9) .skip (.keep [3] [(32, .id 32)] [] (.exit 0))) c45_1))
def c45_3 : PCode := (.keep [3, 6, 7, 8] [(32, .id 32)] [] (.seq (.reg p45_7) c45_2))
def p45_13 : List PO := [⟨(.some 31), (.mov (.tmp 3)), .none⟩, ⟨(.some 32), (.cvBS (.tmp 31)), .none⟩, ⟨(.some 2), (.mov (.tmp 32)), .none⟩]
def c45_b : PCode := (.seq (.reg p45_4) (.seq (.reg p45_5) (.seq (.seq (.reg p45_6) (.block 0 (.loop c45_3))) (.seq (.reg p45_13) .ret))))
def c45 : FCode := ⟨33, c45_b, [(.tmp 2)], some ([2], [], []), false⟩
theorem c45_ok : compF Go.Proofs.Tryd.prog [100005, 17, 28, 29, 30, 31, 32, 33, 34, 46, 47, 48, 60, 74] 45 = some (eraseF c45) := by kernel_rfl
def p28_1 : List PO := [⟨(.some 23), (.mov (.tmp 1)), .none⟩, ⟨(.some 24), (.cmpI .eql (.tmp 23) (.const (.int .i64 27))), .none⟩, ⟨(.some 22), (.mov (.tmp 24)), .none⟩]
def p28_2 : List PO := [⟨(.some 25), (.mov (.tmp 0)), .none⟩, ⟨(.some 26), (.nilC (.tmp 25)), .none⟩, ⟨(.some 27), (.fld 0 (.tmp 26)), .none⟩, ⟨(.some 28), (.fld 0 (.tmp 27)), .none⟩, ⟨(.some 29), (.load .false 1 (.tmp 28)), .none⟩, ⟨(.some 30), (.arI .add (.tmp 29) (.const (.int .i64 1))), .none⟩, ⟨(.some 31), (.nilC (.tmp 25)), .none⟩, ⟨(.some 32), (.fld 0 (.tmp 31)), .none⟩, ⟨(.some 33), (.fld 0 (.tmp 32)), .none⟩, ⟨.none, (.store 1 (.tmp 33) (.tmp 30)), .none⟩]
def p28_3 : List PO := [⟨(.some 35), (.mov (.tmp 1)), .none⟩, ⟨(.some 36), (.cmpI .eql (.tmp 35) (.const (.int .i64 24))), .none⟩, ⟨(.some 37), (.mov (.tmp 36)), .none⟩, ⟨(.some 38), (.mov (.tmp 1)), (.some (37, .false))⟩, ⟨(.some 39), (.cmpI .eql (.tmp 38) (.const (.int .i64 26))), (.some (37, .false))⟩, ⟨(.some 40), (.pick (.tmp 37) (.const (.bool .true)) (.tmp 39)), .none⟩, ⟨(.some 34), (.mov (.tmp 40)), .none⟩]
def p28_4 : List PO := [⟨(.some 41), (.mov (.tmp 0)), .none⟩, ⟨(.some 42), (.callr 31 [(.tmp 41), (.const (.int .i64 0))]), .none⟩]
def p28_5 : List PO := [⟨(.some 44), (.mov (.tmp 0)), .none⟩, ⟨(.some 45), (.nilC (.tmp 44)), .none⟩, ⟨(.some 46), (.fld 0 (.tmp 45)), .none⟩, ⟨(.some 47), (.fld 0 (.tmp 46)), .none⟩, ⟨(.some 48), (.load .false 1 (.tmp 47)), .none⟩, ⟨(.some 49), (.cmpI .eql (.tmp 48) (.const (.int .i64 9))), .none⟩, ⟨(.some 43), (.mov (.tmp 49)), .none⟩]
def p28_6 : List PO := [⟨(.some 51), (.mov (.tmp 1)), .none⟩, ⟨(.some 52), (.cmpI .eql (.tmp 51) (.const (.int .i64 7))), .none⟩, ⟨(.some 50), (.mov (.tmp 52)), .none⟩]
def p28_7 : List PO := [⟨(.some 53), (.mov (.tmp 0)), .none⟩, ⟨(.some 54), (.mov (.tmp 0)), .none⟩, ⟨(.some 55), (.nilC (.tmp 54)), .none⟩, ⟨(.some 56), (.fld 0 (.tmp 55)), .none⟩, ⟨(.some 57), (.fld 4 (.tmp 56)), .none⟩, ⟨(.some 58), (.load .false 1 (.tmp 57)), .none⟩, ⟨(.some 59), (.build [(3, (.int .i64 0)), (1, (.string ⟨#[]⟩)), (1, (.slice .none 0 0)), (1, (.string ⟨#[]⟩))] [(0, (1, (.const (.int .i64 5)))), (5, (1, (.tmp 58)))]), .none⟩, ⟨(.some 60), (.callr 29 [(.tmp 53), (.tmp 59)]), .none⟩]
def p28_8 : List PO := [⟨(.some 61), (.mov (.tmp 0)), .none⟩, ⟨(.some 62), (.callr 30 [(.tmp 61), (.const (.int .i64 0))]), .none⟩]
def p28_9 : List PO := [⟨(.some 64), (.mov (.tmp 1)), .none⟩, ⟨(.some 65), (.cmpI .lss (.tmp 64) (.const (.int .i64 32))), .none⟩, ⟨(.some 66), (.mov (.tmp 65)), .none⟩, ⟨(.some 67), (.mov (.tmp 1)), (.some (66, .false))⟩, ⟨(.some 68), (.call 10 [(.tmp 67), (.const (.int .i64 127)), (.const (.int .i64 159))]), (.some (66, .false))⟩, ⟨(.some 69), (.pick (.tmp 66) (.const (.bool .true)) (.tmp 68)), .none⟩, ⟨(.some 63), (.mov (.tmp 69)), .none⟩]
def p28_10 : List PO := [⟨(.some 5), (.mov (.tmp 0)), .none⟩, ⟨(.some 6), (.nilC (.tmp 5)), .none⟩, ⟨(.some 7), (.fld 0 (.tmp 6)), .none⟩, ⟨(.some 8), (.fld 4 (.tmp 7)), .none⟩, ⟨(.some 9), (.load .false 1 (.tmp 8)), .none⟩, ⟨(.some 10), (.mov (.tmp 1)), .none⟩, ⟨(.some 11), (.bsl 3 1 1 [(1, (.int .i64 0))] [(0, (1, (.tmp 10)))]), .none⟩, ⟨(.some 12), (.call 45 [(.tmp 11)]), .none⟩, ⟨(.some 13), (.strO .add (.tmp 9) (.tmp 12)), .none⟩, ⟨(.some 4), (.mov (.tmp 13)), .none⟩]
def p28_11 : List PO := [⟨(.some 14), (.mov (.tmp 4)), .none⟩, ⟨(.some 15), (.len .true (.tmp 14)), .none⟩, ⟨(.some 16), (.cmpI .leq (.tmp 15) (.const (.int .i64 256))), .none⟩]
def p28_12 : List PO := [⟨(.some 17), (.mov (.tmp 0)), .none⟩, ⟨(.some 18), (.mov (.tmp 4)), .none⟩, ⟨(.some 19), (.nilC (.tmp 17)), .none⟩, ⟨(.some 20), (.fld 0 (.tmp 19)), .none⟩, ⟨(.some 21), (.fld 4 (.tmp 20)), .none⟩, ⟨.none, (.store 1 (.tmp 21) (.tmp 18)), .none⟩]
def c28_13 : PCode := (.seq (.reg p28_6) (.cond (.tmp 50) (.seq (.reg p28_7) (.reg p28_8)) (.seq (.reg p28_9) (.cond (.tmp 63) .skip (.seq (.regD p28_10 [(4, 6), (4, 7)]) (.seq (.reg p28_11) (.cond (.tmp 16) (.reg p28_12) .skip)))))))
def c28_b : PCode := (.block 0 (.seq (.reg p28_1) (.cond (.tmp 22) (.reg p28_2) (.seq (.reg p28_3) (.cond (.tmp 34) (.reg p28_4) (.seq (.reg p28_5) (.cond (.tmp 43) .skip c28_13)))))))
def c28 : FCode := ⟨70, c28_b, [], some ([1000001], [(0, .id 0), (1, .id 1)], []), false⟩
theorem c28_ok : compF Go.Proofs.Tryd.prog [100005, 17, 28, 29, 30, 31, 32, 33, 34, 46, 47, 48, 60, 74] 28 = some (eraseF c28) := by kernel_rfl
def p32_3 : List PO := [⟨(.some 4), (.mov (.const (.bool .false))), .none⟩]
def p32_4 : List PO := [⟨(.some 5), (.mov (.const (.int .i64 0))), .none⟩]
def p32_5 : List PO := [⟨(.some 9), (.mov (.tmp 1)), .none⟩, ⟨(.some 10), (.cmpI .eql (.tmp 9) (.const (.int .i64 27))), .none⟩, ⟨(.some 8), (.mov (.tmp 10)), .none⟩]
def p32_6 : List PO := [⟨(.some 5), (.mov (.const (.int .i64 1))), .none⟩]
def p32_7 : List PO := [⟨(.some 12), (.mov (.tmp 1)), .none⟩, ⟨(.some 13), (.cmpI .eql (.tmp 12) (.const (.int .i64 24))), .none⟩, ⟨(.some 14), (.mov (.tmp 13)), .none⟩, ⟨(.some 15), (.mov (.tmp 1)), (.some (14, .false))⟩, ⟨(.some 16), (.cmpI .eql (.tmp 15) (.const (.int .i64 26))), (.some (14, .false))⟩, ⟨(.some 17), (.pick (.tmp 14) (.const (.bool .true)) (.tmp 16)), .none⟩, ⟨(.some 11), (.mov (.tmp 17)), .none⟩]
def c32_2 : PCode := (.keep [0, 5, 1000001] [(0, .id 0), (1, .id 1)] [] .skip)
def p32_8 : List PO := [⟨(.some 19), (.mov (.tmp 1)), .none⟩, ⟨(.some 20), (.cmpI .lss (.tmp 19) (.const (.int .i64 32))), .none⟩, ⟨(.some 18), (.mov (.tmp 20)), .none⟩]
def p32_9 : List PO := [⟨(.some 21), (.mov (.tmp 0)), .none⟩, ⟨(.some 22), (.mov (.tmp 1)), .none⟩, ⟨(.some 23), (.build [(3, (.int .i64 0)), (1, (.string ⟨#[]⟩)), (1, (.slice .none 0 0)), (1, (.string ⟨#[]⟩))] [(0, (1, (.const (.int .i64 2)))), (1, (1, (.tmp 22)))]), .none⟩, ⟨(.some 24), (.callr 29 [(.tmp 21), (.tmp 23)]), .none⟩]
def p32_10 : List PO := [⟨(.some 4), (.mov (.const (.bool .true))), .none⟩]
def p32_11 : List PO := [⟨(.some 6), (.mov (.tmp 1)), .none⟩, ⟨(.some 7), (.call 10 [(.tmp 6), (.const (.int .i64 127)), (.const (.int .i64 159))]), .none⟩, ⟨(.some 4), (.mov (.tmp 7)), .none⟩]
def c32_12 : PCode := (.seq (.reg p32_5) (.cond (.tmp 8) (.reg p32_6) (.seq (.reg p32_7) (.cond (.tmp 11) c32_2 (.seq (.reg p32_8) (.cond (.tmp 18) (.seq (.reg p32_9) (.seq (.reg p32_10) .ret)) (.seq (.reg p32_11) .ret)))))))
def p32_13 : List PO := [⟨(.some 25), (.mov (.tmp 0)), .none⟩, ⟨(.some 26), (.nilC (.tmp 25)), .none⟩, ⟨(.some 27), (.fld 0 (.tmp 26)), .none⟩, ⟨(.some 28), (.fld 0 (.tmp 27)), .none⟩, ⟨(.some 29), (.load .false 1 (.tmp 28)), .none⟩, ⟨(.some 30), (.cmpI .neq (.tmp 29) (.const (.int .i64 0))), .none⟩]
def p32_14 : List PO := [⟨(.some 31), (.mov (.tmp 0)), .none⟩, ⟨(.some 32), (.build [(3, (.int .i64 0)), (1, (.string ⟨#[]⟩)), (1, (.slice .none 0 0)), (1, (.string ⟨#[]⟩))] [(0, (1, (.const (.int .i64 6))))]), .none⟩, ⟨(.some 33), (.callr 29 [(.tmp 31), (.tmp 32)]), .none⟩]
def p32_15 : List PO := [⟨(.some 34), (.mov (.tmp 0)), .none⟩, ⟨(.some 35), (.mov (.tmp 5)), .none⟩, ⟨(.some 36), (.callr 30 [(.tmp 34), (.tmp 35)]), .none⟩]
def p32_16 : List PO := [⟨(.some 4), (.mov (.const (.bool .true))), .none⟩]
def c32_1 : PCode := (.keep [0, 5, 1000001] [(0, .id 0), (1, .id 1)] [] (.seq (.seq (.reg p32_13) (.cond (.tmp 30) (.reg p32_14) .skip)) (.seq (.reg p32_15) (.seq (.reg p32_16) .ret))))
def c32_b : PCode := (.seq (.reg p32_3) (.seq (.reg p32_4) (.seq (.block 0 c32_12) c32_1)))
def c32 : FCode := ⟨37, c32_b, [(.tmp 4)], some ([4, 1000001], [(0, .id 0), (1, .id 1)], []), false⟩
theorem c32_ok : compF Go.Proofs.Tryd.prog [100005, 17, 28, 29, 30, 31, 32, 33, 34, 46, 47, 48, 60, 74] 32 = some (eraseF c32) := by kernel_rfl
def p46_1 : List PO := [⟨(.some 4), (.mov (.tmp 0)), .none⟩, ⟨(.some 5), (.nilC (.tmp 4)), .none⟩, ⟨(.some 6), (.fld 0 (.tmp 5)), .none⟩, ⟨(.some 7), (.fld 2 (.tmp 6)), .none⟩, ⟨(.some 8), (.load .false 1 (.tmp 7)), .none⟩, ⟨(.some 9), (.len .true (.tmp 8)), .none⟩, ⟨(.some 10), (.cmpI .lss (.tmp 9) (.const (.int .i64 3))), .none⟩]
def p46_2 : List PO := [⟨(.some 11), (.mov (.tmp 0)), .none⟩, ⟨(.some 12), (.nilC (.tmp 11)), .none⟩, ⟨(.some 13), (.fld 0 (.tmp 12)), .none⟩, ⟨(.some 14), (.fld 2 (.tmp 13)), .none⟩, ⟨(.some 15), (.load .false 1 (.tmp 14)), .none⟩, ⟨(.some 16), (.mov (.tmp 1)), .none⟩, ⟨(.some 17), (.cvI .i32 (.tmp 16)), .none⟩, ⟨(.some 18), (.cvIS (.tmp 17)), .none⟩, ⟨(.some 19), (.strO .add (.tmp 15) (.tmp 18)), .none⟩, ⟨(.some 20), (.nilC (.tmp 11)), .none⟩, ⟨(.some 21), (.fld 0 (.tmp 20)), .none⟩, ⟨(.some 22), (.fld 2 (.tmp 21)), .none⟩, ⟨.none, (.store 1 (.tmp 22) (.tmp 19)), .none⟩]
def c46_b : PCode := (.seq (.reg p46_1) (.cond (.tmp 10) (.reg p46_2) .skip))
def c46 : FCode := ⟨23, c46_b, [], some ([1000001], [(0, .id 0), (1, .id 1)], []), false⟩
theorem c46_ok : compF Go.Proofs.Tryd.prog [100005, 17, 28, 29, 30, 31, 32, 33, 34, 46, 47, 48, 60, 74] 46 = some (eraseF c46) := by kernel_rfl
def p47_1 : List PO := [⟨(.some 3), (.box 6 (.tmp 1)), .none⟩]
def p47_2 : List PO := [⟨(.some 4), (.mov (.tmp 0)), .none⟩, ⟨(.some 5), (.nilC (.tmp 4)), .none⟩, ⟨(.some 6), (.fld 0 (.tmp 5)), .none⟩, ⟨(.some 7), (.fld 2 (.tmp 6)), .none⟩, ⟨(.some 8), (.load .false 1 (.tmp 7)), .none⟩, ⟨(.some 9), (.len .true (.tmp 8)), .none⟩, ⟨(.some 10), (.cmpI .eql (.tmp 9) (.const (.int .i64 3))), .none⟩]
def p47_3 : List PO := [⟨(.some 11), (.build [(3, (.int .i64 0)), (1, (.string ⟨#[]⟩)), (1, (.slice .none 0 0)), (1, (.string ⟨#[]⟩))] [(0, (1, (.const (.int .i64 6))))]), .none⟩, ⟨.none, (.store 6 (.tmp 3) (.tmp 11)), .none⟩]
def p47_4 : List PO := [⟨(.some 12), (.mov (.tmp 0)), .none⟩, ⟨(.some 13), (.load .true 6 (.tmp 3)), .none⟩, ⟨(.some 14), (.callr 29 [(.tmp 12), (.tmp 13)]), .none⟩]
def p47_5 : List PO := [⟨(.some 15), (.mov (.tmp 0)), .none⟩, ⟨(.some 16), (.callr 30 [(.tmp 15), (.const (.int .i64 0))]), .none⟩]
def c47_b : PCode := (.seq (.reg p47_1) (.seq (.seq (.reg p47_2) (.cond (.tmp 10) (.reg p47_3) .skip)) (.seq (.reg p47_4) (.reg p47_5))))
def c47 : FCode := ⟨17, c47_b, [], some ([1000001], [(0, .id 0), (1, .id 1)], []), false⟩
theorem c47_ok : compF Go.Proofs.Tryd.prog [100005, 17, 28, 29, 30, 31, 32, 33, 34, 46, 47, 48, 60, 74] 47 = some (eraseF c47) := by kernel_rfl
def p33_1 : List PO := [⟨(.some 9), (.mov (.tmp 1)), .none⟩, ⟨(.some 10), (.cmpI .lss (.tmp 9) (.const (.int .i64 48))), .none⟩, ⟨(.some 8), (.mov (.tmp 10)), .none⟩]
def p33_2 : List PO := [⟨(.some 11), (.mov (.tmp 0)), .none⟩, ⟨(.some 12), (.mov (.tmp 1)), .none⟩, ⟨(.some 13), (.callr 46 [(.tmp 11), (.tmp 12)]), .none⟩]
def p33_3 : List PO := [⟨(.some 14), (.mov (.tmp 0)), .none⟩, ⟨(.some 15), (.nilC (.tmp 14)), .none⟩, ⟨(.some 16), (.fld 0 (.tmp 15)), .none⟩, ⟨(.some 17), (.fld 0 (.tmp 16)), .none⟩, ⟨.none, (.store 1 (.tmp 17) (.const (.int .i64 2))), .none⟩]
def p33_4 : List PO := [⟨(.some 19), (.mov (.tmp 0)), .none⟩, ⟨(.some 20), (.nilC (.tmp 19)), .none⟩, ⟨(.some 21), (.fld 0 (.tmp 20)), .none⟩, ⟨(.some 22), (.fld 0 (.tmp 21)), .none⟩, ⟨(.some 23), (.load .false 1 (.tmp 22)), .none⟩, ⟨(.some 24), (.cmpI .eql (.tmp 23) (.const (.int .i64 2))), .none⟩, ⟨(.some 18), (.mov (.tmp 24)), .none⟩]
def p33_5 : List PO := [⟨(.some 25), (.mov (.tmp 0)), .none⟩, ⟨(.some 26), (.mov (.tmp 1)), .none⟩, ⟨(.some 27), (.mov (.tmp 0)), .none⟩, ⟨(.some 28), (.nilC (.tmp 27)), .none⟩, ⟨(.some 29), (.fld 0 (.tmp 28)), .none⟩, ⟨(.some 30), (.fld 2 (.tmp 29)), .none⟩, ⟨(.some 31), (.load .false 1 (.tmp 30)), .none⟩, ⟨(.some 32), (.build [(3, (.int .i64 0)), (1, (.string ⟨#[]⟩)), (1, (.slice .none 0 0)), (1, (.string ⟨#[]⟩))] [(0, (1, (.const (.int .i64 3)))), (1, (1, (.tmp 26))), (3, (1, (.tmp 31)))]), .none⟩, ⟨(.some 33), (.callr 47 [(.tmp 25), (.tmp 32)]), .none⟩]
def p33_6 : List PO := [⟨(.some 35), (.mov (.tmp 1)), .none⟩, ⟨(.some 36), (.cmpI .eql (.tmp 35) (.const (.int .i64 91))), .none⟩, ⟨(.some 34), (.mov (.tmp 36)), .none⟩]
def p33_7 : List PO := [⟨(.some 37), (.mov (.tmp 0)), .none⟩, ⟨(.some 38), (.nilC (.tmp 37)), .none⟩, ⟨(.some 39), (.fld 0 (.tmp 38)), .none⟩, ⟨(.some 40), (.fld 0 (.tmp 39)), .none⟩, ⟨.none, (.store 1 (.tmp 40) (.const (.int .i64 3))), .none⟩]
def p33_8 : List PO := [⟨(.some 42), (.mov (.tmp 1)), .none⟩, ⟨(.some 43), (.cmpI .eql (.tmp 42) (.const (.int .i64 93))), .none⟩, ⟨(.some 41), (.mov (.tmp 43)), .none⟩]
def p33_9 : List PO := [⟨(.some 44), (.mov (.tmp 0)), .none⟩, ⟨(.some 45), (.nilC (.tmp 44)), .none⟩, ⟨(.some 46), (.fld 0 (.tmp 45)), .none⟩, ⟨(.some 47), (.fld 0 (.tmp 46)), .none⟩, ⟨.none, (.store 1 (.tmp 47) (.const (.int .i64 7))), .none⟩]
def p33_10 : List PO := [⟨(.some 49), (.mov (.tmp 1)), .none⟩, ⟨(.some 50), (.cvI .u8 (.tmp 49)), .none⟩, ⟨(.some 51), (.call 12 [(.const (.string ⟨#[80, 88, 94, 95]⟩)), (.tmp 50)]), .none⟩, ⟨(.some 52), (.cmpI .geq (.tmp 51) (.const (.int .i64 0))), .none⟩, ⟨(.some 48), (.mov (.tmp 52)), .none⟩]
def p33_11 : List PO := [⟨(.some 53), (.mov (.tmp 0)), .none⟩, ⟨(.some 54), (.nilC (.tmp 53)), .none⟩, ⟨(.some 55), (.fld 0 (.tmp 54)), .none⟩, ⟨(.some 56), (.fld 0 (.tmp 55)), .none⟩, ⟨.none, (.store 1 (.tmp 56) (.const (.int .i64 9))), .none⟩]
def p33_12 : List PO := [⟨(.some 4), (.mov (.tmp 0)), .none⟩, ⟨(.some 5), (.mov (.tmp 1)), .none⟩, ⟨(.some 6), (.build [(3, (.int .i64 0)), (1, (.string ⟨#[]⟩)), (1, (.slice .none 0 0)), (1, (.string ⟨#[]⟩))] [(0, (1, (.const (.int .i64 3)))), (1, (1, (.tmp 5)))]), .none⟩, ⟨(.some 7), (.callr 47 [(.tmp 4), (.tmp 6)]), .none⟩]
def c33_13 : PCode := (.seq (.reg p33_4) (.cond (.tmp 18) (.reg p33_5) (.seq (.reg p33_6) (.cond (.tmp 34) (.reg p33_7) (.seq (.reg p33_8) (.cond (.tmp 41) (.reg p33_9) (.seq (.reg p33_10) (.cond (.tmp 48) (.reg p33_11) (.reg p33_12)))))))))
def c33_b : PCode := (.block 0 (.seq (.reg p33_1) (.cond (.tmp 8) (.seq (.reg p33_2) (.reg p33_3)) c33_13)))
def c33 : FCode := ⟨57, c33_b, [], some ([1000001], [(0, .id 0), (1, .id 1)], []), false⟩
theorem c33_ok : compF Go.Proofs.Tryd.prog [100005, 17, 28, 29, 30, 31, 32, 33, 34, 46, 47, 48, 60, 74] 33 = some (eraseF c33) := by kernel_rfl
def p48_1 : List PO := [⟨(.some 2), (.mov (.tmp 0)), .none⟩, ⟨(.some 3), (.build [(2, (.int .i64 0)), (3, (.string ⟨#[]⟩))] [(0, (1, (.const (.int .i64 6))))]), .none⟩, ⟨(.some 4), (.nilC (.tmp 2)), .none⟩, ⟨(.some 5), (.fld 0 (.tmp 4)), .none⟩, ⟨.none, (.store 5 (.tmp 5) (.tmp 3)), .none⟩]
def c48_b : PCode := (.reg p48_1)
def c48 : FCode := ⟨6, c48_b, [], some ([1000001], [(0, .id 0), (1, .id 1)], []), false⟩
theorem c48_ok : compF Go.Proofs.Tryd.prog [100005, 17, 28, 29, 30, 31, 32, 33, 34, 46, 47, 48, 60, 74] 48 = some (eraseF c48) := by kernel_rfl
def p34_2 : List PO := [⟨(.some 9), (.mov (.tmp 0)), .none⟩, ⟨(.some 10), (.nilC (.tmp 9)), .none⟩, ⟨(.some 11), (.fld 0 (.tmp 10)), .none⟩, ⟨(.some 12), (.fld 0 (.tmp 11)), .none⟩, ⟨(.some 13), (.load .false 1 (.tmp 12)), .none⟩, ⟨(.some 14), (.cmpI .eql (.tmp 13) (.const (.int .i64 6))), .none⟩, ⟨(.some 8), (.mov (.tmp 14)), .none⟩]
def p34_3 : List PO := [⟨(.some 15), (.mov (.tmp 1)), .none⟩, ⟨(.some 16), (.cmpI .geq (.tmp 15) (.const (.int .i64 64))), .none⟩]
def p34_4 : List PO := [⟨(.some 17), (.mov (.tmp 0)), .none⟩, ⟨(.some 18), (.callr 31 [(.tmp 17), (.const (.int .i64 0))]), .none⟩]
def p34_5 : List PO := [⟨(.some 20), (.mov (.tmp 1)), .none⟩, ⟨(.some 21), (.cmpI .lss (.tmp 20) (.const (.int .i64 48))), .none⟩, ⟨(.some 19), (.mov (.tmp 21)), .none⟩]
def p34_6 : List PO := [⟨(.some 22), (.mov (.tmp 0)), .none⟩, ⟨(.some 23), (.mov (.tmp 1)), .none⟩, ⟨(.some 24), (.callr 46 [(.tmp 22), (.tmp 23)]), .none⟩]
def p34_7 : List PO := [⟨(.some 25), (.mov (.tmp 0)), .none⟩, ⟨(.some 26), (.nilC (.tmp 25)), .none⟩, ⟨(.some 27), (.fld 0 (.tmp 26)), .none⟩, ⟨(.some 28), (.fld 0 (.tmp 27)), .none⟩, ⟨.none, (.store 1 (.tmp 28) (.const (.int .i64 5))), .none⟩]
def p34_8 : List PO := [⟨(.some 30), (.mov (.tmp 1)), .none⟩, ⟨(.some 31), (.cmpI .geq (.tmp 30) (.const (.int .i64 64))), .none⟩, ⟨(.some 29), (.mov (.tmp 31)), .none⟩]
def p34_9 : List PO := [⟨(.some 33), (.mov (.tmp 0)), .none⟩, ⟨(.some 34), (.nilC (.tmp 33)), .none⟩, ⟨(.some 35), (.fld 0 (.tmp 34)), .none⟩, ⟨(.some 36), (.fld 3 (.tmp 35)), .none⟩, ⟨(.some 37), (.load .false 1 (.tmp 36)), .none⟩, ⟨(.some 38), (.call 27 [(.tmp 37)]), .none⟩, ⟨(.some 32), (.mov (.tmp 38)), .none⟩, ⟨(.some 39), (.ext (.tmp 32) 0), .none⟩, ⟨(.some 40), (.ext (.tmp 32) 1), .none⟩, ⟨(.some 4), (.mov (.tmp 39)), .none⟩, ⟨(.some 5), (.mov (.tmp 40)), .none⟩]
def p34_10 : List PO := [⟨(.some 41), (.mov (.tmp 0)), .none⟩, ⟨(.some 42), (.mov (.tmp 1)), .none⟩, ⟨(.some 43), (.mov (.tmp 0)), .none⟩, ⟨(.some 44), (.nilC (.tmp 43)), .none⟩, ⟨(.some 45), (.fld 0 (.tmp 44)), .none⟩, ⟨(.some 46), (.fld 1 (.tmp 45)), .none⟩, ⟨(.some 47), (.load .false 1 (.tmp 46)), .none⟩, ⟨(.some 48), (.mov (.tmp 0)), .none⟩, ⟨(.some 49), (.nilC (.tmp 48)), .none⟩, ⟨(.some 50), (.fld 0 (.tmp 49)), .none⟩, ⟨(.some 51), (.fld 2 (.tmp 50)), .none⟩, ⟨(.some 52), (.load .false 1 (.tmp 51)), .none⟩, ⟨(.some 53), (.mov (.tmp 4)), .none⟩, ⟨(.some 54), (.build [(3, (.int .i64 0)), (1, (.string ⟨#[]⟩)), (1, (.slice .none 0 0)), (1, (.string ⟨#[]⟩))] [(0, (1, (.const (.int .i64 4)))), (1, (1, (.tmp 42))), (2, (1, (.tmp 47))), (3, (1, (.tmp 52))), (4, (1, (.tmp 53)))]), .none⟩, ⟨(.some 55), (.callr 47 [(.tmp 41), (.tmp 54)]), .none⟩]
def c34_1 : PCode := (.keep [0, 1, 4, 1000001] [(0, .id 0), (1, .id 1)] [] (.regD p34_10 []))
def p34_11 : List PO := [⟨(.some 57), (.mov (.tmp 0)), .none⟩, ⟨(.some 58), (.nilC (.tmp 57)), .none⟩, ⟨(.some 59), (.fld 0 (.tmp 58)), .none⟩, ⟨(.some 60), (.fld 0 (.tmp 59)), .none⟩, ⟨(.some 61), (.load .false 1 (.tmp 60)), .none⟩, ⟨(.some 62), (.cmpI .eql (.tmp 61) (.const (.int .i64 5))), .none⟩, ⟨(.some 63), (.mov (.tmp 62)), .none⟩, ⟨(.some 64), (.mov (.tmp 1)), (.some (63, .false))⟩, ⟨(.some 65), (.cmpI .eql (.tmp 64) (.const (.int .i64 58))), (.some (63, .false))⟩, ⟨(.some 66), (.pick (.tmp 63) (.const (.bool .true)) (.tmp 65)), .none⟩, ⟨(.some 56), (.mov (.tmp 66)), .none⟩]
def p34_12 : List PO := [⟨(.some 67), (.mov (.tmp 0)), .none⟩, ⟨(.some 68), (.callr 48 [(.tmp 67)]), .none⟩]
def p34_13 : List PO := [⟨(.some 70), (.mov (.tmp 1)), .none⟩, ⟨(.some 71), (.cmpI .lss (.tmp 70) (.const (.int .i64 60))), .none⟩, ⟨(.some 69), (.mov (.tmp 71)), .none⟩]
def p34_14 : List PO := [⟨(.some 72), (.mov (.tmp 0)), .none⟩, ⟨(.some 73), (.nilC (.tmp 72)), .none⟩, ⟨(.some 74), (.fld 0 (.tmp 73)), .none⟩, ⟨(.some 75), (.fld 3 (.tmp 74)), .none⟩, ⟨(.some 76), (.load .false 1 (.tmp 75)), .none⟩, ⟨(.some 77), (.len .true (.tmp 76)), .none⟩, ⟨(.some 78), (.cmpI .lss (.tmp 77) (.const (.int .i64 100))), .none⟩]
def p34_15 : List PO := [⟨(.some 79), (.mov (.tmp 0)), .none⟩, ⟨(.some 80), (.nilC (.tmp 79)), .none⟩, ⟨(.some 81), (.fld 0 (.tmp 80)), .none⟩, ⟨(.some 82), (.fld 3 (.tmp 81)), .none⟩, ⟨(.some 83), (.load .false 1 (.tmp 82)), .none⟩, ⟨(.some 84), (.mov (.tmp 1)), .none⟩, ⟨(.some 85), (.cvI .i32 (.tmp 84)), .none⟩, ⟨(.some 86), (.cvIS (.tmp 85)), .none⟩, ⟨(.some 87), (.strO .add (.tmp 83) (.tmp 86)), .none⟩, ⟨(.some 88), (.nilC (.tmp 79)), .none⟩, ⟨(.some 89), (.fld 0 (.tmp 88)), .none⟩, ⟨(.some 90), (.fld 3 (.tmp 89)), .none⟩, ⟨.none, (.store 1 (.tmp 90) (.tmp 87)), .none⟩]
def p34_16 : List PO := [⟨(.some 91), (.mov (.tmp 0)), .none⟩, ⟨(.some 92), (.nilC (.tmp 91)), .none⟩, ⟨(.some 93), (.fld 0 (.tmp 92)), .none⟩, ⟨(.some 94), (.fld 0 (.tmp 93)), .none⟩, ⟨.none, (.store 1 (.tmp 94) (.const (.int .i64 4))), .none⟩]
def p34_17 : List PO := [⟨(.some 96), (.mov (.tmp 0)), .none⟩, ⟨(.some 97), (.nilC (.tmp 96)), .none⟩, ⟨(.some 98), (.fld 0 (.tmp 97)), .none⟩, ⟨(.some 99), (.fld 0 (.tmp 98)), .none⟩, ⟨(.some 100), (.load .false 1 (.tmp 99)), .none⟩, ⟨(.some 101), (.cmpI .eql (.tmp 100) (.const (.int .i64 3))), .none⟩, ⟨(.some 95), (.mov (.tmp 101)), .none⟩]
def p34_18 : List PO := [⟨(.some 102), (.mov (.tmp 0)), .none⟩, ⟨(.some 103), (.mov (.tmp 0)), .none⟩, ⟨(.some 104), (.mov (.tmp 1)), .none⟩, ⟨(.some 105), (.nilC (.tmp 102)), .none⟩, ⟨(.some 106), (.fld 0 (.tmp 105)), .none⟩, ⟨(.some 107), (.fld 1 (.tmp 106)), .none⟩, ⟨.none, (.store 1 (.tmp 107) (.tmp 104)), .none⟩, ⟨(.some 108), (.nilC (.tmp 103)), .none⟩, ⟨(.some 109), (.fld 0 (.tmp 108)), .none⟩, ⟨(.some 110), (.fld 0 (.tmp 109)), .none⟩, ⟨.none, (.store 1 (.tmp 110) (.const (.int .i64 4))), .none⟩]
def p34_19 : List PO := [⟨(.some 6), (.mov (.tmp 0)), .none⟩, ⟨(.some 7), (.callr 48 [(.tmp 6)]), .none⟩]
def c34_20 : PCode := (.cond (.tmp 56) (.reg p34_12) (.seq (.reg p34_13) (.cond (.tmp 69) (.seq (.seq (.reg p34_14) (.cond (.tmp 78) (.reg p34_15) .skip)) (.reg p34_16)) (.seq (.reg p34_17) (.cond (.tmp 95) (.reg p34_18) (.reg p34_19))))))
def c34_21 : PCode := (.cond (.tmp 8) (.seq (.reg p34_3) (.cond (.tmp 16) (.reg p34_4) .skip)) (.seq (.reg p34_5) (.cond (.tmp 19) (.seq (.reg p34_6) (.reg p34_7)) (.seq (.reg p34_8) (.cond (.tmp 29) (.seq (.reg p34_9) c34_1) (.seq (.reg p34_11) c34_20))))))
def c34_b : PCode := (.block 0 (.seq (.reg p34_2) c34_21))
def c34 : FCode := ⟨111, c34_b, [], some ([1000001], [(0, .id 0), (1, .id 1)], []), false⟩
theorem c34_ok : compF Go.Proofs.Tryd.prog [100005, 17, 28, 29, 30, 31, 32, 33, 34, 46, 47, 48, 60, 74] 34 = some (eraseF c34) := by kernel_rfl
def p17_5 : List PO := [⟨(.some 5), (.mov (.tmp 1)), .none⟩, ⟨(.some 6), (.cmpI .lss (.tmp 5) (.const (.int .i64 0))), .none⟩, ⟨(.some 7), (.mov (.tmp 6)), .none⟩, ⟨(.some 8), (.mov (.tmp 1)), (.some (7, .false))⟩, ⟨(.some 9), (.cmpI .gtr (.tmp 8) (.const (.int .i64 1114111))), (.some (7, .false))⟩, ⟨(.some 10), (.pick (.tmp 7) (.const (.bool .true)) (.tmp 9)), .none⟩]
def p17_6 : List PO := [⟨(.some 11), (.mov (.tmp 0)), .none⟩, ⟨(.some 12), (.nilC (.tmp 11)), .none⟩, ⟨(.some 13), (.fld 0 (.tmp 12)), .none⟩, ⟨(.some 14), (.fld 0 (.tmp 13)), .none⟩, ⟨(.some 15), (.load .false 1 (.tmp 14)), .none⟩]
def p17_7 : List PO := [⟨(.some 17), (.cmpI .eql (.tmp 15) (.const (.int .i64 7))), .none⟩, ⟨(.some 16), (.mov (.tmp 17)), .none⟩]
def p17_8 : List PO := [⟨(.some 18), (.cmpI .eql (.tmp 15) (.const (.int .i64 9))), .none⟩, ⟨(.some 16), (.mov (.tmp 18)), .none⟩]
def p17_9 : List PO := [⟨(.some 19), (.mov (.tmp 0)), .none⟩, ⟨(.some 20), (.mov (.tmp 1)), .none⟩, ⟨(.some 21), (.callr 28 [(.tmp 19), (.tmp 20)]), .none⟩]
def p17_10 : List PO := [⟨(.some 23), (.cmpI .eql (.tmp 15) (.const (.int .i64 8))), .none⟩, ⟨(.some 22), (.mov (.tmp 23)), .none⟩]
def p17_11 : List PO := [⟨(.some 24), (.cmpI .eql (.tmp 15) (.const (.int .i64 10))), .none⟩, ⟨(.some 22), (.mov (.tmp 24)), .none⟩]
def p17_12 : List PO := [⟨(.some 25), (.mov (.tmp 1)), .none⟩, ⟨(.some 26), (.cmpI .eql (.tmp 25) (.const (.int .i64 92))), .none⟩]
def p17_13 : List PO := [⟨(.some 27), (.build [(3, (.int .i64 0)), (1, (.string ⟨#[]⟩)), (1, (.slice .none 0 0)), (1, (.string ⟨#[]⟩))] [(0, (1, (.const (.int .i64 6))))]), .none⟩, ⟨(.some 4), (.alloc [(3, (.int .i64 0)), (1, (.string ⟨#[]⟩)), (1, (.slice .none 0 0)), (1, (.string ⟨#[]⟩))]), .none⟩, ⟨.none, (.store 6 (.tmp 4) (.tmp 27)), .none⟩]
def p17_14 : List PO := [⟨(.some 28), (.mov (.tmp 0)), .none⟩, ⟨(.some 29), (.nilC (.tmp 28)), .none⟩, ⟨(.some 30), (.fld 0 (.tmp 29)), .none⟩, ⟨(.some 31), (.fld 0 (.tmp 30)), .none⟩, ⟨(.some 32), (.load .false 1 (.tmp 31)), .none⟩, ⟨(.some 33), (.cmpI .eql (.tmp 32) (.const (.int .i64 8))), .none⟩]
def p17_15 : List PO := [⟨(.some 34), (.mov (.tmp 0)), .none⟩, ⟨(.some 35), (.nilC (.tmp 34)), .none⟩, ⟨(.some 36), (.fld 0 (.tmp 35)), .none⟩, ⟨(.some 37), (.fld 4 (.tmp 36)), .none⟩, ⟨(.some 38), (.load .false 1 (.tmp 37)), .none⟩, ⟨(.some 39), (.build [(3, (.int .i64 0)), (1, (.string ⟨#[]⟩)), (1, (.slice .none 0 0)), (1, (.string ⟨#[]⟩))] [(0, (1, (.const (.int .i64 5)))), (5, (1, (.tmp 38)))]), .none⟩, ⟨.none, (.store 6 (.tmp 4) (.tmp 39)), .none⟩]
def p17_16 : List PO := [⟨(.some 40), (.mov (.tmp 0)), .none⟩, ⟨(.some 41), (.load .true 6 (.tmp 4)), .none⟩, ⟨(.some 42), (.callr 29 [(.tmp 40), (.tmp 41)]), .none⟩]
def p17_17 : List PO := [⟨(.some 43), (.mov (.tmp 0)), .none⟩, ⟨(.some 44), (.callr 30 [(.tmp 43), (.const (.int .i64 0))]), .none⟩]
def p17_18 : List PO := [⟨(.some 45), (.mov (.tmp 0)), .none⟩, ⟨(.some 46), (.callr 31 [(.tmp 45), (.const (.int .i64 1))]), .none⟩]
def c17_2 : PCode := (.keep [0, 1, 22, 1000001] [(0, .id 0), (1, .id 1)] [] (.cond (.tmp 22) (.seq (.seq (.reg p17_12) (.cond (.tmp 26) (.seq (.reg p17_13) (.seq (.seq (.reg p17_14) (.cond (.tmp 33) (.reg p17_15) .skip)) (.seq (.reg p17_16) (.seq (.reg p17_17) .ret)))) .skip)) (.reg p17_18)) .skip))
def c17_3 : PCode := (.keep [0, 1, 15, 16, 1000001] [(0, .id 0), (1, .id 1)] [] (.cond (.tmp 16) (.seq (.reg p17_9) .ret) (.seq (.seq (.reg p17_10) (.cond (.tmp 22) .skip (.reg p17_11))) c17_2)))
def p17_19 : List PO := [⟨(.some 51), (.mov (.tmp 0)), .none⟩, ⟨(.some 52), (.mov (.tmp 1)), .none⟩, ⟨(.some 53), (.callr 32 [(.tmp 51), (.tmp 52)]), .none⟩, ⟨(.some 50), (.mov (.tmp 53)), .none⟩]
def p17_20 : List PO := [⟨(.some 55), (.mov (.tmp 0)), .none⟩, ⟨(.some 56), (.nilC (.tmp 55)), .none⟩, ⟨(.some 57), (.fld 0 (.tmp 56)), .none⟩, ⟨(.some 58), (.fld 0 (.tmp 57)), .none⟩, ⟨(.some 59), (.load .false 1 (.tmp 58)), .none⟩, ⟨(.some 60), (.cmpI .eql (.tmp 59) (.const (.int .i64 0))), .none⟩, ⟨(.some 54), (.mov (.tmp 60)), .none⟩]
def p17_21 : List PO := [⟨(.some 61), (.mov (.tmp 0)), .none⟩, ⟨(.some 62), (.mov (.tmp 1)), .none⟩, ⟨(.some 63), (.build [(3, (.int .i64 0)), (1, (.string ⟨#[]⟩)), (1, (.slice .none 0 0)), (1, (.string ⟨#[]⟩))] [(0, (1, (.const (.int .i64 1)))), (1, (1, (.tmp 62)))]), .none⟩, ⟨(.some 64), (.callr 29 [(.tmp 61), (.tmp 63)]), .none⟩]
def p17_22 : List PO := [⟨(.some 66), (.mov (.tmp 1)), .none⟩, ⟨(.some 67), (.cmpI .geq (.tmp 66) (.const (.int .i64 160))), .none⟩, ⟨(.some 65), (.mov (.tmp 67)), .none⟩]
def p17_23 : List PO := [⟨(.some 68), (.mov (.tmp 0)), .none⟩, ⟨(.some 69), (.callr 31 [(.tmp 68), (.const (.int .i64 0))]), .none⟩]
def p17_24 : List PO := [⟨(.some 71), (.mov (.tmp 0)), .none⟩, ⟨(.some 72), (.nilC (.tmp 71)), .none⟩, ⟨(.some 73), (.fld 0 (.tmp 72)), .none⟩, ⟨(.some 74), (.fld 0 (.tmp 73)), .none⟩, ⟨(.some 75), (.load .false 1 (.tmp 74)), .none⟩, ⟨(.some 76), (.cmpI .leq (.tmp 75) (.const (.int .i64 2))), .none⟩, ⟨(.some 70), (.mov (.tmp 76)), .none⟩]
def p17_25 : List PO := [⟨(.some 77), (.mov (.tmp 0)), .none⟩, ⟨(.some 78), (.mov (.tmp 1)), .none⟩, ⟨(.some 79), (.callr 33 [(.tmp 77), (.tmp 78)]), .none⟩]
def p17_26 : List PO := [⟨(.some 47), (.mov (.tmp 0)), .none⟩, ⟨(.some 48), (.mov (.tmp 1)), .none⟩, ⟨(.some 49), (.callr 34 [(.tmp 47), (.tmp 48)]), .none⟩]
def c17_27 : PCode := (.seq (.reg p17_19) (.cond (.tmp 50) .skip (.seq (.reg p17_20) (.cond (.tmp 54) (.reg p17_21) (.seq (.reg p17_22) (.cond (.tmp 65) (.reg p17_23) (.seq (.reg p17_24) (.cond (.tmp 70) (.reg p17_25) (.reg p17_26)))))))))
def c17_1 : PCode := (.keep [0, 1, 1000001] [(0, .id 0), (1, .id 1)] [] (.block 1 c17_27))
def c17_4 : PCode := (.keep [0, 1, 1000001] [(0, .id 0), (1, .id 1)] [] (.seq (.seq (.reg p17_6) (.block 0 (.seq (.seq (.reg p17_7) (.cond (.tmp 16) .skip (.reg p17_8))) c17_3))) c17_1))
def c17_b : PCode := (.seq (.seq (.reg p17_5) (.cond (.tmp 10) .ret .skip)) c17_4)
def c17 : FCode := ⟨80, c17_b, [], some ([1000001], [(0, .id 0), (1, .id 1)], []), false⟩
theorem c17_ok : compF Go.Proofs.Tryd.prog [100005, 17, 28, 29, 30, 31, 32, 33, 34, 46, 47, 48, 60, 74] 17 = some (eraseF c17) := by kernel_rfl
def p5_6 : List PO := [⟨(.some 2), (.box 5 (.tmp 0)), .none⟩, ⟨(.some 4), (.alloc [(2, (.int .i64 0)), (3, (.string ⟨#[]⟩))]), .none⟩, ⟨(.some 5), (.nilS 25 6), .none⟩, ⟨(.some 6), (.mov (.const (.int .i64 0))), .none⟩]
def p5_7 : List PO := [⟨(.some 11), (.load .true 5 (.tmp 2)), .none⟩, ⟨(.some 12), (.call 16 [(.tmp 11)]), .none⟩, ⟨(.some 7), (.mov (.tmp 12)), .none⟩]
def p5_8 : List PO := [⟨(.some 13), (.mov (.tmp 7)), .none⟩, ⟨(.some 14), (.cmpI .neq (.tmp 13) (.const (.int .i64 0))), .none⟩]
def p5_9 : List PO := [⟨(.some 15), (.load .true 5 (.tmp 2)), .none⟩, ⟨(.some 16), (.mov (.tmp 7)), .none⟩, ⟨.none, (.store 5 (.tmp 4) (.tmp 15)), .none⟩, ⟨(.some 5), (.nilS 25 6), .none⟩, ⟨(.some 6), (.mov (.tmp 16)), .none⟩]
def p5_10 : List PO := [⟨(.some 17), (.load .true 5 (.tmp 2)), .none⟩, ⟨(.some 18), (.build [(2, (.int .i64 0)), (3, (.string ⟨#[]⟩)), (1, (.slice .none 0 0))] [(0, (5, (.tmp 17)))]), .none⟩, ⟨(.some 19), (.box 6 (.tmp 18)), .none⟩, ⟨(.some 8), (.mov (.tmp 19)), .none⟩]
def p5_11 : List PO := [⟨(.some 20), (.mov (.tmp 1)), .none⟩, ⟨(.some 21), (.len .false (.tmp 20)), .none⟩, ⟨(.some 22), (.mov (.const (.int .i64 0))), .none⟩]
def p5_12 : List PO := [⟨(.some 23), (.cmpI .lss (.tmp 22) (.tmp 21)), .none⟩]
def p5_13 : List PO := [⟨(.some 24), (.ixS 3 1 (.tmp 20) (.tmp 22)), .none⟩, ⟨(.some 25), (.load .false 1 (.tmp 24)), .none⟩, ⟨(.some 10), (.mov (.tmp 25)), .none⟩]
def p5_14 : List PO := [⟨(.some 26), (.mov (.tmp 8)), .none⟩, ⟨(.some 27), (.mov (.tmp 10)), .none⟩, ⟨(.some 28), (.callr 17 [(.tmp 26), (.tmp 27)]), .none⟩]
def p5_15 : List PO := [⟨(.some 29), (.arI .add (.tmp 22) (.const (.int .i64 1))), .none⟩, ⟨(.some 22), (.mov (.tmp 29)), .none⟩]
def c5_2 : PCode := (.keep [4, 8, 20, 21, 22] [(40, .id 40), (160, .id 160), (337, .id 337)] [] (.seq (.block 1 (.seq (.reg p5_13) (.reg p5_14))) (.reg p5_15)))
def c5_3 : PCode := (.keep [4, 8, 20, 21, 22, 23] [(40, .id 40), (160, .id 160), (337, .id 337)] [] (.seq (.cond (.tmp 23) .skip (.keep [4, 8] [(40, .id 40), (160, .id 160), (337, .id 337)] [] (.exit 0))) c5_2))
def c5_4 : PCode := (.keep [4, 8, 20, 21, 22] [(40, .id 40), (160, .id 160), (337, (.cell 160 5))] [.cell 160 5 337 25 6] (.seq (.reg p5_12) c5_3))
def p5_16 : List PO := [⟨(.some 30), (.mov (.tmp 8)), .none⟩, ⟨(.some 31), (.nilC (.tmp 30)), .none⟩, ⟨(.some 32), (.fld 0 (.tmp 31)), .none⟩, ⟨(.some 33), (.load .true 5 (.tmp 32)), .none⟩, ⟨(.some 34), (.mov (.tmp 8)), .none⟩, ⟨(.some 35), (.nilC (.tmp 34)), .none⟩, ⟨(.some 36), (.fld 5 (.tmp 35)), .none⟩, ⟨(.some 37), (.load .false 1 (.tmp 36)), .none⟩, ⟨.none, (.store 5 (.tmp 4) (.tmp 33)), .none⟩, ⟨(.some 5), (.mov (.tmp 37)), .none⟩, ⟨(.some 6), (.mov (.const (.int .i64 0))), .none⟩]
def c5_1 : PCode := (.keep [4, 8] [(40, .id 40), (160, .id 160), (337, .id 337)] [] (.seq (.regD p5_16 [(7, 8)]) .ret))
def c5_5 : PCode := (.keep [1, 2, 4] [(24, .id 24), (40, .id 40)] [] (.seq (.reg p5_10) (.seq (.seq (.reg p5_11) (.block 0 (.loop c5_4))) c5_1)))
def c5_b : PCode := (.seq (.reg p5_6) (.seq (.seq (.reg p5_7) (.seq (.reg p5_8) (.cond (.tmp 14) (.seq (.reg p5_9) .ret) .skip))) c5_5))
def c5 : FCode := ⟨38, c5_b, [(.cell 4 .true 5), (.tmp 5), (.tmp 6)], some ([4, 5, 6], [(40, .id 40), (338, (.slot 5 none))], []), false⟩
theorem c5_ok : compF Go.Proofs.Tryd.prog [100005, 17, 28, 29, 30, 31, 32, 33, 34, 46, 47, 48, 60, 74] 5 = some (eraseF c5) := by kernel_rfl
def p18_3 : List PO := [⟨(.some 2), (.nilS 3 1), .none⟩]
def p18_4 : List PO := [⟨(.some 3), (.nilS 3 1), .none⟩]
def p18_5 : List PO := [⟨(.some 6), (.mov (.tmp 0)), .none⟩, ⟨(.some 7), (.rng (.tmp 6)), .none⟩]
def p18_6 : List PO := [⟨(.some 8), (.nxt (.tmp 7)), .none⟩, ⟨(.some 9), (.ext (.tmp 8) 0), .none⟩]
def p18_7 : List PO := [⟨(.some 10), (.ext (.tmp 8) 2), .none⟩, ⟨(.some 5), (.mov (.tmp 10)), .none⟩]
def p18_8 : List PO := [⟨(.some 11), (.mov (.tmp 3)), .none⟩, ⟨(.some 12), (.mov (.tmp 5)), .none⟩, ⟨(.some 13), (.cvI .i64 (.tmp 12)), .none⟩, ⟨(.some 14), (.bsl 3 1 1 [(1, (.int .i64 0))] [(0, (1, (.tmp 13)))]), .none⟩, ⟨(.some 15), (.app 3 1 8 (.tmp 11) (.tmp 14)), .none⟩, ⟨(.some 3), (.mov (.tmp 15)), .none⟩]
def c18_1 : PCode := (.keep [3, 7, 8] [(32, .id 32), (64, .id 64)] [] (.block 1 (.seq (.reg p18_7) (.reg p18_8))))
def c18_2 : PCode := (.keep [3, 7] [(32, .id 32), (64, .id 64)] [] (.seq (.reg p18_6) (.seq (.cond (.tmp 9) .skip (.keep [3] [(32, .id 32)] [] (.exit 0))) c18_1)))
def p18_9 : List PO := [⟨(.some 16), (.mov (.tmp 3)), .none⟩, ⟨(.some 2), (.mov (.tmp 16)), .none⟩]
def c18_b : PCode := (.seq (.reg p18_3) (.seq (.reg p18_4) (.seq (.seq (.reg p18_5) (.block 0 (.loop c18_2))) (.seq (.reg p18_9) .ret))))
def c18 : FCode := ⟨17, c18_b, [(.tmp 2)], some ([2], [(32, .id 32)], []), false⟩
theorem c18_ok : compF Go.Proofs.Tryd.prog [100005, 17, 28, 29, 30, 31, 32, 33, 34, 46, 47, 48, 60, 74] 18 = some (eraseF c18) := by kernel_rfl
def p35_5 : List PO := [⟨(.some 4), (.mov (.const (.bool .false))), .none⟩]
def p35_6 : List PO := [⟨(.some 6), (.mov (.tmp 0)), .none⟩, ⟨(.some 7), (.len .false (.tmp 6)), .none⟩, ⟨(.some 8), (.mov (.tmp 1)), .none⟩, ⟨(.some 9), (.len .false (.tmp 8)), .none⟩, ⟨(.some 10), (.cmpI .neq (.tmp 7) (.tmp 9)), .none⟩]
def p35_7 : List PO := [⟨(.some 4), (.mov (.const (.bool .false))), .none⟩]
def p35_8 : List PO := [⟨(.some 11), (.mov (.tmp 0)), .none⟩, ⟨(.some 12), (.len .false (.tmp 11)), .none⟩, ⟨(.some 13), (.mov (.const (.int .i64 0))), .none⟩]
def p35_9 : List PO := [⟨(.some 14), (.cmpI .lss (.tmp 13) (.tmp 12)), .none⟩]
def p35_10 : List PO := [⟨(.some 15), (.mov (.tmp 13)), .none⟩, ⟨(.some 5), (.mov (.tmp 15)), .none⟩]
def p35_11 : List PO := [⟨(.some 16), (.mov (.tmp 0)), .none⟩, ⟨(.some 17), (.mov (.tmp 5)), .none⟩, ⟨(.some 18), (.ixS 3 1 (.tmp 16) (.tmp 17)), .none⟩, ⟨(.some 19), (.load .false 1 (.tmp 18)), .none⟩, ⟨(.some 20), (.mov (.tmp 1)), .none⟩, ⟨(.some 21), (.mov (.tmp 5)), .none⟩, ⟨(.some 22), (.ixS 3 1 (.tmp 20) (.tmp 21)), .none⟩, ⟨(.some 23), (.load .false 1 (.tmp 22)), .none⟩, ⟨(.some 24), (.cmpI .neq (.tmp 19) (.tmp 23)), .none⟩]
def p35_12 : List PO := [⟨(.some 4), (.mov (.const (.bool .false))), .none⟩]
def p35_13 : List PO := [⟨(.some 25), (.arI .add (.tmp 13) (.const (.int .i64 1))), .none⟩, ⟨(.some 13), (.mov (.tmp 25)), .none⟩]
def c35_1 : PCode := (.keep [0, 1, 12, 13] [] [] (.seq (.block 1 (.seq (.reg p35_10) (.seq (.regD p35_11 []) (.cond (.tmp 24) (.seq (.reg p35_12) .ret) .skip)))) (.reg p35_13)))
def c35_2 : PCode := (.keep [0, 1, 12, 13, 14] [] [] (.seq (.cond (.tmp 14) .skip (.keep [] [] [] (.exit 0))) c35_1))
def c35_3 : PCode := (.keep [0, 1, 12, 13] [] [] (.seq (.reg p35_9) c35_2))
def p35_14 : List PO := [⟨(.some 4), (.mov (.const (.bool .true))), .none⟩]
def c35_4 : PCode := (.keep [0, 1] [] [] (.seq (.seq (.reg p35_8) (.block 0 (.loop c35_3))) (.seq (.reg p35_14) .ret)))
def c35_b : PCode := (.seq (.reg p35_5) (.seq (.seq (.reg p35_6) (.cond (.tmp 10) (.seq (.reg p35_7) .ret) .skip)) c35_4))
def c35 : FCode := ⟨26, c35_b, [(.tmp 4)], some ([4], [], []), false⟩
theorem c35_ok : compF Go.Proofs.Tryd.prog [100005, 17, 28, 29, 30, 31, 32, 33, 34, 46, 47, 48, 60, 74] 35 = some (eraseF c35) := by kernel_rfl
def p20_1 : List PO := [⟨(.some 2), (.box 6 (.tmp 0)), .none⟩, ⟨(.some 3), (.box 6 (.tmp 1)), .none⟩, ⟨(.some 4), (.mov (.const (.bool .false))), .none⟩]
def p20_2 : List PO := [⟨(.some 5), (.fld 0 (.tmp 2)), .none⟩, ⟨(.some 6), (.load .false 1 (.tmp 5)), .none⟩, ⟨(.some 7), (.fld 0 (.tmp 3)), .none⟩, ⟨(.some 8), (.load .false 1 (.tmp 7)), .none⟩, ⟨(.some 9), (.cmpI .eql (.tmp 6) (.tmp 8)), .none⟩, ⟨(.some 10), (.mov (.tmp 9)), .none⟩, ⟨(.some 11), (.fld 1 (.tmp 2)), (.some (10, .true))⟩, ⟨(.some 12), (.load .false 1 (.tmp 11)), (.some (10, .true))⟩, ⟨(.some 13), (.fld 1 (.tmp 3)), (.some (10, .true))⟩, ⟨(.some 14), (.load .false 1 (.tmp 13)), (.some (10, .true))⟩, ⟨(.some 15), (.cmpI .eql (.tmp 12) (.tmp 14)), (.some (10, .true))⟩, ⟨(.some 16), (.pick (.tmp 10) (.tmp 15) (.const (.bool .false))), .none⟩, ⟨(.some 17), (.mov (.tmp 16)), .none⟩, ⟨(.some 18), (.fld 2 (.tmp 2)), (.some (17, .true))⟩, ⟨(.some 19), (.load .false 1 (.tmp 18)), (.some (17, .true))⟩, ⟨(.some 20), (.fld 2 (.tmp 3)), (.some (17, .true))⟩, ⟨(.some 21), (.load .false 1 (.tmp 20)), (.some (17, .true))⟩, ⟨(.some 22), (.cmpI .eql (.tmp 19) (.tmp 21)), (.some (17, .true))⟩, ⟨(.some 23), (.pick (.tmp 17) (.tmp 22) (.const (.bool .false))), .none⟩, ⟨(.some 24), (.mov (.tmp 23)), .none⟩, ⟨(.some 25), (.fld 3 (.tmp 2)), (.some (24, .true))⟩, ⟨(.some 26), (.load .false 1 (.tmp 25)), (.some (24, .true))⟩, ⟨(.some 27), (.fld 3 (.tmp 3)), (.some (24, .true))⟩, ⟨(.some 28), (.load .false 1 (.tmp 27)), (.some (24, .true))⟩, ⟨(.some 29), (.strO .eql (.tmp 26) (.tmp 28)), (.some (24, .true))⟩, ⟨(.some 30), (.pick (.tmp 24) (.tmp 29) (.const (.bool .false))), .none⟩, ⟨(.some 31), (.mov (.tmp 30)), .none⟩, ⟨(.some 32), (.fld 5 (.tmp 2)), (.some (31, .true))⟩, ⟨(.some 33), (.load .false 1 (.tmp 32)), (.some (31, .true))⟩, ⟨(.some 34), (.fld 5 (.tmp 3)), (.some (31, .true))⟩, ⟨(.some 35), (.load .false 1 (.tmp 34)), (.some (31, .true))⟩, ⟨(.some 36), (.strO .eql (.tmp 33) (.tmp 35)), (.some (31, .true))⟩, ⟨(.some 37), (.pick (.tmp 31) (.tmp 36) (.const (.bool .false))), .none⟩, ⟨(.some 38), (.mov (.tmp 37)), .none⟩, ⟨(.some 39), (.fld 4 (.tmp 2)), (.some (38, .true))⟩, ⟨(.some 40), (.load .false 1 (.tmp 39)), (.some (38, .true))⟩, ⟨(.some 41), (.fld 4 (.tmp 3)), (.some (38, .true))⟩, ⟨(.some 42), (.load .false 1 (.tmp 41)), (.some (38, .true))⟩, ⟨(.some 43), (.call 35 [(.tmp 40), (.tmp 42)]), (.some (38, .true))⟩, ⟨(.some 44), (.pick (.tmp 38) (.tmp 43) (.const (.bool .false))), .none⟩, ⟨(.some 4), (.mov (.tmp 44)), .none⟩]
def c20_b : PCode := (.seq (.reg p20_1) (.seq (.reg p20_2) .ret))
def c20 : FCode := ⟨45, c20_b, [(.tmp 4)], some ([4], [], []), false⟩
theorem c20_ok : compF Go.Proofs.Tryd.prog [100005, 17, 28, 29, 30, 31, 32, 33, 34, 46, 47, 48, 60, 74] 20 = some (eraseF c20) := by kernel_rfl
def p19_5 : List PO := [⟨(.some 6), (.mov (.const (.bool .false))), .none⟩]
def p19_6 : List PO := [⟨(.some 10), (.mov (.tmp 0)), .none⟩, ⟨(.some 11), (.len .false (.tmp 10)), .none⟩, ⟨(.some 12), (.mov (.tmp 1)), .none⟩, ⟨(.some 13), (.len .false (.tmp 12)), .none⟩, ⟨(.some 14), (.cmpI .neq (.tmp 11) (.tmp 13)), .none⟩]
def p19_7 : List PO := [⟨(.some 6), (.mov (.const (.bool .false))), .none⟩]
def p19_8 : List PO := [⟨(.some 15), (.mov (.tmp 0)), .none⟩, ⟨(.some 16), (.len .false (.tmp 15)), .none⟩, ⟨(.some 17), (.mov (.const (.int .i64 0))), .none⟩]
def p19_9 : List PO := [⟨(.some 18), (.cmpI .lss (.tmp 17) (.tmp 16)), .none⟩]
def p19_10 : List PO := [⟨(.some 19), (.mov (.tmp 17)), .none⟩, ⟨(.some 20), (.ixS 25 6 (.tmp 15) (.tmp 17)), .none⟩, ⟨(.some 21), (.load .true 6 (.tmp 20)), .none⟩, ⟨(.some 8), (.alloc [(3, (.int .i64 0)), (1, (.string ⟨#[]⟩)), (1, (.slice .none 0 0)), (1, (.string ⟨#[]⟩))]), .none⟩, ⟨(.some 7), (.mov (.tmp 19)), .none⟩, ⟨.none, (.store 6 (.tmp 8) (.tmp 21)), .none⟩]
def p19_11 : List PO := [⟨(.some 22), (.mov (.tmp 1)), .none⟩, ⟨(.some 23), (.mov (.tmp 7)), .none⟩, ⟨(.some 24), (.ixS 25 6 (.tmp 22) (.tmp 23)), .none⟩, ⟨(.some 25), (.load .true 6 (.tmp 24)), .none⟩, ⟨(.some 9), (.alloc [(3, (.int .i64 0)), (1, (.string ⟨#[]⟩)), (1, (.slice .none 0 0)), (1, (.string ⟨#[]⟩))]), .none⟩, ⟨.none, (.store 6 (.tmp 9) (.tmp 25)), .none⟩]
def p19_12 : List PO := [⟨(.some 26), (.mov (.tmp 2)), .none⟩, ⟨(.some 27), (.load .true 6 (.tmp 8)), .none⟩, ⟨(.some 28), (.load .true 6 (.tmp 9)), .none⟩, ⟨(.some 29), (.callv (.tmp 26) [(.tmp 27), (.tmp 28)]), .none⟩, ⟨(.some 30), (.un .not (.tmp 29)), .none⟩]
def p19_13 : List PO := [⟨(.some 6), (.mov (.const (.bool .false))), .none⟩]
def p19_14 : List PO := [⟨(.some 31), (.arI .add (.tmp 17) (.const (.int .i64 1))), .none⟩, ⟨(.some 17), (.mov (.tmp 31)), .none⟩]
def c19_1 : PCode := (.keep [1, 2, 15, 16, 17] [] [] (.seq (.block 1 (.seq (.reg p19_10) (.seq (.reg p19_11) (.seq (.reg p19_12) (.cond (.tmp 30) (.seq (.reg p19_13) .ret) .skip))))) (.reg p19_14)))
def c19_2 : PCode := (.keep [1, 2, 15, 16, 17, 18] [] [] (.seq (.cond (.tmp 18) .skip (.keep [] [] [] (.exit 0))) c19_1))
def c19_3 : PCode := (.keep [1, 2, 15, 16, 17] [] [] (.seq (.reg p19_9) c19_2))
def p19_15 : List PO := [⟨(.some 6), (.mov (.const (.bool .true))), .none⟩]
def c19_4 : PCode := (.keep [0, 1, 2] [] [] (.seq (.seq (.reg p19_8) (.block 0 (.loop c19_3))) (.seq (.reg p19_15) .ret)))
def c19_b : PCode := (.seq (.reg p19_5) (.seq (.seq (.reg p19_6) (.cond (.tmp 14) (.seq (.reg p19_7) .ret) .skip)) c19_4))
def c19 : FCode := ⟨32, c19_b, [(.tmp 6)], some ([6], [], []), false⟩
theorem c19_ok : compF Go.Proofs.Tryd.prog [100005, 17, 28, 29, 30, 31, 32, 33, 34, 46, 47, 48, 60, 74] 19 = some (eraseF c19) := by kernel_rfl
def p7_1 : List PO := [⟨(.some 4), (.mov (.const (.bool .false))), .none⟩]
def p7_2 : List PO := [⟨(.some 5), (.mov (.tmp 0)), .none⟩, ⟨(.some 6), (.mov (.tmp 1)), .none⟩, ⟨(.some 7), (.call 19 [(.tmp 5), (.tmp 6), (.func 20)]), .none⟩, ⟨(.some 4), (.mov (.tmp 7)), .none⟩]
def c7_b : PCode := (.seq (.reg p7_1) (.seq (.reg p7_2) .ret))
def c7 : FCode := ⟨8, c7_b, [(.tmp 4)], some ([4], [], []), false⟩
theorem c7_ok : compF Go.Proofs.Tryd.prog [100005, 17, 28, 29, 30, 31, 32, 33, 34, 46, 47, 48, 60, 74] 7 = some (eraseF c7) := by kernel_rfl
def p6_1 : List PO := [⟨(.some 0), (.mov (.const (.bool .false))), .none⟩]
def p6_2 : List PO := [⟨(.some 5), (.build [(2, (.int .i64 0)), (3, (.string ⟨#[]⟩))] []), .none⟩, ⟨(.some 6), (.call 18 [(.const (.string ⟨#[97, 27, 91, 63, 50, 53, 104, 27, 93, 48, 59, 116, 7, 27, 40]⟩))]), .none⟩, ⟨(.some 7), (.callf 5 [(.tmp 5), (.tmp 6)]), .none⟩, ⟨(.some 4), (.mov (.tmp 7)), .none⟩, ⟨(.some 8), (.ext (.tmp 4) 0), .none⟩, ⟨(.some 9), (.ext (.tmp 4) 1), .none⟩, ⟨(.some 10), (.ext (.tmp 4) 2), .none⟩, ⟨(.some 1), (.alloc [(2, (.int .i64 0)), (3, (.string ⟨#[]⟩))]), .none⟩, ⟨.none, (.store 5 (.tmp 1) (.tmp 8)), .none⟩, ⟨(.some 2), (.mov (.tmp 9)), .none⟩, ⟨(.some 3), (.mov (.tmp 10)), .none⟩]
def p6_3 : List PO := [⟨(.some 11), (.mov (.tmp 3)), .none⟩, ⟨(.some 12), (.cmpI .eql (.tmp 11) (.const (.int .i64 0))), .none⟩, ⟨(.some 13), (.mov (.tmp 12)), .none⟩, ⟨(.some 14), (.load .true 5 (.tmp 1)), (.some (13, .true))⟩, ⟨(.some 15), (.build [(2, (.int .i64 0)), (3, (.string ⟨#[]⟩))] [(0, (1, (.const (.int .i64 2)))), (2, (1, (.const (.string ⟨#[40]⟩))))]), (.some (13, .true))⟩, ⟨(.some 16), (.eqA .false [(2, .int), (3, .str)] (.tmp 14) (.tmp 15)), (.some (13, .true))⟩, ⟨(.some 17), (.pick (.tmp 13) (.tmp 16) (.const (.bool .false))), .none⟩, ⟨(.some 18), (.mov (.tmp 17)), .none⟩, ⟨(.some 19), (.mov (.tmp 2)), (.some (18, .true))⟩, ⟨(.some 20), (.build [(3, (.int .i64 0)), (1, (.string ⟨#[]⟩)), (1, (.slice .none 0 0)), (1, (.string ⟨#[]⟩))] [(0, (1, (.const (.int .i64 1)))), (1, (1, (.const (.int .i64 97))))]), (.some (18, .true))⟩, ⟨(.some 21), (.bsl 3 1 1 [(1, (.int .i64 0))] [(0, (1, (.const (.int .i64 25))))]), (.some (18, .true))⟩, ⟨(.some 22), (.build [(3, (.int .i64 0)), (1, (.string ⟨#[]⟩)), (1, (.slice .none 0 0)), (1, (.string ⟨#[]⟩))] [(0, (1, (.const (.int .i64 4)))), (1, (1, (.const (.int .i64 104)))), (2, (1, (.const (.int .i64 63)))), (4, (1, (.tmp 21)))]), (.some (18, .true))⟩, ⟨(.some 23), (.build [(3, (.int .i64 0)), (1, (.string ⟨#[]⟩)), (1, (.slice .none 0 0)), (1, (.string ⟨#[]⟩))] [(0, (1, (.const (.int .i64 5)))), (5, (1, (.const (.string ⟨#[48, 59, 116]⟩))))]), (.some (18, .true))⟩, ⟨(.some 24), (.bsl 25 6 3 [(3, (.int .i64 0)), (1, (.string ⟨#[]⟩)), (1, (.slice .none 0 0)), (1, (.string ⟨#[]⟩)), (3, (.int .i64 0)), (1, (.string ⟨#[]⟩)), (1, (.slice .none 0 0)), (1, (.string ⟨#[]⟩)), (3, (.int .i64 0)), (1, (.string ⟨#[]⟩)), (1, (.slice .none 0 0)), (1, (.string ⟨#[]⟩))] [(0, (6, (.tmp 20))), (6, (6, (.tmp 22))), (12, (6, (.tmp 23)))]), (.some (18, .true))⟩, ⟨(.some 25), (.call 7 [(.tmp 19), (.tmp 24)]), (.some (18, .true))⟩, ⟨(.some 26), (.pick (.tmp 18) (.tmp 25) (.const (.bool .false))), .none⟩, ⟨(.some 0), (.mov (.tmp 26)), .none⟩]
def c6_b : PCode := (.seq (.reg p6_1) (.seq (.reg p6_2) (.seq (.reg p6_3) .ret)))
def c6 : FCode := ⟨27, c6_b, [(.tmp 0)], some ([0], [], []), false⟩
theorem c6_ok : compF Go.Proofs.Tryd.prog [100005, 17, 28, 29, 30, 31, 32, 33, 34, 46, 47, 48, 60, 74] 6 = some (eraseF c6) := by kernel_rfl
def p3_5 : List PO := [⟨(.some 2), (.mov (.const (.bool .false))), .none⟩]
def p3_6 : List PO := [⟨(.some 3), (.nilS 3 1), .none⟩]
def p3_7 : List PO := [⟨(.some 4), (.nilS 25 6), .none⟩]
def p3_8 : List PO := [⟨(.some 12), (.mov (.tmp 0)), .none⟩, ⟨(.some 13), (.len .false (.tmp 12)), .none⟩, ⟨(.some 14), (.mov (.const (.int .i64 0))), .none⟩]
def p3_9 : List PO := [⟨(.some 15), (.cmpI .lss (.tmp 14) (.tmp 13)), .none⟩]
def p3_10 : List PO := [⟨(.some 16), (.ixS 25 6 (.tmp 12) (.tmp 14)), .none⟩, ⟨(.some 17), (.load .true 6 (.tmp 16)), .none⟩, ⟨(.some 6), (.alloc [(3, (.int .i64 0)), (1, (.string ⟨#[]⟩)), (1, (.slice .none 0 0)), (1, (.string ⟨#[]⟩))]), .none⟩, ⟨.none, (.store 6 (.tmp 6) (.tmp 17)), .none⟩]
def p3_11 : List PO := [⟨(.some 19), (.load .true 6 (.tmp 6)), .none⟩, ⟨(.some 20), (.call 4 [(.tmp 19)]), .none⟩, ⟨(.some 18), (.mov (.tmp 20)), .none⟩, ⟨(.some 21), (.ext (.tmp 18) 0), .none⟩, ⟨(.some 22), (.ext (.tmp 18) 1), .none⟩, ⟨(.some 7), (.mov (.tmp 21)), .none⟩, ⟨(.some 8), (.mov (.tmp 22)), .none⟩]
def p3_12 : List PO := [⟨(.some 23), (.mov (.tmp 8)), .none⟩, ⟨(.some 24), (.cmpI .eql (.tmp 23) (.const (.int .i64 0))), .none⟩]
def p3_13 : List PO := [⟨(.some 25), (.mov (.tmp 3)), .none⟩, ⟨(.some 26), (.mov (.tmp 7)), .none⟩, ⟨(.some 27), (.app 3 1 8 (.tmp 25) (.tmp 26)), .none⟩, ⟨(.some 28), (.mov (.tmp 4)), .none⟩, ⟨(.some 29), (.load .true 6 (.tmp 6)), .none⟩, ⟨(.some 30), (.bsl 25 6 1 [(3, (.int .i64 0)), (1, (.string ⟨#[]⟩)), (1, (.slice .none 0 0)), (1, (.string ⟨#[]⟩))] [(0, (6, (.tmp 29)))]), .none⟩, ⟨(.some 31), (.app 25 6 80 (.tmp 28) (.tmp 30)), .none⟩, ⟨(.some 3), (.mov (.tmp 27)), .none⟩, ⟨(.some 4), (.mov (.tmp 31)), .none⟩]
def p3_14 : List PO := [⟨(.some 32), (.arI .add (.tmp 14) (.const (.int .i64 1))), .none⟩, ⟨(.some 14), (.mov (.tmp 32)), .none⟩]
def c3_2 : PCode := (.keep [3, 4, 12, 13, 14] [(32, .id 32), (40, .id 40)] [] (.seq (.block 1 (.seq (.reg p3_10) (.seq (.reg p3_11) (.seq (.reg p3_12) (.cond (.tmp 24) (.regD p3_13 [(2, 4), (2, 5)]) .skip))))) (.reg p3_14)))
def c3_3 : PCode := (.keep [3, 4, 12, 13, 14, 15] [(32, .id 32), (40, .id 40)] [] (.seq (.cond (.tmp 15) .skip (.keep [3, 4] [(32, .id 32), (40, .id 40)] [] (.exit 0))) c3_2))
def c3_4 : PCode := (.keep [3, 4, 12, 13, 14] [(32, .id 32), (40, .id 40)] [] (.seq (.reg p3_9) c3_3))
def p3_15 : List PO := [⟨(.some 34), (.build [(2, (.int .i64 0)), (3, (.string ⟨#[]⟩))] []), .none⟩, ⟨(.some 35), (.mov (.tmp 3)), .none⟩, ⟨(.some 36), (.callf 5 [(.tmp 34), (.tmp 35)]), .none⟩, ⟨(.some 33), (.mov (.tmp 36)), .none⟩, ⟨(.some 37), (.ext (.tmp 33) 0), .none⟩, ⟨(.some 38), (.ext (.tmp 33) 1), .none⟩, ⟨(.some 39), (.ext (.tmp 33) 2), .none⟩, ⟨(.some 9), (.alloc [(2, (.int .i64 0)), (3, (.string ⟨#[]⟩))]), .none⟩, ⟨.none, (.store 5 (.tmp 9) (.tmp 37)), .none⟩, ⟨(.some 10), (.mov (.tmp 38)), .none⟩, ⟨(.some 11), (.mov (.tmp 39)), .none⟩]
def p3_16 : List PO := [⟨(.some 40), (.call 6 []), .none⟩, ⟨(.some 41), (.mov (.tmp 40)), .none⟩, ⟨(.some 42), (.mov (.tmp 11)), (.some (41, .true))⟩, ⟨(.some 43), (.cmpI .eql (.tmp 42) (.const (.int .i64 0))), (.some (41, .true))⟩, ⟨(.some 44), (.pick (.tmp 41) (.tmp 43) (.const (.bool .false))), .none⟩, ⟨(.some 45), (.mov (.tmp 44)), .none⟩, ⟨(.some 46), (.load .true 5 (.tmp 9)), (.some (45, .true))⟩, ⟨(.some 47), (.build [(2, (.int .i64 0)), (3, (.string ⟨#[]⟩))] []), (.some (45, .true))⟩, ⟨(.some 48), (.eqA .false [(2, .int), (3, .str)] (.tmp 46) (.tmp 47)), (.some (45, .true))⟩, ⟨(.some 49), (.pick (.tmp 45) (.tmp 48) (.const (.bool .false))), .none⟩, ⟨(.some 50), (.mov (.tmp 49)), .none⟩, ⟨(.some 51), (.mov (.tmp 10)), (.some (50, .true))⟩, ⟨(.some 52), (.mov (.tmp 4)), (.some (50, .true))⟩, ⟨(.some 53), (.call 7 [(.tmp 51), (.tmp 52)]), (.some (50, .true))⟩, ⟨(.some 54), (.pick (.tmp 50) (.tmp 53) (.const (.bool .false))), .none⟩, ⟨(.some 2), (.mov (.tmp 54)), .none⟩]
def c3_1 : PCode := (.keep [3, 4] [(32, .id 32), (40, .id 40)] [] (.seq (.reg p3_15) (.seq (.reg p3_16) .ret)))
def c3_b : PCode := (.seq (.reg p3_5) (.seq (.reg p3_6) (.seq (.reg p3_7) (.seq (.seq (.reg p3_8) (.block 0 (.loop c3_4))) c3_1))))
def c3 : FCode := ⟨55, c3_b, [(.tmp 2)], some ([2], [], []), false⟩
theorem c3_ok : compF Go.Proofs.Tryd.prog [100005, 17, 28, 29, 30, 31, 32, 33, 34, 46, 47, 48, 60, 74] 3 = some (eraseF c3) := by kernel_rfl
def codes : Nat → Option FCode
  | 3 => some c3
  | 4 => some c4
  | 5 => some c5
  | 6 => some c6
  | 7 => some c7
  | 8 => some c8
  | 9 => some c9
  | 10 => some c10
  | 11 => some c11
  | 13 => some c13
  | 14 => some c14
  | 15 => some c15
  | 16 => some c16
  | 17 => some c17
  | 18 => some c18
  | 19 => some c19
  | 20 => some c20
  | 22 => some c22
  | 23 => some c23
  | 27 => some c27
  | 28 => some c28
  | 29 => some c29
  | 30 => some c30
  | 31 => some c31
  | 32 => some c32
  | 33 => some c33
  | 34 => some c34
  | 35 => some c35
  | 37 => some c37
  | 45 => some c45
  | 46 => some c46
  | 47 => some c47
  | 48 => some c48
  | 60 => some c60
  | 74 => some c74
  | _ => none
theorem codes_ok : ∀ f fc, codes f = some fc → compF Go.Proofs.Tryd.prog [100005, 17, 28, 29, 30, 31, 32, 33, 34, 46, 47, 48, 60, 74] f = some (eraseF fc) := by
  intro f fc h
  unfold codes at h
  split at h
  · cases h; exact c3_ok
  · cases h; exact c4_ok
  · cases h; exact c5_ok
  · cases h; exact c6_ok
  · cases h; exact c7_ok
  · cases h; exact c8_ok
  · cases h; exact c9_ok
  · cases h; exact c10_ok
  · cases h; exact c11_ok
  · cases h; exact c13_ok
  · cases h; exact c14_ok
  · cases h; exact c15_ok
  · cases h; exact c16_ok
  · cases h; exact c17_ok
  · cases h; exact c18_ok
  · cases h; exact c19_ok
  · cases h; exact c20_ok
  · cases h; exact c22_ok
  · cases h; exact c23_ok
  · cases h; exact c27_ok
  · cases h; exact c28_ok
  · cases h; exact c29_ok
  · cases h; exact c30_ok
  · cases h; exact c31_ok
  · cases h; exact c32_ok
  · cases h; exact c33_ok
  · cases h; exact c34_ok
  · cases h; exact c35_ok
  · cases h; exact c37_ok
  · cases h; exact c45_ok
  · cases h; exact c46_ok
  · cases h; exact c47_ok
  · cases h; exact c48_ok
  · cases h; exact c60_ok
  · cases h; exact c74_ok
  · cases h
theorem codes3 : codes 3 = some c3 := rfl
theorem codes4 : codes 4 = some c4 := rfl
theorem codes5 : codes 5 = some c5 := rfl
theorem codes6 : codes 6 = some c6 := rfl
theorem codes7 : codes 7 = some c7 := rfl
theorem codes8 : codes 8 = some c8 := rfl
theorem codes9 : codes 9 = some c9 := rfl
theorem codes10 : codes 10 = some c10 := rfl
theorem codes11 : codes 11 = some c11 := rfl
theorem codes13 : codes 13 = some c13 := rfl
theorem codes14 : codes 14 = some c14 := rfl
theorem codes15 : codes 15 = some c15 := rfl
theorem codes16 : codes 16 = some c16 := rfl
theorem codes17 : codes 17 = some c17 := rfl
theorem codes18 : codes 18 = some c18 := rfl
theorem codes19 : codes 19 = some c19 := rfl
theorem codes20 : codes 20 = some c20 := rfl
theorem codes22 : codes 22 = some c22 := rfl
theorem codes23 : codes 23 = some c23 := rfl
theorem codes27 : codes 27 = some c27 := rfl
theorem codes28 : codes 28 = some c28 := rfl
theorem codes29 : codes 29 = some c29 := rfl
theorem codes30 : codes 30 = some c30 := rfl
theorem codes31 : codes 31 = some c31 := rfl
theorem codes32 : codes 32 = some c32 := rfl
theorem codes33 : codes 33 = some c33 := rfl
theorem codes34 : codes 34 = some c34 := rfl
theorem codes35 : codes 35 = some c35 := rfl
theorem codes37 : codes 37 = some c37 := rfl
theorem codes45 : codes 45 = some c45 := rfl
theorem codes46 : codes 46 = some c46 := rfl
theorem codes47 : codes 47 = some c47 := rfl
theorem codes48 : codes 48 = some c48 := rfl
theorem codes60 : codes 60 = some c60 := rfl
theorem codes74 : codes 74 = some c74 := rfl
noncomputable def libs : List (Nat × (List PV → Option PV)) := [(12, osuI libIndexByte), (24, oiS libItoaL), (25, oSsS libJoin), (26, osB libValid), (43, ossS libTrim), (44, ossL libSplit)]
noncomputable abbrev baseL : Orc := libO libs
end Go.Proofs.YthapehjibbjkjaaDoor.Pm
