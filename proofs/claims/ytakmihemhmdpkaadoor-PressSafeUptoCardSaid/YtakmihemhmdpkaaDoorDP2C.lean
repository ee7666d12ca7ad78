/- The small machine's codes of some functions. Printed by dec.py. -/
import Derived.Test.YtakmihemhmdpkaaDoorLib1
import Derived.Test.YtakmihemhmdpkaaDoorProg
namespace Go.Proofs.YtakmihemhmdpkaaDoor.Pm
set_option maxRecDepth 1000000
set_option maxHeartbeats 20000000
set_option linter.unusedVariables false
structure GKey where
  Name : Int
  Rune : Int
  Mods : Int
structure GParser where
  State : Int
  Mark : Int
  Inter : List UInt8
  Args : List UInt8
  Text : List UInt8
structure GAct where
  Kind : Int
  Code : Int
  Mark : Int
  Inter : List UInt8
  Args : List Int
  Text : List UInt8
def e_GAct : Enc GAct := ⟨6, fun x => [.int .i64 x.Kind, .int .i64 x.Code, .int .i64 x.Mark, .str x.Inter, .sl x.Args.length ((eInt .i64).cells x.Args), .str x.Text], fun _ => rfl⟩
def p40_1 : List PO := [⟨(.some 2), (.mov (.const (.bool .false))), .none⟩]
def p40_2 : List PO := [⟨(.some 3), (.mov (.tmp 0)), .none⟩, ⟨(.some 4), (.cmpI .geq (.tmp 3) (.const (.int .i64 0))), .none⟩, ⟨(.some 5), (.mov (.tmp 4)), .none⟩, ⟨(.some 6), (.mov (.tmp 0)), (.some (5, .true))⟩, ⟨(.some 7), (.cmpI .leq (.tmp 6) (.const (.int .i64 1114111))), (.some (5, .true))⟩, ⟨(.some 8), (.pick (.tmp 5) (.tmp 7) (.const (.bool .false))), .none⟩, ⟨(.some 9), (.mov (.tmp 8)), .none⟩, ⟨(.some 10), (.mov (.tmp 0)), (.some (9, .true))⟩, ⟨(.some 11), (.cmpI .lss (.tmp 10) (.const (.int .i64 55296))), (.some (9, .true))⟩, ⟨(.some 12), (.mov (.tmp 11)), (.some (9, .true))⟩, ⟨(.some 13), (.mov (.tmp 0)), (.some (12, .false))⟩, ⟨(.some 14), (.cmpI .gtr (.tmp 13) (.const (.int .i64 57343))), (.some (12, .false))⟩, ⟨(.some 15), (.pick (.tmp 12) (.const (.bool .true)) (.tmp 14)), (.some (9, .true))⟩, ⟨(.some 16), (.pick (.tmp 9) (.tmp 15) (.const (.bool .false))), .none⟩, ⟨(.some 2), (.mov (.tmp 16)), .none⟩]
def c40_b : PCode := (.seq (.reg p40_1) (.seq (.reg p40_2) .ret))
def c40 : FCode := ⟨17, c40_b, [(.tmp 2)], some ([2], [], []), false⟩
theorem c40_ok : compF Go.Proofs.Tryd.prog [100011, 100017, 26, 55, 56, 57, 58, 59, 60, 61, 72, 83, 84, 85, 95] 40 = some (eraseF c40) := by kernel_rfl
def p95_2 : List PO := [⟨(.some 4), (.nilS 5 1), .none⟩]
def p95_3 : List PO := [⟨(.some 6), (.mov (.tmp 1)), .none⟩, ⟨(.some 7), (.cvI .u32 (.tmp 6)), .none⟩, ⟨(.some 5), (.mov (.tmp 7)), .none⟩]
def p95_4 : List PO := [⟨(.some 12), (.mov (.tmp 5)), .none⟩, ⟨(.some 13), (.cmpI .leq (.tmp 12) (.const (.int .u32 2047))), .none⟩, ⟨(.some 11), (.mov (.tmp 13)), .none⟩]
def p95_5 : List PO := [⟨(.some 14), (.mov (.tmp 0)), .none⟩, ⟨(.some 15), (.mov (.tmp 1)), .none⟩, ⟨(.some 16), (.sh .shr (.tmp 15) (.const (.int .u64 6))), .none⟩, ⟨(.some 17), (.cvI .u8 (.tmp 16)), .none⟩, ⟨(.some 18), (.arI .or (.const (.int .u8 192)) (.tmp 17)), .none⟩, ⟨(.some 19), (.mov (.tmp 1)), .none⟩, ⟨(.some 20), (.cvI .u8 (.tmp 19)), .none⟩, ⟨(.some 21), (.arI .and (.tmp 20) (.const (.int .u8 63))), .none⟩, ⟨(.some 22), (.arI .or (.const (.int .u8 128)) (.tmp 21)), .none⟩, ⟨(.some 23), (.bsl 5 1 2 [(2, (.int .u8 0))] [(0, (1, (.tmp 18))), (1, (1, (.tmp 22)))]), .none⟩, ⟨(.some 24), (.app 5 1 1 (.tmp 14) (.tmp 23)), .none⟩, ⟨(.some 4), (.mov (.tmp 24)), .none⟩]
def p95_6 : List PO := [⟨(.some 26), (.mov (.tmp 5)), .none⟩, ⟨(.some 27), (.cmpI .lss (.tmp 26) (.const (.int .u32 55296))), .none⟩, ⟨(.some 25), (.mov (.tmp 27)), .none⟩]
def p95_7 : List PO := [⟨(.some 28), (.mov (.tmp 5)), .none⟩, ⟨(.some 29), (.cmpI .lss (.const (.int .u32 57343)) (.tmp 28)), .none⟩, ⟨(.some 30), (.mov (.tmp 29)), .none⟩, ⟨(.some 31), (.mov (.tmp 5)), (.some (30, .true))⟩, ⟨(.some 32), (.cmpI .leq (.tmp 31) (.const (.int .u32 65535))), (.some (30, .true))⟩, ⟨(.some 33), (.pick (.tmp 30) (.tmp 32) (.const (.bool .false))), .none⟩, ⟨(.some 25), (.mov (.tmp 33)), .none⟩]
def p95_8 : List PO := [⟨(.some 34), (.mov (.tmp 0)), .none⟩, ⟨(.some 35), (.mov (.tmp 1)), .none⟩, ⟨(.some 36), (.sh .shr (.tmp 35) (.const (.int .u64 12))), .none⟩, ⟨(.some 37), (.cvI .u8 (.tmp 36)), .none⟩, ⟨(.some 38), (.arI .or (.const (.int .u8 224)) (.tmp 37)), .none⟩, ⟨(.some 39), (.mov (.tmp 1)), .none⟩, ⟨(.some 40), (.sh .shr (.tmp 39) (.const (.int .u64 6))), .none⟩, ⟨(.some 41), (.cvI .u8 (.tmp 40)), .none⟩, ⟨(.some 42), (.arI .and (.tmp 41) (.const (.int .u8 63))), .none⟩, ⟨(.some 43), (.arI .or (.const (.int .u8 128)) (.tmp 42)), .none⟩, ⟨(.some 44), (.mov (.tmp 1)), .none⟩, ⟨(.some 45), (.cvI .u8 (.tmp 44)), .none⟩, ⟨(.some 46), (.arI .and (.tmp 45) (.const (.int .u8 63))), .none⟩, ⟨(.some 47), (.arI .or (.const (.int .u8 128)) (.tmp 46)), .none⟩, ⟨(.some 48), (.bsl 5 1 3 [(3, (.int .u8 0))] [(0, (1, (.tmp 38))), (1, (1, (.tmp 43))), (2, (1, (.tmp 47)))]), .none⟩, ⟨(.some 49), (.app 5 1 1 (.tmp 34) (.tmp 48)), .none⟩, ⟨(.some 4), (.mov (.tmp 49)), .none⟩]
def p95_9 : List PO := [⟨(.some 51), (.mov (.tmp 5)), .none⟩, ⟨(.some 52), (.cmpI .gtr (.tmp 51) (.const (.int .u32 65535))), .none⟩, ⟨(.some 53), (.mov (.tmp 52)), .none⟩, ⟨(.some 54), (.mov (.tmp 5)), (.some (53, .true))⟩, ⟨(.some 55), (.cmpI .leq (.tmp 54) (.const (.int .u32 1114111))), (.some (53, .true))⟩, ⟨(.some 56), (.pick (.tmp 53) (.tmp 55) (.const (.bool .false))), .none⟩, ⟨(.some 50), (.mov (.tmp 56)), .none⟩]
def p95_10 : List PO := [⟨(.some 57), (.mov (.tmp 0)), .none⟩, ⟨(.some 58), (.mov (.tmp 1)), .none⟩, ⟨(.some 59), (.sh .shr (.tmp 58) (.const (.int .u64 18))), .none⟩, ⟨(.some 60), (.cvI .u8 (.tmp 59)), .none⟩, ⟨(.some 61), (.arI .or (.const (.int .u8 240)) (.tmp 60)), .none⟩, ⟨(.some 62), (.mov (.tmp 1)), .none⟩, ⟨(.some 63), (.sh .shr (.tmp 62) (.const (.int .u64 12))), .none⟩, ⟨(.some 64), (.cvI .u8 (.tmp 63)), .none⟩, ⟨(.some 65), (.arI .and (.tmp 64) (.const (.int .u8 63))), .none⟩, ⟨(.some 66), (.arI .or (.const (.int .u8 128)) (.tmp 65)), .none⟩, ⟨(.some 67), (.mov (.tmp 1)), .none⟩, ⟨(.some 68), (.sh .shr (.tmp 67) (.const (.int .u64 6))), .none⟩, ⟨(.some 69), (.cvI .u8 (.tmp 68)), .none⟩, ⟨(.some 70), (.arI .and (.tmp 69) (.const (.int .u8 63))), .none⟩, ⟨(.some 71), (.arI .or (.const (.int .u8 128)) (.tmp 70)), .none⟩, ⟨(.some 72), (.mov (.tmp 1)), .none⟩, ⟨(.some 73), (.cvI .u8 (.tmp 72)), .none⟩, ⟨(.some 74), (.arI .and (.tmp 73) (.const (.int .u8 63))), .none⟩, ⟨(.some 75), (.arI .or (.const (.int .u8 128)) (.tmp 74)), .none⟩, ⟨(.some 76), (.bsl 5 1 4 [(4, (.int .u8 0))] [(0, (1, (.tmp 61))), (1, (1, (.tmp 66))), (2, (1, (.tmp 71))), (3, (1, (.tmp 75)))]), .none⟩, ⟨(.some 77), (.app 5 1 1 (.tmp 57) (.tmp 76)), .none⟩, ⟨(.some 4), (.mov (.tmp 77)), .none⟩]
def p95_11 : List PO := [⟨(.some 8), (.mov (.tmp 0)), .none⟩, ⟨(.some 9), (.bsl 5 1 3 [(3, (.int .u8 0))] [(0, (1, (.const (.int .u8 239)))), (1, (1, (.const (.int .u8 191)))), (2, (1, (.const (.int .u8 189))))]), .none⟩, ⟨(.some 10), (.app 5 1 1 (.tmp 8) (.tmp 9)), .none⟩, ⟨(.some 4), (.mov (.tmp 10)), .none⟩]
def c95_1 : PCode := (.keep [0, 1, 5, 25] [(0, .id 0)] [] (.cond (.tmp 25) (.seq (.reg p95_8) .ret) (.seq (.reg p95_9) (.cond (.tmp 50) (.seq (.reg p95_10) .ret) (.seq (.reg p95_11) .ret)))))
def c95_b : PCode := (.seq (.reg p95_2) (.seq (.reg p95_3) (.block 0 (.seq (.reg p95_4) (.cond (.tmp 11) (.seq (.reg p95_5) .ret) (.seq (.seq (.reg p95_6) (.cond (.tmp 25) .skip (.reg p95_7))) c95_1))))))
def c95 : FCode := ⟨78, c95_b, [(.tmp 4)], some ([4], [(0, .id 0)], []), false⟩
theorem c95_ok : compF Go.Proofs.Tryd.prog [100011, 100017, 26, 55, 56, 57, 58, 59, 60, 61, 72, 83, 84, 85, 95] 95 = some (eraseF c95) := by kernel_rfl
def p72_1 : List PO := [⟨(.some 4), (.nilS 5 1), .none⟩]
def p72_2 : List PO := [⟨(.some 5), (.mov (.tmp 1)), .none⟩, ⟨(.some 6), (.cvI .u32 (.tmp 5)), .none⟩, ⟨(.some 7), (.cmpI .leq (.tmp 6) (.const (.int .u32 127))), .none⟩]
def p72_3 : List PO := [⟨(.some 8), (.mov (.tmp 0)), .none⟩, ⟨(.some 9), (.mov (.tmp 1)), .none⟩, ⟨(.some 10), (.cvI .u8 (.tmp 9)), .none⟩, ⟨(.some 11), (.bsl 5 1 1 [(1, (.int .u8 0))] [(0, (1, (.tmp 10)))]), .none⟩, ⟨(.some 12), (.app 5 1 1 (.tmp 8) (.tmp 11)), .none⟩, ⟨(.some 4), (.mov (.tmp 12)), .none⟩]
def p72_4 : List PO := [⟨(.some 13), (.mov (.tmp 0)), .none⟩, ⟨(.some 14), (.mov (.tmp 1)), .none⟩, ⟨(.some 15), (.callr 95 [(.tmp 13), (.tmp 14)]), .none⟩, ⟨(.some 4), (.mov (.tmp 15)), .none⟩]
def c72_b : PCode := (.seq (.reg p72_1) (.seq (.seq (.reg p72_2) (.cond (.tmp 7) (.seq (.reg p72_3) .ret) .skip)) (.seq (.reg p72_4) .ret)))
def c72 : FCode := ⟨16, c72_b, [(.tmp 4)], some ([4], [(0, .id 0)], []), false⟩
theorem c72_ok : compF Go.Proofs.Tryd.prog [100011, 100017, 26, 55, 56, 57, 58, 59, 60, 61, 72, 83, 84, 85, 95] 72 = some (eraseF c72) := by kernel_rfl
def p48_4 : List PO := [⟨(.some 2), (.mov (.const (.string ⟨#[]⟩))), .none⟩]
def p48_5 : List PO := [⟨(.some 3), (.nilS 5 1), .none⟩]
def p48_6 : List PO := [⟨(.some 6), (.mov (.tmp 0)), .none⟩, ⟨(.some 7), (.len .false (.tmp 6)), .none⟩, ⟨(.some 8), (.mov (.const (.int .i64 0))), .none⟩]
def p48_7 : List PO := [⟨(.some 9), (.cmpI .lss (.tmp 8) (.tmp 7)), .none⟩]
def p48_8 : List PO := [⟨(.some 10), (.ixS 3 1 (.tmp 6) (.tmp 8)), .none⟩, ⟨(.some 11), (.load .false 1 (.tmp 10)), .none⟩, ⟨(.some 5), (.mov (.tmp 11)), .none⟩]
def p48_9 : List PO := [⟨(.some 12), (.mov (.tmp 5)), .none⟩, ⟨(.some 13), (.cmpI .lss (.tmp 12) (.const (.int .i64 0))), .none⟩, ⟨(.some 14), (.mov (.tmp 13)), .none⟩, ⟨(.some 15), (.mov (.tmp 5)), (.some (14, .false))⟩, ⟨(.some 16), (.cmpI .gtr (.tmp 15) (.const (.int .i64 1114111))), (.some (14, .false))⟩, ⟨(.some 17), (.pick (.tmp 14) (.const (.bool .true)) (.tmp 16)), .none⟩, ⟨(.some 18), (.mov (.tmp 17)), .none⟩, ⟨(.some 19), (.mov (.tmp 5)), (.some (18, .false))⟩, ⟨(.some 20), (.cmpI .geq (.tmp 19) (.const (.int .i64 55296))), (.some (18, .false))⟩, ⟨(.some 21), (.mov (.tmp 20)), (.some (18, .false))⟩, ⟨(.some 22), (.mov (.tmp 5)), (.some (21, .true))⟩, ⟨(.some 23), (.cmpI .leq (.tmp 22) (.const (.int .i64 57343))), (.some (21, .true))⟩, ⟨(.some 24), (.pick (.tmp 21) (.tmp 23) (.const (.bool .false))), (.some (18, .false))⟩, ⟨(.some 25), (.pick (.tmp 18) (.const (.bool .true)) (.tmp 24)), .none⟩]
def p48_10 : List PO := [⟨(.some 5), (.mov (.const (.int .i64 65533))), .none⟩]
def p48_11 : List PO := [⟨(.some 26), (.mov (.tmp 3)), .none⟩, ⟨(.some 27), (.mov (.tmp 5)), .none⟩, ⟨(.some 28), (.cvI .i32 (.tmp 27)), .none⟩, ⟨(.some 29), (.callr 72 [(.tmp 26), (.tmp 28)]), .none⟩, ⟨(.some 3), (.mov (.tmp 29)), .none⟩]
def p48_12 : List PO := [⟨(.some 30), (.arI .add (.tmp 8) (.const (.int .i64 1))), .none⟩, ⟨(.some 8), (.mov (.tmp 30)), .none⟩]
def c48_1 : PCode := (.keep [3, 6, 7, 8] [(32, .id 32)] [] (.seq (.block 1 (.seq (.reg p48_8) (.seq (.seq (.reg p48_9) (.cond (.tmp 25) (.reg p48_10) .skip)) (.reg p48_11)))) (.reg p48_12)))
def c48_2 : PCode := (.keep [3, 6, 7, 8, 9] [(32, .id 32)] [] (.seq (.cond (.tmp 9) .skip (.keep [3] [(32, .id 32)] [] (.exit 0))) c48_1))
def c48_3 : PCode := (.keep [3, 6, 7, 8] [(32, .id 32)] [] (.seq (.reg p48_7) c48_2))
def p48_13 : List PO := [⟨(.some 31), (.mov (.tmp 3)), .none⟩, ⟨(.some 32), (.cvBS (.tmp 31)), .none⟩, ⟨(.some 2), (.mov (.tmp 32)), .none⟩]
def c48_b : PCode := (.seq (.reg p48_4) (.seq (.reg p48_5) (.seq (.seq (.reg p48_6) (.block 0 (.loop c48_3))) (.seq (.reg p48_13) .ret))))
def c48 : FCode := ⟨33, c48_b, [(.tmp 2)], some ([2], [], []), false⟩
theorem c48_ok : compF Go.Proofs.Tryd.prog [100011, 100017, 26, 55, 56, 57, 58, 59, 60, 61, 72, 83, 84, 85, 95] 48 = some (eraseF c48) := by kernel_rfl
def p23_8 : List PO := [⟨(.some 4), (.mov (.const (.string ⟨#[]⟩))), .none⟩, ⟨(.some 5), (.mov (.const (.int .i64 0))), .none⟩]
def p23_9 : List PO := [⟨(.some 10), (.mov (.tmp 0)), .none⟩, ⟨(.some 11), (.len .false (.tmp 10)), .none⟩, ⟨(.some 12), (.cmpI .gtr (.tmp 11) (.const (.int .i64 4000))), .none⟩]
def p23_10 : List PO := [⟨(.some 4), (.mov (.const (.string ⟨#[]⟩))), .none⟩, ⟨(.some 5), (.mov (.const (.int .i64 2))), .none⟩]
def p23_11 : List PO := [⟨(.some 6), (.nilS 3 1), .none⟩]
def p23_12 : List PO := [⟨(.some 13), (.mov (.tmp 0)), .none⟩, ⟨(.some 14), (.len .false (.tmp 13)), .none⟩, ⟨(.some 15), (.mov (.const (.int .i64 0))), .none⟩]
def p23_13 : List PO := [⟨(.some 16), (.cmpI .lss (.tmp 15) (.tmp 14)), .none⟩]
def p23_14 : List PO := [⟨(.some 17), (.ixS 3 1 (.tmp 13) (.tmp 15)), .none⟩, ⟨(.some 18), (.load .false 1 (.tmp 17)), .none⟩, ⟨(.some 8), (.mov (.tmp 18)), .none⟩]
def p23_15 : List PO := [⟨(.some 24), (.mov (.tmp 8)), .none⟩, ⟨(.some 25), (.cmpI .eql (.tmp 24) (.const (.int .i64 10))), .none⟩, ⟨(.some 23), (.mov (.tmp 25)), .none⟩]
def p23_16 : List PO := [⟨(.some 26), (.mov (.tmp 6)), .none⟩, ⟨(.some 27), (.bsl 3 1 1 [(1, (.int .i64 0))] [(0, (1, (.const (.int .i64 13))))]), .none⟩, ⟨(.some 28), (.app 3 1 8 (.tmp 26) (.tmp 27)), .none⟩, ⟨(.some 6), (.mov (.tmp 28)), .none⟩]
def p23_17 : List PO := [⟨(.some 30), (.mov (.tmp 8)), .none⟩, ⟨(.some 31), (.cmpI .lss (.tmp 30) (.const (.int .i64 32))), .none⟩, ⟨(.some 32), (.mov (.tmp 31)), .none⟩, ⟨(.some 33), (.mov (.tmp 8)), (.some (32, .true))⟩, ⟨(.some 34), (.cmpI .neq (.tmp 33) (.const (.int .i64 9))), (.some (32, .true))⟩, ⟨(.some 35), (.pick (.tmp 32) (.tmp 34) (.const (.bool .false))), .none⟩, ⟨(.some 36), (.mov (.tmp 35)), .none⟩, ⟨(.some 37), (.mov (.tmp 8)), (.some (36, .true))⟩, ⟨(.some 38), (.cmpI .neq (.tmp 37) (.const (.int .i64 13))), (.some (36, .true))⟩, ⟨(.some 39), (.pick (.tmp 36) (.tmp 38) (.const (.bool .false))), .none⟩, ⟨(.some 40), (.mov (.tmp 39)), .none⟩, ⟨(.some 41), (.mov (.tmp 8)), (.some (40, .false))⟩, ⟨(.some 42), (.cmpI .geq (.tmp 41) (.const (.int .i64 127))), (.some (40, .false))⟩, ⟨(.some 43), (.mov (.tmp 42)), (.some (40, .false))⟩, ⟨(.some 44), (.mov (.tmp 8)), (.some (43, .true))⟩, ⟨(.some 45), (.cmpI .leq (.tmp 44) (.const (.int .i64 159))), (.some (43, .true))⟩, ⟨(.some 46), (.pick (.tmp 43) (.tmp 45) (.const (.bool .false))), (.some (40, .false))⟩, ⟨(.some 47), (.pick (.tmp 40) (.const (.bool .true)) (.tmp 46)), .none⟩, ⟨(.some 48), (.mov (.tmp 47)), .none⟩, ⟨(.some 49), (.mov (.tmp 8)), (.some (48, .false))⟩, ⟨(.some 50), (.call 40 [(.tmp 49)]), (.some (48, .false))⟩, ⟨(.some 51), (.un .not (.tmp 50)), (.some (48, .false))⟩, ⟨(.some 52), (.pick (.tmp 48) (.const (.bool .true)) (.tmp 51)), .none⟩, ⟨(.some 29), (.mov (.tmp 52)), .none⟩]
def p23_18 : List PO := [⟨(.some 19), (.mov (.tmp 6)), .none⟩, ⟨(.some 20), (.mov (.tmp 8)), .none⟩, ⟨(.some 21), (.bsl 3 1 1 [(1, (.int .i64 0))] [(0, (1, (.tmp 20)))]), .none⟩, ⟨(.some 22), (.app 3 1 8 (.tmp 19) (.tmp 21)), .none⟩, ⟨(.some 6), (.mov (.tmp 22)), .none⟩]
def c23_2 : PCode := (.keep [1, 6, 8, 13, 14, 15, 29, 33, 34, 37, 38, 41, 42, 43, 44, 45, 46, 49, 50, 51] [(56, .id 56)] [] (.cond (.tmp 29) .skip (.reg p23_18)))
def p23_19 : List PO := [⟨(.some 53), (.arI .add (.tmp 15) (.const (.int .i64 1))), .none⟩, ⟨(.some 15), (.mov (.tmp 53)), .none⟩]
def c23_3 : PCode := (.reg p23_19)
def c23_4 : PCode := (.keep [1, 6, 13, 14, 15] [(56, .id 56)] [] (.seq (.block 1 (.seq (.reg p23_14) (.block 2 (.seq (.reg p23_15) (.cond (.tmp 23) (.reg p23_16) (.seq (.reg p23_17) c23_2)))))) c23_3))
def c23_5 : PCode := (.keep [1, 6, 13, 14, 15, 16] [(56, .id 56)] [] (.seq (.cond (.tmp 16) .skip (.keep [1, 6] [(56, .id 56)] [] (.exit 0))) c23_4))
def c23_6 : PCode := (.keep [1, 6, 13, 14, 15] [(56, .id 56)] [] (.seq (.reg p23_13) c23_5))
def p23_20 : List PO := [⟨(.some 54), (.mov (.tmp 6)), .none⟩, ⟨(.some 55), (.call 48 [(.tmp 54)]), .none⟩, ⟨(.some 9), (.mov (.tmp 55)), .none⟩]
def p23_21 : List PO := [⟨(.some 56), (.mov (.tmp 1)), .none⟩, ⟨(.some 57), (.arI .and (.tmp 56) (.const (.int .i64 64))), .none⟩, ⟨(.some 58), (.cmpI .neq (.tmp 57) (.const (.int .i64 0))), .none⟩]
def p23_22 : List PO := [⟨(.some 59), (.mov (.tmp 9)), .none⟩, ⟨(.some 60), (.strO .add (.const (.string ⟨#[27, 91, 50, 48, 48, 126]⟩)) (.tmp 59)), .none⟩, ⟨(.some 61), (.strO .add (.tmp 60) (.const (.string ⟨#[27, 91, 50, 48, 49, 126]⟩))), .none⟩, ⟨(.some 9), (.mov (.tmp 61)), .none⟩]
def p23_23 : List PO := [⟨(.some 62), (.mov (.tmp 9)), .none⟩, ⟨(.some 4), (.mov (.tmp 62)), .none⟩, ⟨(.some 5), (.mov (.const (.int .i64 0))), .none⟩]
def c23_1 : PCode := (.keep [1, 6] [(56, .id 56)] [] (.seq (.reg p23_20) (.seq (.seq (.reg p23_21) (.cond (.tmp 58) (.reg p23_22) .skip)) (.seq (.reg p23_23) .ret))))
def c23_7 : PCode := (.keep [0, 1] [] [] (.seq (.reg p23_11) (.seq (.seq (.reg p23_12) (.block 0 (.loop c23_6))) c23_1)))
def c23_b : PCode := (.seq (.reg p23_8) (.seq (.seq (.reg p23_9) (.cond (.tmp 12) (.seq (.reg p23_10) .ret) .skip)) c23_7))
def c23 : FCode := ⟨63, c23_b, [(.tmp 4), (.tmp 5)], some ([4, 5], [], []), false⟩
theorem c23_ok : compF Go.Proofs.Tryd.prog [100011, 100017, 26, 55, 56, 57, 58, 59, 60, 61, 72, 83, 84, 85, 95] 23 = some (eraseF c23) := by kernel_rfl
def p41_2 : List PO := [⟨(.some 6), (.mov (.const (.string ⟨#[]⟩))), .none⟩]
def p41_3 : List PO := [⟨(.some 7), (.mov (.tmp 2)), .none⟩, ⟨(.some 8), (.cmpI .eql (.tmp 7) (.const (.int .i64 0))), .none⟩]
def p41_4 : List PO := [⟨(.some 9), (.mov (.tmp 0)), .none⟩, ⟨(.some 10), (.strO .add (.const (.string ⟨#[27]⟩)) (.tmp 9)), .none⟩, ⟨(.some 11), (.mov (.tmp 1)), .none⟩, ⟨(.some 12), (.cvI .i32 (.tmp 11)), .none⟩, ⟨(.some 13), (.cvIS (.tmp 12)), .none⟩, ⟨(.some 14), (.strO .add (.tmp 10) (.tmp 13)), .none⟩, ⟨(.some 6), (.mov (.tmp 14)), .none⟩]
def p41_5 : List PO := [⟨(.some 15), (.mov (.tmp 2)), .none⟩, ⟨(.some 16), (.arI .add (.tmp 15) (.const (.int .i64 1))), .none⟩, ⟨(.some 17), (.call 49 [(.tmp 16)]), .none⟩, ⟨(.some 18), (.strO .add (.const (.string ⟨#[27, 91, 49, 59]⟩)) (.tmp 17)), .none⟩, ⟨(.some 19), (.mov (.tmp 1)), .none⟩, ⟨(.some 20), (.cvI .i32 (.tmp 19)), .none⟩, ⟨(.some 21), (.cvIS (.tmp 20)), .none⟩, ⟨(.some 22), (.strO .add (.tmp 18) (.tmp 21)), .none⟩, ⟨(.some 6), (.mov (.tmp 22)), .none⟩]
def c41_1 : PCode := (.keep [1, 2] [] [] (.seq (.reg p41_5) .ret))
def c41_b : PCode := (.seq (.reg p41_2) (.seq (.seq (.reg p41_3) (.cond (.tmp 8) (.seq (.reg p41_4) .ret) .skip)) c41_1))
def c41 : FCode := ⟨23, c41_b, [(.tmp 6)], some ([6], [], []), false⟩
theorem c41_ok : compF Go.Proofs.Tryd.prog [100011, 100017, 26, 55, 56, 57, 58, 59, 60, 61, 72, 83, 84, 85, 95] 41 = some (eraseF c41) := by kernel_rfl
def p42_1 : List PO := [⟨(.some 4), (.mov (.const (.string ⟨#[]⟩))), .none⟩]
def p42_2 : List PO := [⟨(.some 6), (.mov (.tmp 0)), .none⟩, ⟨(.some 7), (.call 49 [(.tmp 6)]), .none⟩, ⟨(.some 8), (.strO .add (.const (.string ⟨#[27, 91]⟩)) (.tmp 7)), .none⟩, ⟨(.some 5), (.mov (.tmp 8)), .none⟩]
def p42_3 : List PO := [⟨(.some 9), (.mov (.tmp 1)), .none⟩, ⟨(.some 10), (.cmpI .neq (.tmp 9) (.const (.int .i64 0))), .none⟩]
def p42_4 : List PO := [⟨(.some 11), (.mov (.tmp 5)), .none⟩, ⟨(.some 12), (.mov (.tmp 1)), .none⟩, ⟨(.some 13), (.arI .add (.tmp 12) (.const (.int .i64 1))), .none⟩, ⟨(.some 14), (.call 49 [(.tmp 13)]), .none⟩, ⟨(.some 15), (.strO .add (.const (.string ⟨#[59]⟩)) (.tmp 14)), .none⟩, ⟨(.some 16), (.strO .add (.tmp 11) (.tmp 15)), .none⟩, ⟨(.some 5), (.mov (.tmp 16)), .none⟩]
def p42_5 : List PO := [⟨(.some 17), (.mov (.tmp 5)), .none⟩, ⟨(.some 18), (.strO .add (.tmp 17) (.const (.string ⟨#[126]⟩))), .none⟩, ⟨(.some 4), (.mov (.tmp 18)), .none⟩]
def c42_b : PCode := (.seq (.reg p42_1) (.seq (.reg p42_2) (.seq (.seq (.reg p42_3) (.cond (.tmp 10) (.reg p42_4) .skip)) (.seq (.reg p42_5) .ret))))
def c42 : FCode := ⟨19, c42_b, [(.tmp 4)], some ([4], [], []), false⟩
theorem c42_ok : compF Go.Proofs.Tryd.prog [100011, 100017, 26, 55, 56, 57, 58, 59, 60, 61, 72, 83, 84, 85, 95] 42 = some (eraseF c42) := by kernel_rfl
def p69_4 : List PO := [⟨(.some 4), (.mov (.const (.string ⟨#[]⟩))), .none⟩]
def p69_5 : List PO := [⟨(.some 5), (.mov (.tmp 1)), .none⟩, ⟨(.some 6), (.arI .and (.tmp 5) (.const (.int .i64 4))), .none⟩, ⟨(.some 7), (.cmpI .neq (.tmp 6) (.const (.int .i64 0))), .none⟩]
def p69_6 : List PO := [⟨(.some 9), (.mov (.tmp 0)), .none⟩, ⟨(.some 10), (.cmpI .geq (.tmp 9) (.const (.int .i64 64))), .none⟩, ⟨(.some 11), (.mov (.tmp 10)), .none⟩, ⟨(.some 12), (.mov (.tmp 0)), (.some (11, .true))⟩, ⟨(.some 13), (.cmpI .leq (.tmp 12) (.const (.int .i64 95))), (.some (11, .true))⟩, ⟨(.some 14), (.pick (.tmp 11) (.tmp 13) (.const (.bool .false))), .none⟩, ⟨(.some 15), (.mov (.tmp 14)), .none⟩, ⟨(.some 16), (.mov (.tmp 0)), (.some (15, .false))⟩, ⟨(.some 17), (.cmpI .geq (.tmp 16) (.const (.int .i64 97))), (.some (15, .false))⟩, ⟨(.some 18), (.mov (.tmp 17)), (.some (15, .false))⟩, ⟨(.some 19), (.mov (.tmp 0)), (.some (18, .true))⟩, ⟨(.some 20), (.cmpI .leq (.tmp 19) (.const (.int .i64 122))), (.some (18, .true))⟩, ⟨(.some 21), (.pick (.tmp 18) (.tmp 20) (.const (.bool .false))), (.some (15, .false))⟩, ⟨(.some 22), (.pick (.tmp 15) (.const (.bool .true)) (.tmp 21)), .none⟩, ⟨(.some 8), (.mov (.tmp 22)), .none⟩]
def p69_7 : List PO := [⟨(.some 23), (.mov (.tmp 0)), .none⟩, ⟨(.some 24), (.arI .and (.tmp 23) (.const (.int .i64 31))), .none⟩, ⟨(.some 0), (.mov (.tmp 24)), .none⟩]
def c69_1 : PCode := (.keep [0] [] [] (.reg p69_7))
def p69_8 : List PO := [⟨(.some 26), (.mov (.tmp 0)), .none⟩, ⟨(.some 27), (.cmpI .eql (.tmp 26) (.const (.int .i64 32))), .none⟩, ⟨(.some 25), (.mov (.tmp 27)), .none⟩]
def p69_9 : List PO := [⟨(.some 0), (.mov (.const (.int .i64 0))), .none⟩]
def p69_10 : List PO := [⟨(.some 29), (.mov (.tmp 0)), .none⟩, ⟨(.some 30), (.cmpI .eql (.tmp 29) (.const (.int .i64 63))), .none⟩, ⟨(.some 28), (.mov (.tmp 30)), .none⟩]
def p69_11 : List PO := [⟨(.some 0), (.mov (.const (.int .i64 127))), .none⟩]
def c69_3 : PCode := (.keep [0] [] [] (.seq (.reg p69_8) (.cond (.tmp 25) (.reg p69_9) (.seq (.reg p69_10) (.cond (.tmp 28) (.reg p69_11) .skip)))))
def p69_12 : List PO := [⟨(.some 31), (.mov (.tmp 0)), .none⟩, ⟨(.some 32), (.bsl 3 1 1 [(1, (.int .i64 0))] [(0, (1, (.tmp 31)))]), .none⟩, ⟨(.some 33), (.call 48 [(.tmp 32)]), .none⟩, ⟨(.some 4), (.mov (.tmp 33)), .none⟩]
def c69_2 : PCode := (.seq (.reg p69_12) .ret)
def c69_b : PCode := (.seq (.reg p69_4) (.seq (.seq (.reg p69_5) (.cond (.tmp 7) (.block 0 (.seq (.reg p69_6) (.cond (.tmp 8) c69_1 c69_3))) .skip)) c69_2))
def c69 : FCode := ⟨34, c69_b, [(.tmp 4)], some ([4], [], []), false⟩
theorem c69_ok : compF Go.Proofs.Tryd.prog [100011, 100017, 26, 55, 56, 57, 58, 59, 60, 61, 72, 83, 84, 85, 95] 69 = some (eraseF c69) := by kernel_rfl
def p43_4 : List PO := [⟨(.some 1), (.box 3 (.tmp 0)), .none⟩, ⟨(.some 2), (.mov (.const (.string ⟨#[]⟩))), .none⟩]
def p43_5 : List PO := [⟨(.some 4), (.fld 0 (.tmp 1)), .none⟩, ⟨(.some 5), (.load .false 1 (.tmp 4)), .none⟩, ⟨(.some 6), (.cmpI .eql (.tmp 5) (.const (.int .i64 23))), .none⟩, ⟨(.some 3), (.mov (.tmp 6)), .none⟩]
def p43_6 : List PO := [⟨(.some 2), (.mov (.const (.string ⟨#[13]⟩))), .none⟩]
def p43_7 : List PO := [⟨(.some 8), (.fld 0 (.tmp 1)), .none⟩, ⟨(.some 9), (.load .false 1 (.tmp 8)), .none⟩, ⟨(.some 10), (.cmpI .eql (.tmp 9) (.const (.int .i64 24))), .none⟩, ⟨(.some 11), (.mov (.tmp 10)), .none⟩, ⟨(.some 12), (.fld 2 (.tmp 1)), (.some (11, .true))⟩, ⟨(.some 13), (.load .false 1 (.tmp 12)), (.some (11, .true))⟩, ⟨(.some 14), (.arI .and (.tmp 13) (.const (.int .i64 1))), (.some (11, .true))⟩, ⟨(.some 15), (.cmpI .neq (.tmp 14) (.const (.int .i64 0))), (.some (11, .true))⟩, ⟨(.some 16), (.pick (.tmp 11) (.tmp 15) (.const (.bool .false))), .none⟩, ⟨(.some 7), (.mov (.tmp 16)), .none⟩]
def p43_8 : List PO := [⟨(.some 2), (.mov (.const (.string ⟨#[27, 91, 90]⟩))), .none⟩]
def p43_9 : List PO := [⟨(.some 18), (.fld 0 (.tmp 1)), .none⟩, ⟨(.some 19), (.load .false 1 (.tmp 18)), .none⟩, ⟨(.some 20), (.cmpI .eql (.tmp 19) (.const (.int .i64 24))), .none⟩, ⟨(.some 17), (.mov (.tmp 20)), .none⟩]
def p43_10 : List PO := [⟨(.some 2), (.mov (.const (.string ⟨#[9]⟩))), .none⟩]
def p43_11 : List PO := [⟨(.some 22), (.fld 0 (.tmp 1)), .none⟩, ⟨(.some 23), (.load .false 1 (.tmp 22)), .none⟩, ⟨(.some 24), (.cmpI .eql (.tmp 23) (.const (.int .i64 25))), .none⟩, ⟨(.some 25), (.mov (.tmp 24)), .none⟩, ⟨(.some 26), (.fld 2 (.tmp 1)), (.some (25, .true))⟩, ⟨(.some 27), (.load .false 1 (.tmp 26)), (.some (25, .true))⟩, ⟨(.some 28), (.arI .and (.tmp 27) (.const (.int .i64 4))), (.some (25, .true))⟩, ⟨(.some 29), (.cmpI .neq (.tmp 28) (.const (.int .i64 0))), (.some (25, .true))⟩, ⟨(.some 30), (.pick (.tmp 25) (.tmp 29) (.const (.bool .false))), .none⟩, ⟨(.some 21), (.mov (.tmp 30)), .none⟩]
def p43_12 : List PO := [⟨(.some 2), (.mov (.const (.string ⟨#[8]⟩))), .none⟩]
def p43_13 : List PO := [⟨(.some 32), (.fld 0 (.tmp 1)), .none⟩, ⟨(.some 33), (.load .false 1 (.tmp 32)), .none⟩, ⟨(.some 34), (.cmpI .eql (.tmp 33) (.const (.int .i64 25))), .none⟩, ⟨(.some 31), (.mov (.tmp 34)), .none⟩]
def p43_14 : List PO := [⟨(.some 2), (.mov (.const (.string ⟨#[127]⟩))), .none⟩]
def p43_15 : List PO := [⟨(.some 36), (.fld 0 (.tmp 1)), .none⟩, ⟨(.some 37), (.load .false 1 (.tmp 36)), .none⟩, ⟨(.some 38), (.cmpI .eql (.tmp 37) (.const (.int .i64 26))), .none⟩, ⟨(.some 35), (.mov (.tmp 38)), .none⟩]
def p43_16 : List PO := [⟨(.some 2), (.mov (.const (.string ⟨#[27]⟩))), .none⟩]
def c43_1 : PCode := (.keep [1] [(16, .id 16)] [] (.seq (.reg p43_13) (.cond (.tmp 31) (.seq (.reg p43_14) .ret) (.seq (.reg p43_15) (.cond (.tmp 35) (.seq (.reg p43_16) .ret) .skip)))))
def c43_3 : PCode := (.keep [1] [(16, .id 16)] [] (.seq (.reg p43_9) (.cond (.tmp 17) (.seq (.reg p43_10) .ret) (.seq (.reg p43_11) (.cond (.tmp 21) (.seq (.reg p43_12) .ret) c43_1)))))
def p43_17 : List PO := [⟨(.some 39), (.fld 1 (.tmp 1)), .none⟩, ⟨(.some 40), (.load .false 1 (.tmp 39)), .none⟩, ⟨(.some 41), (.fld 2 (.tmp 1)), .none⟩, ⟨(.some 42), (.load .false 1 (.tmp 41)), .none⟩, ⟨(.some 43), (.call 69 [(.tmp 40), (.tmp 42)]), .none⟩, ⟨(.some 2), (.mov (.tmp 43)), .none⟩]
def c43_2 : PCode := (.seq (.reg p43_17) .ret)
def c43_b : PCode := (.seq (.reg p43_4) (.seq (.block 0 (.seq (.reg p43_5) (.cond (.tmp 3) (.seq (.reg p43_6) .ret) (.seq (.reg p43_7) (.cond (.tmp 7) (.seq (.reg p43_8) .ret) c43_3))))) c43_2))
def c43 : FCode := ⟨44, c43_b, [(.tmp 2)], some ([2], [], []), false⟩
theorem c43_ok : compF Go.Proofs.Tryd.prog [100011, 100017, 26, 55, 56, 57, 58, 59, 60, 61, 72, 83, 84, 85, 95] 43 = some (eraseF c43) := by kernel_rfl
def p19_8 : List PO := [⟨(.some 2), (.box 3 (.tmp 0)), .none⟩, ⟨(.some 4), (.mov (.const (.string ⟨#[]⟩))), .none⟩, ⟨(.some 5), (.mov (.const (.int .i64 0))), .none⟩]
def p19_9 : List PO := [⟨(.some 9), (.fld 2 (.tmp 2)), .none⟩, ⟨(.some 10), (.load .false 1 (.tmp 9)), .none⟩, ⟨(.some 11), (.cmpI .lss (.tmp 10) (.const (.int .i64 0))), .none⟩, ⟨(.some 12), (.mov (.tmp 11)), .none⟩, ⟨(.some 13), (.fld 2 (.tmp 2)), (.some (12, .false))⟩, ⟨(.some 14), (.load .false 1 (.tmp 13)), (.some (12, .false))⟩, ⟨(.some 15), (.cmpI .gtr (.tmp 14) (.const (.int .i64 7))), (.some (12, .false))⟩, ⟨(.some 16), (.pick (.tmp 12) (.const (.bool .true)) (.tmp 15)), .none⟩, ⟨(.some 17), (.mov (.tmp 16)), .none⟩, ⟨(.some 18), (.fld 0 (.tmp 2)), (.some (17, .false))⟩, ⟨(.some 19), (.load .false 1 (.tmp 18)), (.some (17, .false))⟩, ⟨(.some 20), (.cmpI .lss (.tmp 19) (.const (.int .i64 0))), (.some (17, .false))⟩, ⟨(.some 21), (.pick (.tmp 17) (.const (.bool .true)) (.tmp 20)), .none⟩, ⟨(.some 22), (.mov (.tmp 21)), .none⟩, ⟨(.some 23), (.fld 0 (.tmp 2)), (.some (22, .false))⟩, ⟨(.some 24), (.load .false 1 (.tmp 23)), (.some (22, .false))⟩, ⟨(.some 25), (.cmpI .gtr (.tmp 24) (.const (.int .i64 26))), (.some (22, .false))⟩, ⟨(.some 26), (.pick (.tmp 22) (.const (.bool .true)) (.tmp 25)), .none⟩, ⟨(.some 27), (.mov (.tmp 26)), .none⟩, ⟨(.some 28), (.fld 0 (.tmp 2)), (.some (27, .false))⟩, ⟨(.some 29), (.load .false 1 (.tmp 28)), (.some (27, .false))⟩, ⟨(.some 30), (.cmpI .eql (.tmp 29) (.const (.int .i64 0))), (.some (27, .false))⟩, ⟨(.some 31), (.mov (.tmp 30)), (.some (27, .false))⟩, ⟨(.some 32), (.fld 1 (.tmp 2)), (.some (31, .true))⟩, ⟨(.some 33), (.load .false 1 (.tmp 32)), (.some (31, .true))⟩, ⟨(.some 34), (.call 40 [(.tmp 33)]), (.some (31, .true))⟩, ⟨(.some 35), (.un .not (.tmp 34)), (.some (31, .true))⟩, ⟨(.some 36), (.pick (.tmp 31) (.tmp 35) (.const (.bool .false))), (.some (27, .false))⟩, ⟨(.some 37), (.pick (.tmp 27) (.const (.bool .true)) (.tmp 36)), .none⟩, ⟨(.some 38), (.mov (.tmp 37)), .none⟩, ⟨(.some 39), (.fld 0 (.tmp 2)), (.some (38, .false))⟩, ⟨(.some 40), (.load .false 1 (.tmp 39)), (.some (38, .false))⟩, ⟨(.some 41), (.cmpI .neq (.tmp 40) (.const (.int .i64 0))), (.some (38, .false))⟩, ⟨(.some 42), (.mov (.tmp 41)), (.some (38, .false))⟩, ⟨(.some 43), (.fld 1 (.tmp 2)), (.some (42, .true))⟩, ⟨(.some 44), (.load .false 1 (.tmp 43)), (.some (42, .true))⟩, ⟨(.some 45), (.cmpI .neq (.tmp 44) (.const (.int .i64 0))), (.some (42, .true))⟩, ⟨(.some 46), (.pick (.tmp 42) (.tmp 45) (.const (.bool .false))), (.some (38, .false))⟩, ⟨(.some 47), (.pick (.tmp 38) (.const (.bool .true)) (.tmp 46)), .none⟩]
def p19_10 : List PO := [⟨(.some 4), (.mov (.const (.string ⟨#[]⟩))), .none⟩, ⟨(.some 5), (.mov (.const (.int .i64 1))), .none⟩]
def p19_11 : List PO := [⟨(.some 48), (.fld 0 (.tmp 2)), .none⟩, ⟨(.some 49), (.load .false 1 (.tmp 48)), .none⟩, ⟨(.some 6), (.mov (.tmp 49)), .none⟩]
def p19_12 : List PO := [⟨(.some 51), (.mov (.tmp 6)), .none⟩, ⟨(.some 52), (.cmpI .geq (.tmp 51) (.const (.int .i64 1))), .none⟩, ⟨(.some 53), (.mov (.tmp 52)), .none⟩, ⟨(.some 54), (.mov (.tmp 6)), (.some (53, .true))⟩, ⟨(.some 55), (.cmpI .leq (.tmp 54) (.const (.int .i64 6))), (.some (53, .true))⟩, ⟨(.some 56), (.pick (.tmp 53) (.tmp 55) (.const (.bool .false))), .none⟩, ⟨(.some 50), (.mov (.tmp 56)), .none⟩]
def p19_13 : List PO := [⟨(.some 7), (.mov (.const (.string ⟨#[91]⟩))), .none⟩]
def p19_14 : List PO := [⟨(.some 57), (.mov (.tmp 1)), .none⟩, ⟨(.some 58), (.arI .and (.tmp 57) (.const (.int .i64 16))), .none⟩, ⟨(.some 59), (.cmpI .neq (.tmp 58) (.const (.int .i64 0))), .none⟩]
def p19_15 : List PO := [⟨(.some 7), (.mov (.const (.string ⟨#[79]⟩))), .none⟩]
def p19_16 : List PO := [⟨(.some 60), (.mov (.tmp 7)), .none⟩, ⟨(.some 61), (.mov (.tmp 6)), .none⟩, ⟨(.some 62), (.arI .sub (.tmp 61) (.const (.int .i64 1))), .none⟩, ⟨(.some 63), (.ixStr (.const (.string ⟨#[65, 66, 67, 68, 72, 70]⟩)) (.tmp 62)), .none⟩, ⟨(.some 64), (.fld 2 (.tmp 2)), .none⟩, ⟨(.some 65), (.load .false 1 (.tmp 64)), .none⟩, ⟨(.some 66), (.call 41 [(.tmp 60), (.tmp 63), (.tmp 65)]), .none⟩, ⟨(.some 4), (.mov (.tmp 66)), .none⟩, ⟨(.some 5), (.mov (.const (.int .i64 0))), .none⟩]
def c19_6 : PCode := (.keep [2, 6, 7] [(24, .id 24)] [] (.seq (.regD p19_16 []) .ret))
def p19_17 : List PO := [⟨(.some 68), (.mov (.tmp 6)), .none⟩, ⟨(.some 69), (.cmpI .geq (.tmp 68) (.const (.int .i64 7))), .none⟩, ⟨(.some 70), (.mov (.tmp 69)), .none⟩, ⟨(.some 71), (.mov (.tmp 6)), (.some (70, .true))⟩, ⟨(.some 72), (.cmpI .leq (.tmp 71) (.const (.int .i64 10))), (.some (70, .true))⟩, ⟨(.some 73), (.pick (.tmp 70) (.tmp 72) (.const (.bool .false))), .none⟩, ⟨(.some 67), (.mov (.tmp 73)), .none⟩]
def p19_18 : List PO := [⟨(.some 74), (.build [(4, (.int .i64 0))] [(0, (1, (.const (.int .i64 2)))), (1, (1, (.const (.int .i64 3)))), (2, (1, (.const (.int .i64 5)))), (3, (1, (.const (.int .i64 6))))]), .none⟩, ⟨(.some 75), (.mov (.tmp 6)), .none⟩, ⟨(.some 76), (.arI .sub (.tmp 75) (.const (.int .i64 7))), .none⟩, ⟨(.some 77), (.ixV .false 4 1 (.tmp 74) (.tmp 76)), .none⟩, ⟨(.some 78), (.fld 2 (.tmp 2)), .none⟩, ⟨(.some 79), (.load .false 1 (.tmp 78)), .none⟩, ⟨(.some 80), (.call 42 [(.tmp 77), (.tmp 79)]), .none⟩, ⟨(.some 4), (.mov (.tmp 80)), .none⟩, ⟨(.some 5), (.mov (.const (.int .i64 0))), .none⟩]
def p19_19 : List PO := [⟨(.some 82), (.mov (.tmp 6)), .none⟩, ⟨(.some 83), (.cmpI .geq (.tmp 82) (.const (.int .i64 11))), .none⟩, ⟨(.some 84), (.mov (.tmp 83)), .none⟩, ⟨(.some 85), (.mov (.tmp 6)), (.some (84, .true))⟩, ⟨(.some 86), (.cmpI .leq (.tmp 85) (.const (.int .i64 14))), (.some (84, .true))⟩, ⟨(.some 87), (.pick (.tmp 84) (.tmp 86) (.const (.bool .false))), .none⟩, ⟨(.some 81), (.mov (.tmp 87)), .none⟩]
def p19_20 : List PO := [⟨(.some 88), (.mov (.tmp 6)), .none⟩, ⟨(.some 89), (.arI .sub (.tmp 88) (.const (.int .i64 11))), .none⟩, ⟨(.some 90), (.ixStr (.const (.string ⟨#[80, 81, 82, 83]⟩)) (.tmp 89)), .none⟩, ⟨(.some 91), (.fld 2 (.tmp 2)), .none⟩, ⟨(.some 92), (.load .false 1 (.tmp 91)), .none⟩, ⟨(.some 93), (.call 41 [(.const (.string ⟨#[79]⟩)), (.tmp 90), (.tmp 92)]), .none⟩, ⟨(.some 4), (.mov (.tmp 93)), .none⟩, ⟨(.some 5), (.mov (.const (.int .i64 0))), .none⟩]
def p19_21 : List PO := [⟨(.some 95), (.mov (.tmp 6)), .none⟩, ⟨(.some 96), (.cmpI .gtr (.tmp 95) (.const (.int .i64 14))), .none⟩, ⟨(.some 97), (.mov (.tmp 96)), .none⟩, ⟨(.some 98), (.mov (.tmp 6)), (.some (97, .true))⟩, ⟨(.some 99), (.cmpI .lss (.tmp 98) (.const (.int .i64 23))), (.some (97, .true))⟩, ⟨(.some 100), (.pick (.tmp 97) (.tmp 99) (.const (.bool .false))), .none⟩, ⟨(.some 94), (.mov (.tmp 100)), .none⟩]
def p19_22 : List PO := [⟨(.some 101), (.build [(8, (.int .i64 0))] [(0, (1, (.const (.int .i64 15)))), (1, (1, (.const (.int .i64 17)))), (2, (1, (.const (.int .i64 18)))), (3, (1, (.const (.int .i64 19)))), (4, (1, (.const (.int .i64 20)))), (5, (1, (.const (.int .i64 21)))), (6, (1, (.const (.int .i64 23)))), (7, (1, (.const (.int .i64 24))))]), .none⟩, ⟨(.some 102), (.mov (.tmp 6)), .none⟩, ⟨(.some 103), (.arI .sub (.tmp 102) (.const (.int .i64 11))), .none⟩, ⟨(.some 104), (.arI .sub (.tmp 103) (.const (.int .i64 4))), .none⟩, ⟨(.some 105), (.ixV .false 8 1 (.tmp 101) (.tmp 104)), .none⟩, ⟨(.some 106), (.fld 2 (.tmp 2)), .none⟩, ⟨(.some 107), (.load .false 1 (.tmp 106)), .none⟩, ⟨(.some 108), (.call 42 [(.tmp 105), (.tmp 107)]), .none⟩, ⟨(.some 4), (.mov (.tmp 108)), .none⟩, ⟨(.some 5), (.mov (.const (.int .i64 0))), .none⟩]
def c19_2 : PCode := (.keep [2] [(24, .id 24)] [] .skip)
def c19_3 : PCode := (.keep [2, 6] [(24, .id 24)] [] (.seq (.reg p19_21) (.cond (.tmp 94) (.seq (.regD p19_22 []) .ret) c19_2)))
def c19_4 : PCode := (.keep [2, 6] [(24, .id 24)] [] (.seq (.reg p19_19) (.cond (.tmp 81) (.seq (.regD p19_20 []) .ret) c19_3)))
def c19_5 : PCode := (.keep [2, 6] [(24, .id 24)] [] (.seq (.reg p19_17) (.cond (.tmp 67) (.seq (.regD p19_18 []) .ret) c19_4)))
def p19_23 : List PO := [⟨(.some 109), (.load .true 3 (.tmp 2)), .none⟩, ⟨(.some 110), (.call 43 [(.tmp 109)]), .none⟩, ⟨(.some 8), (.mov (.tmp 110)), .none⟩]
def p19_24 : List PO := [⟨(.some 111), (.fld 2 (.tmp 2)), .none⟩, ⟨(.some 112), (.load .false 1 (.tmp 111)), .none⟩, ⟨(.some 113), (.arI .and (.tmp 112) (.const (.int .i64 2))), .none⟩, ⟨(.some 114), (.cmpI .neq (.tmp 113) (.const (.int .i64 0))), .none⟩]
def p19_25 : List PO := [⟨(.some 115), (.mov (.tmp 8)), .none⟩, ⟨(.some 116), (.strO .add (.const (.string ⟨#[27]⟩)) (.tmp 115)), .none⟩, ⟨(.some 8), (.mov (.tmp 116)), .none⟩]
def p19_26 : List PO := [⟨(.some 117), (.mov (.tmp 8)), .none⟩, ⟨(.some 4), (.mov (.tmp 117)), .none⟩, ⟨(.some 5), (.mov (.const (.int .i64 0))), .none⟩]
def c19_1 : PCode := (.keep [2] [(24, .id 24)] [] (.seq (.reg p19_23) (.seq (.seq (.reg p19_24) (.cond (.tmp 114) (.reg p19_25) .skip)) (.seq (.reg p19_26) .ret))))
def c19_7 : PCode := (.keep [1, 2] [(24, .id 24)] [] (.seq (.reg p19_11) (.seq (.block 0 (.seq (.reg p19_12) (.cond (.tmp 50) (.seq (.reg p19_13) (.seq (.seq (.reg p19_14) (.cond (.tmp 59) (.reg p19_15) .skip)) c19_6)) c19_5))) c19_1)))
def c19_b : PCode := (.seq (.reg p19_8) (.seq (.seq (.reg p19_9) (.cond (.tmp 47) (.seq (.reg p19_10) .ret) .skip)) c19_7))
def c19 : FCode := ⟨118, c19_b, [(.tmp 4), (.tmp 5)], some ([4, 5], [], []), false⟩
theorem c19_ok : compF Go.Proofs.Tryd.prog [100011, 100017, 26, 55, 56, 57, 58, 59, 60, 61, 72, 83, 84, 85, 95] 19 = some (eraseF c19) := by kernel_rfl
def p20_1 : List PO := [⟨(.some 0), (.mov (.const (.bool .false))), .none⟩]
def p20_2 : List PO := [⟨(.some 4), (.build [(3, (.int .i64 0))] [(0, (1, (.const (.int .i64 1)))), (2, (1, (.const (.int .i64 4))))]), .none⟩, ⟨(.some 5), (.call 19 [(.tmp 4), (.const (.int .i64 0))]), .none⟩, ⟨(.some 3), (.mov (.tmp 5)), .none⟩, ⟨(.some 6), (.ext (.tmp 3) 0), .none⟩, ⟨(.some 7), (.ext (.tmp 3) 1), .none⟩, ⟨(.some 1), (.mov (.tmp 6)), .none⟩, ⟨(.some 2), (.mov (.tmp 7)), .none⟩]
def p20_3 : List PO := [⟨(.some 8), (.mov (.tmp 2)), .none⟩, ⟨(.some 9), (.cmpI .eql (.tmp 8) (.const (.int .i64 0))), .none⟩, ⟨(.some 10), (.mov (.tmp 9)), .none⟩, ⟨(.some 11), (.mov (.tmp 1)), (.some (10, .true))⟩, ⟨(.some 12), (.strO .eql (.tmp 11) (.const (.string ⟨#[27, 91, 49, 59, 53, 65]⟩))), (.some (10, .true))⟩, ⟨(.some 13), (.pick (.tmp 10) (.tmp 12) (.const (.bool .false))), .none⟩, ⟨(.some 0), (.mov (.tmp 13)), .none⟩]
def c20_b : PCode := (.seq (.reg p20_1) (.seq (.reg p20_2) (.seq (.reg p20_3) .ret)))
def c20 : FCode := ⟨14, c20_b, [(.tmp 0)], some ([0], [], []), false⟩
theorem c20_ok : compF Go.Proofs.Tryd.prog [100011, 100017, 26, 55, 56, 57, 58, 59, 60, 61, 72, 83, 84, 85, 95] 20 = some (eraseF c20) := by kernel_rfl
def p70_4 : List PO := [⟨(.some 2), (.mov (.const (.int .i64 0))), .none⟩, ⟨(.some 3), (.mov (.const (.int .u8 0))), .none⟩, ⟨(.some 4), (.mov (.const (.int .u8 0))), .none⟩]
def p70_5 : List PO := [⟨(.some 6), (.mov (.tmp 0)), .none⟩, ⟨(.some 7), (.cmpI .geq (.tmp 6) (.const (.int .u8 194))), .none⟩, ⟨(.some 8), (.mov (.tmp 7)), .none⟩, ⟨(.some 9), (.mov (.tmp 0)), (.some (8, .true))⟩, ⟨(.some 10), (.cmpI .leq (.tmp 9) (.const (.int .u8 223))), (.some (8, .true))⟩, ⟨(.some 11), (.pick (.tmp 8) (.tmp 10) (.const (.bool .false))), .none⟩, ⟨(.some 5), (.mov (.tmp 11)), .none⟩]
def p70_6 : List PO := [⟨(.some 2), (.mov (.const (.int .i64 1))), .none⟩, ⟨(.some 3), (.mov (.const (.int .u8 128))), .none⟩, ⟨(.some 4), (.mov (.const (.int .u8 191))), .none⟩]
def p70_7 : List PO := [⟨(.some 13), (.mov (.tmp 0)), .none⟩, ⟨(.some 14), (.cmpI .eql (.tmp 13) (.const (.int .u8 224))), .none⟩, ⟨(.some 12), (.mov (.tmp 14)), .none⟩]
def p70_8 : List PO := [⟨(.some 2), (.mov (.const (.int .i64 2))), .none⟩, ⟨(.some 3), (.mov (.const (.int .u8 160))), .none⟩, ⟨(.some 4), (.mov (.const (.int .u8 191))), .none⟩]
def p70_9 : List PO := [⟨(.some 16), (.mov (.tmp 0)), .none⟩, ⟨(.some 17), (.cmpI .eql (.tmp 16) (.const (.int .u8 237))), .none⟩, ⟨(.some 15), (.mov (.tmp 17)), .none⟩]
def p70_10 : List PO := [⟨(.some 2), (.mov (.const (.int .i64 2))), .none⟩, ⟨(.some 3), (.mov (.const (.int .u8 128))), .none⟩, ⟨(.some 4), (.mov (.const (.int .u8 159))), .none⟩]
def p70_11 : List PO := [⟨(.some 19), (.mov (.tmp 0)), .none⟩, ⟨(.some 20), (.cmpI .geq (.tmp 19) (.const (.int .u8 225))), .none⟩, ⟨(.some 21), (.mov (.tmp 20)), .none⟩, ⟨(.some 22), (.mov (.tmp 0)), (.some (21, .true))⟩, ⟨(.some 23), (.cmpI .leq (.tmp 22) (.const (.int .u8 239))), (.some (21, .true))⟩, ⟨(.some 24), (.pick (.tmp 21) (.tmp 23) (.const (.bool .false))), .none⟩, ⟨(.some 18), (.mov (.tmp 24)), .none⟩]
def p70_12 : List PO := [⟨(.some 2), (.mov (.const (.int .i64 2))), .none⟩, ⟨(.some 3), (.mov (.const (.int .u8 128))), .none⟩, ⟨(.some 4), (.mov (.const (.int .u8 191))), .none⟩]
def p70_13 : List PO := [⟨(.some 26), (.mov (.tmp 0)), .none⟩, ⟨(.some 27), (.cmpI .eql (.tmp 26) (.const (.int .u8 240))), .none⟩, ⟨(.some 25), (.mov (.tmp 27)), .none⟩]
def p70_14 : List PO := [⟨(.some 2), (.mov (.const (.int .i64 3))), .none⟩, ⟨(.some 3), (.mov (.const (.int .u8 144))), .none⟩, ⟨(.some 4), (.mov (.const (.int .u8 191))), .none⟩]
def p70_15 : List PO := [⟨(.some 29), (.mov (.tmp 0)), .none⟩, ⟨(.some 30), (.cmpI .eql (.tmp 29) (.const (.int .u8 244))), .none⟩, ⟨(.some 28), (.mov (.tmp 30)), .none⟩]
def p70_16 : List PO := [⟨(.some 2), (.mov (.const (.int .i64 3))), .none⟩, ⟨(.some 3), (.mov (.const (.int .u8 128))), .none⟩, ⟨(.some 4), (.mov (.const (.int .u8 143))), .none⟩]
def p70_17 : List PO := [⟨(.some 32), (.mov (.tmp 0)), .none⟩, ⟨(.some 33), (.cmpI .geq (.tmp 32) (.const (.int .u8 241))), .none⟩, ⟨(.some 34), (.mov (.tmp 33)), .none⟩, ⟨(.some 35), (.mov (.tmp 0)), (.some (34, .true))⟩, ⟨(.some 36), (.cmpI .leq (.tmp 35) (.const (.int .u8 243))), (.some (34, .true))⟩, ⟨(.some 37), (.pick (.tmp 34) (.tmp 36) (.const (.bool .false))), .none⟩, ⟨(.some 31), (.mov (.tmp 37)), .none⟩]
def p70_18 : List PO := [⟨(.some 2), (.mov (.const (.int .i64 3))), .none⟩, ⟨(.some 3), (.mov (.const (.int .u8 128))), .none⟩, ⟨(.some 4), (.mov (.const (.int .u8 191))), .none⟩]
def c70_1 : PCode := (.keep [0] [] [] (.seq (.reg p70_13) (.cond (.tmp 25) (.seq (.reg p70_14) .ret) (.seq (.reg p70_15) (.cond (.tmp 28) (.seq (.reg p70_16) .ret) (.seq (.reg p70_17) (.cond (.tmp 31) (.seq (.reg p70_18) .ret) .skip)))))))
def c70_3 : PCode := (.keep [0] [] [] (.seq (.reg p70_7) (.cond (.tmp 12) (.seq (.reg p70_8) .ret) (.seq (.reg p70_9) (.cond (.tmp 15) (.seq (.reg p70_10) .ret) (.seq (.reg p70_11) (.cond (.tmp 18) (.seq (.reg p70_12) .ret) c70_1)))))))
def p70_19 : List PO := [⟨(.some 2), (.mov (.const (.int .i64 0))), .none⟩, ⟨(.some 3), (.mov (.const (.int .u8 0))), .none⟩, ⟨(.some 4), (.mov (.const (.int .u8 0))), .none⟩]
def c70_2 : PCode := (.seq (.reg p70_19) .ret)
def c70_b : PCode := (.seq (.reg p70_4) (.seq (.block 0 (.seq (.reg p70_5) (.cond (.tmp 5) (.seq (.reg p70_6) .ret) c70_3))) c70_2))
def c70 : FCode := ⟨38, c70_b, [(.tmp 2), (.tmp 3), (.tmp 4)], some ([2, 3, 4], [], []), false⟩
theorem c70_ok : compF Go.Proofs.Tryd.prog [100011, 100017, 26, 55, 56, 57, 58, 59, 60, 61, 72, 83, 84, 85, 95] 70 = some (eraseF c70) := by kernel_rfl
def p45_3 : List PO := [⟨(.some 2), (.mov (.const (.int .i64 0))), .none⟩, ⟨(.some 3), (.mov (.const (.bool .false))), .none⟩]
def p45_4 : List PO := [⟨(.some 9), (.mov (.tmp 0)), .none⟩, ⟨(.some 10), (.ixStr (.tmp 9) (.const (.int .i64 0))), .none⟩, ⟨(.some 11), (.call 70 [(.tmp 10)]), .none⟩, ⟨(.some 8), (.mov (.tmp 11)), .none⟩, ⟨(.some 12), (.ext (.tmp 8) 0), .none⟩, ⟨(.some 13), (.ext (.tmp 8) 1), .none⟩, ⟨(.some 14), (.ext (.tmp 8) 2), .none⟩, ⟨(.some 4), (.mov (.tmp 12)), .none⟩, ⟨(.some 5), (.mov (.tmp 13)), .none⟩, ⟨(.some 6), (.mov (.tmp 14)), .none⟩]
def p45_5 : List PO := [⟨(.some 15), (.mov (.tmp 4)), .none⟩, ⟨(.some 16), (.cmpI .eql (.tmp 15) (.const (.int .i64 0))), .none⟩]
def p45_6 : List PO := [⟨(.some 2), (.mov (.const (.int .i64 0))), .none⟩, ⟨(.some 3), (.mov (.const (.bool .false))), .none⟩]
def p45_7 : List PO := [⟨(.some 7), (.mov (.const (.int .i64 1))), .none⟩]
def p45_8 : List PO := [⟨(.some 17), (.mov (.tmp 7)), .none⟩, ⟨(.some 18), (.mov (.tmp 4)), .none⟩, ⟨(.some 19), (.cmpI .leq (.tmp 17) (.tmp 18)), .none⟩, ⟨(.some 20), (.mov (.tmp 19)), .none⟩, ⟨(.some 21), (.mov (.tmp 7)), (.some (20, .true))⟩, ⟨(.some 22), (.mov (.tmp 0)), (.some (20, .true))⟩, ⟨(.some 23), (.len .true (.tmp 22)), (.some (20, .true))⟩, ⟨(.some 24), (.cmpI .lss (.tmp 21) (.tmp 23)), (.some (20, .true))⟩, ⟨(.some 25), (.pick (.tmp 20) (.tmp 24) (.const (.bool .false))), .none⟩, ⟨(.some 26), (.mov (.tmp 25)), .none⟩, ⟨(.some 27), (.mov (.tmp 0)), (.some (26, .true))⟩, ⟨(.some 28), (.mov (.tmp 7)), (.some (26, .true))⟩, ⟨(.some 29), (.ixStr (.tmp 27) (.tmp 28)), (.some (26, .true))⟩, ⟨(.some 30), (.mov (.tmp 5)), (.some (26, .true))⟩, ⟨(.some 31), (.cmpI .geq (.tmp 29) (.tmp 30)), (.some (26, .true))⟩, ⟨(.some 32), (.pick (.tmp 26) (.tmp 31) (.const (.bool .false))), .none⟩, ⟨(.some 33), (.mov (.tmp 32)), .none⟩, ⟨(.some 34), (.mov (.tmp 0)), (.some (33, .true))⟩, ⟨(.some 35), (.mov (.tmp 7)), (.some (33, .true))⟩, ⟨(.some 36), (.ixStr (.tmp 34) (.tmp 35)), (.some (33, .true))⟩, ⟨(.some 37), (.mov (.tmp 6)), (.some (33, .true))⟩, ⟨(.some 38), (.cmpI .leq (.tmp 36) (.tmp 37)), (.some (33, .true))⟩, ⟨(.some 39), (.pick (.tmp 33) (.tmp 38) (.const (.bool .false))), .none⟩]
def p45_9 : List PO := [⟨(.some 5), (.mov (.const (.int .u8 128))), .none⟩, ⟨(.some 6), (.mov (.const (.int .u8 191))), .none⟩]
def p45_10 : List PO := [⟨(.some 40), (.mov (.tmp 7)), .none⟩, ⟨(.some 41), (.arI .add (.tmp 40) (.const (.int .i64 1))), .none⟩, ⟨(.some 7), (.mov (.tmp 41)), .none⟩]
def c45_1 : PCode := (.keep [0, 4, 5, 6, 7] [] [] (.seq (.seq (.reg p45_8) (.cond (.tmp 39) .skip (.keep [4, 7] [] [] (.exit 0)))) (.block 1 (.seq (.reg p45_9) (.reg p45_10)))))
def p45_11 : List PO := [⟨(.some 42), (.mov (.tmp 7)), .none⟩, ⟨(.some 43), (.mov (.tmp 7)), .none⟩, ⟨(.some 44), (.mov (.tmp 4)), .none⟩, ⟨(.some 45), (.cmpI .gtr (.tmp 43) (.tmp 44)), .none⟩, ⟨(.some 2), (.mov (.tmp 42)), .none⟩, ⟨(.some 3), (.mov (.tmp 45)), .none⟩]
def c45_2 : PCode := (.keep [0, 4, 5, 6] [] [] (.seq (.reg p45_7) (.seq (.block 0 (.loop c45_1)) (.seq (.reg p45_11) .ret))))
def c45_b : PCode := (.seq (.reg p45_3) (.seq (.reg p45_4) (.seq (.seq (.reg p45_5) (.cond (.tmp 16) (.seq (.reg p45_6) .ret) .skip)) c45_2)))
def c45 : FCode := ⟨46, c45_b, [(.tmp 2), (.tmp 3)], some ([2, 3], [], []), false⟩
theorem c45_ok : compF Go.Proofs.Tryd.prog [100011, 100017, 26, 55, 56, 57, 58, 59, 60, 61, 72, 83, 84, 85, 95] 45 = some (eraseF c45) := by kernel_rfl
def p44_2 : List PO := [⟨(.some 2), (.mov (.const (.int .i64 0))), .none⟩]
def p44_3 : List PO := [⟨(.some 5), (.mov (.tmp 0)), .none⟩, ⟨(.some 6), (.strO .eql (.tmp 5) (.const (.string ⟨#[]⟩))), .none⟩]
def p44_4 : List PO := [⟨(.some 2), (.mov (.const (.int .i64 0))), .none⟩]
def p44_5 : List PO := [⟨(.some 8), (.mov (.tmp 0)), .none⟩, ⟨(.some 9), (.call 45 [(.tmp 8)]), .none⟩, ⟨(.some 7), (.mov (.tmp 9)), .none⟩, ⟨(.some 10), (.ext (.tmp 7) 0), .none⟩, ⟨(.some 11), (.ext (.tmp 7) 1), .none⟩, ⟨(.some 3), (.mov (.tmp 10)), .none⟩, ⟨(.some 4), (.mov (.tmp 11)), .none⟩]
def p44_6 : List PO := [⟨(.some 12), (.mov (.tmp 4)), .none⟩, ⟨(.some 13), (.mov (.tmp 12)), .none⟩, ⟨(.some 14), (.mov (.tmp 3)), (.some (13, .false))⟩, ⟨(.some 15), (.mov (.tmp 0)), (.some (13, .false))⟩, ⟨(.some 16), (.len .true (.tmp 15)), (.some (13, .false))⟩, ⟨(.some 17), (.cmpI .neq (.tmp 14) (.tmp 16)), (.some (13, .false))⟩, ⟨(.some 18), (.pick (.tmp 13) (.const (.bool .true)) (.tmp 17)), .none⟩]
def p44_7 : List PO := [⟨(.some 2), (.mov (.const (.int .i64 4))), .none⟩]
def p44_8 : List PO := [⟨(.some 2), (.mov (.const (.int .i64 0))), .none⟩]
def c44_1 : PCode := (.keep [0] [] [] (.seq (.seq (.reg p44_5) (.seq (.reg p44_6) (.cond (.tmp 18) (.seq (.reg p44_7) .ret) .skip))) (.seq (.reg p44_8) .ret)))
def c44_b : PCode := (.seq (.reg p44_2) (.seq (.seq (.reg p44_3) (.cond (.tmp 6) (.seq (.reg p44_4) .ret) .skip)) c44_1))
def c44 : FCode := ⟨19, c44_b, [(.tmp 2)], some ([2], [], []), false⟩
theorem c44_ok : compF Go.Proofs.Tryd.prog [100011, 100017, 26, 55, 56, 57, 58, 59, 60, 61, 72, 83, 84, 85, 95] 44 = some (eraseF c44) := by kernel_rfl
def p21_7 : List PO := [⟨(.some 4), (.mov (.const (.string ⟨#[]⟩))), .none⟩, ⟨(.some 5), (.nilS 3 1), .none⟩, ⟨(.some 6), (.mov (.const (.int .i64 0))), .none⟩]
def p21_8 : List PO := [⟨(.some 13), (.mov (.tmp 0)), .none⟩, ⟨(.some 14), (.call 44 [(.tmp 13)]), .none⟩, ⟨(.some 7), (.mov (.tmp 14)), .none⟩]
def p21_9 : List PO := [⟨(.some 15), (.mov (.tmp 7)), .none⟩, ⟨(.some 16), (.cmpI .neq (.tmp 15) (.const (.int .i64 0))), .none⟩]
def p21_10 : List PO := [⟨(.some 17), (.mov (.tmp 7)), .none⟩, ⟨(.some 4), (.mov (.const (.string ⟨#[]⟩))), .none⟩, ⟨(.some 5), (.nilS 3 1), .none⟩, ⟨(.some 6), (.mov (.tmp 17)), .none⟩]
def p21_11 : List PO := [⟨(.some 8), (.nilS 3 1), .none⟩]
def p21_12 : List PO := [⟨(.some 18), (.mov (.tmp 0)), .none⟩, ⟨(.some 19), (.mov (.tmp 1)), .none⟩, ⟨(.some 20), (.strO .add (.tmp 18) (.tmp 19)), .none⟩, ⟨(.some 1), (.mov (.tmp 20)), .none⟩]
def p21_13 : List PO := [⟨(.some 21), (.mov (.tmp 1)), .none⟩, ⟨(.some 22), (.strO .neq (.tmp 21) (.const (.string ⟨#[]⟩))), .none⟩]
def p21_14 : List PO := [⟨(.some 23), (.mov (.tmp 1)), .none⟩, ⟨(.some 24), (.ixStr (.tmp 23) (.const (.int .i64 0))), .none⟩, ⟨(.some 25), (.cmpI .lss (.tmp 24) (.const (.int .u8 128))), .none⟩]
def p21_15 : List PO := [⟨(.some 26), (.mov (.tmp 8)), .none⟩, ⟨(.some 27), (.mov (.tmp 1)), .none⟩, ⟨(.some 28), (.ixStr (.tmp 27) (.const (.int .i64 0))), .none⟩, ⟨(.some 29), (.cvI .i64 (.tmp 28)), .none⟩, ⟨(.some 30), (.bsl 3 1 1 [(1, (.int .i64 0))] [(0, (1, (.tmp 29)))]), .none⟩, ⟨(.some 31), (.app 3 1 8 (.tmp 26) (.tmp 30)), .none⟩, ⟨(.some 32), (.mov (.tmp 1)), .none⟩, ⟨(.some 33), (.slStr (.tmp 32) (.some (.const (.int .i64 1))) .none), .none⟩, ⟨(.some 8), (.mov (.tmp 31)), .none⟩, ⟨(.some 1), (.mov (.tmp 33)), .none⟩]
def p21_16 : List PO := [⟨(.some 35), (.mov (.tmp 1)), .none⟩, ⟨(.some 36), (.call 45 [(.tmp 35)]), .none⟩, ⟨(.some 34), (.mov (.tmp 36)), .none⟩, ⟨(.some 37), (.ext (.tmp 34) 0), .none⟩, ⟨(.some 38), (.ext (.tmp 34) 1), .none⟩, ⟨(.some 9), (.mov (.tmp 37)), .none⟩, ⟨(.some 10), (.mov (.tmp 38)), .none⟩]
def p21_17 : List PO := [⟨(.some 43), (.mov (.tmp 10)), .none⟩, ⟨(.some 42), (.mov (.tmp 43)), .none⟩]
def p21_18 : List PO := [⟨(.some 45), (.mov (.tmp 1)), .none⟩, ⟨(.some 46), (.call 46 [(.tmp 45)]), .none⟩, ⟨(.some 44), (.mov (.tmp 46)), .none⟩, ⟨(.some 47), (.ext (.tmp 44) 0), .none⟩, ⟨(.some 48), (.ext (.tmp 44) 1), .none⟩, ⟨(.some 11), (.mov (.tmp 47)), .none⟩, ⟨(.some 12), (.mov (.tmp 48)), .none⟩]
def p21_19 : List PO := [⟨(.some 49), (.mov (.tmp 8)), .none⟩, ⟨(.some 50), (.mov (.tmp 11)), .none⟩, ⟨(.some 51), (.cvI .i64 (.tmp 50)), .none⟩, ⟨(.some 52), (.bsl 3 1 1 [(1, (.int .i64 0))] [(0, (1, (.tmp 51)))]), .none⟩, ⟨(.some 53), (.app 3 1 8 (.tmp 49) (.tmp 52)), .none⟩, ⟨(.some 8), (.mov (.tmp 53)), .none⟩]
def p21_20 : List PO := [⟨(.some 55), (.mov (.tmp 9)), .none⟩, ⟨(.some 56), (.cmpI .gtr (.tmp 55) (.const (.int .i64 0))), .none⟩, ⟨(.some 57), (.mov (.tmp 56)), .none⟩, ⟨(.some 58), (.mov (.tmp 9)), (.some (57, .true))⟩, ⟨(.some 59), (.mov (.tmp 1)), (.some (57, .true))⟩, ⟨(.some 60), (.len .true (.tmp 59)), (.some (57, .true))⟩, ⟨(.some 61), (.cmpI .eql (.tmp 58) (.tmp 60)), (.some (57, .true))⟩, ⟨(.some 62), (.pick (.tmp 57) (.tmp 61) (.const (.bool .false))), .none⟩, ⟨(.some 54), (.mov (.tmp 62)), .none⟩]
def p21_21 : List PO := [⟨(.some 63), (.mov (.tmp 1)), .none⟩, ⟨(.some 64), (.mov (.tmp 8)), .none⟩, ⟨(.some 4), (.mov (.tmp 63)), .none⟩, ⟨(.some 5), (.mov (.tmp 64)), .none⟩, ⟨(.some 6), (.mov (.const (.int .i64 0))), .none⟩]
def p21_22 : List PO := [⟨(.some 39), (.mov (.tmp 8)), .none⟩, ⟨(.some 40), (.bsl 3 1 1 [(1, (.int .i64 0))] [(0, (1, (.const (.int .i64 65533))))]), .none⟩, ⟨(.some 41), (.app 3 1 8 (.tmp 39) (.tmp 40)), .none⟩, ⟨(.some 8), (.mov (.tmp 41)), .none⟩]
def c21_1 : PCode := (.keep [1, 8, 9, 58, 59, 60, 61] [(72, .id 72)] [] (.reg p21_22))
def p21_23 : List PO := [⟨(.some 65), (.mov (.tmp 1)), .none⟩, ⟨(.some 66), (.mov (.tmp 9)), .none⟩, ⟨(.some 67), (.mx [(.tmp 66), (.const (.int .i64 1))]), .none⟩, ⟨(.some 68), (.slStr (.tmp 65) (.some (.tmp 67)) .none), .none⟩, ⟨(.some 1), (.mov (.tmp 68)), .none⟩]
def c21_2 : PCode := (.reg p21_23)
def c21_3 : PCode := (.keep [1, 8] [(72, .id 72)] [] (.seq (.reg p21_16) (.seq (.block 2 (.seq (.reg p21_17) (.cond (.tmp 42) (.seq (.reg p21_18) (.reg p21_19)) (.seq (.reg p21_20) (.cond (.tmp 54) (.seq (.reg p21_21) .ret) c21_1))))) c21_2)))
def c21_4 : PCode := (.keep [1, 8] [(72, .id 72)] [] (.block 1 (.seq (.seq (.reg p21_14) (.cond (.tmp 25) (.seq (.regD p21_15 []) (.exit 1)) .skip)) c21_3)))
def c21_5 : PCode := (.keep [1, 8] [(72, .id 72)] [] (.seq (.seq (.reg p21_13) (.cond (.tmp 22) .skip (.keep [8] [(72, .id 72)] [] (.exit 0)))) c21_4))
def p21_24 : List PO := [⟨(.some 69), (.mov (.tmp 8)), .none⟩, ⟨(.some 4), (.mov (.const (.string ⟨#[]⟩))), .none⟩, ⟨(.some 5), (.mov (.tmp 69)), .none⟩, ⟨(.some 6), (.mov (.const (.int .i64 0))), .none⟩]
def c21_6 : PCode := (.keep [0, 1] [] [] (.seq (.reg p21_11) (.seq (.seq (.reg p21_12) (.block 0 (.loop c21_5))) (.seq (.reg p21_24) .ret))))
def c21_b : PCode := (.seq (.reg p21_7) (.seq (.seq (.reg p21_8) (.seq (.reg p21_9) (.cond (.tmp 16) (.seq (.reg p21_10) .ret) .skip))) c21_6))
def c21 : FCode := ⟨70, c21_b, [(.tmp 4), (.tmp 5), (.tmp 6)], some ([4, 5, 6], [(593, (.slot 5 none))], []), false⟩
theorem c21_ok : compF Go.Proofs.Tryd.prog [100011, 100017, 26, 55, 56, 57, 58, 59, 60, 61, 72, 83, 84, 85, 95] 21 = some (eraseF c21) := by kernel_rfl
def p31_14 : List PO := [⟨(.some 2), (.nilS 3 1), .none⟩, ⟨(.some 3), (.mov (.const (.int .i64 0))), .none⟩]
def p31_15 : List PO := [⟨(.some 10), (.mov (.tmp 0)), .none⟩, ⟨(.some 11), (.call 63 [(.tmp 10), (.const (.string ⟨#[48, 49, 50, 51, 52, 53, 54, 55, 56, 57, 59]⟩))]), .none⟩, ⟨(.some 12), (.strO .neq (.tmp 11) (.const (.string ⟨#[]⟩))), .none⟩]
def p31_16 : List PO := [⟨(.some 2), (.nilS 3 1), .none⟩, ⟨(.some 3), (.mov (.const (.int .i64 4))), .none⟩]
def p31_17 : List PO := [⟨(.some 13), (.mov (.tmp 0)), .none⟩, ⟨(.some 14), (.len .true (.tmp 13)), .none⟩, ⟨(.some 15), (.mov (.const (.int .i64 0))), .none⟩]
def p31_18 : List PO := [⟨(.some 16), (.cmpI .lss (.tmp 15) (.tmp 14)), .none⟩]
def p31_19 : List PO := [⟨(.some 17), (.mov (.tmp 15)), .none⟩, ⟨(.some 4), (.mov (.tmp 17)), .none⟩]
def p31_20 : List PO := [⟨(.some 18), (.mov (.tmp 0)), .none⟩, ⟨(.some 19), (.mov (.tmp 4)), .none⟩, ⟨(.some 20), (.ixStr (.tmp 18) (.tmp 19)), .none⟩, ⟨(.some 21), (.cmpI .neq (.tmp 20) (.const (.int .u8 59))), .none⟩, ⟨(.some 22), (.mov (.tmp 21)), .none⟩, ⟨(.some 23), (.mov (.tmp 0)), (.some (22, .true))⟩, ⟨(.some 24), (.mov (.tmp 4)), (.some (22, .true))⟩, ⟨(.some 25), (.ixStr (.tmp 23) (.tmp 24)), (.some (22, .true))⟩, ⟨(.some 26), (.cmpI .lss (.tmp 25) (.const (.int .u8 48))), (.some (22, .true))⟩, ⟨(.some 27), (.mov (.tmp 26)), (.some (22, .true))⟩, ⟨(.some 28), (.mov (.tmp 0)), (.some (27, .false))⟩, ⟨(.some 29), (.mov (.tmp 4)), (.some (27, .false))⟩, ⟨(.some 30), (.ixStr (.tmp 28) (.tmp 29)), (.some (27, .false))⟩, ⟨(.some 31), (.cmpI .gtr (.tmp 30) (.const (.int .u8 57))), (.some (27, .false))⟩, ⟨(.some 32), (.pick (.tmp 27) (.const (.bool .true)) (.tmp 31)), (.some (22, .true))⟩, ⟨(.some 33), (.pick (.tmp 22) (.tmp 32) (.const (.bool .false))), .none⟩]
def p31_21 : List PO := [⟨(.some 2), (.nilS 3 1), .none⟩, ⟨(.some 3), (.mov (.const (.int .i64 4))), .none⟩]
def p31_22 : List PO := [⟨(.some 34), (.arI .add (.tmp 15) (.const (.int .i64 1))), .none⟩, ⟨(.some 15), (.mov (.tmp 34)), .none⟩]
def c31_10 : PCode := (.keep [0, 14, 15] [] [] (.seq (.block 1 (.seq (.reg p31_19) (.seq (.reg p31_20) (.cond (.tmp 33) (.seq (.reg p31_21) .ret) .skip)))) (.reg p31_22)))
def c31_11 : PCode := (.keep [0, 14, 15, 16] [] [] (.seq (.cond (.tmp 16) .skip (.keep [0] [] [] (.exit 0))) c31_10))
def c31_12 : PCode := (.keep [0, 14, 15] [] [] (.seq (.reg p31_18) c31_11))
def p31_23 : List PO := [⟨(.some 5), (.nilS 3 1), .none⟩]
def p31_24 : List PO := [⟨(.some 35), (.mov (.tmp 0)), .none⟩, ⟨(.some 36), (.call 50 [(.tmp 35), (.const (.string ⟨#[59]⟩))]), .none⟩, ⟨(.some 37), (.len .false (.tmp 36)), .none⟩, ⟨(.some 38), (.mov (.const (.int .i64 0))), .none⟩]
def p31_25 : List PO := [⟨(.some 39), (.cmpI .lss (.tmp 38) (.tmp 37)), .none⟩]
def p31_26 : List PO := [⟨(.some 40), (.ixS 9 1 (.tmp 36) (.tmp 38)), .none⟩, ⟨(.some 41), (.load .false 1 (.tmp 40)), .none⟩, ⟨(.some 7), (.mov (.tmp 41)), .none⟩]
def p31_27 : List PO := [⟨(.some 42), (.mov (.tmp 5)), .none⟩, ⟨(.some 43), (.len .false (.tmp 42)), .none⟩, ⟨(.some 44), (.cmpI .eql (.tmp 43) (.const (.int .i64 32))), .none⟩]
def p31_28 : List PO := [⟨(.some 8), (.mov (.const (.int .i64 (-1)))), .none⟩]
def p31_29 : List PO := [⟨(.some 45), (.mov (.tmp 7)), .none⟩, ⟨(.some 46), (.len .true (.tmp 45)), .none⟩, ⟨(.some 47), (.mov (.const (.int .i64 0))), .none⟩]
def p31_30 : List PO := [⟨(.some 48), (.cmpI .lss (.tmp 47) (.tmp 46)), .none⟩]
def p31_31 : List PO := [⟨(.some 49), (.mov (.tmp 47)), .none⟩, ⟨(.some 9), (.mov (.tmp 49)), .none⟩]
def p31_32 : List PO := [⟨(.some 50), (.mov (.tmp 8)), .none⟩, ⟨(.some 51), (.mx [(.tmp 50), (.const (.int .i64 0))]), .none⟩, ⟨(.some 52), (.arI .mul (.tmp 51) (.const (.int .i64 10))), .none⟩, ⟨(.some 53), (.mov (.tmp 7)), .none⟩, ⟨(.some 54), (.mov (.tmp 9)), .none⟩, ⟨(.some 55), (.ixStr (.tmp 53) (.tmp 54)), .none⟩, ⟨(.some 56), (.arI .sub (.tmp 55) (.const (.int .u8 48))), .none⟩, ⟨(.some 57), (.cvI .i64 (.tmp 56)), .none⟩, ⟨(.some 58), (.arI .add (.tmp 52) (.tmp 57)), .none⟩, ⟨(.some 59), (.mn [(.tmp 58), (.const (.int .i64 16383))]), .none⟩, ⟨(.some 8), (.mov (.tmp 59)), .none⟩]
def p31_33 : List PO := [⟨(.some 60), (.arI .add (.tmp 47) (.const (.int .i64 1))), .none⟩, ⟨(.some 47), (.mov (.tmp 60)), .none⟩]
def c31_1 : PCode := (.keep [5, 7, 8, 36, 37, 38, 46, 47] [(48, .id 48)] [] (.seq (.block 5 (.seq (.reg p31_31) (.reg p31_32))) (.reg p31_33)))
def c31_2 : PCode := (.keep [5, 7, 8, 36, 37, 38, 46, 47, 48] [(48, .id 48)] [] (.seq (.cond (.tmp 48) .skip (.keep [5, 8, 36, 37, 38] [(48, .id 48)] [] (.exit 4))) c31_1))
def c31_3 : PCode := (.keep [5, 7, 8, 36, 37, 38, 46, 47] [(48, .id 48)] [] (.seq (.reg p31_30) c31_2))
def p31_34 : List PO := [⟨(.some 61), (.mov (.tmp 5)), .none⟩, ⟨(.some 62), (.mov (.tmp 8)), .none⟩, ⟨(.some 63), (.bsl 3 1 1 [(1, (.int .i64 0))] [(0, (1, (.tmp 62)))]), .none⟩, ⟨(.some 64), (.app 3 1 8 (.tmp 61) (.tmp 63)), .none⟩, ⟨(.some 5), (.mov (.tmp 64)), .none⟩]
def c31_4 : PCode := (.keep [5, 7, 36, 37, 38] [(48, .id 48)] [] (.seq (.reg p31_28) (.seq (.seq (.reg p31_29) (.block 4 (.loop c31_3))) (.reg p31_34))))
def p31_35 : List PO := [⟨(.some 65), (.arI .add (.tmp 38) (.const (.int .i64 1))), .none⟩, ⟨(.some 38), (.mov (.tmp 65)), .none⟩]
def c31_5 : PCode := (.reg p31_35)
def c31_6 : PCode := (.keep [5, 36, 37, 38] [(48, .id 48)] [] (.seq (.block 3 (.seq (.reg p31_26) (.seq (.seq (.reg p31_27) (.cond (.tmp 44) (.keep [5] [(48, .id 48)] [] (.exit 2)) .skip)) c31_4))) c31_5))
def c31_7 : PCode := (.keep [5, 36, 37, 38, 39] [(48, .id 48)] [] (.seq (.cond (.tmp 39) .skip (.keep [5] [(48, .id 48)] [] (.exit 2))) c31_6))
def c31_8 : PCode := (.keep [5, 36, 37, 38] [(48, .id 48)] [] (.seq (.reg p31_25) c31_7))
def p31_36 : List PO := [⟨(.some 66), (.mov (.tmp 5)), .none⟩, ⟨(.some 2), (.mov (.tmp 66)), .none⟩, ⟨(.some 3), (.mov (.const (.int .i64 0))), .none⟩]
def c31_9 : PCode := (.keep [0] [] [] (.seq (.reg p31_23) (.seq (.seq (.reg p31_24) (.block 2 (.loop c31_8))) (.seq (.reg p31_36) .ret))))
def c31_13 : PCode := (.keep [0] [] [] (.seq (.seq (.reg p31_17) (.block 0 (.loop c31_12))) c31_9))
def c31_b : PCode := (.seq (.reg p31_14) (.seq (.seq (.reg p31_15) (.cond (.tmp 12) (.seq (.reg p31_16) .ret) .skip)) c31_13))
def c31 : FCode := ⟨67, c31_b, [(.tmp 2), (.tmp 3)], some ([2, 3], [(569, (.slot 2 none))], []), false⟩
theorem c31_ok : compF Go.Proofs.Tryd.prog [100011, 100017, 26, 55, 56, 57, 58, 59, 60, 61, 72, 83, 84, 85, 95] 31 = some (eraseF c31) := by kernel_rfl
def p32_1 : List PO := [⟨(.some 6), (.mov (.const (.bool .false))), .none⟩]
def p32_2 : List PO := [⟨(.some 7), (.mov (.tmp 0)), .none⟩, ⟨(.some 8), (.mov (.tmp 1)), .none⟩, ⟨(.some 9), (.cmpI .geq (.tmp 7) (.tmp 8)), .none⟩, ⟨(.some 10), (.mov (.tmp 9)), .none⟩, ⟨(.some 11), (.mov (.tmp 0)), (.some (10, .true))⟩, ⟨(.some 12), (.mov (.tmp 2)), (.some (10, .true))⟩, ⟨(.some 13), (.cmpI .leq (.tmp 11) (.tmp 12)), (.some (10, .true))⟩, ⟨(.some 14), (.pick (.tmp 10) (.tmp 13) (.const (.bool .false))), .none⟩, ⟨(.some 6), (.mov (.tmp 14)), .none⟩]
def c32_b : PCode := (.seq (.reg p32_1) (.seq (.reg p32_2) .ret))
def c32 : FCode := ⟨15, c32_b, [(.tmp 6)], some ([6], [], []), false⟩
theorem c32_ok : compF Go.Proofs.Tryd.prog [100011, 100017, 26, 55, 56, 57, 58, 59, 60, 61, 72, 83, 84, 85, 95] 32 = some (eraseF c32) := by kernel_rfl
def p33_4 : List PO := [⟨(.some 4), (.mov (.const (.bool .false))), .none⟩]
def p33_5 : List PO := [⟨(.some 6), (.mov (.tmp 0)), .none⟩, ⟨(.some 7), (.len .true (.tmp 6)), .none⟩, ⟨(.some 8), (.mov (.const (.int .i64 0))), .none⟩]
def p33_6 : List PO := [⟨(.some 9), (.cmpI .lss (.tmp 8) (.tmp 7)), .none⟩]
def p33_7 : List PO := [⟨(.some 10), (.mov (.tmp 8)), .none⟩, ⟨(.some 5), (.mov (.tmp 10)), .none⟩]
def p33_8 : List PO := [⟨(.some 11), (.mov (.tmp 0)), .none⟩, ⟨(.some 12), (.mov (.tmp 5)), .none⟩, ⟨(.some 13), (.ixStr (.tmp 11) (.tmp 12)), .none⟩, ⟨(.some 14), (.cvI .i64 (.tmp 13)), .none⟩, ⟨(.some 15), (.call 32 [(.tmp 14), (.const (.int .i64 32)), (.const (.int .i64 47))]), .none⟩, ⟨(.some 16), (.un .not (.tmp 15)), .none⟩]
def p33_9 : List PO := [⟨(.some 4), (.mov (.const (.bool .false))), .none⟩]
def p33_10 : List PO := [⟨(.some 17), (.arI .add (.tmp 8) (.const (.int .i64 1))), .none⟩, ⟨(.some 8), (.mov (.tmp 17)), .none⟩]
def c33_1 : PCode := (.keep [0, 1, 7, 8] [] [] (.seq (.block 1 (.seq (.reg p33_7) (.seq (.reg p33_8) (.cond (.tmp 16) (.seq (.reg p33_9) .ret) .skip)))) (.reg p33_10)))
def c33_2 : PCode := (.keep [0, 1, 7, 8, 9] [] [] (.seq (.cond (.tmp 9) .skip (.keep [0, 1] [] [] (.exit 0))) c33_1))
def c33_3 : PCode := (.keep [0, 1, 7, 8] [] [] (.seq (.reg p33_6) c33_2))
def p33_11 : List PO := [⟨(.some 18), (.mov (.tmp 0)), .none⟩, ⟨(.some 19), (.len .true (.tmp 18)), .none⟩, ⟨(.some 20), (.mov (.tmp 1)), .none⟩, ⟨(.some 21), (.cmpI .leq (.tmp 19) (.tmp 20)), .none⟩, ⟨(.some 4), (.mov (.tmp 21)), .none⟩]
def c33_b : PCode := (.seq (.reg p33_4) (.seq (.seq (.reg p33_5) (.block 0 (.loop c33_3))) (.seq (.reg p33_11) .ret)))
def c33 : FCode := ⟨22, c33_b, [(.tmp 4)], some ([4], [], []), false⟩
theorem c33_ok : compF Go.Proofs.Tryd.prog [100011, 100017, 26, 55, 56, 57, 58, 59, 60, 61, 72, 83, 84, 85, 95] 33 = some (eraseF c33) := by kernel_rfl
def p15_5 : List PO := [⟨(.some 1), (.box 5 (.tmp 0)), .none⟩, ⟨(.some 2), (.mov (.const (.int .i64 0))), .none⟩]
def p15_6 : List PO := [⟨(.some 7), (.fld 0 (.tmp 1)), .none⟩, ⟨(.some 8), (.load .false 1 (.tmp 7)), .none⟩, ⟨(.some 9), (.cmpI .eql (.tmp 8) (.const (.int .i64 2))), .none⟩, ⟨(.some 10), (.mov (.tmp 9)), .none⟩, ⟨(.some 11), (.fld 0 (.tmp 1)), (.some (10, .false))⟩, ⟨(.some 12), (.load .false 1 (.tmp 11)), (.some (10, .false))⟩, ⟨(.some 13), (.cmpI .eql (.tmp 12) (.const (.int .i64 5))), (.some (10, .false))⟩, ⟨(.some 14), (.pick (.tmp 10) (.const (.bool .true)) (.tmp 13)), .none⟩, ⟨(.some 3), (.mov (.tmp 14)), .none⟩]
def p15_7 : List PO := [⟨(.some 16), (.fld 3 (.tmp 1)), .none⟩, ⟨(.some 17), (.load .false 1 (.tmp 16)), .none⟩, ⟨(.some 18), (.call 31 [(.tmp 17)]), .none⟩, ⟨(.some 15), (.mov (.tmp 18)), .none⟩, ⟨(.some 19), (.ext (.tmp 15) 0), .none⟩, ⟨(.some 20), (.ext (.tmp 15) 1), .none⟩, ⟨(.some 4), (.mov (.tmp 19)), .none⟩, ⟨(.some 5), (.mov (.tmp 20)), .none⟩]
def p15_8 : List PO := [⟨(.some 21), (.fld 0 (.tmp 1)), .none⟩, ⟨(.some 22), (.load .false 1 (.tmp 21)), .none⟩, ⟨(.some 23), (.call 32 [(.tmp 22), (.const (.int .i64 0)), (.const (.int .i64 10))]), .none⟩, ⟨(.some 6), (.mov (.tmp 23)), .none⟩]
def p15_9 : List PO := [⟨(.some 24), (.mov (.tmp 6)), .none⟩, ⟨(.some 25), (.mov (.tmp 24)), .none⟩, ⟨(.some 26), (.fld 1 (.tmp 1)), (.some (25, .true))⟩, ⟨(.some 27), (.load .false 1 (.tmp 26)), (.some (25, .true))⟩, ⟨(.some 28), (.cmpI .eql (.tmp 27) (.const (.int .i64 0))), (.some (25, .true))⟩, ⟨(.some 29), (.mov (.tmp 28)), (.some (25, .true))⟩, ⟨(.some 30), (.fld 1 (.tmp 1)), (.some (29, .false))⟩, ⟨(.some 31), (.load .false 1 (.tmp 30)), (.some (29, .false))⟩, ⟨(.some 32), (.call 32 [(.tmp 31), (.const (.int .i64 60)), (.const (.int .i64 63))]), (.some (29, .false))⟩, ⟨(.some 33), (.mov (.tmp 32)), (.some (29, .false))⟩, ⟨(.some 34), (.fld 0 (.tmp 1)), (.some (33, .true))⟩, ⟨(.some 35), (.load .false 1 (.tmp 34)), (.some (33, .true))⟩, ⟨(.some 36), (.cmpI .eql (.tmp 35) (.const (.int .i64 4))), (.some (33, .true))⟩, ⟨(.some 37), (.mov (.tmp 36)), (.some (33, .true))⟩, ⟨(.some 38), (.fld 0 (.tmp 1)), (.some (37, .false))⟩, ⟨(.some 39), (.load .false 1 (.tmp 38)), (.some (37, .false))⟩, ⟨(.some 40), (.cmpI .eql (.tmp 39) (.const (.int .i64 5))), (.some (37, .false))⟩, ⟨(.some 41), (.pick (.tmp 37) (.const (.bool .true)) (.tmp 40)), (.some (33, .true))⟩, ⟨(.some 42), (.pick (.tmp 33) (.tmp 41) (.const (.bool .false))), (.some (29, .false))⟩, ⟨(.some 43), (.pick (.tmp 29) (.const (.bool .true)) (.tmp 42)), (.some (25, .true))⟩, ⟨(.some 44), (.pick (.tmp 25) (.tmp 43) (.const (.bool .false))), .none⟩, ⟨(.some 6), (.mov (.tmp 44)), .none⟩]
def p15_10 : List PO := [⟨(.some 45), (.mov (.tmp 6)), .none⟩, ⟨(.some 46), (.mov (.tmp 45)), .none⟩, ⟨(.some 47), (.fld 2 (.tmp 1)), (.some (46, .true))⟩, ⟨(.some 48), (.load .false 1 (.tmp 47)), (.some (46, .true))⟩, ⟨(.some 49), (.call 33 [(.tmp 48), (.const (.int .i64 3))]), (.some (46, .true))⟩, ⟨(.some 50), (.pick (.tmp 46) (.tmp 49) (.const (.bool .false))), .none⟩, ⟨(.some 51), (.mov (.tmp 50)), .none⟩, ⟨(.some 52), (.fld 2 (.tmp 1)), (.some (51, .true))⟩, ⟨(.some 53), (.load .false 1 (.tmp 52)), (.some (51, .true))⟩, ⟨(.some 54), (.strO .neq (.tmp 53) (.const (.string ⟨#[]⟩))), (.some (51, .true))⟩, ⟨(.some 55), (.mov (.tmp 3)), (.some (51, .true))⟩, ⟨(.some 56), (.eqB .false (.tmp 54) (.tmp 55)), (.some (51, .true))⟩, ⟨(.some 57), (.pick (.tmp 51) (.tmp 56) (.const (.bool .false))), .none⟩, ⟨(.some 6), (.mov (.tmp 57)), .none⟩]
def p15_11 : List PO := [⟨(.some 58), (.mov (.tmp 6)), .none⟩, ⟨(.some 59), (.mov (.tmp 58)), .none⟩, ⟨(.some 60), (.mov (.tmp 5)), (.some (59, .true))⟩, ⟨(.some 61), (.cmpI .eql (.tmp 60) (.const (.int .i64 0))), (.some (59, .true))⟩, ⟨(.some 62), (.pick (.tmp 59) (.tmp 61) (.const (.bool .false))), .none⟩, ⟨(.some 63), (.mov (.tmp 62)), .none⟩, ⟨(.some 64), (.fld 3 (.tmp 1)), (.some (63, .true))⟩, ⟨(.some 65), (.load .false 1 (.tmp 64)), (.some (63, .true))⟩, ⟨(.some 66), (.len .true (.tmp 65)), (.some (63, .true))⟩, ⟨(.some 67), (.cmpI .leq (.tmp 66) (.const (.int .i64 100))), (.some (63, .true))⟩, ⟨(.some 68), (.pick (.tmp 63) (.tmp 67) (.const (.bool .false))), .none⟩, ⟨(.some 69), (.mov (.tmp 68)), .none⟩, ⟨(.some 70), (.fld 3 (.tmp 1)), (.some (69, .true))⟩, ⟨(.some 71), (.load .false 1 (.tmp 70)), (.some (69, .true))⟩, ⟨(.some 72), (.strO .eql (.tmp 71) (.const (.string ⟨#[]⟩))), (.some (69, .true))⟩, ⟨(.some 73), (.mov (.tmp 72)), (.some (69, .true))⟩, ⟨(.some 74), (.fld 0 (.tmp 1)), (.some (73, .false))⟩, ⟨(.some 75), (.load .false 1 (.tmp 74)), (.some (73, .false))⟩, ⟨(.some 76), (.cmpI .eql (.tmp 75) (.const (.int .i64 4))), (.some (73, .false))⟩, ⟨(.some 77), (.pick (.tmp 73) (.const (.bool .true)) (.tmp 76)), (.some (69, .true))⟩, ⟨(.some 78), (.mov (.tmp 77)), (.some (69, .true))⟩, ⟨(.some 79), (.fld 0 (.tmp 1)), (.some (78, .false))⟩, ⟨(.some 80), (.load .false 1 (.tmp 79)), (.some (78, .false))⟩, ⟨(.some 81), (.cmpI .eql (.tmp 80) (.const (.int .i64 5))), (.some (78, .false))⟩, ⟨(.some 82), (.pick (.tmp 78) (.const (.bool .true)) (.tmp 81)), (.some (69, .true))⟩, ⟨(.some 83), (.pick (.tmp 69) (.tmp 82) (.const (.bool .false))), .none⟩, ⟨(.some 6), (.mov (.tmp 83)), .none⟩]
def p15_12 : List PO := [⟨(.some 84), (.mov (.tmp 6)), .none⟩, ⟨(.some 85), (.mov (.tmp 84)), .none⟩, ⟨(.some 86), (.fld 4 (.tmp 1)), (.some (85, .true))⟩, ⟨(.some 87), (.load .false 1 (.tmp 86)), (.some (85, .true))⟩, ⟨(.some 88), (.len .true (.tmp 87)), (.some (85, .true))⟩, ⟨(.some 89), (.cmpI .leq (.tmp 88) (.const (.int .i64 256))), (.some (85, .true))⟩, ⟨(.some 90), (.pick (.tmp 85) (.tmp 89) (.const (.bool .false))), .none⟩, ⟨(.some 91), (.mov (.tmp 90)), .none⟩, ⟨(.some 92), (.fld 4 (.tmp 1)), (.some (91, .true))⟩, ⟨(.some 93), (.load .false 1 (.tmp 92)), (.some (91, .true))⟩, ⟨(.some 94), (.strO .eql (.tmp 93) (.const (.string ⟨#[]⟩))), (.some (91, .true))⟩, ⟨(.some 95), (.mov (.tmp 94)), (.some (91, .true))⟩, ⟨(.some 96), (.fld 0 (.tmp 1)), (.some (95, .false))⟩, ⟨(.some 97), (.load .false 1 (.tmp 96)), (.some (95, .false))⟩, ⟨(.some 98), (.cmpI .eql (.tmp 97) (.const (.int .i64 7))), (.some (95, .false))⟩, ⟨(.some 99), (.pick (.tmp 95) (.const (.bool .true)) (.tmp 98)), (.some (91, .true))⟩, ⟨(.some 100), (.mov (.tmp 99)), (.some (91, .true))⟩, ⟨(.some 101), (.fld 0 (.tmp 1)), (.some (100, .false))⟩, ⟨(.some 102), (.load .false 1 (.tmp 101)), (.some (100, .false))⟩, ⟨(.some 103), (.cmpI .eql (.tmp 102) (.const (.int .i64 8))), (.some (100, .false))⟩, ⟨(.some 104), (.pick (.tmp 100) (.const (.bool .true)) (.tmp 103)), (.some (91, .true))⟩, ⟨(.some 105), (.pick (.tmp 91) (.tmp 104) (.const (.bool .false))), .none⟩, ⟨(.some 6), (.mov (.tmp 105)), .none⟩]
def p15_13 : List PO := [⟨(.some 106), (.mov (.tmp 6)), .none⟩, ⟨(.some 107), (.un .not (.tmp 106)), .none⟩]
def p15_14 : List PO := [⟨(.some 2), (.mov (.const (.int .i64 4))), .none⟩]
def p15_15 : List PO := [⟨(.some 2), (.mov (.const (.int .i64 0))), .none⟩]
def c15_1 : PCode := (.keep [1, 6] [(16, .id 16)] [] (.seq (.reg p15_12) (.seq (.seq (.reg p15_13) (.cond (.tmp 107) (.seq (.reg p15_14) .ret) .skip)) (.seq (.reg p15_15) .ret))))
def c15_2 : PCode := (.keep [1, 5, 6] [(16, .id 16)] [] (.seq (.reg p15_11) c15_1))
def c15_3 : PCode := (.keep [1, 3, 5, 6] [(16, .id 16)] [] (.seq (.reg p15_10) c15_2))
def c15_4 : PCode := (.keep [1, 3] [(16, .id 16)] [] (.seq (.reg p15_7) (.seq (.reg p15_8) (.seq (.reg p15_9) c15_3))))
def c15_b : PCode := (.seq (.reg p15_5) (.seq (.reg p15_6) c15_4))
def c15 : FCode := ⟨108, c15_b, [(.tmp 2)], some ([2], [], []), false⟩
theorem c15_ok : compF Go.Proofs.Tryd.prog [100011, 100017, 26, 55, 56, 57, 58, 59, 60, 61, 72, 83, 84, 85, 95] 15 = some (eraseF c15) := by kernel_rfl
def p56_1 : List PO := [⟨(.some 3), (.box 6 (.tmp 1)), .none⟩]
def p56_2 : List PO := [⟨(.some 4), (.mov (.tmp 0)), .none⟩, ⟨(.some 5), (.mov (.tmp 0)), .none⟩, ⟨(.some 6), (.nilC (.tmp 5)), .none⟩, ⟨(.some 7), (.fld 5 (.tmp 6)), .none⟩, ⟨(.some 8), (.load .false 1 (.tmp 7)), .none⟩, ⟨(.some 9), (.load .true 6 (.tmp 3)), .none⟩, ⟨(.some 10), (.bsl 31 6 1 [(3, (.int .i64 0)), (1, (.string ⟨#[]⟩)), (1, (.slice .none 0 0)), (1, (.string ⟨#[]⟩))] [(0, (6, (.tmp 9)))]), .none⟩, ⟨(.some 11), (.app 31 6 80 (.tmp 8) (.tmp 10)), .none⟩, ⟨(.some 12), (.nilC (.tmp 4)), .none⟩, ⟨(.some 13), (.fld 5 (.tmp 12)), .none⟩, ⟨.none, (.store 1 (.tmp 13) (.tmp 11)), .none⟩]
def c56_b : PCode := (.seq (.reg p56_1) (.regD p56_2 [(4, 6)]))
def c56 : FCode := ⟨14, c56_b, [], some ([], [(0, .id 0), (1, .id 1)], []), false⟩
theorem c56_ok : compF Go.Proofs.Tryd.prog [100011, 100017, 26, 55, 56, 57, 58, 59, 60, 61, 72, 83, 84, 85, 95] 56 = some (eraseF c56) := by kernel_rfl
def p57_1 : List PO := [⟨(.some 4), (.mov (.tmp 0)), .none⟩, ⟨(.some 5), (.mov (.tmp 1)), .none⟩, ⟨(.some 6), (.build [(2, (.int .i64 0)), (3, (.string ⟨#[]⟩))] [(0, (1, (.tmp 5)))]), .none⟩, ⟨(.some 7), (.nilC (.tmp 4)), .none⟩, ⟨(.some 8), (.fld 0 (.tmp 7)), .none⟩, ⟨.none, (.store 5 (.tmp 8) (.tmp 6)), .none⟩]
def c57_b : PCode := (.reg p57_1)
def c57 : FCode := ⟨9, c57_b, [], some ([], [(0, .id 0), (1, .id 1)], []), false⟩
theorem c57_ok : compF Go.Proofs.Tryd.prog [100011, 100017, 26, 55, 56, 57, 58, 59, 60, 61, 72, 83, 84, 85, 95] 57 = some (eraseF c57) := by kernel_rfl
def p58_1 : List PO := [⟨(.some 4), (.mov (.tmp 0)), .none⟩, ⟨(.some 5), (.build [(3, (.int .i64 0)), (1, (.string ⟨#[]⟩)), (1, (.slice .none 0 0)), (1, (.string ⟨#[]⟩))] [(0, (1, (.const (.int .i64 6))))]), .none⟩, ⟨(.some 6), (.callr 56 [(.tmp 4), (.tmp 5)]), .none⟩]
def p58_2 : List PO := [⟨(.some 7), (.mov (.tmp 0)), .none⟩, ⟨(.some 8), (.mov (.tmp 1)), .none⟩, ⟨(.some 9), (.callr 57 [(.tmp 7), (.tmp 8)]), .none⟩]
def c58_b : PCode := (.seq (.reg p58_1) (.reg p58_2))
def c58 : FCode := ⟨10, c58_b, [], some ([], [(0, .id 0), (1, .id 1)], []), false⟩
theorem c58_ok : compF Go.Proofs.Tryd.prog [100011, 100017, 26, 55, 56, 57, 58, 59, 60, 61, 72, 83, 84, 85, 95] 58 = some (eraseF c58) := by kernel_rfl
def p55_1 : List PO := [⟨(.some 23), (.mov (.tmp 1)), .none⟩, ⟨(.some 24), (.cmpI .eql (.tmp 23) (.const (.int .i64 27))), .none⟩, ⟨(.some 22), (.mov (.tmp 24)), .none⟩]
def p55_2 : List PO := [⟨(.some 25), (.mov (.tmp 0)), .none⟩, ⟨(.some 26), (.nilC (.tmp 25)), .none⟩, ⟨(.some 27), (.fld 0 (.tmp 26)), .none⟩, ⟨(.some 28), (.fld 0 (.tmp 27)), .none⟩, ⟨(.some 29), (.load .false 1 (.tmp 28)), .none⟩, ⟨(.some 30), (.arI .add (.tmp 29) (.const (.int .i64 1))), .none⟩, ⟨(.some 31), (.nilC (.tmp 25)), .none⟩, ⟨(.some 32), (.fld 0 (.tmp 31)), .none⟩, ⟨(.some 33), (.fld 0 (.tmp 32)), .none⟩, ⟨.none, (.store 1 (.tmp 33) (.tmp 30)), .none⟩]
def p55_3 : List PO := [⟨(.some 35), (.mov (.tmp 1)), .none⟩, ⟨(.some 36), (.cmpI .eql (.tmp 35) (.const (.int .i64 24))), .none⟩, ⟨(.some 37), (.mov (.tmp 36)), .none⟩, ⟨(.some 38), (.mov (.tmp 1)), (.some (37, .false))⟩, ⟨(.some 39), (.cmpI .eql (.tmp 38) (.const (.int .i64 26))), (.some (37, .false))⟩, ⟨(.some 40), (.pick (.tmp 37) (.const (.bool .true)) (.tmp 39)), .none⟩, ⟨(.some 34), (.mov (.tmp 40)), .none⟩]
def p55_4 : List PO := [⟨(.some 41), (.mov (.tmp 0)), .none⟩, ⟨(.some 42), (.callr 58 [(.tmp 41), (.const (.int .i64 0))]), .none⟩]
def p55_5 : List PO := [⟨(.some 44), (.mov (.tmp 0)), .none⟩, ⟨(.some 45), (.nilC (.tmp 44)), .none⟩, ⟨(.some 46), (.fld 0 (.tmp 45)), .none⟩, ⟨(.some 47), (.fld 0 (.tmp 46)), .none⟩, ⟨(.some 48), (.load .false 1 (.tmp 47)), .none⟩, ⟨(.some 49), (.cmpI .eql (.tmp 48) (.const (.int .i64 9))), .none⟩, ⟨(.some 43), (.mov (.tmp 49)), .none⟩]
def p55_6 : List PO := [⟨(.some 51), (.mov (.tmp 1)), .none⟩, ⟨(.some 52), (.cmpI .eql (.tmp 51) (.const (.int .i64 7))), .none⟩, ⟨(.some 50), (.mov (.tmp 52)), .none⟩]
def p55_7 : List PO := [⟨(.some 53), (.mov (.tmp 0)), .none⟩, ⟨(.some 54), (.mov (.tmp 0)), .none⟩, ⟨(.some 55), (.nilC (.tmp 54)), .none⟩, ⟨(.some 56), (.fld 0 (.tmp 55)), .none⟩, ⟨(.some 57), (.fld 4 (.tmp 56)), .none⟩, ⟨(.some 58), (.load .false 1 (.tmp 57)), .none⟩, ⟨(.some 59), (.build [(3, (.int .i64 0)), (1, (.string ⟨#[]⟩)), (1, (.slice .none 0 0)), (1, (.string ⟨#[]⟩))] [(0, (1, (.const (.int .i64 5)))), (5, (1, (.tmp 58)))]), .none⟩, ⟨(.some 60), (.callr 56 [(.tmp 53), (.tmp 59)]), .none⟩]
def p55_8 : List PO := [⟨(.some 61), (.mov (.tmp 0)), .none⟩, ⟨(.some 62), (.callr 57 [(.tmp 61), (.const (.int .i64 0))]), .none⟩]
def p55_9 : List PO := [⟨(.some 64), (.mov (.tmp 1)), .none⟩, ⟨(.some 65), (.cmpI .lss (.tmp 64) (.const (.int .i64 32))), .none⟩, ⟨(.some 66), (.mov (.tmp 65)), .none⟩, ⟨(.some 67), (.mov (.tmp 1)), (.some (66, .false))⟩, ⟨(.some 68), (.call 32 [(.tmp 67), (.const (.int .i64 127)), (.const (.int .i64 159))]), (.some (66, .false))⟩, ⟨(.some 69), (.pick (.tmp 66) (.const (.bool .true)) (.tmp 68)), .none⟩, ⟨(.some 63), (.mov (.tmp 69)), .none⟩]
def p55_10 : List PO := [⟨(.some 5), (.mov (.tmp 0)), .none⟩, ⟨(.some 6), (.nilC (.tmp 5)), .none⟩, ⟨(.some 7), (.fld 0 (.tmp 6)), .none⟩, ⟨(.some 8), (.fld 4 (.tmp 7)), .none⟩, ⟨(.some 9), (.load .false 1 (.tmp 8)), .none⟩, ⟨(.some 10), (.mov (.tmp 1)), .none⟩, ⟨(.some 11), (.bsl 3 1 1 [(1, (.int .i64 0))] [(0, (1, (.tmp 10)))]), .none⟩, ⟨(.some 12), (.call 48 [(.tmp 11)]), .none⟩, ⟨(.some 13), (.strO .add (.tmp 9) (.tmp 12)), .none⟩, ⟨(.some 4), (.mov (.tmp 13)), .none⟩]
def p55_11 : List PO := [⟨(.some 14), (.mov (.tmp 4)), .none⟩, ⟨(.some 15), (.len .true (.tmp 14)), .none⟩, ⟨(.some 16), (.cmpI .leq (.tmp 15) (.const (.int .i64 256))), .none⟩]
def p55_12 : List PO := [⟨(.some 17), (.mov (.tmp 0)), .none⟩, ⟨(.some 18), (.mov (.tmp 4)), .none⟩, ⟨(.some 19), (.nilC (.tmp 17)), .none⟩, ⟨(.some 20), (.fld 0 (.tmp 19)), .none⟩, ⟨(.some 21), (.fld 4 (.tmp 20)), .none⟩, ⟨.none, (.store 1 (.tmp 21) (.tmp 18)), .none⟩]
def c55_13 : PCode := (.seq (.reg p55_6) (.cond (.tmp 50) (.seq (.reg p55_7) (.reg p55_8)) (.seq (.reg p55_9) (.cond (.tmp 63) .skip (.seq (.regD p55_10 [(4, 6), (4, 7)]) (.seq (.reg p55_11) (.cond (.tmp 16) (.reg p55_12) .skip)))))))
def c55_b : PCode := (.block 0 (.seq (.reg p55_1) (.cond (.tmp 22) (.reg p55_2) (.seq (.reg p55_3) (.cond (.tmp 34) (.reg p55_4) (.seq (.reg p55_5) (.cond (.tmp 43) .skip c55_13)))))))
def c55 : FCode := ⟨70, c55_b, [], some ([], [(0, .id 0), (1, .id 1)], []), false⟩
theorem c55_ok : compF Go.Proofs.Tryd.prog [100011, 100017, 26, 55, 56, 57, 58, 59, 60, 61, 72, 83, 84, 85, 95] 55 = some (eraseF c55) := by kernel_rfl
def p59_3 : List PO := [⟨(.some 4), (.mov (.const (.bool .false))), .none⟩]
def p59_4 : List PO := [⟨(.some 5), (.mov (.const (.int .i64 0))), .none⟩]
def p59_5 : List PO := [⟨(.some 9), (.mov (.tmp 1)), .none⟩, ⟨(.some 10), (.cmpI .eql (.tmp 9) (.const (.int .i64 27))), .none⟩, ⟨(.some 8), (.mov (.tmp 10)), .none⟩]
def p59_6 : List PO := [⟨(.some 5), (.mov (.const (.int .i64 1))), .none⟩]
def p59_7 : List PO := [⟨(.some 12), (.mov (.tmp 1)), .none⟩, ⟨(.some 13), (.cmpI .eql (.tmp 12) (.const (.int .i64 24))), .none⟩, ⟨(.some 14), (.mov (.tmp 13)), .none⟩, ⟨(.some 15), (.mov (.tmp 1)), (.some (14, .false))⟩, ⟨(.some 16), (.cmpI .eql (.tmp 15) (.const (.int .i64 26))), (.some (14, .false))⟩, ⟨(.some 17), (.pick (.tmp 14) (.const (.bool .true)) (.tmp 16)), .none⟩, ⟨(.some 11), (.mov (.tmp 17)), .none⟩]
def c59_2 : PCode := (.keep [0, 5] [(0, .id 0), (1, .id 1)] [] .skip)
def p59_8 : List PO := [⟨(.some 19), (.mov (.tmp 1)), .none⟩, ⟨(.some 20), (.cmpI .lss (.tmp 19) (.const (.int .i64 32))), .none⟩, ⟨(.some 18), (.mov (.tmp 20)), .none⟩]
def p59_9 : List PO := [⟨(.some 21), (.mov (.tmp 0)), .none⟩, ⟨(.some 22), (.mov (.tmp 1)), .none⟩, ⟨(.some 23), (.build [(3, (.int .i64 0)), (1, (.string ⟨#[]⟩)), (1, (.slice .none 0 0)), (1, (.string ⟨#[]⟩))] [(0, (1, (.const (.int .i64 2)))), (1, (1, (.tmp 22)))]), .none⟩, ⟨(.some 24), (.callr 56 [(.tmp 21), (.tmp 23)]), .none⟩]
def p59_10 : List PO := [⟨(.some 4), (.mov (.const (.bool .true))), .none⟩]
def p59_11 : List PO := [⟨(.some 6), (.mov (.tmp 1)), .none⟩, ⟨(.some 7), (.call 32 [(.tmp 6), (.const (.int .i64 127)), (.const (.int .i64 159))]), .none⟩, ⟨(.some 4), (.mov (.tmp 7)), .none⟩]
def c59_12 : PCode := (.seq (.reg p59_5) (.cond (.tmp 8) (.reg p59_6) (.seq (.reg p59_7) (.cond (.tmp 11) c59_2 (.seq (.reg p59_8) (.cond (.tmp 18) (.seq (.reg p59_9) (.seq (.reg p59_10) .ret)) (.seq (.reg p59_11) .ret)))))))
def p59_13 : List PO := [⟨(.some 25), (.mov (.tmp 0)), .none⟩, ⟨(.some 26), (.nilC (.tmp 25)), .none⟩, ⟨(.some 27), (.fld 0 (.tmp 26)), .none⟩, ⟨(.some 28), (.fld 0 (.tmp 27)), .none⟩, ⟨(.some 29), (.load .false 1 (.tmp 28)), .none⟩, ⟨(.some 30), (.cmpI .neq (.tmp 29) (.const (.int .i64 0))), .none⟩]
def p59_14 : List PO := [⟨(.some 31), (.mov (.tmp 0)), .none⟩, ⟨(.some 32), (.build [(3, (.int .i64 0)), (1, (.string ⟨#[]⟩)), (1, (.slice .none 0 0)), (1, (.string ⟨#[]⟩))] [(0, (1, (.const (.int .i64 6))))]), .none⟩, ⟨(.some 33), (.callr 56 [(.tmp 31), (.tmp 32)]), .none⟩]
def p59_15 : List PO := [⟨(.some 34), (.mov (.tmp 0)), .none⟩, ⟨(.some 35), (.mov (.tmp 5)), .none⟩, ⟨(.some 36), (.callr 57 [(.tmp 34), (.tmp 35)]), .none⟩]
def p59_16 : List PO := [⟨(.some 4), (.mov (.const (.bool .true))), .none⟩]
def c59_1 : PCode := (.keep [0, 5] [(0, .id 0), (1, .id 1)] [] (.seq (.seq (.reg p59_13) (.cond (.tmp 30) (.reg p59_14) .skip)) (.seq (.reg p59_15) (.seq (.reg p59_16) .ret))))
def c59_b : PCode := (.seq (.reg p59_3) (.seq (.reg p59_4) (.seq (.block 0 c59_12) c59_1)))
def c59 : FCode := ⟨37, c59_b, [(.tmp 4)], some ([4], [(0, .id 0), (1, .id 1)], []), false⟩
theorem c59_ok : compF Go.Proofs.Tryd.prog [100011, 100017, 26, 55, 56, 57, 58, 59, 60, 61, 72, 83, 84, 85, 95] 59 = some (eraseF c59) := by kernel_rfl
def p83_1 : List PO := [⟨(.some 4), (.mov (.tmp 0)), .none⟩, ⟨(.some 5), (.nilC (.tmp 4)), .none⟩, ⟨(.some 6), (.fld 0 (.tmp 5)), .none⟩, ⟨(.some 7), (.fld 2 (.tmp 6)), .none⟩, ⟨(.some 8), (.load .false 1 (.tmp 7)), .none⟩, ⟨(.some 9), (.len .true (.tmp 8)), .none⟩, ⟨(.some 10), (.cmpI .lss (.tmp 9) (.const (.int .i64 3))), .none⟩]
def p83_2 : List PO := [⟨(.some 11), (.mov (.tmp 0)), .none⟩, ⟨(.some 12), (.nilC (.tmp 11)), .none⟩, ⟨(.some 13), (.fld 0 (.tmp 12)), .none⟩, ⟨(.some 14), (.fld 2 (.tmp 13)), .none⟩, ⟨(.some 15), (.load .false 1 (.tmp 14)), .none⟩, ⟨(.some 16), (.mov (.tmp 1)), .none⟩, ⟨(.some 17), (.cvI .i32 (.tmp 16)), .none⟩, ⟨(.some 18), (.cvIS (.tmp 17)), .none⟩, ⟨(.some 19), (.strO .add (.tmp 15) (.tmp 18)), .none⟩, ⟨(.some 20), (.nilC (.tmp 11)), .none⟩, ⟨(.some 21), (.fld 0 (.tmp 20)), .none⟩, ⟨(.some 22), (.fld 2 (.tmp 21)), .none⟩, ⟨.none, (.store 1 (.tmp 22) (.tmp 19)), .none⟩]
def c83_b : PCode := (.seq (.reg p83_1) (.cond (.tmp 10) (.reg p83_2) .skip))
def c83 : FCode := ⟨23, c83_b, [], some ([], [(0, .id 0), (1, .id 1)], []), false⟩
theorem c83_ok : compF Go.Proofs.Tryd.prog [100011, 100017, 26, 55, 56, 57, 58, 59, 60, 61, 72, 83, 84, 85, 95] 83 = some (eraseF c83) := by kernel_rfl
def p84_1 : List PO := [⟨(.some 3), (.box 6 (.tmp 1)), .none⟩]
def p84_2 : List PO := [⟨(.some 4), (.mov (.tmp 0)), .none⟩, ⟨(.some 5), (.nilC (.tmp 4)), .none⟩, ⟨(.some 6), (.fld 0 (.tmp 5)), .none⟩, ⟨(.some 7), (.fld 2 (.tmp 6)), .none⟩, ⟨(.some 8), (.load .false 1 (.tmp 7)), .none⟩, ⟨(.some 9), (.len .true (.tmp 8)), .none⟩, ⟨(.some 10), (.cmpI .eql (.tmp 9) (.const (.int .i64 3))), .none⟩]
def p84_3 : List PO := [⟨(.some 11), (.build [(3, (.int .i64 0)), (1, (.string ⟨#[]⟩)), (1, (.slice .none 0 0)), (1, (.string ⟨#[]⟩))] [(0, (1, (.const (.int .i64 6))))]), .none⟩, ⟨.none, (.store 6 (.tmp 3) (.tmp 11)), .none⟩]
def p84_4 : List PO := [⟨(.some 12), (.mov (.tmp 0)), .none⟩, ⟨(.some 13), (.load .true 6 (.tmp 3)), .none⟩, ⟨(.some 14), (.callr 56 [(.tmp 12), (.tmp 13)]), .none⟩]
def p84_5 : List PO := [⟨(.some 15), (.mov (.tmp 0)), .none⟩, ⟨(.some 16), (.callr 57 [(.tmp 15), (.const (.int .i64 0))]), .none⟩]
def c84_b : PCode := (.seq (.reg p84_1) (.seq (.seq (.reg p84_2) (.cond (.tmp 10) (.reg p84_3) .skip)) (.seq (.reg p84_4) (.reg p84_5))))
def c84 : FCode := ⟨17, c84_b, [], some ([], [(0, .id 0), (1, .id 1)], []), false⟩
theorem c84_ok : compF Go.Proofs.Tryd.prog [100011, 100017, 26, 55, 56, 57, 58, 59, 60, 61, 72, 83, 84, 85, 95] 84 = some (eraseF c84) := by kernel_rfl
def p60_1 : List PO := [⟨(.some 9), (.mov (.tmp 1)), .none⟩, ⟨(.some 10), (.cmpI .lss (.tmp 9) (.const (.int .i64 48))), .none⟩, ⟨(.some 8), (.mov (.tmp 10)), .none⟩]
def p60_2 : List PO := [⟨(.some 11), (.mov (.tmp 0)), .none⟩, ⟨(.some 12), (.mov (.tmp 1)), .none⟩, ⟨(.some 13), (.callr 83 [(.tmp 11), (.tmp 12)]), .none⟩]
def p60_3 : List PO := [⟨(.some 14), (.mov (.tmp 0)), .none⟩, ⟨(.some 15), (.nilC (.tmp 14)), .none⟩, ⟨(.some 16), (.fld 0 (.tmp 15)), .none⟩, ⟨(.some 17), (.fld 0 (.tmp 16)), .none⟩, ⟨.none, (.store 1 (.tmp 17) (.const (.int .i64 2))), .none⟩]
def p60_4 : List PO := [⟨(.some 19), (.mov (.tmp 0)), .none⟩, ⟨(.some 20), (.nilC (.tmp 19)), .none⟩, ⟨(.some 21), (.fld 0 (.tmp 20)), .none⟩, ⟨(.some 22), (.fld 0 (.tmp 21)), .none⟩, ⟨(.some 23), (.load .false 1 (.tmp 22)), .none⟩, ⟨(.some 24), (.cmpI .eql (.tmp 23) (.const (.int .i64 2))), .none⟩, ⟨(.some 18), (.mov (.tmp 24)), .none⟩]
def p60_5 : List PO := [⟨(.some 25), (.mov (.tmp 0)), .none⟩, ⟨(.some 26), (.mov (.tmp 1)), .none⟩, ⟨(.some 27), (.mov (.tmp 0)), .none⟩, ⟨(.some 28), (.nilC (.tmp 27)), .none⟩, ⟨(.some 29), (.fld 0 (.tmp 28)), .none⟩, ⟨(.some 30), (.fld 2 (.tmp 29)), .none⟩, ⟨(.some 31), (.load .false 1 (.tmp 30)), .none⟩, ⟨(.some 32), (.build [(3, (.int .i64 0)), (1, (.string ⟨#[]⟩)), (1, (.slice .none 0 0)), (1, (.string ⟨#[]⟩))] [(0, (1, (.const (.int .i64 3)))), (1, (1, (.tmp 26))), (3, (1, (.tmp 31)))]), .none⟩, ⟨(.some 33), (.callr 84 [(.tmp 25), (.tmp 32)]), .none⟩]
def p60_6 : List PO := [⟨(.some 35), (.mov (.tmp 1)), .none⟩, ⟨(.some 36), (.cmpI .eql (.tmp 35) (.const (.int .i64 91))), .none⟩, ⟨(.some 34), (.mov (.tmp 36)), .none⟩]
def p60_7 : List PO := [⟨(.some 37), (.mov (.tmp 0)), .none⟩, ⟨(.some 38), (.nilC (.tmp 37)), .none⟩, ⟨(.some 39), (.fld 0 (.tmp 38)), .none⟩, ⟨(.some 40), (.fld 0 (.tmp 39)), .none⟩, ⟨.none, (.store 1 (.tmp 40) (.const (.int .i64 3))), .none⟩]
def p60_8 : List PO := [⟨(.some 42), (.mov (.tmp 1)), .none⟩, ⟨(.some 43), (.cmpI .eql (.tmp 42) (.const (.int .i64 93))), .none⟩, ⟨(.some 41), (.mov (.tmp 43)), .none⟩]
def p60_9 : List PO := [⟨(.some 44), (.mov (.tmp 0)), .none⟩, ⟨(.some 45), (.nilC (.tmp 44)), .none⟩, ⟨(.some 46), (.fld 0 (.tmp 45)), .none⟩, ⟨(.some 47), (.fld 0 (.tmp 46)), .none⟩, ⟨.none, (.store 1 (.tmp 47) (.const (.int .i64 7))), .none⟩]
def p60_10 : List PO := [⟨(.some 49), (.mov (.tmp 1)), .none⟩, ⟨(.some 50), (.cvI .u8 (.tmp 49)), .none⟩, ⟨(.some 51), (.call 36 [(.const (.string ⟨#[80, 88, 94, 95]⟩)), (.tmp 50)]), .none⟩, ⟨(.some 52), (.cmpI .geq (.tmp 51) (.const (.int .i64 0))), .none⟩, ⟨(.some 48), (.mov (.tmp 52)), .none⟩]
def p60_11 : List PO := [⟨(.some 53), (.mov (.tmp 0)), .none⟩, ⟨(.some 54), (.nilC (.tmp 53)), .none⟩, ⟨(.some 55), (.fld 0 (.tmp 54)), .none⟩, ⟨(.some 56), (.fld 0 (.tmp 55)), .none⟩, ⟨.none, (.store 1 (.tmp 56) (.const (.int .i64 9))), .none⟩]
def p60_12 : List PO := [⟨(.some 4), (.mov (.tmp 0)), .none⟩, ⟨(.some 5), (.mov (.tmp 1)), .none⟩, ⟨(.some 6), (.build [(3, (.int .i64 0)), (1, (.string ⟨#[]⟩)), (1, (.slice .none 0 0)), (1, (.string ⟨#[]⟩))] [(0, (1, (.const (.int .i64 3)))), (1, (1, (.tmp 5)))]), .none⟩, ⟨(.some 7), (.callr 84 [(.tmp 4), (.tmp 6)]), .none⟩]
def c60_13 : PCode := (.seq (.reg p60_4) (.cond (.tmp 18) (.reg p60_5) (.seq (.reg p60_6) (.cond (.tmp 34) (.reg p60_7) (.seq (.reg p60_8) (.cond (.tmp 41) (.reg p60_9) (.seq (.reg p60_10) (.cond (.tmp 48) (.reg p60_11) (.reg p60_12)))))))))
def c60_b : PCode := (.block 0 (.seq (.reg p60_1) (.cond (.tmp 8) (.seq (.reg p60_2) (.reg p60_3)) c60_13)))
def c60 : FCode := ⟨57, c60_b, [], some ([], [(0, .id 0), (1, .id 1)], []), false⟩
theorem c60_ok : compF Go.Proofs.Tryd.prog [100011, 100017, 26, 55, 56, 57, 58, 59, 60, 61, 72, 83, 84, 85, 95] 60 = some (eraseF c60) := by kernel_rfl
def p85_1 : List PO := [⟨(.some 2), (.mov (.tmp 0)), .none⟩, ⟨(.some 3), (.build [(2, (.int .i64 0)), (3, (.string ⟨#[]⟩))] [(0, (1, (.const (.int .i64 6))))]), .none⟩, ⟨(.some 4), (.nilC (.tmp 2)), .none⟩, ⟨(.some 5), (.fld 0 (.tmp 4)), .none⟩, ⟨.none, (.store 5 (.tmp 5) (.tmp 3)), .none⟩]
def c85_b : PCode := (.reg p85_1)
def c85 : FCode := ⟨6, c85_b, [], some ([], [(0, .id 0), (1, .id 1)], []), false⟩
theorem c85_ok : compF Go.Proofs.Tryd.prog [100011, 100017, 26, 55, 56, 57, 58, 59, 60, 61, 72, 83, 84, 85, 95] 85 = some (eraseF c85) := by kernel_rfl
def p61_2 : List PO := [⟨(.some 9), (.mov (.tmp 0)), .none⟩, ⟨(.some 10), (.nilC (.tmp 9)), .none⟩, ⟨(.some 11), (.fld 0 (.tmp 10)), .none⟩, ⟨(.some 12), (.fld 0 (.tmp 11)), .none⟩, ⟨(.some 13), (.load .false 1 (.tmp 12)), .none⟩, ⟨(.some 14), (.cmpI .eql (.tmp 13) (.const (.int .i64 6))), .none⟩, ⟨(.some 8), (.mov (.tmp 14)), .none⟩]
def p61_3 : List PO := [⟨(.some 15), (.mov (.tmp 1)), .none⟩, ⟨(.some 16), (.cmpI .geq (.tmp 15) (.const (.int .i64 64))), .none⟩]
def p61_4 : List PO := [⟨(.some 17), (.mov (.tmp 0)), .none⟩, ⟨(.some 18), (.callr 58 [(.tmp 17), (.const (.int .i64 0))]), .none⟩]
def p61_5 : List PO := [⟨(.some 20), (.mov (.tmp 1)), .none⟩, ⟨(.some 21), (.cmpI .lss (.tmp 20) (.const (.int .i64 48))), .none⟩, ⟨(.some 19), (.mov (.tmp 21)), .none⟩]
def p61_6 : List PO := [⟨(.some 22), (.mov (.tmp 0)), .none⟩, ⟨(.some 23), (.mov (.tmp 1)), .none⟩, ⟨(.some 24), (.callr 83 [(.tmp 22), (.tmp 23)]), .none⟩]
def p61_7 : List PO := [⟨(.some 25), (.mov (.tmp 0)), .none⟩, ⟨(.some 26), (.nilC (.tmp 25)), .none⟩, ⟨(.some 27), (.fld 0 (.tmp 26)), .none⟩, ⟨(.some 28), (.fld 0 (.tmp 27)), .none⟩, ⟨.none, (.store 1 (.tmp 28) (.const (.int .i64 5))), .none⟩]
def p61_8 : List PO := [⟨(.some 30), (.mov (.tmp 1)), .none⟩, ⟨(.some 31), (.cmpI .geq (.tmp 30) (.const (.int .i64 64))), .none⟩, ⟨(.some 29), (.mov (.tmp 31)), .none⟩]
def p61_9 : List PO := [⟨(.some 33), (.mov (.tmp 0)), .none⟩, ⟨(.some 34), (.nilC (.tmp 33)), .none⟩, ⟨(.some 35), (.fld 0 (.tmp 34)), .none⟩, ⟨(.some 36), (.fld 3 (.tmp 35)), .none⟩, ⟨(.some 37), (.load .false 1 (.tmp 36)), .none⟩, ⟨(.some 38), (.call 31 [(.tmp 37)]), .none⟩, ⟨(.some 32), (.mov (.tmp 38)), .none⟩, ⟨(.some 39), (.ext (.tmp 32) 0), .none⟩, ⟨(.some 40), (.ext (.tmp 32) 1), .none⟩, ⟨(.some 4), (.mov (.tmp 39)), .none⟩, ⟨(.some 5), (.mov (.tmp 40)), .none⟩]
def p61_10 : List PO := [⟨(.some 41), (.mov (.tmp 0)), .none⟩, ⟨(.some 42), (.mov (.tmp 1)), .none⟩, ⟨(.some 43), (.mov (.tmp 0)), .none⟩, ⟨(.some 44), (.nilC (.tmp 43)), .none⟩, ⟨(.some 45), (.fld 0 (.tmp 44)), .none⟩, ⟨(.some 46), (.fld 1 (.tmp 45)), .none⟩, ⟨(.some 47), (.load .false 1 (.tmp 46)), .none⟩, ⟨(.some 48), (.mov (.tmp 0)), .none⟩, ⟨(.some 49), (.nilC (.tmp 48)), .none⟩, ⟨(.some 50), (.fld 0 (.tmp 49)), .none⟩, ⟨(.some 51), (.fld 2 (.tmp 50)), .none⟩, ⟨(.some 52), (.load .false 1 (.tmp 51)), .none⟩, ⟨(.some 53), (.mov (.tmp 4)), .none⟩, ⟨(.some 54), (.build [(3, (.int .i64 0)), (1, (.string ⟨#[]⟩)), (1, (.slice .none 0 0)), (1, (.string ⟨#[]⟩))] [(0, (1, (.const (.int .i64 4)))), (1, (1, (.tmp 42))), (2, (1, (.tmp 47))), (3, (1, (.tmp 52))), (4, (1, (.tmp 53)))]), .none⟩, ⟨(.some 55), (.callr 84 [(.tmp 41), (.tmp 54)]), .none⟩]
def c61_1 : PCode := (.keep [0, 1, 4] [(0, .id 0), (1, .id 1)] [] (.regD p61_10 []))
def p61_11 : List PO := [⟨(.some 57), (.mov (.tmp 0)), .none⟩, ⟨(.some 58), (.nilC (.tmp 57)), .none⟩, ⟨(.some 59), (.fld 0 (.tmp 58)), .none⟩, ⟨(.some 60), (.fld 0 (.tmp 59)), .none⟩, ⟨(.some 61), (.load .false 1 (.tmp 60)), .none⟩, ⟨(.some 62), (.cmpI .eql (.tmp 61) (.const (.int .i64 5))), .none⟩, ⟨(.some 63), (.mov (.tmp 62)), .none⟩, ⟨(.some 64), (.mov (.tmp 1)), (.some (63, .false))⟩, ⟨(.some 65), (.cmpI .eql (.tmp 64) (.const (.int .i64 58))), (.some (63, .false))⟩, ⟨(.some 66), (.pick (.tmp 63) (.const (.bool .true)) (.tmp 65)), .none⟩, ⟨(.some 56), (.mov (.tmp 66)), .none⟩]
def p61_12 : List PO := [⟨(.some 67), (.mov (.tmp 0)), .none⟩, ⟨(.some 68), (.callr 85 [(.tmp 67)]), .none⟩]
def p61_13 : List PO := [⟨(.some 70), (.mov (.tmp 1)), .none⟩, ⟨(.some 71), (.cmpI .lss (.tmp 70) (.const (.int .i64 60))), .none⟩, ⟨(.some 69), (.mov (.tmp 71)), .none⟩]
def p61_14 : List PO := [⟨(.some 72), (.mov (.tmp 0)), .none⟩, ⟨(.some 73), (.nilC (.tmp 72)), .none⟩, ⟨(.some 74), (.fld 0 (.tmp 73)), .none⟩, ⟨(.some 75), (.fld 3 (.tmp 74)), .none⟩, ⟨(.some 76), (.load .false 1 (.tmp 75)), .none⟩, ⟨(.some 77), (.len .true (.tmp 76)), .none⟩, ⟨(.some 78), (.cmpI .lss (.tmp 77) (.const (.int .i64 100))), .none⟩]
def p61_15 : List PO := [⟨(.some 79), (.mov (.tmp 0)), .none⟩, ⟨(.some 80), (.nilC (.tmp 79)), .none⟩, ⟨(.some 81), (.fld 0 (.tmp 80)), .none⟩, ⟨(.some 82), (.fld 3 (.tmp 81)), .none⟩, ⟨(.some 83), (.load .false 1 (.tmp 82)), .none⟩, ⟨(.some 84), (.mov (.tmp 1)), .none⟩, ⟨(.some 85), (.cvI .i32 (.tmp 84)), .none⟩, ⟨(.some 86), (.cvIS (.tmp 85)), .none⟩, ⟨(.some 87), (.strO .add (.tmp 83) (.tmp 86)), .none⟩, ⟨(.some 88), (.nilC (.tmp 79)), .none⟩, ⟨(.some 89), (.fld 0 (.tmp 88)), .none⟩, ⟨(.some 90), (.fld 3 (.tmp 89)), .none⟩, ⟨.none, (.store 1 (.tmp 90) (.tmp 87)), .none⟩]
def p61_16 : List PO := [⟨(.some 91), (.mov (.tmp 0)), .none⟩, ⟨(.some 92), (.nilC (.tmp 91)), .none⟩, ⟨(.some 93), (.fld 0 (.tmp 92)), .none⟩, ⟨(.some 94), (.fld 0 (.tmp 93)), .none⟩, ⟨.none, (.store 1 (.tmp 94) (.const (.int .i64 4))), .none⟩]
def p61_17 : List PO := [⟨(.some 96), (.mov (.tmp 0)), .none⟩, ⟨(.some 97), (.nilC (.tmp 96)), .none⟩, ⟨(.some 98), (.fld 0 (.tmp 97)), .none⟩, ⟨(.some 99), (.fld 0 (.tmp 98)), .none⟩, ⟨(.some 100), (.load .false 1 (.tmp 99)), .none⟩, ⟨(.some 101), (.cmpI .eql (.tmp 100) (.const (.int .i64 3))), .none⟩, ⟨(.some 95), (.mov (.tmp 101)), .none⟩]
def p61_18 : List PO := [⟨(.some 102), (.mov (.tmp 0)), .none⟩, ⟨(.some 103), (.mov (.tmp 0)), .none⟩, ⟨(.some 104), (.mov (.tmp 1)), .none⟩, ⟨(.some 105), (.nilC (.tmp 102)), .none⟩, ⟨(.some 106), (.fld 0 (.tmp 105)), .none⟩, ⟨(.some 107), (.fld 1 (.tmp 106)), .none⟩, ⟨.none, (.store 1 (.tmp 107) (.tmp 104)), .none⟩, ⟨(.some 108), (.nilC (.tmp 103)), .none⟩, ⟨(.some 109), (.fld 0 (.tmp 108)), .none⟩, ⟨(.some 110), (.fld 0 (.tmp 109)), .none⟩, ⟨.none, (.store 1 (.tmp 110) (.const (.int .i64 4))), .none⟩]
def p61_19 : List PO := [⟨(.some 6), (.mov (.tmp 0)), .none⟩, ⟨(.some 7), (.callr 85 [(.tmp 6)]), .none⟩]
def c61_20 : PCode := (.cond (.tmp 56) (.reg p61_12) (.seq (.reg p61_13) (.cond (.tmp 69) (.seq (.seq (.reg p61_14) (.cond (.tmp 78) (.reg p61_15) .skip)) (.reg p61_16)) (.seq (.reg p61_17) (.cond (.tmp 95) (.reg p61_18) (.reg p61_19))))))
def c61_21 : PCode := (.cond (.tmp 8) (.seq (.reg p61_3) (.cond (.tmp 16) (.reg p61_4) .skip)) (.seq (.reg p61_5) (.cond (.tmp 19) (.seq (.reg p61_6) (.reg p61_7)) (.seq (.reg p61_8) (.cond (.tmp 29) (.seq (.reg p61_9) c61_1) (.seq (.reg p61_11) c61_20))))))
def c61_b : PCode := (.block 0 (.seq (.reg p61_2) c61_21))
def c61 : FCode := ⟨111, c61_b, [], some ([], [(0, .id 0), (1, .id 1)], []), false⟩
theorem c61_ok : compF Go.Proofs.Tryd.prog [100011, 100017, 26, 55, 56, 57, 58, 59, 60, 61, 72, 83, 84, 85, 95] 61 = some (eraseF c61) := by kernel_rfl
def p26_5 : List PO := [⟨(.some 5), (.mov (.tmp 1)), .none⟩, ⟨(.some 6), (.cmpI .lss (.tmp 5) (.const (.int .i64 0))), .none⟩, ⟨(.some 7), (.mov (.tmp 6)), .none⟩, ⟨(.some 8), (.mov (.tmp 1)), (.some (7, .false))⟩, ⟨(.some 9), (.cmpI .gtr (.tmp 8) (.const (.int .i64 1114111))), (.some (7, .false))⟩, ⟨(.some 10), (.pick (.tmp 7) (.const (.bool .true)) (.tmp 9)), .none⟩]
def p26_6 : List PO := [⟨(.some 11), (.mov (.tmp 0)), .none⟩, ⟨(.some 12), (.nilC (.tmp 11)), .none⟩, ⟨(.some 13), (.fld 0 (.tmp 12)), .none⟩, ⟨(.some 14), (.fld 0 (.tmp 13)), .none⟩, ⟨(.some 15), (.load .false 1 (.tmp 14)), .none⟩]
def p26_7 : List PO := [⟨(.some 17), (.cmpI .eql (.tmp 15) (.const (.int .i64 7))), .none⟩, ⟨(.some 16), (.mov (.tmp 17)), .none⟩]
def p26_8 : List PO := [⟨(.some 18), (.cmpI .eql (.tmp 15) (.const (.int .i64 9))), .none⟩, ⟨(.some 16), (.mov (.tmp 18)), .none⟩]
def p26_9 : List PO := [⟨(.some 19), (.mov (.tmp 0)), .none⟩, ⟨(.some 20), (.mov (.tmp 1)), .none⟩, ⟨(.some 21), (.callr 55 [(.tmp 19), (.tmp 20)]), .none⟩]
def p26_10 : List PO := [⟨(.some 23), (.cmpI .eql (.tmp 15) (.const (.int .i64 8))), .none⟩, ⟨(.some 22), (.mov (.tmp 23)), .none⟩]
def p26_11 : List PO := [⟨(.some 24), (.cmpI .eql (.tmp 15) (.const (.int .i64 10))), .none⟩, ⟨(.some 22), (.mov (.tmp 24)), .none⟩]
def p26_12 : List PO := [⟨(.some 25), (.mov (.tmp 1)), .none⟩, ⟨(.some 26), (.cmpI .eql (.tmp 25) (.const (.int .i64 92))), .none⟩]
def p26_13 : List PO := [⟨(.some 27), (.build [(3, (.int .i64 0)), (1, (.string ⟨#[]⟩)), (1, (.slice .none 0 0)), (1, (.string ⟨#[]⟩))] [(0, (1, (.const (.int .i64 6))))]), .none⟩, ⟨(.some 4), (.alloc [(3, (.int .i64 0)), (1, (.string ⟨#[]⟩)), (1, (.slice .none 0 0)), (1, (.string ⟨#[]⟩))]), .none⟩, ⟨.none, (.store 6 (.tmp 4) (.tmp 27)), .none⟩]
def p26_14 : List PO := [⟨(.some 28), (.mov (.tmp 0)), .none⟩, ⟨(.some 29), (.nilC (.tmp 28)), .none⟩, ⟨(.some 30), (.fld 0 (.tmp 29)), .none⟩, ⟨(.some 31), (.fld 0 (.tmp 30)), .none⟩, ⟨(.some 32), (.load .false 1 (.tmp 31)), .none⟩, ⟨(.some 33), (.cmpI .eql (.tmp 32) (.const (.int .i64 8))), .none⟩]
def p26_15 : List PO := [⟨(.some 34), (.mov (.tmp 0)), .none⟩, ⟨(.some 35), (.nilC (.tmp 34)), .none⟩, ⟨(.some 36), (.fld 0 (.tmp 35)), .none⟩, ⟨(.some 37), (.fld 4 (.tmp 36)), .none⟩, ⟨(.some 38), (.load .false 1 (.tmp 37)), .none⟩, ⟨(.some 39), (.build [(3, (.int .i64 0)), (1, (.string ⟨#[]⟩)), (1, (.slice .none 0 0)), (1, (.string ⟨#[]⟩))] [(0, (1, (.const (.int .i64 5)))), (5, (1, (.tmp 38)))]), .none⟩, ⟨.none, (.store 6 (.tmp 4) (.tmp 39)), .none⟩]
def p26_16 : List PO := [⟨(.some 40), (.mov (.tmp 0)), .none⟩, ⟨(.some 41), (.load .true 6 (.tmp 4)), .none⟩, ⟨(.some 42), (.callr 56 [(.tmp 40), (.tmp 41)]), .none⟩]
def p26_17 : List PO := [⟨(.some 43), (.mov (.tmp 0)), .none⟩, ⟨(.some 44), (.callr 57 [(.tmp 43), (.const (.int .i64 0))]), .none⟩]
def p26_18 : List PO := [⟨(.some 45), (.mov (.tmp 0)), .none⟩, ⟨(.some 46), (.callr 58 [(.tmp 45), (.const (.int .i64 1))]), .none⟩]
def c26_2 : PCode := (.keep [0, 1, 22] [(0, .id 0), (1, .id 1)] [] (.cond (.tmp 22) (.seq (.seq (.reg p26_12) (.cond (.tmp 26) (.seq (.reg p26_13) (.seq (.seq (.reg p26_14) (.cond (.tmp 33) (.reg p26_15) .skip)) (.seq (.reg p26_16) (.seq (.reg p26_17) .ret)))) .skip)) (.reg p26_18)) .skip))
def c26_3 : PCode := (.keep [0, 1, 15, 16] [(0, .id 0), (1, .id 1)] [] (.cond (.tmp 16) (.seq (.reg p26_9) .ret) (.seq (.seq (.reg p26_10) (.cond (.tmp 22) .skip (.reg p26_11))) c26_2)))
def p26_19 : List PO := [⟨(.some 51), (.mov (.tmp 0)), .none⟩, ⟨(.some 52), (.mov (.tmp 1)), .none⟩, ⟨(.some 53), (.callr 59 [(.tmp 51), (.tmp 52)]), .none⟩, ⟨(.some 50), (.mov (.tmp 53)), .none⟩]
def p26_20 : List PO := [⟨(.some 55), (.mov (.tmp 0)), .none⟩, ⟨(.some 56), (.nilC (.tmp 55)), .none⟩, ⟨(.some 57), (.fld 0 (.tmp 56)), .none⟩, ⟨(.some 58), (.fld 0 (.tmp 57)), .none⟩, ⟨(.some 59), (.load .false 1 (.tmp 58)), .none⟩, ⟨(.some 60), (.cmpI .eql (.tmp 59) (.const (.int .i64 0))), .none⟩, ⟨(.some 54), (.mov (.tmp 60)), .none⟩]
def p26_21 : List PO := [⟨(.some 61), (.mov (.tmp 0)), .none⟩, ⟨(.some 62), (.mov (.tmp 1)), .none⟩, ⟨(.some 63), (.build [(3, (.int .i64 0)), (1, (.string ⟨#[]⟩)), (1, (.slice .none 0 0)), (1, (.string ⟨#[]⟩))] [(0, (1, (.const (.int .i64 1)))), (1, (1, (.tmp 62)))]), .none⟩, ⟨(.some 64), (.callr 56 [(.tmp 61), (.tmp 63)]), .none⟩]
def p26_22 : List PO := [⟨(.some 66), (.mov (.tmp 1)), .none⟩, ⟨(.some 67), (.cmpI .geq (.tmp 66) (.const (.int .i64 160))), .none⟩, ⟨(.some 65), (.mov (.tmp 67)), .none⟩]
def p26_23 : List PO := [⟨(.some 68), (.mov (.tmp 0)), .none⟩, ⟨(.some 69), (.callr 58 [(.tmp 68), (.const (.int .i64 0))]), .none⟩]
def p26_24 : List PO := [⟨(.some 71), (.mov (.tmp 0)), .none⟩, ⟨(.some 72), (.nilC (.tmp 71)), .none⟩, ⟨(.some 73), (.fld 0 (.tmp 72)), .none⟩, ⟨(.some 74), (.fld 0 (.tmp 73)), .none⟩, ⟨(.some 75), (.load .false 1 (.tmp 74)), .none⟩, ⟨(.some 76), (.cmpI .leq (.tmp 75) (.const (.int .i64 2))), .none⟩, ⟨(.some 70), (.mov (.tmp 76)), .none⟩]
def p26_25 : List PO := [⟨(.some 77), (.mov (.tmp 0)), .none⟩, ⟨(.some 78), (.mov (.tmp 1)), .none⟩, ⟨(.some 79), (.callr 60 [(.tmp 77), (.tmp 78)]), .none⟩]
def p26_26 : List PO := [⟨(.some 47), (.mov (.tmp 0)), .none⟩, ⟨(.some 48), (.mov (.tmp 1)), .none⟩, ⟨(.some 49), (.callr 61 [(.tmp 47), (.tmp 48)]), .none⟩]
def c26_27 : PCode := (.seq (.reg p26_19) (.cond (.tmp 50) .skip (.seq (.reg p26_20) (.cond (.tmp 54) (.reg p26_21) (.seq (.reg p26_22) (.cond (.tmp 65) (.reg p26_23) (.seq (.reg p26_24) (.cond (.tmp 70) (.reg p26_25) (.reg p26_26)))))))))
def c26_1 : PCode := (.keep [0, 1] [(0, .id 0), (1, .id 1)] [] (.block 1 c26_27))
def c26_4 : PCode := (.keep [0, 1] [(0, .id 0), (1, .id 1)] [] (.seq (.seq (.reg p26_6) (.block 0 (.seq (.seq (.reg p26_7) (.cond (.tmp 16) .skip (.reg p26_8))) c26_3))) c26_1))
def c26_b : PCode := (.seq (.seq (.reg p26_5) (.cond (.tmp 10) .ret .skip)) c26_4)
def c26 : FCode := ⟨80, c26_b, [], some ([], [(0, .id 0), (1, .id 1)], []), false⟩
theorem c26_ok : compF Go.Proofs.Tryd.prog [100011, 100017, 26, 55, 56, 57, 58, 59, 60, 61, 72, 83, 84, 85, 95] 26 = some (eraseF c26) := by kernel_rfl
def p11_6 : List PO := [⟨(.some 2), (.box 5 (.tmp 0)), .none⟩, ⟨(.some 4), (.alloc [(2, (.int .i64 0)), (3, (.string ⟨#[]⟩))]), .none⟩, ⟨(.some 5), (.nilS 31 6), .none⟩, ⟨(.some 6), (.mov (.const (.int .i64 0))), .none⟩]
def p11_7 : List PO := [⟨(.some 11), (.load .true 5 (.tmp 2)), .none⟩, ⟨(.some 12), (.call 15 [(.tmp 11)]), .none⟩, ⟨(.some 7), (.mov (.tmp 12)), .none⟩]
def p11_8 : List PO := [⟨(.some 13), (.mov (.tmp 7)), .none⟩, ⟨(.some 14), (.cmpI .neq (.tmp 13) (.const (.int .i64 0))), .none⟩]
def p11_9 : List PO := [⟨(.some 15), (.load .true 5 (.tmp 2)), .none⟩, ⟨(.some 16), (.mov (.tmp 7)), .none⟩, ⟨.none, (.store 5 (.tmp 4) (.tmp 15)), .none⟩, ⟨(.some 5), (.nilS 31 6), .none⟩, ⟨(.some 6), (.mov (.tmp 16)), .none⟩]
def p11_10 : List PO := [⟨(.some 17), (.load .true 5 (.tmp 2)), .none⟩, ⟨(.some 18), (.build [(2, (.int .i64 0)), (3, (.string ⟨#[]⟩)), (1, (.slice .none 0 0))] [(0, (5, (.tmp 17)))]), .none⟩, ⟨(.some 19), (.box 6 (.tmp 18)), .none⟩, ⟨(.some 8), (.mov (.tmp 19)), .none⟩]
def p11_11 : List PO := [⟨(.some 20), (.mov (.tmp 1)), .none⟩, ⟨(.some 21), (.len .false (.tmp 20)), .none⟩, ⟨(.some 22), (.mov (.const (.int .i64 0))), .none⟩]
def p11_12 : List PO := [⟨(.some 23), (.cmpI .lss (.tmp 22) (.tmp 21)), .none⟩]
def p11_13 : List PO := [⟨(.some 24), (.ixS 3 1 (.tmp 20) (.tmp 22)), .none⟩, ⟨(.some 25), (.load .false 1 (.tmp 24)), .none⟩, ⟨(.some 10), (.mov (.tmp 25)), .none⟩]
def p11_14 : List PO := [⟨(.some 26), (.mov (.tmp 8)), .none⟩, ⟨(.some 27), (.mov (.tmp 10)), .none⟩, ⟨(.some 28), (.callr 26 [(.tmp 26), (.tmp 27)]), .none⟩]
def p11_15 : List PO := [⟨(.some 29), (.arI .add (.tmp 22) (.const (.int .i64 1))), .none⟩, ⟨(.some 22), (.mov (.tmp 29)), .none⟩]
def c11_2 : PCode := (.keep [4, 8, 20, 21, 22] [(40, .id 40), (160, .id 160), (337, .id 337)] [] (.seq (.block 1 (.seq (.reg p11_13) (.reg p11_14))) (.reg p11_15)))
def c11_3 : PCode := (.keep [4, 8, 20, 21, 22, 23] [(40, .id 40), (160, .id 160), (337, .id 337)] [] (.seq (.cond (.tmp 23) .skip (.keep [4, 8] [(40, .id 40), (160, .id 160), (337, .id 337)] [] (.exit 0))) c11_2))
def c11_4 : PCode := (.keep [4, 8, 20, 21, 22] [(40, .id 40), (160, .id 160), (337, (.cell 160 5))] [.cell 160 5 337 31 6] (.seq (.reg p11_12) c11_3))
def p11_16 : List PO := [⟨(.some 30), (.mov (.tmp 8)), .none⟩, ⟨(.some 31), (.nilC (.tmp 30)), .none⟩, ⟨(.some 32), (.fld 0 (.tmp 31)), .none⟩, ⟨(.some 33), (.load .true 5 (.tmp 32)), .none⟩, ⟨(.some 34), (.mov (.tmp 8)), .none⟩, ⟨(.some 35), (.nilC (.tmp 34)), .none⟩, ⟨(.some 36), (.fld 5 (.tmp 35)), .none⟩, ⟨(.some 37), (.load .false 1 (.tmp 36)), .none⟩, ⟨.none, (.store 5 (.tmp 4) (.tmp 33)), .none⟩, ⟨(.some 5), (.mov (.tmp 37)), .none⟩, ⟨(.some 6), (.mov (.const (.int .i64 0))), .none⟩]
def c11_1 : PCode := (.keep [4, 8] [(40, .id 40), (160, .id 160), (337, .id 337)] [] (.seq (.regD p11_16 [(7, 8)]) .ret))
def c11_5 : PCode := (.keep [1, 2, 4] [(24, .id 24), (40, .id 40)] [] (.seq (.reg p11_10) (.seq (.seq (.reg p11_11) (.block 0 (.loop c11_4))) c11_1)))
def c11_b : PCode := (.seq (.reg p11_6) (.seq (.seq (.reg p11_7) (.seq (.reg p11_8) (.cond (.tmp 14) (.seq (.reg p11_9) .ret) .skip))) c11_5))
def c11 : FCode := ⟨38, c11_b, [(.cell 4 .true 5), (.tmp 5), (.tmp 6)], some ([4, 5, 6], [(40, .id 40), (338, (.slot 5 none))], []), false⟩
theorem c11_ok : compF Go.Proofs.Tryd.prog [100011, 100017, 26, 55, 56, 57, 58, 59, 60, 61, 72, 83, 84, 85, 95] 11 = some (eraseF c11) := by kernel_rfl
def p9_8 : List PO := [⟨(.some 4), (.mov (.const (.bool .false))), .none⟩]
def p9_9 : List PO := [⟨(.some 20), (.mov (.tmp 0)), .none⟩, ⟨(.some 21), (.mov (.tmp 1)), .none⟩, ⟨(.some 22), (.arI .andNot (.tmp 21) (.const (.int .i64 64))), .none⟩, ⟨(.some 23), (.call 23 [(.tmp 20), (.tmp 22)]), .none⟩, ⟨(.some 19), (.mov (.tmp 23)), .none⟩, ⟨(.some 24), (.ext (.tmp 19) 0), .none⟩, ⟨(.some 25), (.ext (.tmp 19) 1), .none⟩, ⟨(.some 5), (.mov (.tmp 24)), .none⟩, ⟨(.some 6), (.mov (.tmp 25)), .none⟩]
def p9_10 : List PO := [⟨(.some 27), (.mov (.tmp 0)), .none⟩, ⟨(.some 28), (.mov (.tmp 1)), .none⟩, ⟨(.some 29), (.arI .or (.tmp 28) (.const (.int .i64 64))), .none⟩, ⟨(.some 30), (.call 23 [(.tmp 27), (.tmp 29)]), .none⟩, ⟨(.some 26), (.mov (.tmp 30)), .none⟩, ⟨(.some 31), (.ext (.tmp 26) 0), .none⟩, ⟨(.some 32), (.ext (.tmp 26) 1), .none⟩, ⟨(.some 7), (.mov (.tmp 31)), .none⟩, ⟨(.some 8), (.mov (.tmp 32)), .none⟩]
def p9_11 : List PO := [⟨(.some 33), (.call 20 []), .none⟩, ⟨(.some 34), (.un .not (.tmp 33)), .none⟩, ⟨(.some 35), (.mov (.tmp 34)), .none⟩, ⟨(.some 36), (.mov (.tmp 6)), (.some (35, .false))⟩, ⟨(.some 37), (.cmpI .neq (.tmp 36) (.const (.int .i64 0))), (.some (35, .false))⟩, ⟨(.some 38), (.pick (.tmp 35) (.const (.bool .true)) (.tmp 37)), .none⟩, ⟨(.some 39), (.mov (.tmp 38)), .none⟩, ⟨(.some 40), (.mov (.tmp 8)), (.some (39, .false))⟩, ⟨(.some 41), (.cmpI .neq (.tmp 40) (.const (.int .i64 0))), (.some (39, .false))⟩, ⟨(.some 42), (.pick (.tmp 39) (.const (.bool .true)) (.tmp 41)), .none⟩]
def p9_12 : List PO := [⟨(.some 43), (.call 20 []), .none⟩, ⟨(.some 44), (.mov (.tmp 43)), .none⟩, ⟨(.some 45), (.mov (.tmp 6)), (.some (44, .true))⟩, ⟨(.some 46), (.mov (.tmp 8)), (.some (44, .true))⟩, ⟨(.some 47), (.cmpI .eql (.tmp 45) (.tmp 46)), (.some (44, .true))⟩, ⟨(.some 48), (.pick (.tmp 44) (.tmp 47) (.const (.bool .false))), .none⟩, ⟨(.some 4), (.mov (.tmp 48)), .none⟩]
def c9_7 : PCode := (.keep [6, 8] [] [] (.seq (.reg p9_12) .ret))
def p9_13 : List PO := [⟨(.some 50), (.mov (.tmp 5)), .none⟩, ⟨(.some 51), (.call 21 [(.const (.string ⟨#[]⟩)), (.tmp 50)]), .none⟩, ⟨(.some 49), (.mov (.tmp 51)), .none⟩, ⟨(.some 52), (.ext (.tmp 49) 0), .none⟩, ⟨(.some 53), (.ext (.tmp 49) 1), .none⟩, ⟨(.some 54), (.ext (.tmp 49) 2), .none⟩, ⟨(.some 9), (.mov (.tmp 52)), .none⟩, ⟨(.some 10), (.mov (.tmp 53)), .none⟩, ⟨(.some 11), (.mov (.tmp 54)), .none⟩]
def p9_14 : List PO := [⟨(.some 56), (.build [(2, (.int .i64 0)), (3, (.string ⟨#[]⟩))] []), .none⟩, ⟨(.some 57), (.mov (.tmp 10)), .none⟩, ⟨(.some 58), (.callf 11 [(.tmp 56), (.tmp 57)]), .none⟩, ⟨(.some 55), (.mov (.tmp 58)), .none⟩, ⟨(.some 59), (.ext (.tmp 55) 0), .none⟩, ⟨(.some 60), (.ext (.tmp 55) 1), .none⟩, ⟨(.some 61), (.ext (.tmp 55) 2), .none⟩, ⟨(.some 12), (.alloc [(2, (.int .i64 0)), (3, (.string ⟨#[]⟩))]), .none⟩, ⟨.none, (.store 5 (.tmp 12) (.tmp 59)), .none⟩, ⟨(.some 13), (.mov (.tmp 60)), .none⟩, ⟨(.some 14), (.mov (.tmp 61)), .none⟩]
def p9_15 : List PO := [⟨(.some 62), (.mov (.tmp 13)), .none⟩, ⟨(.some 63), (.len .false (.tmp 62)), .none⟩, ⟨(.some 64), (.mov (.const (.int .i64 0))), .none⟩]
def p9_16 : List PO := [⟨(.some 65), (.cmpI .lss (.tmp 64) (.tmp 63)), .none⟩]
def p9_17 : List PO := [⟨(.some 66), (.ixS 31 6 (.tmp 62) (.tmp 64)), .none⟩, ⟨(.some 67), (.load .true 6 (.tmp 66)), .none⟩, ⟨(.some 16), (.alloc [(3, (.int .i64 0)), (1, (.string ⟨#[]⟩)), (1, (.slice .none 0 0)), (1, (.string ⟨#[]⟩))]), .none⟩, ⟨.none, (.store 6 (.tmp 16) (.tmp 67)), .none⟩]
def p9_18 : List PO := [⟨(.some 68), (.fld 0 (.tmp 16)), .none⟩, ⟨(.some 69), (.load .false 1 (.tmp 68)), .none⟩, ⟨(.some 70), (.cmpI .neq (.tmp 69) (.const (.int .i64 1))), .none⟩, ⟨(.some 71), (.mov (.tmp 70)), .none⟩, ⟨(.some 72), (.fld 0 (.tmp 16)), (.some (71, .true))⟩, ⟨(.some 73), (.load .false 1 (.tmp 72)), (.some (71, .true))⟩, ⟨(.some 74), (.cmpI .neq (.tmp 73) (.const (.int .i64 2))), (.some (71, .true))⟩, ⟨(.some 75), (.mov (.tmp 74)), (.some (71, .true))⟩, ⟨(.some 76), (.fld 1 (.tmp 16)), (.some (75, .false))⟩, ⟨(.some 77), (.load .false 1 (.tmp 76)), (.some (75, .false))⟩, ⟨(.some 78), (.cmpI .neq (.tmp 77) (.const (.int .i64 9))), (.some (75, .false))⟩, ⟨(.some 79), (.mov (.tmp 78)), (.some (75, .false))⟩, ⟨(.some 80), (.fld 1 (.tmp 16)), (.some (79, .true))⟩, ⟨(.some 81), (.load .false 1 (.tmp 80)), (.some (79, .true))⟩, ⟨(.some 82), (.cmpI .neq (.tmp 81) (.const (.int .i64 13))), (.some (79, .true))⟩, ⟨(.some 83), (.pick (.tmp 79) (.tmp 82) (.const (.bool .false))), (.some (75, .false))⟩, ⟨(.some 84), (.pick (.tmp 75) (.const (.bool .true)) (.tmp 83)), (.some (71, .true))⟩, ⟨(.some 85), (.pick (.tmp 71) (.tmp 84) (.const (.bool .false))), .none⟩]
def p9_19 : List PO := [⟨(.some 4), (.mov (.const (.bool .false))), .none⟩]
def p9_20 : List PO := [⟨(.some 86), (.arI .add (.tmp 64) (.const (.int .i64 1))), .none⟩, ⟨(.some 64), (.mov (.tmp 86)), .none⟩]
def c9_2 : PCode := (.keep [5, 7, 9, 10, 13, 62, 63, 64] [(472, .id 472)] [] (.seq (.block 1 (.seq (.reg p9_17) (.seq (.reg p9_18) (.cond (.tmp 85) (.seq (.reg p9_19) .ret) .skip)))) (.reg p9_20)))
def c9_3 : PCode := (.keep [5, 7, 9, 10, 13, 62, 63, 64, 65] [(472, .id 472)] [] (.seq (.cond (.tmp 65) .skip (.keep [5, 7, 9, 10, 13] [(472, .id 472)] [] (.exit 0))) c9_2))
def c9_4 : PCode := (.keep [5, 7, 9, 10, 13, 62, 63, 64] [(472, .id 472)] [] (.seq (.reg p9_16) c9_3))
def p9_21 : List PO := [⟨(.some 88), (.mov (.tmp 10)), .none⟩, ⟨(.some 89), (.call 23 [(.tmp 88), (.const (.int .i64 0))]), .none⟩, ⟨(.some 87), (.mov (.tmp 89)), .none⟩, ⟨(.some 90), (.ext (.tmp 87) 0), .none⟩, ⟨(.some 91), (.ext (.tmp 87) 1), .none⟩, ⟨(.some 17), (.mov (.tmp 90)), .none⟩, ⟨(.some 18), (.mov (.tmp 91)), .none⟩]
def p9_22 : List PO := [⟨(.some 92), (.mov (.tmp 9)), .none⟩, ⟨(.some 93), (.strO .eql (.tmp 92) (.const (.string ⟨#[]⟩))), .none⟩, ⟨(.some 94), (.mov (.tmp 93)), .none⟩, ⟨(.some 95), (.mov (.tmp 13)), (.some (94, .true))⟩, ⟨(.some 96), (.len .false (.tmp 95)), (.some (94, .true))⟩, ⟨(.some 97), (.mov (.tmp 10)), (.some (94, .true))⟩, ⟨(.some 98), (.len .false (.tmp 97)), (.some (94, .true))⟩, ⟨(.some 99), (.cmpI .eql (.tmp 96) (.tmp 98)), (.some (94, .true))⟩, ⟨(.some 100), (.pick (.tmp 94) (.tmp 99) (.const (.bool .false))), .none⟩, ⟨(.some 101), (.mov (.tmp 100)), .none⟩, ⟨(.some 102), (.mov (.tmp 7)), (.some (101, .true))⟩, ⟨(.some 103), (.mov (.tmp 5)), (.some (101, .true))⟩, ⟨(.some 104), (.strO .add (.const (.string ⟨#[27, 91, 50, 48, 48, 126]⟩)) (.tmp 103)), (.some (101, .true))⟩, ⟨(.some 105), (.strO .add (.tmp 104) (.const (.string ⟨#[27, 91, 50, 48, 49, 126]⟩))), (.some (101, .true))⟩, ⟨(.some 106), (.strO .eql (.tmp 102) (.tmp 105)), (.some (101, .true))⟩, ⟨(.some 107), (.pick (.tmp 101) (.tmp 106) (.const (.bool .false))), .none⟩, ⟨(.some 108), (.mov (.tmp 107)), .none⟩, ⟨(.some 109), (.mov (.tmp 18)), (.some (108, .true))⟩, ⟨(.some 110), (.cmpI .eql (.tmp 109) (.const (.int .i64 0))), (.some (108, .true))⟩, ⟨(.some 111), (.pick (.tmp 108) (.tmp 110) (.const (.bool .false))), .none⟩, ⟨(.some 112), (.mov (.tmp 111)), .none⟩, ⟨(.some 113), (.mov (.tmp 17)), (.some (112, .true))⟩, ⟨(.some 114), (.mov (.tmp 5)), (.some (112, .true))⟩, ⟨(.some 115), (.strO .eql (.tmp 113) (.tmp 114)), (.some (112, .true))⟩, ⟨(.some 116), (.pick (.tmp 112) (.tmp 115) (.const (.bool .false))), .none⟩, ⟨(.some 4), (.mov (.tmp 116)), .none⟩]
def c9_1 : PCode := (.keep [5, 7, 9, 10, 13] [(472, .id 472)] [] (.seq (.reg p9_21) (.seq (.reg p9_22) .ret)))
def c9_5 : PCode := (.keep [5, 7, 9, 10] [] [] (.seq (.reg p9_14) (.seq (.seq (.reg p9_15) (.block 0 (.loop c9_4))) c9_1)))
def c9_6 : PCode := (.keep [5, 7] [] [] (.seq (.reg p9_13) c9_5))
def c9_b : PCode := (.seq (.reg p9_8) (.seq (.reg p9_9) (.seq (.reg p9_10) (.seq (.seq (.reg p9_11) (.cond (.tmp 42) c9_7 .skip)) c9_6))))
def c9 : FCode := ⟨117, c9_b, [(.tmp 4)], some ([4], [], []), false⟩
theorem c9_ok : compF Go.Proofs.Tryd.prog [100011, 100017, 26, 55, 56, 57, 58, 59, 60, 61, 72, 83, 84, 85, 95] 9 = some (eraseF c9) := by kernel_rfl
def codes : Nat → Option FCode
  | 9 => some c9
  | 11 => some c11
  | 15 => some c15
  | 19 => some c19
  | 20 => some c20
  | 21 => some c21
  | 23 => some c23
  | 26 => some c26
  | 31 => some c31
  | 32 => some c32
  | 33 => some c33
  | 40 => some c40
  | 41 => some c41
  | 42 => some c42
  | 43 => some c43
  | 44 => some c44
  | 45 => some c45
  | 48 => some c48
  | 55 => some c55
  | 56 => some c56
  | 57 => some c57
  | 58 => some c58
  | 59 => some c59
  | 60 => some c60
  | 61 => some c61
  | 69 => some c69
  | 70 => some c70
  | 72 => some c72
  | 83 => some c83
  | 84 => some c84
  | 85 => some c85
  | 95 => some c95
  | _ => none
theorem codes_ok : ∀ f fc, codes f = some fc → compF Go.Proofs.Tryd.prog [100011, 100017, 26, 55, 56, 57, 58, 59, 60, 61, 72, 83, 84, 85, 95] f = some (eraseF fc) := by
  intro f fc h
  unfold codes at h
  split at h
  · cases h; exact c9_ok
  · cases h; exact c11_ok
  · cases h; exact c15_ok
  · cases h; exact c19_ok
  · cases h; exact c20_ok
  · cases h; exact c21_ok
  · cases h; exact c23_ok
  · cases h; exact c26_ok
  · cases h; exact c31_ok
  · cases h; exact c32_ok
  · cases h; exact c33_ok
  · cases h; exact c40_ok
  · cases h; exact c41_ok
  · cases h; exact c42_ok
  · cases h; exact c43_ok
  · cases h; exact c44_ok
  · cases h; exact c45_ok
  · cases h; exact c48_ok
  · cases h; exact c55_ok
  · cases h; exact c56_ok
  · cases h; exact c57_ok
  · cases h; exact c58_ok
  · cases h; exact c59_ok
  · cases h; exact c60_ok
  · cases h; exact c61_ok
  · cases h; exact c69_ok
  · cases h; exact c70_ok
  · cases h; exact c72_ok
  · cases h; exact c83_ok
  · cases h; exact c84_ok
  · cases h; exact c85_ok
  · cases h; exact c95_ok
  · cases h
theorem codes9 : codes 9 = some c9 := rfl
theorem codes11 : codes 11 = some c11 := rfl
theorem codes15 : codes 15 = some c15 := rfl
theorem codes19 : codes 19 = some c19 := rfl
theorem codes20 : codes 20 = some c20 := rfl
theorem codes21 : codes 21 = some c21 := rfl
theorem codes23 : codes 23 = some c23 := rfl
theorem codes26 : codes 26 = some c26 := rfl
theorem codes31 : codes 31 = some c31 := rfl
theorem codes32 : codes 32 = some c32 := rfl
theorem codes33 : codes 33 = some c33 := rfl
theorem codes40 : codes 40 = some c40 := rfl
theorem codes41 : codes 41 = some c41 := rfl
theorem codes42 : codes 42 = some c42 := rfl
theorem codes43 : codes 43 = some c43 := rfl
theorem codes44 : codes 44 = some c44 := rfl
theorem codes45 : codes 45 = some c45 := rfl
theorem codes48 : codes 48 = some c48 := rfl
theorem codes55 : codes 55 = some c55 := rfl
theorem codes56 : codes 56 = some c56 := rfl
theorem codes57 : codes 57 = some c57 := rfl
theorem codes58 : codes 58 = some c58 := rfl
theorem codes59 : codes 59 = some c59 := rfl
theorem codes60 : codes 60 = some c60 := rfl
theorem codes61 : codes 61 = some c61 := rfl
theorem codes69 : codes 69 = some c69 := rfl
theorem codes70 : codes 70 = some c70 := rfl
theorem codes72 : codes 72 = some c72 := rfl
theorem codes83 : codes 83 = some c83 := rfl
theorem codes84 : codes 84 = some c84 := rfl
theorem codes85 : codes 85 = some c85 := rfl
theorem codes95 : codes 95 = some c95 := rfl
noncomputable def libs : List (Nat × (List PV → Option PV)) := [(49, oiS libItoa), (46, osT libDecodeRune), (63, ossS libTrim), (50, ossL libSplit), (36, osuI libIndexByte)]
noncomputable abbrev baseL : Orc := libO libs
end Go.Proofs.YtakmihemhmdpkaaDoor.Pm
