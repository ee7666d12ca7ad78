/- The small machine's codes of some functions. Printed by dec.py. -/
import Derived.Test.YtanhpibphkblnaaDoorLib1
import Derived.Test.YtanhpibphkblnaaDoorProg
namespace Go.Proofs.YtanhpibphkblnaaDoor.Pm
set_option maxRecDepth 1000000
set_option maxHeartbeats 20000000
set_option linter.unusedVariables false
structure GKey where
  Name : Int
  Rune : Int
  Mods : Int
def e_GKey : Enc GKey := ⟨3, fun x => [.int .i64 x.Name, .int .i64 x.Rune, .int .i64 x.Mods], fun _ => rfl⟩
def p49_1 : List PO := [⟨(.some 2), (.mov (.const (.bool .false))), .none⟩]
def p49_2 : List PO := [⟨(.some 3), (.mov (.tmp 0)), .none⟩, ⟨(.some 4), (.cmpI .geq (.tmp 3) (.const (.int .i64 0))), .none⟩, ⟨(.some 5), (.mov (.tmp 4)), .none⟩, ⟨(.some 6), (.mov (.tmp 0)), (.some (5, .true))⟩, ⟨(.some 7), (.cmpI .leq (.tmp 6) (.const (.int .i64 1114111))), (.some (5, .true))⟩, ⟨(.some 8), (.pick (.tmp 5) (.tmp 7) (.const (.bool .false))), .none⟩, ⟨(.some 9), (.mov (.tmp 8)), .none⟩, ⟨(.some 10), (.mov (.tmp 0)), (.some (9, .true))⟩, ⟨(.some 11), (.cmpI .lss (.tmp 10) (.const (.int .i64 55296))), (.some (9, .true))⟩, ⟨(.some 12), (.mov (.tmp 11)), (.some (9, .true))⟩, ⟨(.some 13), (.mov (.tmp 0)), (.some (12, .false))⟩, ⟨(.some 14), (.cmpI .gtr (.tmp 13) (.const (.int .i64 57343))), (.some (12, .false))⟩, ⟨(.some 15), (.pick (.tmp 12) (.const (.bool .true)) (.tmp 14)), (.some (9, .true))⟩, ⟨(.some 16), (.pick (.tmp 9) (.tmp 15) (.const (.bool .false))), .none⟩, ⟨(.some 2), (.mov (.tmp 16)), .none⟩]
def c49_b : PCode := (.seq (.reg p49_1) (.seq (.reg p49_2) .ret))
def c49 : FCode := ⟨17, c49_b, [(.tmp 2)], some ([2], [], []), false⟩
theorem c49_ok : compF Go.Proofs.Tryd.prog [54, 67, 68, 69, 71, 91, 96] 49 = some (eraseF c49) := by kernel_rfl
def p50_2 : List PO := [⟨(.some 6), (.mov (.const (.string ⟨#[]⟩))), .none⟩]
def p50_3 : List PO := [⟨(.some 7), (.mov (.tmp 2)), .none⟩, ⟨(.some 8), (.cmpI .eql (.tmp 7) (.const (.int .i64 0))), .none⟩]
def p50_4 : List PO := [⟨(.some 9), (.mov (.tmp 0)), .none⟩, ⟨(.some 10), (.strO .add (.const (.string ⟨#[27]⟩)) (.tmp 9)), .none⟩, ⟨(.some 11), (.mov (.tmp 1)), .none⟩, ⟨(.some 12), (.cvI .i32 (.tmp 11)), .none⟩, ⟨(.some 13), (.cvIS (.tmp 12)), .none⟩, ⟨(.some 14), (.strO .add (.tmp 10) (.tmp 13)), .none⟩, ⟨(.some 6), (.mov (.tmp 14)), .none⟩]
def p50_5 : List PO := [⟨(.some 15), (.mov (.tmp 2)), .none⟩, ⟨(.some 16), (.arI .add (.tmp 15) (.const (.int .i64 1))), .none⟩, ⟨(.some 17), (.call 65 [(.tmp 16)]), .none⟩, ⟨(.some 18), (.strO .add (.const (.string ⟨#[27, 91, 49, 59]⟩)) (.tmp 17)), .none⟩, ⟨(.some 19), (.mov (.tmp 1)), .none⟩, ⟨(.some 20), (.cvI .i32 (.tmp 19)), .none⟩, ⟨(.some 21), (.cvIS (.tmp 20)), .none⟩, ⟨(.some 22), (.strO .add (.tmp 18) (.tmp 21)), .none⟩, ⟨(.some 6), (.mov (.tmp 22)), .none⟩]
def c50_1 : PCode := (.keep [1, 2] [] [] (.seq (.reg p50_5) .ret))
def c50_b : PCode := (.seq (.reg p50_2) (.seq (.seq (.reg p50_3) (.cond (.tmp 8) (.seq (.reg p50_4) .ret) .skip)) c50_1))
def c50 : FCode := ⟨23, c50_b, [(.tmp 6)], some ([6], [], []), false⟩
theorem c50_ok : compF Go.Proofs.Tryd.prog [54, 67, 68, 69, 71, 91, 96] 50 = some (eraseF c50) := by kernel_rfl
def p51_1 : List PO := [⟨(.some 4), (.mov (.const (.string ⟨#[]⟩))), .none⟩]
def p51_2 : List PO := [⟨(.some 6), (.mov (.tmp 0)), .none⟩, ⟨(.some 7), (.call 65 [(.tmp 6)]), .none⟩, ⟨(.some 8), (.strO .add (.const (.string ⟨#[27, 91]⟩)) (.tmp 7)), .none⟩, ⟨(.some 5), (.mov (.tmp 8)), .none⟩]
def p51_3 : List PO := [⟨(.some 9), (.mov (.tmp 1)), .none⟩, ⟨(.some 10), (.cmpI .neq (.tmp 9) (.const (.int .i64 0))), .none⟩]
def p51_4 : List PO := [⟨(.some 11), (.mov (.tmp 5)), .none⟩, ⟨(.some 12), (.mov (.tmp 1)), .none⟩, ⟨(.some 13), (.arI .add (.tmp 12) (.const (.int .i64 1))), .none⟩, ⟨(.some 14), (.call 65 [(.tmp 13)]), .none⟩, ⟨(.some 15), (.strO .add (.const (.string ⟨#[59]⟩)) (.tmp 14)), .none⟩, ⟨(.some 16), (.strO .add (.tmp 11) (.tmp 15)), .none⟩, ⟨(.some 5), (.mov (.tmp 16)), .none⟩]
def p51_5 : List PO := [⟨(.some 17), (.mov (.tmp 5)), .none⟩, ⟨(.some 18), (.strO .add (.tmp 17) (.const (.string ⟨#[126]⟩))), .none⟩, ⟨(.some 4), (.mov (.tmp 18)), .none⟩]
def c51_b : PCode := (.seq (.reg p51_1) (.seq (.reg p51_2) (.seq (.seq (.reg p51_3) (.cond (.tmp 10) (.reg p51_4) .skip)) (.seq (.reg p51_5) .ret))))
def c51 : FCode := ⟨19, c51_b, [(.tmp 4)], some ([4], [], []), false⟩
theorem c51_ok : compF Go.Proofs.Tryd.prog [54, 67, 68, 69, 71, 91, 96] 51 = some (eraseF c51) := by kernel_rfl
def p96_2 : List PO := [⟨(.some 4), (.nilS 5 1), .none⟩]
def p96_3 : List PO := [⟨(.some 6), (.mov (.tmp 1)), .none⟩, ⟨(.some 7), (.cvI .u32 (.tmp 6)), .none⟩, ⟨(.some 5), (.mov (.tmp 7)), .none⟩]
def p96_4 : List PO := [⟨(.some 12), (.mov (.tmp 5)), .none⟩, ⟨(.some 13), (.cmpI .leq (.tmp 12) (.const (.int .u32 2047))), .none⟩, ⟨(.some 11), (.mov (.tmp 13)), .none⟩]
def p96_5 : List PO := [⟨(.some 14), (.mov (.tmp 0)), .none⟩, ⟨(.some 15), (.mov (.tmp 1)), .none⟩, ⟨(.some 16), (.sh .shr (.tmp 15) (.const (.int .u64 6))), .none⟩, ⟨(.some 17), (.cvI .u8 (.tmp 16)), .none⟩, ⟨(.some 18), (.arI .or (.const (.int .u8 192)) (.tmp 17)), .none⟩, ⟨(.some 19), (.mov (.tmp 1)), .none⟩, ⟨(.some 20), (.cvI .u8 (.tmp 19)), .none⟩, ⟨(.some 21), (.arI .and (.tmp 20) (.const (.int .u8 63))), .none⟩, ⟨(.some 22), (.arI .or (.const (.int .u8 128)) (.tmp 21)), .none⟩, ⟨(.some 23), (.bsl 5 1 2 [(2, (.int .u8 0))] [(0, (1, (.tmp 18))), (1, (1, (.tmp 22)))]), .none⟩, ⟨(.some 24), (.app 5 1 1 (.tmp 14) (.tmp 23)), .none⟩, ⟨(.some 4), (.mov (.tmp 24)), .none⟩]
def p96_6 : List PO := [⟨(.some 26), (.mov (.tmp 5)), .none⟩, ⟨(.some 27), (.cmpI .lss (.tmp 26) (.const (.int .u32 55296))), .none⟩, ⟨(.some 25), (.mov (.tmp 27)), .none⟩]
def p96_7 : List PO := [⟨(.some 28), (.mov (.tmp 5)), .none⟩, ⟨(.some 29), (.cmpI .lss (.const (.int .u32 57343)) (.tmp 28)), .none⟩, ⟨(.some 30), (.mov (.tmp 29)), .none⟩, ⟨(.some 31), (.mov (.tmp 5)), (.some (30, .true))⟩, ⟨(.some 32), (.cmpI .leq (.tmp 31) (.const (.int .u32 65535))), (.some (30, .true))⟩, ⟨(.some 33), (.pick (.tmp 30) (.tmp 32) (.const (.bool .false))), .none⟩, ⟨(.some 25), (.mov (.tmp 33)), .none⟩]
def p96_8 : List PO := [⟨(.some 34), (.mov (.tmp 0)), .none⟩, ⟨(.some 35), (.mov (.tmp 1)), .none⟩, ⟨(.some 36), (.sh .shr (.tmp 35) (.const (.int .u64 12))), .none⟩, ⟨(.some 37), (.cvI .u8 (.tmp 36)), .none⟩, ⟨(.some 38), (.arI .or (.const (.int .u8 224)) (.tmp 37)), .none⟩, ⟨(.some 39), (.mov (.tmp 1)), .none⟩, ⟨(.some 40), (.sh .shr (.tmp 39) (.const (.int .u64 6))), .none⟩, ⟨(.some 41), (.cvI .u8 (.tmp 40)), .none⟩, ⟨(.some 42), (.arI .and (.tmp 41) (.const (.int .u8 63))), .none⟩, ⟨(.some 43), (.arI .or (.const (.int .u8 128)) (.tmp 42)), .none⟩, ⟨(.some 44), (.mov (.tmp 1)), .none⟩, ⟨(.some 45), (.cvI .u8 (.tmp 44)), .none⟩, ⟨(.some 46), (.arI .and (.tmp 45) (.const (.int .u8 63))), .none⟩, ⟨(.some 47), (.arI .or (.const (.int .u8 128)) (.tmp 46)), .none⟩, ⟨(.some 48), (.bsl 5 1 3 [(3, (.int .u8 0))] [(0, (1, (.tmp 38))), (1, (1, (.tmp 43))), (2, (1, (.tmp 47)))]), .none⟩, ⟨(.some 49), (.app 5 1 1 (.tmp 34) (.tmp 48)), .none⟩, ⟨(.some 4), (.mov (.tmp 49)), .none⟩]
def p96_9 : List PO := [⟨(.some 51), (.mov (.tmp 5)), .none⟩, ⟨(.some 52), (.cmpI .gtr (.tmp 51) (.const (.int .u32 65535))), .none⟩, ⟨(.some 53), (.mov (.tmp 52)), .none⟩, ⟨(.some 54), (.mov (.tmp 5)), (.some (53, .true))⟩, ⟨(.some 55), (.cmpI .leq (.tmp 54) (.const (.int .u32 1114111))), (.some (53, .true))⟩, ⟨(.some 56), (.pick (.tmp 53) (.tmp 55) (.const (.bool .false))), .none⟩, ⟨(.some 50), (.mov (.tmp 56)), .none⟩]
def p96_10 : List PO := [⟨(.some 57), (.mov (.tmp 0)), .none⟩, ⟨(.some 58), (.mov (.tmp 1)), .none⟩, ⟨(.some 59), (.sh .shr (.tmp 58) (.const (.int .u64 18))), .none⟩, ⟨(.some 60), (.cvI .u8 (.tmp 59)), .none⟩, ⟨(.some 61), (.arI .or (.const (.int .u8 240)) (.tmp 60)), .none⟩, ⟨(.some 62), (.mov (.tmp 1)), .none⟩, ⟨(.some 63), (.sh .shr (.tmp 62) (.const (.int .u64 12))), .none⟩, ⟨(.some 64), (.cvI .u8 (.tmp 63)), .none⟩, ⟨(.some 65), (.arI .and (.tmp 64) (.const (.int .u8 63))), .none⟩, ⟨(.some 66), (.arI .or (.const (.int .u8 128)) (.tmp 65)), .none⟩, ⟨(.some 67), (.mov (.tmp 1)), .none⟩, ⟨(.some 68), (.sh .shr (.tmp 67) (.const (.int .u64 6))), .none⟩, ⟨(.some 69), (.cvI .u8 (.tmp 68)), .none⟩, ⟨(.some 70), (.arI .and (.tmp 69) (.const (.int .u8 63))), .none⟩, ⟨(.some 71), (.arI .or (.const (.int .u8 128)) (.tmp 70)), .none⟩, ⟨(.some 72), (.mov (.tmp 1)), .none⟩, ⟨(.some 73), (.cvI .u8 (.tmp 72)), .none⟩, ⟨(.some 74), (.arI .and (.tmp 73) (.const (.int .u8 63))), .none⟩, ⟨(.some 75), (.arI .or (.const (.int .u8 128)) (.tmp 74)), .none⟩, ⟨(.some 76), (.bsl 5 1 4 [(4, (.int .u8 0))] [(0, (1, (.tmp 61))), (1, (1, (.tmp 66))), (2, (1, (.tmp 71))), (3, (1, (.tmp 75)))]), .none⟩, ⟨(.some 77), (.app 5 1 1 (.tmp 57) (.tmp 76)), .none⟩, ⟨(.some 4), (.mov (.tmp 77)), .none⟩]
def p96_11 : List PO := [⟨(.some 8), (.mov (.tmp 0)), .none⟩, ⟨(.some 9), (.bsl 5 1 3 [(3, (.int .u8 0))] [(0, (1, (.const (.int .u8 239)))), (1, (1, (.const (.int .u8 191)))), (2, (1, (.const (.int .u8 189))))]), .none⟩, ⟨(.some 10), (.app 5 1 1 (.tmp 8) (.tmp 9)), .none⟩, ⟨(.some 4), (.mov (.tmp 10)), .none⟩]
def c96_1 : PCode := (.keep [0, 1, 5, 25] [(0, .id 0)] [] (.cond (.tmp 25) (.seq (.reg p96_8) .ret) (.seq (.reg p96_9) (.cond (.tmp 50) (.seq (.reg p96_10) .ret) (.seq (.reg p96_11) .ret)))))
def c96_b : PCode := (.seq (.reg p96_2) (.seq (.reg p96_3) (.block 0 (.seq (.reg p96_4) (.cond (.tmp 11) (.seq (.reg p96_5) .ret) (.seq (.seq (.reg p96_6) (.cond (.tmp 25) .skip (.reg p96_7))) c96_1))))))
def c96 : FCode := ⟨78, c96_b, [(.tmp 4)], some ([4], [(0, .id 0)], []), false⟩
theorem c96_ok : compF Go.Proofs.Tryd.prog [54, 67, 68, 69, 71, 91, 96] 96 = some (eraseF c96) := by kernel_rfl
def p91_1 : List PO := [⟨(.some 4), (.nilS 5 1), .none⟩]
def p91_2 : List PO := [⟨(.some 5), (.mov (.tmp 1)), .none⟩, ⟨(.some 6), (.cvI .u32 (.tmp 5)), .none⟩, ⟨(.some 7), (.cmpI .leq (.tmp 6) (.const (.int .u32 127))), .none⟩]
def p91_3 : List PO := [⟨(.some 8), (.mov (.tmp 0)), .none⟩, ⟨(.some 9), (.mov (.tmp 1)), .none⟩, ⟨(.some 10), (.cvI .u8 (.tmp 9)), .none⟩, ⟨(.some 11), (.bsl 5 1 1 [(1, (.int .u8 0))] [(0, (1, (.tmp 10)))]), .none⟩, ⟨(.some 12), (.app 5 1 1 (.tmp 8) (.tmp 11)), .none⟩, ⟨(.some 4), (.mov (.tmp 12)), .none⟩]
def p91_4 : List PO := [⟨(.some 13), (.mov (.tmp 0)), .none⟩, ⟨(.some 14), (.mov (.tmp 1)), .none⟩, ⟨(.some 15), (.callr 96 [(.tmp 13), (.tmp 14)]), .none⟩, ⟨(.some 4), (.mov (.tmp 15)), .none⟩]
def c91_b : PCode := (.seq (.reg p91_1) (.seq (.seq (.reg p91_2) (.cond (.tmp 7) (.seq (.reg p91_3) .ret) .skip)) (.seq (.reg p91_4) .ret)))
def c91 : FCode := ⟨16, c91_b, [(.tmp 4)], some ([4], [(0, .id 0)], []), false⟩
theorem c91_ok : compF Go.Proofs.Tryd.prog [54, 67, 68, 69, 71, 91, 96] 91 = some (eraseF c91) := by kernel_rfl
def p83_4 : List PO := [⟨(.some 2), (.mov (.const (.string ⟨#[]⟩))), .none⟩]
def p83_5 : List PO := [⟨(.some 3), (.nilS 5 1), .none⟩]
def p83_6 : List PO := [⟨(.some 6), (.mov (.tmp 0)), .none⟩, ⟨(.some 7), (.len .false (.tmp 6)), .none⟩, ⟨(.some 8), (.mov (.const (.int .i64 0))), .none⟩]
def p83_7 : List PO := [⟨(.some 9), (.cmpI .lss (.tmp 8) (.tmp 7)), .none⟩]
def p83_8 : List PO := [⟨(.some 10), (.ixS 3 1 (.tmp 6) (.tmp 8)), .none⟩, ⟨(.some 11), (.load .false 1 (.tmp 10)), .none⟩, ⟨(.some 5), (.mov (.tmp 11)), .none⟩]
def p83_9 : List PO := [⟨(.some 12), (.mov (.tmp 5)), .none⟩, ⟨(.some 13), (.cmpI .lss (.tmp 12) (.const (.int .i64 0))), .none⟩, ⟨(.some 14), (.mov (.tmp 13)), .none⟩, ⟨(.some 15), (.mov (.tmp 5)), (.some (14, .false))⟩, ⟨(.some 16), (.cmpI .gtr (.tmp 15) (.const (.int .i64 1114111))), (.some (14, .false))⟩, ⟨(.some 17), (.pick (.tmp 14) (.const (.bool .true)) (.tmp 16)), .none⟩, ⟨(.some 18), (.mov (.tmp 17)), .none⟩, ⟨(.some 19), (.mov (.tmp 5)), (.some (18, .false))⟩, ⟨(.some 20), (.cmpI .geq (.tmp 19) (.const (.int .i64 55296))), (.some (18, .false))⟩, ⟨(.some 21), (.mov (.tmp 20)), (.some (18, .false))⟩, ⟨(.some 22), (.mov (.tmp 5)), (.some (21, .true))⟩, ⟨(.some 23), (.cmpI .leq (.tmp 22) (.const (.int .i64 57343))), (.some (21, .true))⟩, ⟨(.some 24), (.pick (.tmp 21) (.tmp 23) (.const (.bool .false))), (.some (18, .false))⟩, ⟨(.some 25), (.pick (.tmp 18) (.const (.bool .true)) (.tmp 24)), .none⟩]
def p83_10 : List PO := [⟨(.some 5), (.mov (.const (.int .i64 65533))), .none⟩]
def p83_11 : List PO := [⟨(.some 26), (.mov (.tmp 3)), .none⟩, ⟨(.some 27), (.mov (.tmp 5)), .none⟩, ⟨(.some 28), (.cvI .i32 (.tmp 27)), .none⟩, ⟨(.some 29), (.callr 91 [(.tmp 26), (.tmp 28)]), .none⟩, ⟨(.some 3), (.mov (.tmp 29)), .none⟩]
def p83_12 : List PO := [⟨(.some 30), (.arI .add (.tmp 8) (.const (.int .i64 1))), .none⟩, ⟨(.some 8), (.mov (.tmp 30)), .none⟩]
def c83_1 : PCode := (.keep [3, 6, 7, 8] [(32, .id 32)] [] (.seq (.block 1 (.seq (.reg p83_8) (.seq (.seq (.reg p83_9) (.cond (.tmp 25) (.reg p83_10) .skip)) (.reg p83_11)))) (.reg p83_12)))
def c83_2 : PCode := (.keep [3, 6, 7, 8, 9] [(32, .id 32)] [] (.seq (.cond (.tmp 9) .skip (.keep [3] [(32, .id 32)] [] (.exit 0))) c83_1))
def c83_3 : PCode := (.keep [3, 6, 7, 8] [(32, .id 32)] [] (.seq (.reg p83_7) c83_2))
def p83_13 : List PO := [⟨(.some 31), (.mov (.tmp 3)), .none⟩, ⟨(.some 32), (.cvBS (.tmp 31)), .none⟩, ⟨(.some 2), (.mov (.tmp 32)), .none⟩]
def c83_b : PCode := (.seq (.reg p83_4) (.seq (.reg p83_5) (.seq (.seq (.reg p83_6) (.block 0 (.loop c83_3))) (.seq (.reg p83_13) .ret))))
def c83 : FCode := ⟨33, c83_b, [(.tmp 2)], some ([2], [], []), false⟩
theorem c83_ok : compF Go.Proofs.Tryd.prog [54, 67, 68, 69, 71, 91, 96] 83 = some (eraseF c83) := by kernel_rfl
def p66_4 : List PO := [⟨(.some 4), (.mov (.const (.string ⟨#[]⟩))), .none⟩]
def p66_5 : List PO := [⟨(.some 5), (.mov (.tmp 1)), .none⟩, ⟨(.some 6), (.arI .and (.tmp 5) (.const (.int .i64 4))), .none⟩, ⟨(.some 7), (.cmpI .neq (.tmp 6) (.const (.int .i64 0))), .none⟩]
def p66_6 : List PO := [⟨(.some 9), (.mov (.tmp 0)), .none⟩, ⟨(.some 10), (.cmpI .geq (.tmp 9) (.const (.int .i64 64))), .none⟩, ⟨(.some 11), (.mov (.tmp 10)), .none⟩, ⟨(.some 12), (.mov (.tmp 0)), (.some (11, .true))⟩, ⟨(.some 13), (.cmpI .leq (.tmp 12) (.const (.int .i64 95))), (.some (11, .true))⟩, ⟨(.some 14), (.pick (.tmp 11) (.tmp 13) (.const (.bool .false))), .none⟩, ⟨(.some 15), (.mov (.tmp 14)), .none⟩, ⟨(.some 16), (.mov (.tmp 0)), (.some (15, .false))⟩, ⟨(.some 17), (.cmpI .geq (.tmp 16) (.const (.int .i64 97))), (.some (15, .false))⟩, ⟨(.some 18), (.mov (.tmp 17)), (.some (15, .false))⟩, ⟨(.some 19), (.mov (.tmp 0)), (.some (18, .true))⟩, ⟨(.some 20), (.cmpI .leq (.tmp 19) (.const (.int .i64 122))), (.some (18, .true))⟩, ⟨(.some 21), (.pick (.tmp 18) (.tmp 20) (.const (.bool .false))), (.some (15, .false))⟩, ⟨(.some 22), (.pick (.tmp 15) (.const (.bool .true)) (.tmp 21)), .none⟩, ⟨(.some 8), (.mov (.tmp 22)), .none⟩]
def p66_7 : List PO := [⟨(.some 23), (.mov (.tmp 0)), .none⟩, ⟨(.some 24), (.arI .and (.tmp 23) (.const (.int .i64 31))), .none⟩, ⟨(.some 0), (.mov (.tmp 24)), .none⟩]
def c66_1 : PCode := (.keep [0] [] [] (.reg p66_7))
def p66_8 : List PO := [⟨(.some 26), (.mov (.tmp 0)), .none⟩, ⟨(.some 27), (.cmpI .eql (.tmp 26) (.const (.int .i64 32))), .none⟩, ⟨(.some 25), (.mov (.tmp 27)), .none⟩]
def p66_9 : List PO := [⟨(.some 0), (.mov (.const (.int .i64 0))), .none⟩]
def p66_10 : List PO := [⟨(.some 29), (.mov (.tmp 0)), .none⟩, ⟨(.some 30), (.cmpI .eql (.tmp 29) (.const (.int .i64 63))), .none⟩, ⟨(.some 28), (.mov (.tmp 30)), .none⟩]
def p66_11 : List PO := [⟨(.some 0), (.mov (.const (.int .i64 127))), .none⟩]
def c66_3 : PCode := (.keep [0] [] [] (.seq (.reg p66_8) (.cond (.tmp 25) (.reg p66_9) (.seq (.reg p66_10) (.cond (.tmp 28) (.reg p66_11) .skip)))))
def p66_12 : List PO := [⟨(.some 31), (.mov (.tmp 0)), .none⟩, ⟨(.some 32), (.bsl 3 1 1 [(1, (.int .i64 0))] [(0, (1, (.tmp 31)))]), .none⟩, ⟨(.some 33), (.call 83 [(.tmp 32)]), .none⟩, ⟨(.some 4), (.mov (.tmp 33)), .none⟩]
def c66_2 : PCode := (.seq (.reg p66_12) .ret)
def c66_b : PCode := (.seq (.reg p66_4) (.seq (.seq (.reg p66_5) (.cond (.tmp 7) (.block 0 (.seq (.reg p66_6) (.cond (.tmp 8) c66_1 c66_3))) .skip)) c66_2))
def c66 : FCode := ⟨34, c66_b, [(.tmp 4)], some ([4], [], []), false⟩
theorem c66_ok : compF Go.Proofs.Tryd.prog [54, 67, 68, 69, 71, 91, 96] 66 = some (eraseF c66) := by kernel_rfl
def p52_4 : List PO := [⟨(.some 1), (.box 3 (.tmp 0)), .none⟩, ⟨(.some 2), (.mov (.const (.string ⟨#[]⟩))), .none⟩]
def p52_5 : List PO := [⟨(.some 4), (.fld 0 (.tmp 1)), .none⟩, ⟨(.some 5), (.load .false 1 (.tmp 4)), .none⟩, ⟨(.some 6), (.cmpI .eql (.tmp 5) (.const (.int .i64 23))), .none⟩, ⟨(.some 3), (.mov (.tmp 6)), .none⟩]
def p52_6 : List PO := [⟨(.some 2), (.mov (.const (.string ⟨#[13]⟩))), .none⟩]
def p52_7 : List PO := [⟨(.some 8), (.fld 0 (.tmp 1)), .none⟩, ⟨(.some 9), (.load .false 1 (.tmp 8)), .none⟩, ⟨(.some 10), (.cmpI .eql (.tmp 9) (.const (.int .i64 24))), .none⟩, ⟨(.some 11), (.mov (.tmp 10)), .none⟩, ⟨(.some 12), (.fld 2 (.tmp 1)), (.some (11, .true))⟩, ⟨(.some 13), (.load .false 1 (.tmp 12)), (.some (11, .true))⟩, ⟨(.some 14), (.arI .and (.tmp 13) (.const (.int .i64 1))), (.some (11, .true))⟩, ⟨(.some 15), (.cmpI .neq (.tmp 14) (.const (.int .i64 0))), (.some (11, .true))⟩, ⟨(.some 16), (.pick (.tmp 11) (.tmp 15) (.const (.bool .false))), .none⟩, ⟨(.some 7), (.mov (.tmp 16)), .none⟩]
def p52_8 : List PO := [⟨(.some 2), (.mov (.const (.string ⟨#[27, 91, 90]⟩))), .none⟩]
def p52_9 : List PO := [⟨(.some 18), (.fld 0 (.tmp 1)), .none⟩, ⟨(.some 19), (.load .false 1 (.tmp 18)), .none⟩, ⟨(.some 20), (.cmpI .eql (.tmp 19) (.const (.int .i64 24))), .none⟩, ⟨(.some 17), (.mov (.tmp 20)), .none⟩]
def p52_10 : List PO := [⟨(.some 2), (.mov (.const (.string ⟨#[9]⟩))), .none⟩]
def p52_11 : List PO := [⟨(.some 22), (.fld 0 (.tmp 1)), .none⟩, ⟨(.some 23), (.load .false 1 (.tmp 22)), .none⟩, ⟨(.some 24), (.cmpI .eql (.tmp 23) (.const (.int .i64 25))), .none⟩, ⟨(.some 25), (.mov (.tmp 24)), .none⟩, ⟨(.some 26), (.fld 2 (.tmp 1)), (.some (25, .true))⟩, ⟨(.some 27), (.load .false 1 (.tmp 26)), (.some (25, .true))⟩, ⟨(.some 28), (.arI .and (.tmp 27) (.const (.int .i64 4))), (.some (25, .true))⟩, ⟨(.some 29), (.cmpI .neq (.tmp 28) (.const (.int .i64 0))), (.some (25, .true))⟩, ⟨(.some 30), (.pick (.tmp 25) (.tmp 29) (.const (.bool .false))), .none⟩, ⟨(.some 21), (.mov (.tmp 30)), .none⟩]
def p52_12 : List PO := [⟨(.some 2), (.mov (.const (.string ⟨#[8]⟩))), .none⟩]
def p52_13 : List PO := [⟨(.some 32), (.fld 0 (.tmp 1)), .none⟩, ⟨(.some 33), (.load .false 1 (.tmp 32)), .none⟩, ⟨(.some 34), (.cmpI .eql (.tmp 33) (.const (.int .i64 25))), .none⟩, ⟨(.some 31), (.mov (.tmp 34)), .none⟩]
def p52_14 : List PO := [⟨(.some 2), (.mov (.const (.string ⟨#[127]⟩))), .none⟩]
def p52_15 : List PO := [⟨(.some 36), (.fld 0 (.tmp 1)), .none⟩, ⟨(.some 37), (.load .false 1 (.tmp 36)), .none⟩, ⟨(.some 38), (.cmpI .eql (.tmp 37) (.const (.int .i64 26))), .none⟩, ⟨(.some 35), (.mov (.tmp 38)), .none⟩]
def p52_16 : List PO := [⟨(.some 2), (.mov (.const (.string ⟨#[27]⟩))), .none⟩]
def c52_1 : PCode := (.keep [1] [(16, .id 16)] [] (.seq (.reg p52_13) (.cond (.tmp 31) (.seq (.reg p52_14) .ret) (.seq (.reg p52_15) (.cond (.tmp 35) (.seq (.reg p52_16) .ret) .skip)))))
def c52_3 : PCode := (.keep [1] [(16, .id 16)] [] (.seq (.reg p52_9) (.cond (.tmp 17) (.seq (.reg p52_10) .ret) (.seq (.reg p52_11) (.cond (.tmp 21) (.seq (.reg p52_12) .ret) c52_1)))))
def p52_17 : List PO := [⟨(.some 39), (.fld 1 (.tmp 1)), .none⟩, ⟨(.some 40), (.load .false 1 (.tmp 39)), .none⟩, ⟨(.some 41), (.fld 2 (.tmp 1)), .none⟩, ⟨(.some 42), (.load .false 1 (.tmp 41)), .none⟩, ⟨(.some 43), (.call 66 [(.tmp 40), (.tmp 42)]), .none⟩, ⟨(.some 2), (.mov (.tmp 43)), .none⟩]
def c52_2 : PCode := (.seq (.reg p52_17) .ret)
def c52_b : PCode := (.seq (.reg p52_4) (.seq (.block 0 (.seq (.reg p52_5) (.cond (.tmp 3) (.seq (.reg p52_6) .ret) (.seq (.reg p52_7) (.cond (.tmp 7) (.seq (.reg p52_8) .ret) c52_3))))) c52_2))
def c52 : FCode := ⟨44, c52_b, [(.tmp 2)], some ([2], [], []), false⟩
theorem c52_ok : compF Go.Proofs.Tryd.prog [54, 67, 68, 69, 71, 91, 96] 52 = some (eraseF c52) := by kernel_rfl
def p22_8 : List PO := [⟨(.some 2), (.box 3 (.tmp 0)), .none⟩, ⟨(.some 4), (.mov (.const (.string ⟨#[]⟩))), .none⟩, ⟨(.some 5), (.mov (.const (.int .i64 0))), .none⟩]
def p22_9 : List PO := [⟨(.some 9), (.fld 2 (.tmp 2)), .none⟩, ⟨(.some 10), (.load .false 1 (.tmp 9)), .none⟩, ⟨(.some 11), (.cmpI .lss (.tmp 10) (.const (.int .i64 0))), .none⟩, ⟨(.some 12), (.mov (.tmp 11)), .none⟩, ⟨(.some 13), (.fld 2 (.tmp 2)), (.some (12, .false))⟩, ⟨(.some 14), (.load .false 1 (.tmp 13)), (.some (12, .false))⟩, ⟨(.some 15), (.cmpI .gtr (.tmp 14) (.const (.int .i64 7))), (.some (12, .false))⟩, ⟨(.some 16), (.pick (.tmp 12) (.const (.bool .true)) (.tmp 15)), .none⟩, ⟨(.some 17), (.mov (.tmp 16)), .none⟩, ⟨(.some 18), (.fld 0 (.tmp 2)), (.some (17, .false))⟩, ⟨(.some 19), (.load .false 1 (.tmp 18)), (.some (17, .false))⟩, ⟨(.some 20), (.cmpI .lss (.tmp 19) (.const (.int .i64 0))), (.some (17, .false))⟩, ⟨(.some 21), (.pick (.tmp 17) (.const (.bool .true)) (.tmp 20)), .none⟩, ⟨(.some 22), (.mov (.tmp 21)), .none⟩, ⟨(.some 23), (.fld 0 (.tmp 2)), (.some (22, .false))⟩, ⟨(.some 24), (.load .false 1 (.tmp 23)), (.some (22, .false))⟩, ⟨(.some 25), (.cmpI .gtr (.tmp 24) (.const (.int .i64 26))), (.some (22, .false))⟩, ⟨(.some 26), (.pick (.tmp 22) (.const (.bool .true)) (.tmp 25)), .none⟩, ⟨(.some 27), (.mov (.tmp 26)), .none⟩, ⟨(.some 28), (.fld 0 (.tmp 2)), (.some (27, .false))⟩, ⟨(.some 29), (.load .false 1 (.tmp 28)), (.some (27, .false))⟩, ⟨(.some 30), (.cmpI .eql (.tmp 29) (.const (.int .i64 0))), (.some (27, .false))⟩, ⟨(.some 31), (.mov (.tmp 30)), (.some (27, .false))⟩, ⟨(.some 32), (.fld 1 (.tmp 2)), (.some (31, .true))⟩, ⟨(.some 33), (.load .false 1 (.tmp 32)), (.some (31, .true))⟩, ⟨(.some 34), (.call 49 [(.tmp 33)]), (.some (31, .true))⟩, ⟨(.some 35), (.un .not (.tmp 34)), (.some (31, .true))⟩, ⟨(.some 36), (.pick (.tmp 31) (.tmp 35) (.const (.bool .false))), (.some (27, .false))⟩, ⟨(.some 37), (.pick (.tmp 27) (.const (.bool .true)) (.tmp 36)), .none⟩, ⟨(.some 38), (.mov (.tmp 37)), .none⟩, ⟨(.some 39), (.fld 0 (.tmp 2)), (.some (38, .false))⟩, ⟨(.some 40), (.load .false 1 (.tmp 39)), (.some (38, .false))⟩, ⟨(.some 41), (.cmpI .neq (.tmp 40) (.const (.int .i64 0))), (.some (38, .false))⟩, ⟨(.some 42), (.mov (.tmp 41)), (.some (38, .false))⟩, ⟨(.some 43), (.fld 1 (.tmp 2)), (.some (42, .true))⟩, ⟨(.some 44), (.load .false 1 (.tmp 43)), (.some (42, .true))⟩, ⟨(.some 45), (.cmpI .neq (.tmp 44) (.const (.int .i64 0))), (.some (42, .true))⟩, ⟨(.some 46), (.pick (.tmp 42) (.tmp 45) (.const (.bool .false))), (.some (38, .false))⟩, ⟨(.some 47), (.pick (.tmp 38) (.const (.bool .true)) (.tmp 46)), .none⟩]
def p22_10 : List PO := [⟨(.some 4), (.mov (.const (.string ⟨#[]⟩))), .none⟩, ⟨(.some 5), (.mov (.const (.int .i64 1))), .none⟩]
def p22_11 : List PO := [⟨(.some 48), (.fld 0 (.tmp 2)), .none⟩, ⟨(.some 49), (.load .false 1 (.tmp 48)), .none⟩, ⟨(.some 6), (.mov (.tmp 49)), .none⟩]
def p22_12 : List PO := [⟨(.some 51), (.mov (.tmp 6)), .none⟩, ⟨(.some 52), (.cmpI .geq (.tmp 51) (.const (.int .i64 1))), .none⟩, ⟨(.some 53), (.mov (.tmp 52)), .none⟩, ⟨(.some 54), (.mov (.tmp 6)), (.some (53, .true))⟩, ⟨(.some 55), (.cmpI .leq (.tmp 54) (.const (.int .i64 6))), (.some (53, .true))⟩, ⟨(.some 56), (.pick (.tmp 53) (.tmp 55) (.const (.bool .false))), .none⟩, ⟨(.some 50), (.mov (.tmp 56)), .none⟩]
def p22_13 : List PO := [⟨(.some 7), (.mov (.const (.string ⟨#[91]⟩))), .none⟩]
def p22_14 : List PO := [⟨(.some 57), (.mov (.tmp 1)), .none⟩, ⟨(.some 58), (.arI .and (.tmp 57) (.const (.int .i64 16))), .none⟩, ⟨(.some 59), (.cmpI .neq (.tmp 58) (.const (.int .i64 0))), .none⟩]
def p22_15 : List PO := [⟨(.some 7), (.mov (.const (.string ⟨#[79]⟩))), .none⟩]
def p22_16 : List PO := [⟨(.some 60), (.mov (.tmp 7)), .none⟩, ⟨(.some 61), (.mov (.tmp 6)), .none⟩, ⟨(.some 62), (.arI .sub (.tmp 61) (.const (.int .i64 1))), .none⟩, ⟨(.some 63), (.ixStr (.const (.string ⟨#[65, 66, 67, 68, 72, 70]⟩)) (.tmp 62)), .none⟩, ⟨(.some 64), (.fld 2 (.tmp 2)), .none⟩, ⟨(.some 65), (.load .false 1 (.tmp 64)), .none⟩, ⟨(.some 66), (.call 50 [(.tmp 60), (.tmp 63), (.tmp 65)]), .none⟩, ⟨(.some 4), (.mov (.tmp 66)), .none⟩, ⟨(.some 5), (.mov (.const (.int .i64 0))), .none⟩]
def c22_6 : PCode := (.keep [2, 6, 7] [(24, .id 24)] [] (.seq (.regD p22_16 []) .ret))
def p22_17 : List PO := [⟨(.some 68), (.mov (.tmp 6)), .none⟩, ⟨(.some 69), (.cmpI .geq (.tmp 68) (.const (.int .i64 7))), .none⟩, ⟨(.some 70), (.mov (.tmp 69)), .none⟩, ⟨(.some 71), (.mov (.tmp 6)), (.some (70, .true))⟩, ⟨(.some 72), (.cmpI .leq (.tmp 71) (.const (.int .i64 10))), (.some (70, .true))⟩, ⟨(.some 73), (.pick (.tmp 70) (.tmp 72) (.const (.bool .false))), .none⟩, ⟨(.some 67), (.mov (.tmp 73)), .none⟩]
def p22_18 : List PO := [⟨(.some 74), (.build [(4, (.int .i64 0))] [(0, (1, (.const (.int .i64 2)))), (1, (1, (.const (.int .i64 3)))), (2, (1, (.const (.int .i64 5)))), (3, (1, (.const (.int .i64 6))))]), .none⟩, ⟨(.some 75), (.mov (.tmp 6)), .none⟩, ⟨(.some 76), (.arI .sub (.tmp 75) (.const (.int .i64 7))), .none⟩, ⟨(.some 77), (.ixV .false 4 1 (.tmp 74) (.tmp 76)), .none⟩, ⟨(.some 78), (.fld 2 (.tmp 2)), .none⟩, ⟨(.some 79), (.load .false 1 (.tmp 78)), .none⟩, ⟨(.some 80), (.call 51 [(.tmp 77), (.tmp 79)]), .none⟩, ⟨(.some 4), (.mov (.tmp 80)), .none⟩, ⟨(.some 5), (.mov (.const (.int .i64 0))), .none⟩]
def p22_19 : List PO := [⟨(.some 82), (.mov (.tmp 6)), .none⟩, ⟨(.some 83), (.cmpI .geq (.tmp 82) (.const (.int .i64 11))), .none⟩, ⟨(.some 84), (.mov (.tmp 83)), .none⟩, ⟨(.some 85), (.mov (.tmp 6)), (.some (84, .true))⟩, ⟨(.some 86), (.cmpI .leq (.tmp 85) (.const (.int .i64 14))), (.some (84, .true))⟩, ⟨(.some 87), (.pick (.tmp 84) (.tmp 86) (.const (.bool .false))), .none⟩, ⟨(.some 81), (.mov (.tmp 87)), .none⟩]
def p22_20 : List PO := [⟨(.some 88), (.mov (.tmp 6)), .none⟩, ⟨(.some 89), (.arI .sub (.tmp 88) (.const (.int .i64 11))), .none⟩, ⟨(.some 90), (.ixStr (.const (.string ⟨#[80, 81, 82, 83]⟩)) (.tmp 89)), .none⟩, ⟨(.some 91), (.fld 2 (.tmp 2)), .none⟩, ⟨(.some 92), (.load .false 1 (.tmp 91)), .none⟩, ⟨(.some 93), (.call 50 [(.const (.string ⟨#[79]⟩)), (.tmp 90), (.tmp 92)]), .none⟩, ⟨(.some 4), (.mov (.tmp 93)), .none⟩, ⟨(.some 5), (.mov (.const (.int .i64 0))), .none⟩]
def p22_21 : List PO := [⟨(.some 95), (.mov (.tmp 6)), .none⟩, ⟨(.some 96), (.cmpI .gtr (.tmp 95) (.const (.int .i64 14))), .none⟩, ⟨(.some 97), (.mov (.tmp 96)), .none⟩, ⟨(.some 98), (.mov (.tmp 6)), (.some (97, .true))⟩, ⟨(.some 99), (.cmpI .lss (.tmp 98) (.const (.int .i64 23))), (.some (97, .true))⟩, ⟨(.some 100), (.pick (.tmp 97) (.tmp 99) (.const (.bool .false))), .none⟩, ⟨(.some 94), (.mov (.tmp 100)), .none⟩]
def p22_22 : List PO := [⟨(.some 101), (.build [(8, (.int .i64 0))] [(0, (1, (.const (.int .i64 15)))), (1, (1, (.const (.int .i64 17)))), (2, (1, (.const (.int .i64 18)))), (3, (1, (.const (.int .i64 19)))), (4, (1, (.const (.int .i64 20)))), (5, (1, (.const (.int .i64 21)))), (6, (1, (.const (.int .i64 23)))), (7, (1, (.const (.int .i64 24))))]), .none⟩, ⟨(.some 102), (.mov (.tmp 6)), .none⟩, ⟨(.some 103), (.arI .sub (.tmp 102) (.const (.int .i64 11))), .none⟩, ⟨(.some 104), (.arI .sub (.tmp 103) (.const (.int .i64 4))), .none⟩, ⟨(.some 105), (.ixV .false 8 1 (.tmp 101) (.tmp 104)), .none⟩, ⟨(.some 106), (.fld 2 (.tmp 2)), .none⟩, ⟨(.some 107), (.load .false 1 (.tmp 106)), .none⟩, ⟨(.some 108), (.call 51 [(.tmp 105), (.tmp 107)]), .none⟩, ⟨(.some 4), (.mov (.tmp 108)), .none⟩, ⟨(.some 5), (.mov (.const (.int .i64 0))), .none⟩]
def c22_2 : PCode := (.keep [2] [(24, .id 24)] [] .skip)
def c22_3 : PCode := (.keep [2, 6] [(24, .id 24)] [] (.seq (.reg p22_21) (.cond (.tmp 94) (.seq (.regD p22_22 []) .ret) c22_2)))
def c22_4 : PCode := (.keep [2, 6] [(24, .id 24)] [] (.seq (.reg p22_19) (.cond (.tmp 81) (.seq (.regD p22_20 []) .ret) c22_3)))
def c22_5 : PCode := (.keep [2, 6] [(24, .id 24)] [] (.seq (.reg p22_17) (.cond (.tmp 67) (.seq (.regD p22_18 []) .ret) c22_4)))
def p22_23 : List PO := [⟨(.some 109), (.load .true 3 (.tmp 2)), .none⟩, ⟨(.some 110), (.call 52 [(.tmp 109)]), .none⟩, ⟨(.some 8), (.mov (.tmp 110)), .none⟩]
def p22_24 : List PO := [⟨(.some 111), (.fld 2 (.tmp 2)), .none⟩, ⟨(.some 112), (.load .false 1 (.tmp 111)), .none⟩, ⟨(.some 113), (.arI .and (.tmp 112) (.const (.int .i64 2))), .none⟩, ⟨(.some 114), (.cmpI .neq (.tmp 113) (.const (.int .i64 0))), .none⟩]
def p22_25 : List PO := [⟨(.some 115), (.mov (.tmp 8)), .none⟩, ⟨(.some 116), (.strO .add (.const (.string ⟨#[27]⟩)) (.tmp 115)), .none⟩, ⟨(.some 8), (.mov (.tmp 116)), .none⟩]
def p22_26 : List PO := [⟨(.some 117), (.mov (.tmp 8)), .none⟩, ⟨(.some 4), (.mov (.tmp 117)), .none⟩, ⟨(.some 5), (.mov (.const (.int .i64 0))), .none⟩]
def c22_1 : PCode := (.keep [2] [(24, .id 24)] [] (.seq (.reg p22_23) (.seq (.seq (.reg p22_24) (.cond (.tmp 114) (.reg p22_25) .skip)) (.seq (.reg p22_26) .ret))))
def c22_7 : PCode := (.keep [1, 2] [(24, .id 24)] [] (.seq (.reg p22_11) (.seq (.block 0 (.seq (.reg p22_12) (.cond (.tmp 50) (.seq (.reg p22_13) (.seq (.seq (.reg p22_14) (.cond (.tmp 59) (.reg p22_15) .skip)) c22_6)) c22_5))) c22_1)))
def c22_b : PCode := (.seq (.reg p22_8) (.seq (.seq (.reg p22_9) (.cond (.tmp 47) (.seq (.reg p22_10) .ret) .skip)) c22_7))
def c22 : FCode := ⟨118, c22_b, [(.tmp 4), (.tmp 5)], some ([4, 5], [], []), false⟩
theorem c22_ok : compF Go.Proofs.Tryd.prog [54, 67, 68, 69, 71, 91, 96] 22 = some (eraseF c22) := by kernel_rfl
def p23_1 : List PO := [⟨(.some 0), (.mov (.const (.bool .false))), .none⟩]
def p23_2 : List PO := [⟨(.some 4), (.build [(3, (.int .i64 0))] [(0, (1, (.const (.int .i64 1)))), (2, (1, (.const (.int .i64 4))))]), .none⟩, ⟨(.some 5), (.call 22 [(.tmp 4), (.const (.int .i64 0))]), .none⟩, ⟨(.some 3), (.mov (.tmp 5)), .none⟩, ⟨(.some 6), (.ext (.tmp 3) 0), .none⟩, ⟨(.some 7), (.ext (.tmp 3) 1), .none⟩, ⟨(.some 1), (.mov (.tmp 6)), .none⟩, ⟨(.some 2), (.mov (.tmp 7)), .none⟩]
def p23_3 : List PO := [⟨(.some 8), (.mov (.tmp 2)), .none⟩, ⟨(.some 9), (.cmpI .eql (.tmp 8) (.const (.int .i64 0))), .none⟩, ⟨(.some 10), (.mov (.tmp 9)), .none⟩, ⟨(.some 11), (.mov (.tmp 1)), (.some (10, .true))⟩, ⟨(.some 12), (.strO .eql (.tmp 11) (.const (.string ⟨#[27, 91, 49, 59, 53, 65]⟩))), (.some (10, .true))⟩, ⟨(.some 13), (.pick (.tmp 10) (.tmp 12) (.const (.bool .false))), .none⟩, ⟨(.some 0), (.mov (.tmp 13)), .none⟩]
def c23_b : PCode := (.seq (.reg p23_1) (.seq (.reg p23_2) (.seq (.reg p23_3) .ret)))
def c23 : FCode := ⟨14, c23_b, [(.tmp 0)], some ([0], [], []), false⟩
theorem c23_ok : compF Go.Proofs.Tryd.prog [54, 67, 68, 69, 71, 91, 96] 23 = some (eraseF c23) := by kernel_rfl
def p6_4 : List PO := [⟨(.some 2), (.box 3 (.tmp 0)), .none⟩, ⟨(.some 4), (.mov (.const (.bool .false))), .none⟩]
def p6_5 : List PO := [⟨(.some 9), (.fld 2 (.tmp 2)), .none⟩, ⟨(.some 10), (.load .false 1 (.tmp 9)), .none⟩, ⟨(.some 11), (.arI .and (.tmp 10) (.const (.int .i64 5))), .none⟩, ⟨(.some 12), (.fld 2 (.tmp 2)), .none⟩, ⟨.none, (.store 1 (.tmp 12) (.tmp 11)), .none⟩]
def p6_6 : List PO := [⟨(.some 14), (.load .true 3 (.tmp 2)), .none⟩, ⟨(.some 15), (.mov (.tmp 1)), .none⟩, ⟨(.some 16), (.call 22 [(.tmp 14), (.tmp 15)]), .none⟩, ⟨(.some 13), (.mov (.tmp 16)), .none⟩, ⟨(.some 17), (.ext (.tmp 13) 0), .none⟩, ⟨(.some 18), (.ext (.tmp 13) 1), .none⟩, ⟨(.some 5), (.mov (.tmp 17)), .none⟩, ⟨(.some 6), (.mov (.tmp 18)), .none⟩]
def p6_7 : List PO := [⟨(.some 19), (.fld 2 (.tmp 2)), .none⟩, ⟨(.some 20), (.load .false 1 (.tmp 19)), .none⟩, ⟨(.some 21), (.arI .or (.tmp 20) (.const (.int .i64 2))), .none⟩, ⟨(.some 22), (.fld 2 (.tmp 2)), .none⟩, ⟨.none, (.store 1 (.tmp 22) (.tmp 21)), .none⟩]
def p6_8 : List PO := [⟨(.some 24), (.load .true 3 (.tmp 2)), .none⟩, ⟨(.some 25), (.mov (.tmp 1)), .none⟩, ⟨(.some 26), (.call 22 [(.tmp 24), (.tmp 25)]), .none⟩, ⟨(.some 23), (.mov (.tmp 26)), .none⟩, ⟨(.some 27), (.ext (.tmp 23) 0), .none⟩, ⟨(.some 28), (.ext (.tmp 23) 1), .none⟩, ⟨(.some 7), (.mov (.tmp 27)), .none⟩, ⟨(.some 8), (.mov (.tmp 28)), .none⟩]
def p6_9 : List PO := [⟨(.some 29), (.call 23 []), .none⟩, ⟨(.some 30), (.un .not (.tmp 29)), .none⟩, ⟨(.some 31), (.mov (.tmp 30)), .none⟩, ⟨(.some 32), (.mov (.tmp 6)), (.some (31, .false))⟩, ⟨(.some 33), (.cmpI .neq (.tmp 32) (.const (.int .i64 0))), (.some (31, .false))⟩, ⟨(.some 34), (.pick (.tmp 31) (.const (.bool .true)) (.tmp 33)), .none⟩, ⟨(.some 35), (.mov (.tmp 34)), .none⟩, ⟨(.some 36), (.fld 0 (.tmp 2)), (.some (35, .false))⟩, ⟨(.some 37), (.load .false 1 (.tmp 36)), (.some (35, .false))⟩, ⟨(.some 38), (.cmpI .gtr (.tmp 37) (.const (.int .i64 0))), (.some (35, .false))⟩, ⟨(.some 39), (.mov (.tmp 38)), (.some (35, .false))⟩, ⟨(.some 40), (.fld 0 (.tmp 2)), (.some (39, .true))⟩, ⟨(.some 41), (.load .false 1 (.tmp 40)), (.some (39, .true))⟩, ⟨(.some 42), (.cmpI .lss (.tmp 41) (.const (.int .i64 23))), (.some (39, .true))⟩, ⟨(.some 43), (.pick (.tmp 39) (.tmp 42) (.const (.bool .false))), (.some (35, .false))⟩, ⟨(.some 44), (.pick (.tmp 35) (.const (.bool .true)) (.tmp 43)), .none⟩]
def p6_10 : List PO := [⟨(.some 45), (.call 23 []), .none⟩, ⟨(.some 46), (.mov (.tmp 45)), .none⟩, ⟨(.some 47), (.mov (.tmp 6)), (.some (46, .true))⟩, ⟨(.some 48), (.mov (.tmp 8)), (.some (46, .true))⟩, ⟨(.some 49), (.cmpI .eql (.tmp 47) (.tmp 48)), (.some (46, .true))⟩, ⟨(.some 50), (.pick (.tmp 46) (.tmp 49) (.const (.bool .false))), .none⟩, ⟨(.some 4), (.mov (.tmp 50)), .none⟩]
def c6_2 : PCode := (.keep [6, 8] [] [] (.seq (.reg p6_10) .ret))
def c6_3 : PCode := (.keep [5, 7, 8] [] [] .skip)
def p6_11 : List PO := [⟨(.some 51), (.mov (.tmp 8)), .none⟩, ⟨(.some 52), (.cmpI .eql (.tmp 51) (.const (.int .i64 0))), .none⟩, ⟨(.some 53), (.mov (.tmp 52)), .none⟩, ⟨(.some 54), (.mov (.tmp 7)), (.some (53, .true))⟩, ⟨(.some 55), (.mov (.tmp 5)), (.some (53, .true))⟩, ⟨(.some 56), (.strO .add (.const (.string ⟨#[27]⟩)) (.tmp 55)), (.some (53, .true))⟩, ⟨(.some 57), (.strO .eql (.tmp 54) (.tmp 56)), (.some (53, .true))⟩, ⟨(.some 58), (.pick (.tmp 53) (.tmp 57) (.const (.bool .false))), .none⟩, ⟨(.some 4), (.mov (.tmp 58)), .none⟩]
def c6_1 : PCode := (.keep [5, 7, 8] [] [] (.seq (.reg p6_11) .ret))
def c6_b : PCode := (.seq (.reg p6_4) (.seq (.reg p6_5) (.seq (.reg p6_6) (.seq (.reg p6_7) (.seq (.reg p6_8) (.seq (.seq (.reg p6_9) (.cond (.tmp 44) c6_2 c6_3)) c6_1))))))
def c6 : FCode := ⟨59, c6_b, [(.tmp 4)], some ([4], [], []), false⟩
theorem c6_ok : compF Go.Proofs.Tryd.prog [54, 67, 68, 69, 71, 91, 96] 6 = some (eraseF c6) := by kernel_rfl
def p5_2 : List PO := [⟨(.some 10), (.mov (.const (.bool .false))), .none⟩]
def p5_3 : List PO := [⟨(.some 16), (.mov (.tmp 0)), .none⟩, ⟨(.some 17), (.mov (.tmp 2)), .none⟩, ⟨(.some 18), (.build [(3, (.int .i64 0))] [(0, (1, (.tmp 16))), (2, (1, (.tmp 17)))]), .none⟩, ⟨(.some 19), (.mov (.tmp 4)), .none⟩, ⟨(.some 20), (.call 22 [(.tmp 18), (.tmp 19)]), .none⟩, ⟨(.some 15), (.mov (.tmp 20)), .none⟩, ⟨(.some 21), (.ext (.tmp 15) 0), .none⟩, ⟨(.some 22), (.ext (.tmp 15) 1), .none⟩, ⟨(.some 11), (.mov (.tmp 21)), .none⟩, ⟨(.some 12), (.mov (.tmp 22)), .none⟩]
def p5_4 : List PO := [⟨(.some 24), (.mov (.tmp 1)), .none⟩, ⟨(.some 25), (.mov (.tmp 3)), .none⟩, ⟨(.some 26), (.build [(3, (.int .i64 0))] [(0, (1, (.tmp 24))), (2, (1, (.tmp 25)))]), .none⟩, ⟨(.some 27), (.mov (.tmp 4)), .none⟩, ⟨(.some 28), (.call 22 [(.tmp 26), (.tmp 27)]), .none⟩, ⟨(.some 23), (.mov (.tmp 28)), .none⟩, ⟨(.some 29), (.ext (.tmp 23) 0), .none⟩, ⟨(.some 30), (.ext (.tmp 23) 1), .none⟩, ⟨(.some 13), (.mov (.tmp 29)), .none⟩, ⟨(.some 14), (.mov (.tmp 30)), .none⟩]
def p5_5 : List PO := [⟨(.some 31), (.call 23 []), .none⟩, ⟨(.some 32), (.un .not (.tmp 31)), .none⟩, ⟨(.some 33), (.mov (.tmp 32)), .none⟩, ⟨(.some 34), (.mov (.tmp 12)), (.some (33, .false))⟩, ⟨(.some 35), (.cmpI .neq (.tmp 34) (.const (.int .i64 0))), (.some (33, .false))⟩, ⟨(.some 36), (.pick (.tmp 33) (.const (.bool .true)) (.tmp 35)), .none⟩, ⟨(.some 37), (.mov (.tmp 36)), .none⟩, ⟨(.some 38), (.mov (.tmp 14)), (.some (37, .false))⟩, ⟨(.some 39), (.cmpI .neq (.tmp 38) (.const (.int .i64 0))), (.some (37, .false))⟩, ⟨(.some 40), (.pick (.tmp 37) (.const (.bool .true)) (.tmp 39)), .none⟩, ⟨(.some 41), (.mov (.tmp 40)), .none⟩, ⟨(.some 42), (.mov (.tmp 0)), (.some (41, .false))⟩, ⟨(.some 43), (.mov (.tmp 1)), (.some (41, .false))⟩, ⟨(.some 44), (.mn [(.tmp 42), (.tmp 43)]), (.some (41, .false))⟩, ⟨(.some 45), (.cmpI .lss (.tmp 44) (.const (.int .i64 1))), (.some (41, .false))⟩, ⟨(.some 46), (.pick (.tmp 41) (.const (.bool .true)) (.tmp 45)), .none⟩, ⟨(.some 47), (.mov (.tmp 46)), .none⟩, ⟨(.some 48), (.mov (.tmp 0)), (.some (47, .false))⟩, ⟨(.some 49), (.mov (.tmp 1)), (.some (47, .false))⟩, ⟨(.some 50), (.mx [(.tmp 48), (.tmp 49)]), (.some (47, .false))⟩, ⟨(.some 51), (.cmpI .gtr (.tmp 50) (.const (.int .i64 22))), (.some (47, .false))⟩, ⟨(.some 52), (.pick (.tmp 47) (.const (.bool .true)) (.tmp 51)), .none⟩]
def p5_6 : List PO := [⟨(.some 53), (.call 23 []), .none⟩, ⟨(.some 10), (.mov (.tmp 53)), .none⟩]
def p5_7 : List PO := [⟨(.some 54), (.mov (.tmp 11)), .none⟩, ⟨(.some 55), (.mov (.tmp 13)), .none⟩, ⟨(.some 56), (.strO .eql (.tmp 54) (.tmp 55)), .none⟩, ⟨(.some 57), (.mov (.tmp 0)), .none⟩, ⟨(.some 58), (.mov (.tmp 1)), .none⟩, ⟨(.some 59), (.cmpI .eql (.tmp 57) (.tmp 58)), .none⟩, ⟨(.some 60), (.mov (.tmp 59)), .none⟩, ⟨(.some 61), (.mov (.tmp 2)), (.some (60, .true))⟩, ⟨(.some 62), (.mov (.tmp 3)), (.some (60, .true))⟩, ⟨(.some 63), (.cmpI .eql (.tmp 61) (.tmp 62)), (.some (60, .true))⟩, ⟨(.some 64), (.pick (.tmp 60) (.tmp 63) (.const (.bool .false))), .none⟩, ⟨(.some 65), (.eqB .false (.tmp 56) (.tmp 64)), .none⟩, ⟨(.some 10), (.mov (.tmp 65)), .none⟩]
def c5_1 : PCode := (.keep [0, 1, 2, 3, 11, 13] [] [] (.seq (.reg p5_7) .ret))
def c5_b : PCode := (.seq (.reg p5_2) (.seq (.reg p5_3) (.seq (.reg p5_4) (.seq (.seq (.reg p5_5) (.cond (.tmp 52) (.seq (.reg p5_6) .ret) .skip)) c5_1))))
def c5 : FCode := ⟨66, c5_b, [(.tmp 10)], some ([10], [], []), false⟩
theorem c5_ok : compF Go.Proofs.Tryd.prog [54, 67, 68, 69, 71, 91, 96] 5 = some (eraseF c5) := by kernel_rfl
def codes : Nat → Option FCode
  | 5 => some c5
  | 6 => some c6
  | 22 => some c22
  | 23 => some c23
  | 49 => some c49
  | 50 => some c50
  | 51 => some c51
  | 52 => some c52
  | 66 => some c66
  | 83 => some c83
  | 91 => some c91
  | 96 => some c96
  | _ => none
theorem codes_ok : ∀ f fc, codes f = some fc → compF Go.Proofs.Tryd.prog [54, 67, 68, 69, 71, 91, 96] f = some (eraseF fc) := by
  intro f fc h
  unfold codes at h
  split at h
  · cases h; exact c5_ok
  · cases h; exact c6_ok
  · cases h; exact c22_ok
  · cases h; exact c23_ok
  · cases h; exact c49_ok
  · cases h; exact c50_ok
  · cases h; exact c51_ok
  · cases h; exact c52_ok
  · cases h; exact c66_ok
  · cases h; exact c83_ok
  · cases h; exact c91_ok
  · cases h; exact c96_ok
  · cases h
theorem codes5 : codes 5 = some c5 := rfl
theorem codes6 : codes 6 = some c6 := rfl
theorem codes22 : codes 22 = some c22 := rfl
theorem codes23 : codes 23 = some c23 := rfl
theorem codes49 : codes 49 = some c49 := rfl
theorem codes50 : codes 50 = some c50 := rfl
theorem codes51 : codes 51 = some c51 := rfl
theorem codes52 : codes 52 = some c52 := rfl
theorem codes66 : codes 66 = some c66 := rfl
theorem codes83 : codes 83 = some c83 := rfl
theorem codes91 : codes 91 = some c91 := rfl
theorem codes96 : codes 96 = some c96 := rfl
noncomputable def libs : List (Nat × (List PV → Option PD)) := [(65, oiS libItoa)]
noncomputable abbrev baseL : Orc := libO libs
end Go.Proofs.YtanhpibphkblnaaDoor.Pm
