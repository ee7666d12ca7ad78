/- The small machine's codes of some functions. Printed by dec.py. -/
import Derived.Test.YtjapcjeijpcpiaaPa
import Derived.Test.YtjapcjeijpcpiaaProg
namespace Go.Proofs.Ytjapcjeijpcpiaa.Pm
set_option maxRecDepth 1000000
set_option maxHeartbeats 20000000
set_option linter.unusedVariables false
structure GPen where
  Flags : Int
  Fore : Int
  Back : Int
structure GCell where
  Rune : Int
  Pen : GPen
structure GGrid where
  Wide : Int
  High : Int
  Cells : List GCell
def e_GPen : Enc GPen := ⟨3, fun x => [.int .i64 x.Flags, .int .i64 x.Fore, .int .i64 x.Back], fun _ => rfl⟩
def e_GCell : Enc GCell := ⟨4, fun x => [.int .i64 x.Rune, .int .i64 x.Pen.Flags, .int .i64 x.Pen.Fore, .int .i64 x.Pen.Back], fun _ => rfl⟩
def e_A60 : Enc (Int × Int) := ⟨2, fun x => [.int .i64 x.1, .int .i64 x.2], fun _ => rfl⟩
def e_GGrid : Enc GGrid := ⟨3, fun x => [.int .i64 x.Wide, .int .i64 x.High, .sl x.Cells.length (e_GCell.cells x.Cells)], fun _ => rfl⟩
def p17_1 : List PO := [⟨(.some 4), (.mov (.const (.int .i64 0))), .none⟩]
def p17_2 : List PO := [⟨(.some 5), (.mov (.tmp 0)), .none⟩, ⟨(.some 6), (.cmpI .lss (.tmp 5) (.const (.int .i64 1))), .none⟩, ⟨(.some 7), (.mov (.tmp 6)), .none⟩, ⟨(.some 8), (.mov (.tmp 0)), (.some (7, .false))⟩, ⟨(.some 9), (.cmpI .gtr (.tmp 8) (.const (.int .i64 160))), (.some (7, .false))⟩, ⟨(.some 10), (.pick (.tmp 7) (.const (.bool .true)) (.tmp 9)), .none⟩, ⟨(.some 11), (.mov (.tmp 10)), .none⟩, ⟨(.some 12), (.mov (.tmp 1)), (.some (11, .false))⟩, ⟨(.some 13), (.cmpI .lss (.tmp 12) (.const (.int .i64 1))), (.some (11, .false))⟩, ⟨(.some 14), (.pick (.tmp 11) (.const (.bool .true)) (.tmp 13)), .none⟩, ⟨(.some 15), (.mov (.tmp 14)), .none⟩, ⟨(.some 16), (.mov (.tmp 1)), (.some (15, .false))⟩, ⟨(.some 17), (.cmpI .gtr (.tmp 16) (.const (.int .i64 60))), (.some (15, .false))⟩, ⟨(.some 18), (.pick (.tmp 15) (.const (.bool .true)) (.tmp 17)), .none⟩]
def p17_3 : List PO := [⟨(.some 4), (.mov (.const (.int .i64 1))), .none⟩]
def p17_4 : List PO := [⟨(.some 4), (.mov (.const (.int .i64 0))), .none⟩]
def c17_b : PCode := (.seq (.reg p17_1) (.seq (.seq (.reg p17_2) (.cond (.tmp 18) (.seq (.reg p17_3) .ret) .skip)) (.seq (.reg p17_4) .ret)))
def c17 : FCode := ⟨19, c17_b, [(.tmp 4)], some ([4], [], []), false⟩
theorem c17_ok : compF Go.Proofs.Try.prog [100007, 100008, 100009, 100011, 100012, 18, 100022, 23, 25, 27, 28, 29, 38, 39, 40] 17 = some (eraseF c17) := by kernel_rfl
def p32_1 : List PO := [⟨(.some 2), (.mov (.const (.bool .false))), .none⟩]
def p32_2 : List PO := [⟨(.some 3), (.mov (.tmp 0)), .none⟩, ⟨(.some 4), (.cmpI .geq (.tmp 3) (.const (.int .i64 0))), .none⟩, ⟨(.some 5), (.mov (.tmp 4)), .none⟩, ⟨(.some 6), (.mov (.tmp 0)), (.some (5, .true))⟩, ⟨(.some 7), (.cmpI .leq (.tmp 6) (.const (.int .i64 256))), (.some (5, .true))⟩, ⟨(.some 8), (.pick (.tmp 5) (.tmp 7) (.const (.bool .false))), .none⟩, ⟨(.some 9), (.mov (.tmp 8)), .none⟩, ⟨(.some 10), (.mov (.tmp 0)), (.some (9, .false))⟩, ⟨(.some 11), (.cmpI .geq (.tmp 10) (.const (.int .i64 16777216))), (.some (9, .false))⟩, ⟨(.some 12), (.mov (.tmp 11)), (.some (9, .false))⟩, ⟨(.some 13), (.mov (.tmp 0)), (.some (12, .true))⟩, ⟨(.some 14), (.cmpI .lss (.tmp 13) (.const (.int .i64 33554432))), (.some (12, .true))⟩, ⟨(.some 15), (.pick (.tmp 12) (.tmp 14) (.const (.bool .false))), (.some (9, .false))⟩, ⟨(.some 16), (.pick (.tmp 9) (.const (.bool .true)) (.tmp 15)), .none⟩, ⟨(.some 2), (.mov (.tmp 16)), .none⟩]
def c32_b : PCode := (.seq (.reg p32_1) (.seq (.reg p32_2) .ret))
def c32 : FCode := ⟨17, c32_b, [(.tmp 2)], some ([2], [], []), false⟩
theorem c32_ok : compF Go.Proofs.Try.prog [100007, 100008, 100009, 100011, 100012, 18, 100022, 23, 25, 27, 28, 29, 38, 39, 40] 32 = some (eraseF c32) := by kernel_rfl
def p19_1 : List PO := [⟨(.some 1), (.box 3 (.tmp 0)), .none⟩, ⟨(.some 2), (.mov (.const (.int .i64 0))), .none⟩]
def p19_2 : List PO := [⟨(.some 3), (.fld 0 (.tmp 1)), .none⟩, ⟨(.some 4), (.load .false 1 (.tmp 3)), .none⟩, ⟨(.some 5), (.cmpI .lss (.tmp 4) (.const (.int .i64 0))), .none⟩, ⟨(.some 6), (.mov (.tmp 5)), .none⟩, ⟨(.some 7), (.fld 0 (.tmp 1)), (.some (6, .false))⟩, ⟨(.some 8), (.load .false 1 (.tmp 7)), (.some (6, .false))⟩, ⟨(.some 9), (.cmpI .gtr (.tmp 8) (.const (.int .i64 255))), (.some (6, .false))⟩, ⟨(.some 10), (.pick (.tmp 6) (.const (.bool .true)) (.tmp 9)), .none⟩, ⟨(.some 11), (.mov (.tmp 10)), .none⟩, ⟨(.some 12), (.fld 1 (.tmp 1)), (.some (11, .false))⟩, ⟨(.some 13), (.load .false 1 (.tmp 12)), (.some (11, .false))⟩, ⟨(.some 14), (.call 32 [(.tmp 13)]), (.some (11, .false))⟩, ⟨(.some 15), (.un .not (.tmp 14)), (.some (11, .false))⟩, ⟨(.some 16), (.pick (.tmp 11) (.const (.bool .true)) (.tmp 15)), .none⟩, ⟨(.some 17), (.mov (.tmp 16)), .none⟩, ⟨(.some 18), (.fld 2 (.tmp 1)), (.some (17, .false))⟩, ⟨(.some 19), (.load .false 1 (.tmp 18)), (.some (17, .false))⟩, ⟨(.some 20), (.call 32 [(.tmp 19)]), (.some (17, .false))⟩, ⟨(.some 21), (.un .not (.tmp 20)), (.some (17, .false))⟩, ⟨(.some 22), (.pick (.tmp 17) (.const (.bool .true)) (.tmp 21)), .none⟩]
def p19_3 : List PO := [⟨(.some 2), (.mov (.const (.int .i64 4))), .none⟩]
def p19_4 : List PO := [⟨(.some 2), (.mov (.const (.int .i64 0))), .none⟩]
def c19_b : PCode := (.seq (.reg p19_1) (.seq (.seq (.reg p19_2) (.cond (.tmp 22) (.seq (.reg p19_3) .ret) .skip)) (.seq (.reg p19_4) .ret)))
def c19 : FCode := ⟨23, c19_b, [(.tmp 2)], some ([2], [], []), false⟩
theorem c19_ok : compF Go.Proofs.Try.prog [100007, 100008, 100009, 100011, 100012, 18, 100022, 23, 25, 27, 28, 29, 38, 39, 40] 19 = some (eraseF c19) := by kernel_rfl
def p36_1 : List PO := [⟨(.some 1), (.box 3 (.tmp 0)), .none⟩, ⟨(.some 2), (.alloc [(4, (.int .i64 0))]), .none⟩]
def p36_2 : List PO := [⟨(.some 3), (.load .true 3 (.tmp 1)), .none⟩, ⟨(.some 4), (.build [(4, (.int .i64 0))] [(0, (1, (.const (.int .i64 32)))), (1, (3, (.tmp 3)))]), .none⟩, ⟨.none, (.store 4 (.tmp 2) (.tmp 4)), .none⟩]
def c36_b : PCode := (.seq (.reg p36_1) (.seq (.reg p36_2) .ret))
def c36 : FCode := ⟨5, c36_b, [(.cell 2 .true 4)], some ([2], [(24, .id 24)], []), false⟩
theorem c36_ok : compF Go.Proofs.Try.prog [100007, 100008, 100009, 100011, 100012, 18, 100022, 23, 25, 27, 28, 29, 38, 39, 40] 36 = some (eraseF c36) := by kernel_rfl
def p44_1 : List PO := [⟨(.some 4), (.mov (.const (.int .u64 0))), .none⟩, ⟨(.some 5), (.mov (.const (.int .u64 0))), .none⟩]
def p44_2 : List PO := [⟨(.some 14), (.mov (.tmp 0)), .none⟩, ⟨(.some 15), (.arI .and (.tmp 14) (.const (.int .u64 4294967295))), .none⟩, ⟨(.some 6), (.mov (.tmp 15)), .none⟩]
def p44_3 : List PO := [⟨(.some 16), (.mov (.tmp 0)), .none⟩, ⟨(.some 17), (.sh .shr (.tmp 16) (.const (.int .u64 32))), .none⟩, ⟨(.some 7), (.mov (.tmp 17)), .none⟩]
def p44_4 : List PO := [⟨(.some 18), (.mov (.tmp 1)), .none⟩, ⟨(.some 19), (.arI .and (.tmp 18) (.const (.int .u64 4294967295))), .none⟩, ⟨(.some 8), (.mov (.tmp 19)), .none⟩]
def p44_5 : List PO := [⟨(.some 20), (.mov (.tmp 1)), .none⟩, ⟨(.some 21), (.sh .shr (.tmp 20) (.const (.int .u64 32))), .none⟩, ⟨(.some 9), (.mov (.tmp 21)), .none⟩]
def p44_6 : List PO := [⟨(.some 22), (.mov (.tmp 6)), .none⟩, ⟨(.some 23), (.mov (.tmp 8)), .none⟩, ⟨(.some 24), (.arI .mul (.tmp 22) (.tmp 23)), .none⟩, ⟨(.some 10), (.mov (.tmp 24)), .none⟩]
def p44_7 : List PO := [⟨(.some 25), (.mov (.tmp 7)), .none⟩, ⟨(.some 26), (.mov (.tmp 8)), .none⟩, ⟨(.some 27), (.arI .mul (.tmp 25) (.tmp 26)), .none⟩, ⟨(.some 28), (.mov (.tmp 10)), .none⟩, ⟨(.some 29), (.sh .shr (.tmp 28) (.const (.int .u64 32))), .none⟩, ⟨(.some 30), (.arI .add (.tmp 27) (.tmp 29)), .none⟩, ⟨(.some 11), (.mov (.tmp 30)), .none⟩]
def p44_8 : List PO := [⟨(.some 31), (.mov (.tmp 11)), .none⟩, ⟨(.some 32), (.arI .and (.tmp 31) (.const (.int .u64 4294967295))), .none⟩, ⟨(.some 12), (.mov (.tmp 32)), .none⟩]
def p44_9 : List PO := [⟨(.some 33), (.mov (.tmp 11)), .none⟩, ⟨(.some 34), (.sh .shr (.tmp 33) (.const (.int .u64 32))), .none⟩, ⟨(.some 13), (.mov (.tmp 34)), .none⟩]
def p44_10 : List PO := [⟨(.some 35), (.mov (.tmp 12)), .none⟩, ⟨(.some 36), (.mov (.tmp 6)), .none⟩, ⟨(.some 37), (.mov (.tmp 9)), .none⟩, ⟨(.some 38), (.arI .mul (.tmp 36) (.tmp 37)), .none⟩, ⟨(.some 39), (.arI .add (.tmp 35) (.tmp 38)), .none⟩, ⟨(.some 12), (.mov (.tmp 39)), .none⟩]
def p44_11 : List PO := [⟨(.some 40), (.mov (.tmp 7)), .none⟩, ⟨(.some 41), (.mov (.tmp 9)), .none⟩, ⟨(.some 42), (.arI .mul (.tmp 40) (.tmp 41)), .none⟩, ⟨(.some 43), (.mov (.tmp 13)), .none⟩, ⟨(.some 44), (.arI .add (.tmp 42) (.tmp 43)), .none⟩, ⟨(.some 45), (.mov (.tmp 12)), .none⟩, ⟨(.some 46), (.sh .shr (.tmp 45) (.const (.int .u64 32))), .none⟩, ⟨(.some 47), (.arI .add (.tmp 44) (.tmp 46)), .none⟩, ⟨(.some 4), (.mov (.tmp 47)), .none⟩]
def p44_12 : List PO := [⟨(.some 48), (.mov (.tmp 0)), .none⟩, ⟨(.some 49), (.mov (.tmp 1)), .none⟩, ⟨(.some 50), (.arI .mul (.tmp 48) (.tmp 49)), .none⟩, ⟨(.some 5), (.mov (.tmp 50)), .none⟩]
def c44_13 : PCode := (.seq (.reg p44_3) (.seq (.reg p44_4) (.seq (.reg p44_5) (.seq (.reg p44_6) (.seq (.reg p44_7) (.seq (.reg p44_8) (.seq (.reg p44_9) (.seq (.reg p44_10) (.seq (.reg p44_11) (.seq (.reg p44_12) .ret))))))))))
def c44_b : PCode := (.seq (.reg p44_1) (.seq (.reg p44_2) c44_13))
def c44 : FCode := ⟨51, c44_b, [(.tmp 4), (.tmp 5)], some ([4, 5], [], []), false⟩
theorem c44_ok : compF Go.Proofs.Try.prog [100007, 100008, 100009, 100011, 100012, 18, 100022, 23, 25, 27, 28, 29, 38, 39, 40] 44 = some (eraseF c44) := by kernel_rfl
def p42_2 : List PO := [⟨(.some 4), (.mov (.const (.int .u64 0))), .none⟩, ⟨(.some 5), (.mov (.const (.int .u64 0))), .none⟩]
def p42_3 : List PO := [⟨(.some 11), (.mov (.tmp 0)), .none⟩, ⟨(.some 12), (.cvI .u32 (.tmp 11)), .none⟩, ⟨(.some 13), (.mov (.tmp 1)), .none⟩, ⟨(.some 14), (.cvI .u32 (.tmp 13)), .none⟩, ⟨(.some 15), (.call 43 [(.tmp 12), (.tmp 14)]), .none⟩, ⟨(.some 10), (.mov (.tmp 15)), .none⟩, ⟨(.some 16), (.ext (.tmp 10) 0), .none⟩, ⟨(.some 17), (.ext (.tmp 10) 1), .none⟩, ⟨(.some 6), (.mov (.tmp 16)), .none⟩, ⟨(.some 7), (.mov (.tmp 17)), .none⟩]
def p42_4 : List PO := [⟨(.some 18), (.mov (.tmp 6)), .none⟩, ⟨(.some 19), (.cvI .u64 (.tmp 18)), .none⟩, ⟨(.some 20), (.mov (.tmp 7)), .none⟩, ⟨(.some 21), (.cvI .u64 (.tmp 20)), .none⟩, ⟨(.some 4), (.mov (.tmp 19)), .none⟩, ⟨(.some 5), (.mov (.tmp 21)), .none⟩]
def p42_5 : List PO := [⟨(.some 23), (.mov (.tmp 0)), .none⟩, ⟨(.some 24), (.mov (.tmp 1)), .none⟩, ⟨(.some 25), (.call 44 [(.tmp 23), (.tmp 24)]), .none⟩, ⟨(.some 22), (.mov (.tmp 25)), .none⟩, ⟨(.some 26), (.ext (.tmp 22) 0), .none⟩, ⟨(.some 27), (.ext (.tmp 22) 1), .none⟩, ⟨(.some 8), (.mov (.tmp 26)), .none⟩, ⟨(.some 9), (.mov (.tmp 27)), .none⟩]
def p42_6 : List PO := [⟨(.some 28), (.mov (.tmp 8)), .none⟩, ⟨(.some 29), (.mov (.tmp 9)), .none⟩, ⟨(.some 4), (.mov (.tmp 28)), .none⟩, ⟨(.some 5), (.mov (.tmp 29)), .none⟩]
def c42_1 : PCode := (.keep [0, 1] [] [] (.seq (.reg p42_5) (.seq (.reg p42_6) .ret)))
def c42_b : PCode := (.seq (.reg p42_2) (.seq (.cond (.const (.bool .false)) (.seq (.reg p42_3) (.seq (.reg p42_4) .ret)) .skip) c42_1))
def c42 : FCode := ⟨30, c42_b, [(.tmp 4), (.tmp 5)], some ([4, 5], [], []), false⟩
theorem c42_ok : compF Go.Proofs.Try.prog [100007, 100008, 100009, 100011, 100012, 18, 100022, 23, 25, 27, 28, 29, 38, 39, 40] 42 = some (eraseF c42) := by kernel_rfl
def p41_5 : List PO := [⟨(.some 4), (.nilS 36 4), .none⟩]
def p41_6 : List PO := [⟨(.some 9), (.mov (.tmp 1)), .none⟩, ⟨(.some 10), (.cmpI .lss (.tmp 9) (.const (.int .i64 0))), .none⟩]
def p41_7 : List PO := [⟨(.some 11), (.mx []), .none⟩, ⟨.none, (.mx []), .none⟩]
def p41_8 : List PO := [⟨(.some 13), (.mov (.tmp 0)), .none⟩, ⟨(.some 14), (.len .false (.tmp 13)), .none⟩, ⟨(.some 15), (.cvI .u64 (.tmp 14)), .none⟩, ⟨(.some 16), (.mov (.tmp 1)), .none⟩, ⟨(.some 17), (.cvI .u64 (.tmp 16)), .none⟩, ⟨(.some 18), (.call 42 [(.tmp 15), (.tmp 17)]), .none⟩, ⟨(.some 12), (.mov (.tmp 18)), .none⟩, ⟨(.some 19), (.ext (.tmp 12) 0), .none⟩, ⟨(.some 20), (.ext (.tmp 12) 1), .none⟩, ⟨(.some 5), (.mov (.tmp 19)), .none⟩, ⟨(.some 6), (.mov (.tmp 20)), .none⟩]
def p41_9 : List PO := [⟨(.some 21), (.mov (.tmp 5)), .none⟩, ⟨(.some 22), (.cmpI .gtr (.tmp 21) (.const (.int .u64 0))), .none⟩, ⟨(.some 23), (.mov (.tmp 22)), .none⟩, ⟨(.some 24), (.mov (.tmp 6)), (.some (23, .false))⟩, ⟨(.some 25), (.cmpI .gtr (.tmp 24) (.const (.int .u64 9223372036854775807))), (.some (23, .false))⟩, ⟨(.some 26), (.pick (.tmp 23) (.const (.bool .true)) (.tmp 25)), .none⟩]
def p41_10 : List PO := [⟨(.some 27), (.mx []), .none⟩, ⟨.none, (.mx []), .none⟩]
def p41_11 : List PO := [⟨(.some 28), (.mov (.tmp 6)), .none⟩, ⟨(.some 29), (.cvI .i64 (.tmp 28)), .none⟩, ⟨(.some 30), (.mks 36 4 32 [(4, (.int .i64 0))] (.tmp 29) (.tmp 29)), .none⟩, ⟨(.some 7), (.mov (.tmp 30)), .none⟩]
def p41_12 : List PO := [⟨(.some 31), (.mov (.tmp 7)), .none⟩, ⟨(.some 32), (.mov (.tmp 0)), .none⟩, ⟨(.some 33), (.cpy 4 (.tmp 31) (.tmp 32)), .none⟩, ⟨(.some 8), (.mov (.tmp 33)), .none⟩]
def p41_13 : List PO := [⟨(.some 34), (.mov (.tmp 8)), .none⟩, ⟨(.some 35), (.mov (.tmp 7)), .none⟩, ⟨(.some 36), (.len .false (.tmp 35)), .none⟩, ⟨(.some 37), (.cmpI .lss (.tmp 34) (.tmp 36)), .none⟩]
def p41_14 : List PO := [⟨(.some 38), (.mov (.tmp 8)), .none⟩, ⟨(.some 39), (.mov (.tmp 7)), .none⟩, ⟨(.some 40), (.mov (.tmp 8)), .none⟩, ⟨(.some 41), (.slS 36 4 (.tmp 39) (.some (.tmp 40)) .none), .none⟩, ⟨(.some 42), (.mov (.tmp 7)), .none⟩, ⟨(.some 43), (.mov (.tmp 8)), .none⟩, ⟨(.some 44), (.slS 36 4 (.tmp 42) .none (.some (.tmp 43))), .none⟩, ⟨(.some 45), (.cpy 4 (.tmp 41) (.tmp 44)), .none⟩, ⟨(.some 46), (.arI .add (.tmp 38) (.tmp 45)), .none⟩, ⟨(.some 8), (.mov (.tmp 46)), .none⟩]
def c41_1 : PCode := (.keep [7, 8] [(248, .id 248)] [] (.block 1 (.regD p41_14 [])))
def c41_2 : PCode := (.keep [7, 8] [(248, .id 248)] [] (.seq (.seq (.reg p41_13) (.cond (.tmp 37) .skip (.keep [7] [(248, .id 248)] [] (.exit 0)))) c41_1))
def p41_15 : List PO := [⟨(.some 47), (.mov (.tmp 7)), .none⟩, ⟨(.some 4), (.mov (.tmp 47)), .none⟩]
def c41_3 : PCode := (.keep [0, 6] [] [] (.seq (.reg p41_11) (.seq (.reg p41_12) (.seq (.block 0 (.loop c41_2)) (.seq (.reg p41_15) .ret)))))
def c41_4 : PCode := (.keep [0, 1] [] [] (.seq (.reg p41_8) (.seq (.seq (.reg p41_9) (.cond (.tmp 26) (.reg p41_10) .skip)) c41_3)))
def c41_b : PCode := (.seq (.reg p41_5) (.seq (.seq (.reg p41_6) (.cond (.tmp 10) (.reg p41_7) .skip)) c41_4))
def c41 : FCode := ⟨48, c41_b, [(.tmp 4)], some ([4], [(248, .id 248)], []), false⟩
theorem c41_ok : compF Go.Proofs.Try.prog [100007, 100008, 100009, 100011, 100012, 18, 100022, 23, 25, 27, 28, 29, 38, 39, 40] 41 = some (eraseF c41) := by kernel_rfl
def p31_1 : List PO := [⟨(.some 5), (.box 3 (.tmp 2)), .none⟩, ⟨(.some 6), (.alloc [(2, (.int .i64 0)), (1, (.slice .none 0 0))]), .none⟩]
def p31_2 : List PO := [⟨(.some 7), (.mov (.tmp 0)), .none⟩, ⟨(.some 8), (.mov (.tmp 1)), .none⟩, ⟨(.some 9), (.load .true 3 (.tmp 5)), .none⟩, ⟨(.some 10), (.call 36 [(.tmp 9)]), .none⟩, ⟨(.some 11), (.bsl 36 4 1 [(4, (.int .i64 0))] [(0, (4, (.tmp 10)))]), .none⟩, ⟨(.some 12), (.mov (.tmp 0)), .none⟩, ⟨(.some 13), (.mov (.tmp 1)), .none⟩, ⟨(.some 14), (.arI .mul (.tmp 12) (.tmp 13)), .none⟩, ⟨(.some 15), (.call 41 [(.tmp 11), (.tmp 14)]), .none⟩, ⟨(.some 16), (.build [(2, (.int .i64 0)), (1, (.slice .none 0 0))] [(0, (1, (.tmp 7))), (1, (1, (.tmp 8))), (2, (1, (.tmp 15)))]), .none⟩, ⟨.none, (.store 3 (.tmp 6) (.tmp 16)), .none⟩]
def c31_b : PCode := (.seq (.reg p31_1) (.seq (.reg p31_2) .ret))
def c31 : FCode := ⟨17, c31_b, [(.cell 6 .true 3)], some ([6], [(56, .id 56), (128, .id 128)], []), false⟩
theorem c31_ok : compF Go.Proofs.Try.prog [100007, 100008, 100009, 100011, 100012, 18, 100022, 23, 25, 27, 28, 29, 38, 39, 40] 31 = some (eraseF c31) := by kernel_rfl
def p14_2 : List PO := [⟨(.some 5), (.box 3 (.tmp 2)), .none⟩, ⟨(.some 6), (.alloc [(2, (.int .i64 0)), (1, (.slice .none 0 0))]), .none⟩, ⟨(.some 7), (.mov (.const (.int .i64 0))), .none⟩]
def p14_3 : List PO := [⟨(.some 10), (.mov (.tmp 0)), .none⟩, ⟨(.some 11), (.mov (.tmp 1)), .none⟩, ⟨(.some 12), (.call 17 [(.tmp 10), (.tmp 11)]), .none⟩, ⟨(.some 8), (.mov (.tmp 12)), .none⟩]
def p14_4 : List PO := [⟨(.some 13), (.mov (.tmp 8)), .none⟩, ⟨(.some 14), (.cmpI .neq (.tmp 13) (.const (.int .i64 0))), .none⟩]
def p14_5 : List PO := [⟨(.some 15), (.build [(2, (.int .i64 0)), (1, (.slice .none 0 0))] []), .none⟩, ⟨(.some 16), (.mov (.tmp 8)), .none⟩, ⟨.none, (.store 3 (.tmp 6) (.tmp 15)), .none⟩, ⟨(.some 7), (.mov (.tmp 16)), .none⟩]
def p14_6 : List PO := [⟨(.some 17), (.load .true 3 (.tmp 5)), .none⟩, ⟨(.some 18), (.call 19 [(.tmp 17)]), .none⟩, ⟨(.some 9), (.mov (.tmp 18)), .none⟩]
def p14_7 : List PO := [⟨(.some 19), (.mov (.tmp 9)), .none⟩, ⟨(.some 20), (.cmpI .neq (.tmp 19) (.const (.int .i64 0))), .none⟩]
def p14_8 : List PO := [⟨(.some 21), (.build [(2, (.int .i64 0)), (1, (.slice .none 0 0))] []), .none⟩, ⟨(.some 22), (.mov (.tmp 9)), .none⟩, ⟨.none, (.store 3 (.tmp 6) (.tmp 21)), .none⟩, ⟨(.some 7), (.mov (.tmp 22)), .none⟩]
def p14_9 : List PO := [⟨(.some 23), (.mov (.tmp 0)), .none⟩, ⟨(.some 24), (.mov (.tmp 1)), .none⟩, ⟨(.some 25), (.load .true 3 (.tmp 5)), .none⟩, ⟨(.some 26), (.call 31 [(.tmp 23), (.tmp 24), (.tmp 25)]), .none⟩, ⟨.none, (.store 3 (.tmp 6) (.tmp 26)), .none⟩, ⟨(.some 7), (.mov (.const (.int .i64 0))), .none⟩]
def c14_1 : PCode := (.keep [0, 1, 5, 6] [(48, .id 48), (56, .id 56)] [.cell 56 2 0 0 1] (.seq (.seq (.reg p14_6) (.seq (.reg p14_7) (.cond (.tmp 20) (.seq (.reg p14_8) .ret) .skip))) (.seq (.reg p14_9) .ret)))
def c14_b : PCode := (.seq (.reg p14_2) (.seq (.seq (.reg p14_3) (.seq (.reg p14_4) (.cond (.tmp 14) (.seq (.reg p14_5) .ret) .skip))) c14_1))
def c14 : FCode := ⟨27, c14_b, [(.cell 6 .true 3), (.tmp 7)], some ([6, 7], [(56, .id 56), (216, (.cell 56 2))], [.cell 56 2 216 36 4]), false⟩
theorem c14_ok : compF Go.Proofs.Try.prog [100007, 100008, 100009, 100011, 100012, 18, 100022, 23, 25, 27, 28, 29, 38, 39, 40] 14 = some (eraseF c14) := by kernel_rfl
def p33_4 : List PO := [⟨(.some 4), (.mov (.const (.bool .false))), .none⟩]
def p33_5 : List PO := [⟨(.some 7), (.mov (.tmp 1)), .none⟩, ⟨(.some 8), (.len .false (.tmp 7)), .none⟩, ⟨(.some 9), (.mov (.const (.int .i64 0))), .none⟩]
def p33_6 : List PO := [⟨(.some 10), (.cmpI .lss (.tmp 9) (.tmp 8)), .none⟩]
def p33_7 : List PO := [⟨(.some 11), (.ixS 60 2 (.tmp 7) (.tmp 9)), .none⟩, ⟨(.some 12), (.load .true 2 (.tmp 11)), .none⟩, ⟨(.some 6), (.alloc [(2, (.int .i64 0))]), .none⟩, ⟨.none, (.store 2 (.tmp 6) (.tmp 12)), .none⟩]
def p33_8 : List PO := [⟨(.some 13), (.mov (.tmp 0)), .none⟩, ⟨(.some 14), (.ixA 2 1 (.tmp 6) (.const (.int .i64 0))), .none⟩, ⟨(.some 15), (.load .false 1 (.tmp 14)), .none⟩, ⟨(.some 16), (.cmpI .geq (.tmp 13) (.tmp 15)), .none⟩, ⟨(.some 17), (.mov (.tmp 16)), .none⟩, ⟨(.some 18), (.mov (.tmp 0)), (.some (17, .true))⟩, ⟨(.some 19), (.ixA 2 1 (.tmp 6) (.const (.int .i64 1))), (.some (17, .true))⟩, ⟨(.some 20), (.load .false 1 (.tmp 19)), (.some (17, .true))⟩, ⟨(.some 21), (.cmpI .leq (.tmp 18) (.tmp 20)), (.some (17, .true))⟩, ⟨(.some 22), (.pick (.tmp 17) (.tmp 21) (.const (.bool .false))), .none⟩]
def p33_9 : List PO := [⟨(.some 4), (.mov (.const (.bool .true))), .none⟩]
def p33_10 : List PO := [⟨(.some 23), (.arI .add (.tmp 9) (.const (.int .i64 1))), .none⟩, ⟨(.some 9), (.mov (.tmp 23)), .none⟩]
def c33_1 : PCode := (.keep [0, 7, 8, 9] [] [] (.seq (.block 1 (.seq (.reg p33_7) (.seq (.reg p33_8) (.cond (.tmp 22) (.seq (.reg p33_9) .ret) .skip)))) (.reg p33_10)))
def c33_2 : PCode := (.keep [0, 7, 8, 9, 10] [] [] (.seq (.cond (.tmp 10) .skip (.keep [] [] [] (.exit 0))) c33_1))
def c33_3 : PCode := (.keep [0, 7, 8, 9] [] [] (.seq (.reg p33_6) c33_2))
def p33_11 : List PO := [⟨(.some 4), (.mov (.const (.bool .false))), .none⟩]
def c33_b : PCode := (.seq (.reg p33_4) (.seq (.seq (.reg p33_5) (.block 0 (.loop c33_3))) (.seq (.reg p33_11) .ret)))
def c33 : FCode := ⟨24, c33_b, [(.tmp 4)], some ([4], [], []), false⟩
theorem c33_ok : compF Go.Proofs.Try.prog [100007, 100008, 100009, 100011, 100012, 18, 100022, 23, 25, 27, 28, 29, 38, 39, 40] 33 = some (eraseF c33) := by kernel_rfl
def p20_3 : List PO := [⟨(.some 2), (.mov (.const (.int .i64 0))), .none⟩]
def p20_4 : List PO := [⟨(.some 5), (.build [(2, (.int .i64 0))] [(0, (1, (.const (.int .i64 0)))), (1, (1, (.const (.int .i64 31))))]), .none⟩, ⟨(.some 6), (.build [(2, (.int .i64 0))] [(0, (1, (.const (.int .i64 127)))), (1, (1, (.const (.int .i64 159))))]), .none⟩, ⟨(.some 7), (.build [(2, (.int .i64 0))] [(0, (1, (.const (.int .i64 768)))), (1, (1, (.const (.int .i64 879))))]), .none⟩, ⟨(.some 8), (.build [(2, (.int .i64 0))] [(0, (1, (.const (.int .i64 8203)))), (1, (1, (.const (.int .i64 8207))))]), .none⟩, ⟨(.some 9), (.build [(2, (.int .i64 0))] [(0, (1, (.const (.int .i64 55296)))), (1, (1, (.const (.int .i64 57343))))]), .none⟩, ⟨(.some 10), (.build [(2, (.int .i64 0))] [(0, (1, (.const (.int .i64 65024)))), (1, (1, (.const (.int .i64 65039))))]), .none⟩, ⟨(.some 11), (.build [(12, (.int .i64 0))] [(0, (2, (.tmp 5))), (2, (2, (.tmp 6))), (4, (2, (.tmp 7))), (6, (2, (.tmp 8))), (8, (2, (.tmp 9))), (10, (2, (.tmp 10)))]), .none⟩, ⟨(.some 3), (.alloc [(12, (.int .i64 0))]), .none⟩, ⟨.none, (.store 12 (.tmp 3) (.tmp 11)), .none⟩]
def p20_5 : List PO := [⟨(.some 12), (.build [(2, (.int .i64 0))] [(0, (1, (.const (.int .i64 4352)))), (1, (1, (.const (.int .i64 4447))))]), .none⟩, ⟨(.some 13), (.build [(2, (.int .i64 0))] [(0, (1, (.const (.int .i64 11904)))), (1, (1, (.const (.int .i64 12350))))]), .none⟩, ⟨(.some 14), (.build [(2, (.int .i64 0))] [(0, (1, (.const (.int .i64 12353)))), (1, (1, (.const (.int .i64 19903))))]), .none⟩, ⟨(.some 15), (.build [(2, (.int .i64 0))] [(0, (1, (.const (.int .i64 19968)))), (1, (1, (.const (.int .i64 42191))))]), .none⟩, ⟨(.some 16), (.build [(2, (.int .i64 0))] [(0, (1, (.const (.int .i64 44032)))), (1, (1, (.const (.int .i64 55203))))]), .none⟩, ⟨(.some 17), (.build [(2, (.int .i64 0))] [(0, (1, (.const (.int .i64 63744)))), (1, (1, (.const (.int .i64 64255))))]), .none⟩, ⟨(.some 18), (.build [(2, (.int .i64 0))] [(0, (1, (.const (.int .i64 65072)))), (1, (1, (.const (.int .i64 65135))))]), .none⟩, ⟨(.some 19), (.build [(2, (.int .i64 0))] [(0, (1, (.const (.int .i64 65280)))), (1, (1, (.const (.int .i64 65376))))]), .none⟩, ⟨(.some 20), (.build [(2, (.int .i64 0))] [(0, (1, (.const (.int .i64 65504)))), (1, (1, (.const (.int .i64 65510))))]), .none⟩, ⟨(.some 21), (.build [(2, (.int .i64 0))] [(0, (1, (.const (.int .i64 127744)))), (1, (1, (.const (.int .i64 128591))))]), .none⟩, ⟨(.some 22), (.build [(2, (.int .i64 0))] [(0, (1, (.const (.int .i64 129280)))), (1, (1, (.const (.int .i64 129535))))]), .none⟩, ⟨(.some 23), (.build [(2, (.int .i64 0))] [(0, (1, (.const (.int .i64 131072)))), (1, (1, (.const (.int .i64 262141))))]), .none⟩, ⟨(.some 24), (.build [(24, (.int .i64 0))] [(0, (2, (.tmp 12))), (2, (2, (.tmp 13))), (4, (2, (.tmp 14))), (6, (2, (.tmp 15))), (8, (2, (.tmp 16))), (10, (2, (.tmp 17))), (12, (2, (.tmp 18))), (14, (2, (.tmp 19))), (16, (2, (.tmp 20))), (18, (2, (.tmp 21))), (20, (2, (.tmp 22))), (22, (2, (.tmp 23)))]), .none⟩, ⟨(.some 4), (.alloc [(24, (.int .i64 0))]), .none⟩, ⟨.none, (.store 24 (.tmp 4) (.tmp 24)), .none⟩]
def p20_6 : List PO := [⟨(.some 26), (.mov (.tmp 0)), .none⟩, ⟨(.some 27), (.cmpI .lss (.tmp 26) (.const (.int .i64 0))), .none⟩, ⟨(.some 28), (.mov (.tmp 27)), .none⟩, ⟨(.some 29), (.mov (.tmp 0)), (.some (28, .false))⟩, ⟨(.some 30), (.cmpI .gtr (.tmp 29) (.const (.int .i64 1114111))), (.some (28, .false))⟩, ⟨(.some 31), (.pick (.tmp 28) (.const (.bool .true)) (.tmp 30)), .none⟩, ⟨(.some 32), (.mov (.tmp 31)), .none⟩, ⟨(.some 33), (.mov (.tmp 0)), (.some (32, .false))⟩, ⟨(.some 34), (.slA 6 2 (.tmp 3) .none .none), (.some (32, .false))⟩, ⟨(.some 35), (.call 33 [(.tmp 33), (.tmp 34)]), (.some (32, .false))⟩, ⟨(.some 36), (.pick (.tmp 32) (.const (.bool .true)) (.tmp 35)), .none⟩, ⟨(.some 25), (.mov (.tmp 36)), .none⟩]
def p20_7 : List PO := [⟨(.some 2), (.mov (.const (.int .i64 0))), .none⟩]
def p20_8 : List PO := [⟨(.some 38), (.mov (.tmp 0)), .none⟩, ⟨(.some 39), (.slA 12 2 (.tmp 4) .none .none), .none⟩, ⟨(.some 40), (.call 33 [(.tmp 38), (.tmp 39)]), .none⟩, ⟨(.some 37), (.mov (.tmp 40)), .none⟩]
def p20_9 : List PO := [⟨(.some 2), (.mov (.const (.int .i64 2))), .none⟩]
def c20_1 : PCode := (.keep [0, 4, 25] [(40, .id 40)] [] (.cond (.tmp 25) (.seq (.reg p20_7) .ret) (.seq (.reg p20_8) (.cond (.tmp 37) (.seq (.reg p20_9) .ret) .skip))))
def p20_10 : List PO := [⟨(.some 2), (.mov (.const (.int .i64 1))), .none⟩]
def c20_2 : PCode := (.seq (.reg p20_10) .ret)
def c20_b : PCode := (.seq (.reg p20_3) (.seq (.reg p20_4) (.seq (.reg p20_5) (.seq (.block 0 (.seq (.reg p20_6) c20_1)) c20_2))))
def c20 : FCode := ⟨41, c20_b, [(.tmp 2)], some ([2], [], []), false⟩
theorem c20_ok : compF Go.Proofs.Try.prog [100007, 100008, 100009, 100011, 100012, 18, 100022, 23, 25, 27, 28, 29, 38, 39, 40] 20 = some (eraseF c20) := by kernel_rfl
def p18_1 : List PO := [⟨(.some 2), (.box 3 (.tmp 0)), .none⟩, ⟨(.some 4), (.nilS 36 4), .none⟩]
def p18_2 : List PO := [⟨(.some 5), (.fld 2 (.tmp 2)), .none⟩, ⟨(.some 6), (.load .false 1 (.tmp 5)), .none⟩, ⟨(.some 7), (.mov (.tmp 1)), .none⟩, ⟨(.some 8), (.fld 0 (.tmp 2)), .none⟩, ⟨(.some 9), (.load .false 1 (.tmp 8)), .none⟩, ⟨(.some 10), (.arI .mul (.tmp 7) (.tmp 9)), .none⟩, ⟨(.some 11), (.mov (.tmp 1)), .none⟩, ⟨(.some 12), (.arI .add (.tmp 11) (.const (.int .i64 1))), .none⟩, ⟨(.some 13), (.fld 0 (.tmp 2)), .none⟩, ⟨(.some 14), (.load .false 1 (.tmp 13)), .none⟩, ⟨(.some 15), (.arI .mul (.tmp 12) (.tmp 14)), .none⟩, ⟨(.some 16), (.slS 36 4 (.tmp 6) (.some (.tmp 10)) (.some (.tmp 15))), .none⟩, ⟨(.some 4), (.mov (.tmp 16)), .none⟩]
def c18_b : PCode := (.seq (.reg p18_1) (.seq (.reg p18_2) .ret))
def c18 : FCode := ⟨17, c18_b, [(.tmp 4)], some ([4, 2000000], [(0, .id 0)], []), false⟩
theorem c18_ok : compF Go.Proofs.Try.prog [100007, 100008, 100009, 100011, 100012, 18, 100022, 23, 25, 27, 28, 29, 38, 39, 40] 18 = some (eraseF c18) := by kernel_rfl
def p34_1 : List PO := [⟨(.some 3), (.mov (.const (.bool .false))), .none⟩]
def p34_2 : List PO := [⟨(.some 4), (.mov (.tmp 0)), .none⟩, ⟨(.some 5), (.load .false 1 (.tmp 1)), .none⟩, ⟨(.some 6), (.len .false (.tmp 5)), .none⟩, ⟨(.some 7), (.cmpI .lss (.tmp 4) (.tmp 6)), .none⟩, ⟨(.some 8), (.mov (.tmp 7)), .none⟩, ⟨(.some 9), (.load .false 1 (.tmp 1)), (.some (8, .true))⟩, ⟨(.some 10), (.mov (.tmp 0)), (.some (8, .true))⟩, ⟨(.some 11), (.ixS 36 4 (.tmp 9) (.tmp 10)), (.some (8, .true))⟩, ⟨(.some 12), (.fld 0 (.tmp 11)), (.some (8, .true))⟩, ⟨(.some 13), (.load .false 1 (.tmp 12)), (.some (8, .true))⟩, ⟨(.some 14), (.cmpI .eql (.tmp 13) (.const (.int .i64 0))), (.some (8, .true))⟩, ⟨(.some 15), (.pick (.tmp 8) (.tmp 14) (.const (.bool .false))), .none⟩, ⟨(.some 16), (.mov (.tmp 15)), .none⟩, ⟨(.some 17), (.load .false 1 (.tmp 1)), (.some (16, .true))⟩, ⟨(.some 18), (.mov (.tmp 0)), (.some (16, .true))⟩, ⟨(.some 19), (.ixS 36 4 (.tmp 17) (.tmp 18)), (.some (16, .true))⟩, ⟨(.some 20), (.fld 1 (.tmp 19)), (.some (16, .true))⟩, ⟨(.some 21), (.load .true 3 (.tmp 20)), (.some (16, .true))⟩, ⟨(.some 22), (.load .false 1 (.tmp 1)), (.some (16, .true))⟩, ⟨(.some 23), (.mov (.tmp 0)), (.some (16, .true))⟩, ⟨(.some 24), (.arI .sub (.tmp 23) (.const (.int .i64 1))), (.some (16, .true))⟩, ⟨(.some 25), (.ixS 36 4 (.tmp 22) (.tmp 24)), (.some (16, .true))⟩, ⟨(.some 26), (.fld 1 (.tmp 25)), (.some (16, .true))⟩, ⟨(.some 27), (.load .true 3 (.tmp 26)), (.some (16, .true))⟩, ⟨(.some 28), (.eqA .false [(3, .int)] (.tmp 21) (.tmp 27)), (.some (16, .true))⟩, ⟨(.some 29), (.pick (.tmp 16) (.tmp 28) (.const (.bool .false))), .none⟩, ⟨(.some 3), (.mov (.tmp 29)), .none⟩]
def c34_b : PCode := (.seq (.reg p34_1) (.seq (.regD p34_2 []) .ret))
def c34 : FCode := ⟨30, c34_b, [(.tmp 3)], some ([3], [], []), false⟩
theorem c34_ok : compF Go.Proofs.Try.prog [100007, 100008, 100009, 100011, 100012, 18, 100022, 23, 25, 27, 28, 29, 38, 39, 40] 34 = some (eraseF c34) := by kernel_rfl
def p21_2 : List PO := [⟨(.some 2), (.box 1 (.tmp 0)), .none⟩, ⟨(.some 4), (.mov (.const (.bool .false))), .none⟩]
def p21_3 : List PO := [⟨(.some 6), (.mkF 34 [(.tmp 2)]), .none⟩, ⟨(.some 5), (.mov (.tmp 6)), .none⟩]
def p21_4 : List PO := [⟨(.some 7), (.load .false 1 (.tmp 2)), .none⟩, ⟨(.some 8), (.mov (.tmp 1)), .none⟩, ⟨(.some 9), (.ixS 36 4 (.tmp 7) (.tmp 8)), .none⟩, ⟨(.some 10), (.fld 0 (.tmp 9)), .none⟩, ⟨(.some 11), (.load .false 1 (.tmp 10)), .none⟩, ⟨(.some 12), (.cmpI .eql (.tmp 11) (.const (.int .i64 0))), .none⟩]
def p21_5 : List PO := [⟨(.some 13), (.mov (.tmp 1)), .none⟩, ⟨(.some 14), (.cmpI .eql (.tmp 13) (.const (.int .i64 0))), .none⟩, ⟨(.some 15), (.mov (.tmp 14)), .none⟩, ⟨(.some 16), (.load .false 1 (.tmp 2)), (.some (15, .false))⟩, ⟨(.some 17), (.mov (.tmp 1)), (.some (15, .false))⟩, ⟨(.some 18), (.arI .sub (.tmp 17) (.const (.int .i64 1))), (.some (15, .false))⟩, ⟨(.some 19), (.ixS 36 4 (.tmp 16) (.tmp 18)), (.some (15, .false))⟩, ⟨(.some 20), (.fld 0 (.tmp 19)), (.some (15, .false))⟩, ⟨(.some 21), (.load .false 1 (.tmp 20)), (.some (15, .false))⟩, ⟨(.some 22), (.call 20 [(.tmp 21)]), (.some (15, .false))⟩, ⟨(.some 23), (.cmpI .neq (.tmp 22) (.const (.int .i64 2))), (.some (15, .false))⟩, ⟨(.some 24), (.pick (.tmp 15) (.const (.bool .true)) (.tmp 23)), .none⟩, ⟨(.some 25), (.mov (.tmp 24)), .none⟩, ⟨(.some 26), (.mov (.tmp 5)), (.some (25, .false))⟩, ⟨(.some 27), (.mov (.tmp 1)), (.some (25, .false))⟩, ⟨(.some 28), (.callv (.tmp 26) [(.tmp 27)]), (.some (25, .false))⟩, ⟨(.some 29), (.un .not (.tmp 28)), (.some (25, .false))⟩, ⟨(.some 30), (.pick (.tmp 25) (.const (.bool .true)) (.tmp 29)), .none⟩, ⟨(.some 4), (.mov (.tmp 30)), .none⟩]
def p21_6 : List PO := [⟨(.some 31), (.load .false 1 (.tmp 2)), .none⟩, ⟨(.some 32), (.mov (.tmp 1)), .none⟩, ⟨(.some 33), (.ixS 36 4 (.tmp 31) (.tmp 32)), .none⟩, ⟨(.some 34), (.fld 0 (.tmp 33)), .none⟩, ⟨(.some 35), (.load .false 1 (.tmp 34)), .none⟩, ⟨(.some 36), (.call 20 [(.tmp 35)]), .none⟩, ⟨(.some 37), (.cmpI .eql (.tmp 36) (.const (.int .i64 2))), .none⟩, ⟨(.some 38), (.mov (.tmp 37)), .none⟩, ⟨(.some 39), (.mov (.tmp 5)), (.some (38, .true))⟩, ⟨(.some 40), (.mov (.tmp 1)), (.some (38, .true))⟩, ⟨(.some 41), (.arI .add (.tmp 40) (.const (.int .i64 1))), (.some (38, .true))⟩, ⟨(.some 42), (.callv (.tmp 39) [(.tmp 41)]), (.some (38, .true))⟩, ⟨(.some 43), (.un .not (.tmp 42)), (.some (38, .true))⟩, ⟨(.some 44), (.pick (.tmp 38) (.tmp 43) (.const (.bool .false))), .none⟩, ⟨(.some 4), (.mov (.tmp 44)), .none⟩]
def c21_1 : PCode := (.keep [1, 2, 5] [(24, .id 24)] [] (.seq (.reg p21_6) .ret))
def c21_b : PCode := (.seq (.reg p21_2) (.seq (.reg p21_3) (.seq (.seq (.reg p21_4) (.cond (.tmp 12) (.seq (.reg p21_5) .ret) .skip)) c21_1)))
def c21 : FCode := ⟨45, c21_b, [(.tmp 4)], some ([4], [], []), false⟩
theorem c21_ok : compF Go.Proofs.Try.prog [100007, 100008, 100009, 100011, 100012, 18, 100022, 23, 25, 27, 28, 29, 38, 39, 40] 21 = some (eraseF c21) := by kernel_rfl
def p6_9 : List PO := [⟨(.some 1), (.box 3 (.tmp 0)), .none⟩, ⟨(.some 2), (.mov (.const (.int .i64 0))), .none⟩]
def p6_10 : List PO := [⟨(.some 8), (.fld 0 (.tmp 1)), .none⟩, ⟨(.some 9), (.load .false 1 (.tmp 8)), .none⟩, ⟨(.some 10), (.fld 1 (.tmp 1)), .none⟩, ⟨(.some 11), (.load .false 1 (.tmp 10)), .none⟩, ⟨(.some 12), (.call 17 [(.tmp 9), (.tmp 11)]), .none⟩, ⟨(.some 3), (.mov (.tmp 12)), .none⟩]
def p6_11 : List PO := [⟨(.some 13), (.mov (.tmp 3)), .none⟩, ⟨(.some 14), (.cmpI .neq (.tmp 13) (.const (.int .i64 0))), .none⟩]
def p6_12 : List PO := [⟨(.some 15), (.mov (.tmp 3)), .none⟩, ⟨(.some 2), (.mov (.tmp 15)), .none⟩]
def p6_13 : List PO := [⟨(.some 16), (.fld 2 (.tmp 1)), .none⟩, ⟨(.some 17), (.load .false 1 (.tmp 16)), .none⟩, ⟨(.some 18), (.len .false (.tmp 17)), .none⟩, ⟨(.some 19), (.fld 0 (.tmp 1)), .none⟩, ⟨(.some 20), (.load .false 1 (.tmp 19)), .none⟩, ⟨(.some 21), (.fld 1 (.tmp 1)), .none⟩, ⟨(.some 22), (.load .false 1 (.tmp 21)), .none⟩, ⟨(.some 23), (.arI .mul (.tmp 20) (.tmp 22)), .none⟩, ⟨(.some 24), (.cmpI .neq (.tmp 18) (.tmp 23)), .none⟩]
def p6_14 : List PO := [⟨(.some 2), (.mov (.const (.int .i64 4))), .none⟩]
def p6_15 : List PO := [⟨(.some 25), (.fld 1 (.tmp 1)), .none⟩, ⟨(.some 26), (.load .false 1 (.tmp 25)), .none⟩, ⟨(.some 27), (.mov (.const (.int .i64 0))), .none⟩]
def p6_16 : List PO := [⟨(.some 28), (.cmpI .lss (.tmp 27) (.tmp 26)), .none⟩]
def p6_17 : List PO := [⟨(.some 29), (.mov (.tmp 27)), .none⟩, ⟨(.some 4), (.mov (.tmp 29)), .none⟩]
def p6_18 : List PO := [⟨(.some 30), (.load .true 3 (.tmp 1)), .none⟩, ⟨(.some 31), (.mov (.tmp 4)), .none⟩, ⟨(.some 32), (.callr 18 [(.tmp 30), (.tmp 31)]), .none⟩, ⟨(.some 5), (.mov (.tmp 32)), .none⟩]
def p6_19 : List PO := [⟨(.some 33), (.mov (.tmp 5)), .none⟩, ⟨(.some 34), (.len .false (.tmp 33)), .none⟩, ⟨(.some 35), (.mov (.const (.int .i64 0))), .none⟩]
def p6_20 : List PO := [⟨(.some 36), (.cmpI .lss (.tmp 35) (.tmp 34)), .none⟩]
def p6_21 : List PO := [⟨(.some 37), (.mov (.tmp 35)), .none⟩, ⟨(.some 38), (.ixS 36 4 (.tmp 33) (.tmp 35)), .none⟩, ⟨(.some 39), (.load .true 4 (.tmp 38)), .none⟩, ⟨(.some 7), (.alloc [(4, (.int .i64 0))]), .none⟩, ⟨(.some 6), (.mov (.tmp 37)), .none⟩, ⟨.none, (.store 4 (.tmp 7) (.tmp 39)), .none⟩]
def p6_22 : List PO := [⟨(.some 40), (.fld 1 (.tmp 7)), .none⟩, ⟨(.some 41), (.load .true 3 (.tmp 40)), .none⟩, ⟨(.some 42), (.call 19 [(.tmp 41)]), .none⟩, ⟨(.some 43), (.cmpI .neq (.tmp 42) (.const (.int .i64 0))), .none⟩, ⟨(.some 44), (.mov (.tmp 43)), .none⟩, ⟨(.some 45), (.fld 0 (.tmp 7)), (.some (44, .false))⟩, ⟨(.some 46), (.load .false 1 (.tmp 45)), (.some (44, .false))⟩, ⟨(.some 47), (.cmpI .neq (.tmp 46) (.const (.int .i64 0))), (.some (44, .false))⟩, ⟨(.some 48), (.mov (.tmp 47)), (.some (44, .false))⟩, ⟨(.some 49), (.fld 0 (.tmp 7)), (.some (48, .true))⟩, ⟨(.some 50), (.load .false 1 (.tmp 49)), (.some (48, .true))⟩, ⟨(.some 51), (.call 20 [(.tmp 50)]), (.some (48, .true))⟩, ⟨(.some 52), (.cmpI .eql (.tmp 51) (.const (.int .i64 0))), (.some (48, .true))⟩, ⟨(.some 53), (.pick (.tmp 48) (.tmp 52) (.const (.bool .false))), (.some (44, .false))⟩, ⟨(.some 54), (.pick (.tmp 44) (.const (.bool .true)) (.tmp 53)), .none⟩, ⟨(.some 55), (.mov (.tmp 54)), .none⟩, ⟨(.some 56), (.mov (.tmp 5)), (.some (55, .false))⟩, ⟨(.some 57), (.mov (.tmp 6)), (.some (55, .false))⟩, ⟨(.some 58), (.call 21 [(.tmp 56), (.tmp 57)]), (.some (55, .false))⟩, ⟨(.some 59), (.pick (.tmp 55) (.const (.bool .true)) (.tmp 58)), .none⟩]
def p6_23 : List PO := [⟨(.some 2), (.mov (.const (.int .i64 4))), .none⟩]
def p6_24 : List PO := [⟨(.some 60), (.arI .add (.tmp 35) (.const (.int .i64 1))), .none⟩, ⟨(.some 35), (.mov (.tmp 60)), .none⟩]
def c6_1 : PCode := (.keep [1, 5, 26, 27, 33, 34, 35] [(16, .id 16)] [] (.seq (.block 3 (.seq (.reg p6_21) (.seq (.reg p6_22) (.cond (.tmp 59) (.seq (.reg p6_23) .ret) .skip)))) (.reg p6_24)))
def c6_2 : PCode := (.keep [1, 5, 26, 27, 33, 34, 35, 36] [(16, .id 16)] [] (.seq (.cond (.tmp 36) .skip (.keep [1, 26, 27] [(16, .id 16)] [] (.exit 2))) c6_1))
def c6_3 : PCode := (.keep [1, 5, 26, 27, 33, 34, 35] [(16, .id 16)] [] (.seq (.reg p6_20) c6_2))
def p6_25 : List PO := [⟨(.some 61), (.arI .add (.tmp 27) (.const (.int .i64 1))), .none⟩, ⟨(.some 27), (.mov (.tmp 61)), .none⟩]
def c6_4 : PCode := (.keep [1, 26, 27] [(16, .id 16)] [] (.seq (.block 1 (.seq (.reg p6_17) (.seq (.reg p6_18) (.seq (.reg p6_19) (.block 2 (.loop c6_3)))))) (.reg p6_25)))
def c6_5 : PCode := (.keep [1, 26, 27, 28] [(16, .id 16)] [] (.seq (.cond (.tmp 28) .skip (.keep [] [] [] (.exit 0))) c6_4))
def c6_6 : PCode := (.keep [1, 26, 27] [(16, .id 16)] [] (.seq (.reg p6_16) c6_5))
def p6_26 : List PO := [⟨(.some 2), (.mov (.const (.int .i64 0))), .none⟩]
def c6_7 : PCode := (.keep [1] [(16, .id 16)] [] (.seq (.seq (.reg p6_15) (.block 0 (.loop c6_6))) (.seq (.reg p6_26) .ret)))
def c6_8 : PCode := (.keep [1] [(16, .id 16)] [] (.seq (.seq (.reg p6_13) (.cond (.tmp 24) (.seq (.reg p6_14) .ret) .skip)) c6_7))
def c6_b : PCode := (.seq (.reg p6_9) (.seq (.seq (.reg p6_10) (.seq (.reg p6_11) (.cond (.tmp 14) (.seq (.reg p6_12) .ret) .skip))) c6_8))
def c6 : FCode := ⟨62, c6_b, [(.tmp 2)], some ([2], [], []), false⟩
theorem c6_ok : compF Go.Proofs.Try.prog [100007, 100008, 100009, 100011, 100012, 18, 100022, 23, 25, 27, 28, 29, 38, 39, 40] 6 = some (eraseF c6) := by kernel_rfl
def p10_1 : List PO := [⟨(.some 2), (.nilS 36 4), .none⟩]
def p10_2 : List PO := [⟨(.some 3), (.mov (.tmp 0)), .none⟩, ⟨(.some 4), (.isN .false (.tmp 3)), .none⟩]
def p10_3 : List PO := [⟨(.some 2), (.nilS 36 4), .none⟩]
def p10_4 : List PO := [⟨(.some 5), (.bsl 36 4 0 [] []), .none⟩, ⟨(.some 6), (.mov (.tmp 0)), .none⟩, ⟨(.some 7), (.app 36 4 32 (.tmp 5) (.tmp 6)), .none⟩, ⟨(.some 2), (.mov (.tmp 7)), .none⟩]
def c10_b : PCode := (.seq (.reg p10_1) (.seq (.seq (.reg p10_2) (.cond (.tmp 4) (.seq (.reg p10_3) .ret) .skip)) (.seq (.reg p10_4) .ret)))
def c10 : FCode := ⟨8, c10_b, [(.tmp 2)], some ([2], [(97, (.slot 2 none))], []), true⟩
theorem c10_ok : compF Go.Proofs.Try.prog [100007, 100008, 100009, 100011, 100012, 18, 100022, 23, 25, 27, 28, 29, 38, 39, 40] 10 = some (eraseF c10) := by kernel_rfl
def p35_1 : List PO := [⟨(.some 1), (.box 3 (.tmp 0)), .none⟩, ⟨(.some 2), (.alloc [(2, (.int .i64 0)), (1, (.slice .none 0 0))]), .none⟩]
def p35_2 : List PO := [⟨(.some 3), (.fld 2 (.tmp 1)), .none⟩, ⟨(.some 4), (.load .false 1 (.tmp 3)), .none⟩, ⟨(.some 5), (.call 10 [(.tmp 4)]), .none⟩, ⟨(.some 6), (.fld 2 (.tmp 1)), .none⟩, ⟨.none, (.store 1 (.tmp 6) (.tmp 5)), .none⟩]
def p35_3 : List PO := [⟨(.some 7), (.load .true 3 (.tmp 1)), .none⟩, ⟨.none, (.store 3 (.tmp 2) (.tmp 7)), .none⟩]
def c35_b : PCode := (.seq (.reg p35_1) (.seq (.reg p35_2) (.seq (.reg p35_3) .ret)))
def c35 : FCode := ⟨8, c35_b, [(.cell 2 .true 3)], some ([2], [(24, .id 24), (48, .id 48)], []), false⟩
theorem c35_ok : compF Go.Proofs.Try.prog [100007, 100008, 100009, 100011, 100012, 18, 100022, 23, 25, 27, 28, 29, 38, 39, 40] 35 = some (eraseF c35) := by kernel_rfl
def p22_3 : List PO := [⟨(.some 3), (.box 3 (.tmp 0)), .none⟩, ⟨(.some 5), (.box 3 (.tmp 2)), .none⟩, ⟨(.some 6), (.alloc [(2, (.int .i64 0)), (1, (.slice .none 0 0))]), .none⟩, ⟨(.some 7), (.mov (.const (.int .i64 0))), .none⟩]
def p22_4 : List PO := [⟨(.some 10), (.load .true 3 (.tmp 3)), .none⟩, ⟨(.some 11), (.call 6 [(.tmp 10)]), .none⟩, ⟨(.some 8), (.mov (.tmp 11)), .none⟩]
def p22_5 : List PO := [⟨(.some 12), (.mov (.tmp 8)), .none⟩, ⟨(.some 13), (.cmpI .neq (.tmp 12) (.const (.int .i64 0))), .none⟩]
def p22_6 : List PO := [⟨(.some 14), (.build [(2, (.int .i64 0)), (1, (.slice .none 0 0))] []), .none⟩, ⟨(.some 15), (.mov (.tmp 8)), .none⟩, ⟨.none, (.store 3 (.tmp 6) (.tmp 14)), .none⟩, ⟨(.some 7), (.mov (.tmp 15)), .none⟩]
def p22_7 : List PO := [⟨(.some 16), (.mov (.tmp 1)), .none⟩, ⟨(.some 17), (.un .not (.tmp 16)), .none⟩]
def p22_8 : List PO := [⟨(.some 18), (.build [(2, (.int .i64 0)), (1, (.slice .none 0 0))] []), .none⟩, ⟨.none, (.store 3 (.tmp 6) (.tmp 18)), .none⟩, ⟨(.some 7), (.mov (.const (.int .i64 1))), .none⟩]
def p22_9 : List PO := [⟨(.some 19), (.load .true 3 (.tmp 5)), .none⟩, ⟨(.some 20), (.call 19 [(.tmp 19)]), .none⟩, ⟨(.some 9), (.mov (.tmp 20)), .none⟩]
def p22_10 : List PO := [⟨(.some 21), (.mov (.tmp 9)), .none⟩, ⟨(.some 22), (.cmpI .neq (.tmp 21) (.const (.int .i64 0))), .none⟩]
def p22_11 : List PO := [⟨(.some 23), (.build [(2, (.int .i64 0)), (1, (.slice .none 0 0))] []), .none⟩, ⟨(.some 24), (.mov (.tmp 9)), .none⟩, ⟨.none, (.store 3 (.tmp 6) (.tmp 23)), .none⟩, ⟨(.some 7), (.mov (.tmp 24)), .none⟩]
def p22_12 : List PO := [⟨(.some 25), (.load .true 3 (.tmp 3)), .none⟩, ⟨(.some 26), (.call 35 [(.tmp 25)]), .none⟩, ⟨.none, (.store 3 (.tmp 6) (.tmp 26)), .none⟩, ⟨(.some 7), (.mov (.const (.int .i64 0))), .none⟩]
def c22_1 : PCode := (.keep [3, 5, 6] [(32, .id 32), (48, .id 48), (56, .id 56)] [] (.seq (.seq (.reg p22_9) (.seq (.reg p22_10) (.cond (.tmp 22) (.seq (.reg p22_11) .ret) .skip))) (.seq (.reg p22_12) .ret)))
def c22_2 : PCode := (.keep [1, 3, 5, 6] [(32, .id 32), (48, .id 48), (56, .id 56)] [.cell 56 2 0 0 1] (.seq (.seq (.reg p22_7) (.cond (.tmp 17) (.seq (.reg p22_8) .ret) .skip)) c22_1))
def c22_b : PCode := (.seq (.reg p22_3) (.seq (.seq (.reg p22_4) (.seq (.reg p22_5) (.cond (.tmp 13) (.seq (.reg p22_6) .ret) .skip))) c22_2))
def c22 : FCode := ⟨27, c22_b, [(.cell 6 .true 3), (.tmp 7)], some ([6, 7], [(56, .id 56), (216, (.cell 56 2))], [.cell 56 2 216 36 4]), false⟩
theorem c22_ok : compF Go.Proofs.Try.prog [100007, 100008, 100009, 100011, 100012, 18, 100022, 23, 25, 27, 28, 29, 38, 39, 40] 22 = some (eraseF c22) := by kernel_rfl
def p29_4 : List PO := [⟨(.some 4), (.mov (.tmp 0)), .none⟩, ⟨(.some 5), (.call 10 [(.tmp 4)]), .none⟩, ⟨(.some 2), (.mov (.tmp 5)), .none⟩]
def p29_5 : List PO := [⟨(.some 6), (.mov (.tmp 0)), .none⟩, ⟨(.some 7), (.len .false (.tmp 6)), .none⟩, ⟨(.some 8), (.mov (.const (.int .i64 0))), .none⟩]
def p29_6 : List PO := [⟨(.some 9), (.cmpI .lss (.tmp 8) (.tmp 7)), .none⟩]
def p29_7 : List PO := [⟨(.some 10), (.mov (.tmp 8)), .none⟩, ⟨(.some 3), (.mov (.tmp 10)), .none⟩]
def p29_8 : List PO := [⟨(.some 11), (.mov (.tmp 2)), .none⟩, ⟨(.some 12), (.mov (.tmp 3)), .none⟩, ⟨(.some 13), (.call 21 [(.tmp 11), (.tmp 12)]), .none⟩]
def p29_9 : List PO := [⟨(.some 14), (.mov (.tmp 0)), .none⟩, ⟨(.some 15), (.mov (.tmp 3)), .none⟩, ⟨(.some 16), (.mov (.tmp 2)), .none⟩, ⟨(.some 17), (.mov (.tmp 3)), .none⟩, ⟨(.some 18), (.ixS 36 4 (.tmp 16) (.tmp 17)), .none⟩, ⟨(.some 19), (.fld 1 (.tmp 18)), .none⟩, ⟨(.some 20), (.load .true 3 (.tmp 19)), .none⟩, ⟨(.some 21), (.call 36 [(.tmp 20)]), .none⟩, ⟨(.some 22), (.ixS 36 4 (.tmp 14) (.tmp 15)), .none⟩, ⟨.none, (.store 4 (.tmp 22) (.tmp 21)), .none⟩]
def p29_10 : List PO := [⟨(.some 23), (.arI .add (.tmp 8) (.const (.int .i64 1))), .none⟩, ⟨(.some 8), (.mov (.tmp 23)), .none⟩]
def c29_1 : PCode := (.keep [0, 2, 7, 8] [(0, .id 0), (48, .id 48)] [] (.seq (.block 1 (.seq (.reg p29_7) (.seq (.reg p29_8) (.cond (.tmp 13) (.reg p29_9) .skip)))) (.reg p29_10)))
def c29_2 : PCode := (.keep [0, 2, 7, 8, 9] [(0, .id 0), (48, .id 48)] [] (.seq (.cond (.tmp 9) .skip (.keep [] [(0, .id 0)] [] (.exit 0))) c29_1))
def c29_3 : PCode := (.keep [0, 2, 7, 8] [(0, .id 0), (48, .id 48)] [] (.seq (.reg p29_6) c29_2))
def c29_b : PCode := (.seq (.reg p29_4) (.seq (.reg p29_5) (.block 0 (.loop c29_3))))
def c29 : FCode := ⟨24, c29_b, [], some ([2000000], [(0, .id 0)], []), false⟩
theorem c29_ok : compF Go.Proofs.Try.prog [100007, 100008, 100009, 100011, 100012, 18, 100022, 23, 25, 27, 28, 29, 38, 39, 40] 29 = some (eraseF c29) := by kernel_rfl
def p23_1 : List PO := [⟨(.some 5), (.box 3 (.tmp 0)), .none⟩, ⟨(.some 9), (.box 3 (.tmp 4)), .none⟩]
def p23_2 : List PO := [⟨(.some 11), (.load .true 3 (.tmp 5)), .none⟩, ⟨(.some 12), (.mov (.tmp 1)), .none⟩, ⟨(.some 13), (.callr 18 [(.tmp 11), (.tmp 12)]), .none⟩, ⟨(.some 10), (.mov (.tmp 13)), .none⟩]
def p23_3 : List PO := [⟨(.some 14), (.mov (.tmp 10)), .none⟩, ⟨(.some 15), (.mov (.tmp 2)), .none⟩, ⟨(.some 16), (.mov (.tmp 3)), .none⟩, ⟨(.some 17), (.load .true 3 (.tmp 9)), .none⟩, ⟨(.some 18), (.build [(4, (.int .i64 0))] [(0, (1, (.tmp 16))), (1, (3, (.tmp 17)))]), .none⟩, ⟨(.some 19), (.ixS 36 4 (.tmp 14) (.tmp 15)), .none⟩, ⟨.none, (.store 4 (.tmp 19) (.tmp 18)), .none⟩]
def p23_4 : List PO := [⟨(.some 20), (.mov (.tmp 3)), .none⟩, ⟨(.some 21), (.call 20 [(.tmp 20)]), .none⟩, ⟨(.some 22), (.cmpI .eql (.tmp 21) (.const (.int .i64 2))), .none⟩]
def p23_5 : List PO := [⟨(.some 23), (.mov (.tmp 10)), .none⟩, ⟨(.some 24), (.mov (.tmp 2)), .none⟩, ⟨(.some 25), (.arI .add (.tmp 24) (.const (.int .i64 1))), .none⟩, ⟨(.some 26), (.load .true 3 (.tmp 9)), .none⟩, ⟨(.some 27), (.build [(4, (.int .i64 0))] [(1, (3, (.tmp 26)))]), .none⟩, ⟨(.some 28), (.ixS 36 4 (.tmp 23) (.tmp 25)), .none⟩, ⟨.none, (.store 4 (.tmp 28) (.tmp 27)), .none⟩]
def p23_6 : List PO := [⟨(.some 29), (.mov (.tmp 10)), .none⟩, ⟨(.some 30), (.callr 29 [(.tmp 29)]), .none⟩]
def c23_b : PCode := (.seq (.reg p23_1) (.seq (.reg p23_2) (.seq (.reg p23_3) (.seq (.seq (.reg p23_4) (.cond (.tmp 22) (.reg p23_5) .skip)) (.reg p23_6)))))
def c23 : FCode := ⟨31, c23_b, [], some ([2000000], [(0, .id 0)], []), false⟩
theorem c23_ok : compF Go.Proofs.Try.prog [100007, 100008, 100009, 100011, 100012, 18, 100022, 23, 25, 27, 28, 29, 38, 39, 40] 23 = some (eraseF c23) := by kernel_rfl
def p7_3 : List PO := [⟨(.some 5), (.box 3 (.tmp 0)), .none⟩, ⟨(.some 9), (.box 3 (.tmp 4)), .none⟩, ⟨(.some 10), (.alloc [(2, (.int .i64 0)), (1, (.slice .none 0 0))]), .none⟩, ⟨(.some 11), (.mov (.const (.int .i64 0))), .none⟩]
def p7_4 : List PO := [⟨(.some 14), (.mov (.tmp 3)), .none⟩, ⟨(.some 15), (.call 20 [(.tmp 14)]), .none⟩, ⟨(.some 12), (.mov (.tmp 15)), .none⟩]
def p7_5 : List PO := [⟨(.some 17), (.load .true 3 (.tmp 5)), .none⟩, ⟨(.some 18), (.mov (.tmp 1)), .none⟩, ⟨(.some 19), (.cmpI .geq (.tmp 18) (.const (.int .i64 0))), .none⟩, ⟨(.some 20), (.mov (.tmp 19)), .none⟩, ⟨(.some 21), (.mov (.tmp 1)), (.some (20, .true))⟩, ⟨(.some 22), (.fld 1 (.tmp 5)), (.some (20, .true))⟩, ⟨(.some 23), (.load .false 1 (.tmp 22)), (.some (20, .true))⟩, ⟨(.some 24), (.cmpI .lss (.tmp 21) (.tmp 23)), (.some (20, .true))⟩, ⟨(.some 25), (.pick (.tmp 20) (.tmp 24) (.const (.bool .false))), .none⟩, ⟨(.some 26), (.mov (.tmp 25)), .none⟩, ⟨(.some 27), (.mov (.tmp 12)), (.some (26, .true))⟩, ⟨(.some 28), (.cmpI .gtr (.tmp 27) (.const (.int .i64 0))), (.some (26, .true))⟩, ⟨(.some 29), (.pick (.tmp 26) (.tmp 28) (.const (.bool .false))), .none⟩, ⟨(.some 30), (.mov (.tmp 29)), .none⟩, ⟨(.some 31), (.mov (.tmp 2)), (.some (30, .true))⟩, ⟨(.some 32), (.cmpI .geq (.tmp 31) (.const (.int .i64 0))), (.some (30, .true))⟩, ⟨(.some 33), (.pick (.tmp 30) (.tmp 32) (.const (.bool .false))), .none⟩, ⟨(.some 34), (.mov (.tmp 33)), .none⟩, ⟨(.some 35), (.mov (.tmp 2)), (.some (34, .true))⟩, ⟨(.some 36), (.fld 0 (.tmp 5)), (.some (34, .true))⟩, ⟨(.some 37), (.load .false 1 (.tmp 36)), (.some (34, .true))⟩, ⟨(.some 38), (.mov (.tmp 12)), (.some (34, .true))⟩, ⟨(.some 39), (.arI .sub (.tmp 37) (.tmp 38)), (.some (34, .true))⟩, ⟨(.some 40), (.cmpI .leq (.tmp 35) (.tmp 39)), (.some (34, .true))⟩, ⟨(.some 41), (.pick (.tmp 34) (.tmp 40) (.const (.bool .false))), .none⟩, ⟨(.some 42), (.load .true 3 (.tmp 9)), .none⟩, ⟨(.some 43), (.callf 22 [(.tmp 17), (.tmp 41), (.tmp 42)]), .none⟩, ⟨(.some 16), (.mov (.tmp 43)), .none⟩, ⟨(.some 44), (.ext (.tmp 16) 0), .none⟩, ⟨(.some 45), (.ext (.tmp 16) 1), .none⟩, ⟨.none, (.store 3 (.tmp 5) (.tmp 44)), .none⟩, ⟨(.some 13), (.mov (.tmp 45)), .none⟩]
def p7_6 : List PO := [⟨(.some 46), (.mov (.tmp 13)), .none⟩, ⟨(.some 47), (.cmpI .neq (.tmp 46) (.const (.int .i64 0))), .none⟩]
def p7_7 : List PO := [⟨(.some 48), (.load .true 3 (.tmp 5)), .none⟩, ⟨(.some 49), (.mov (.tmp 13)), .none⟩, ⟨.none, (.store 3 (.tmp 10) (.tmp 48)), .none⟩, ⟨(.some 11), (.mov (.tmp 49)), .none⟩]
def p7_8 : List PO := [⟨(.some 50), (.load .true 3 (.tmp 5)), .none⟩, ⟨(.some 51), (.mov (.tmp 1)), .none⟩, ⟨(.some 52), (.mov (.tmp 2)), .none⟩, ⟨(.some 53), (.mov (.tmp 3)), .none⟩, ⟨(.some 54), (.load .true 3 (.tmp 9)), .none⟩, ⟨(.some 55), (.callr 23 [(.tmp 50), (.tmp 51), (.tmp 52), (.tmp 53), (.tmp 54)]), .none⟩]
def p7_9 : List PO := [⟨(.some 56), (.load .true 3 (.tmp 5)), .none⟩, ⟨.none, (.store 3 (.tmp 10) (.tmp 56)), .none⟩, ⟨(.some 11), (.mov (.const (.int .i64 0))), .none⟩]
def c7_1 : PCode := (.keep [1, 2, 3, 5, 9, 10] [(48, .id 48), (352, .id 352), (80, .id 80), (88, .id 88)] [] (.seq (.reg p7_8) (.seq (.reg p7_9) .ret)))
def c7_2 : PCode := (.keep [1, 2, 3, 5, 9, 10, 13] [(48, .id 48), (352, .id 352), (80, .id 80), (88, .id 88)] [.cell 88 2 0 0 1] (.seq (.seq (.reg p7_6) (.cond (.tmp 47) (.seq (.reg p7_7) .ret) .skip)) c7_1))
def c7_b : PCode := (.seq (.reg p7_3) (.seq (.reg p7_4) (.seq (.reg p7_5) c7_2)))
def c7 : FCode := ⟨57, c7_b, [(.cell 10 .true 3), (.tmp 11)], some ([10, 11], [(88, .id 88), (352, .id 352)], []), false⟩
theorem c7_ok : compF Go.Proofs.Try.prog [100007, 100008, 100009, 100011, 100012, 18, 100022, 23, 25, 27, 28, 29, 38, 39, 40] 7 = some (eraseF c7) := by kernel_rfl
def p15_6 : List PO := [⟨(.some 2), (.box 3 (.tmp 0)), .none⟩, ⟨(.some 4), (.nilS 3 1), .none⟩, ⟨(.some 5), (.mov (.const (.int .i64 0))), .none⟩]
def p15_7 : List PO := [⟨(.some 11), (.load .true 3 (.tmp 2)), .none⟩, ⟨(.some 12), (.mov (.tmp 1)), .none⟩, ⟨(.some 13), (.cmpI .geq (.tmp 12) (.const (.int .i64 0))), .none⟩, ⟨(.some 14), (.mov (.tmp 13)), .none⟩, ⟨(.some 15), (.mov (.tmp 1)), (.some (14, .true))⟩, ⟨(.some 16), (.fld 1 (.tmp 2)), (.some (14, .true))⟩, ⟨(.some 17), (.load .false 1 (.tmp 16)), (.some (14, .true))⟩, ⟨(.some 18), (.cmpI .lss (.tmp 15) (.tmp 17)), (.some (14, .true))⟩, ⟨(.some 19), (.pick (.tmp 14) (.tmp 18) (.const (.bool .false))), .none⟩, ⟨(.some 20), (.build [(3, (.int .i64 0))] []), .none⟩, ⟨(.some 21), (.callf 22 [(.tmp 11), (.tmp 19), (.tmp 20)]), .none⟩, ⟨(.some 10), (.mov (.tmp 21)), .none⟩, ⟨(.some 22), (.ext (.tmp 10) 0), .none⟩, ⟨(.some 23), (.ext (.tmp 10) 1), .none⟩, ⟨.none, (.store 3 (.tmp 2) (.tmp 22)), .none⟩, ⟨(.some 6), (.mov (.tmp 23)), .none⟩]
def p15_8 : List PO := [⟨(.some 24), (.mov (.tmp 6)), .none⟩, ⟨(.some 25), (.cmpI .neq (.tmp 24) (.const (.int .i64 0))), .none⟩]
def p15_9 : List PO := [⟨(.some 26), (.mov (.tmp 6)), .none⟩, ⟨(.some 4), (.nilS 3 1), .none⟩, ⟨(.some 5), (.mov (.tmp 26)), .none⟩]
def p15_10 : List PO := [⟨(.some 7), (.nilS 3 1), .none⟩]
def p15_11 : List PO := [⟨(.some 27), (.load .true 3 (.tmp 2)), .none⟩, ⟨(.some 28), (.mov (.tmp 1)), .none⟩, ⟨(.some 29), (.callr 18 [(.tmp 27), (.tmp 28)]), .none⟩, ⟨(.some 30), (.len .false (.tmp 29)), .none⟩, ⟨(.some 31), (.mov (.const (.int .i64 0))), .none⟩]
def p15_12 : List PO := [⟨(.some 32), (.cmpI .lss (.tmp 31) (.tmp 30)), .none⟩]
def p15_13 : List PO := [⟨(.some 33), (.ixS 36 4 (.tmp 29) (.tmp 31)), .none⟩, ⟨(.some 34), (.load .true 4 (.tmp 33)), .none⟩, ⟨(.some 9), (.alloc [(4, (.int .i64 0))]), .none⟩, ⟨.none, (.store 4 (.tmp 9) (.tmp 34)), .none⟩]
def p15_14 : List PO := [⟨(.some 35), (.fld 0 (.tmp 9)), .none⟩, ⟨(.some 36), (.load .false 1 (.tmp 35)), .none⟩, ⟨(.some 37), (.cmpI .neq (.tmp 36) (.const (.int .i64 0))), .none⟩]
def p15_15 : List PO := [⟨(.some 38), (.mov (.tmp 7)), .none⟩, ⟨(.some 39), (.fld 0 (.tmp 9)), .none⟩, ⟨(.some 40), (.load .false 1 (.tmp 39)), .none⟩, ⟨(.some 41), (.bsl 3 1 1 [(1, (.int .i64 0))] [(0, (1, (.tmp 40)))]), .none⟩, ⟨(.some 42), (.app 3 1 8 (.tmp 38) (.tmp 41)), .none⟩, ⟨(.some 7), (.mov (.tmp 42)), .none⟩]
def p15_16 : List PO := [⟨(.some 43), (.arI .add (.tmp 31) (.const (.int .i64 1))), .none⟩, ⟨(.some 31), (.mov (.tmp 43)), .none⟩]
def c15_1 : PCode := (.keep [7, 29, 30, 31] [(64, .id 64), (176, .id 176)] [] (.seq (.block 1 (.seq (.reg p15_13) (.seq (.reg p15_14) (.cond (.tmp 37) (.reg p15_15) .skip)))) (.reg p15_16)))
def c15_2 : PCode := (.keep [7, 29, 30, 31, 32] [(64, .id 64), (176, .id 176)] [] (.seq (.cond (.tmp 32) .skip (.keep [7] [(64, .id 64)] [] (.exit 0))) c15_1))
def c15_3 : PCode := (.keep [7, 29, 30, 31] [(64, .id 64), (176, .id 176)] [] (.seq (.reg p15_12) c15_2))
def p15_17 : List PO := [⟨(.some 44), (.mov (.tmp 7)), .none⟩, ⟨(.some 4), (.mov (.tmp 44)), .none⟩, ⟨(.some 5), (.mov (.const (.int .i64 0))), .none⟩]
def c15_4 : PCode := (.keep [1, 2] [(24, .id 24), (176, .id 176)] [] (.seq (.reg p15_10) (.seq (.seq (.reg p15_11) (.block 0 (.loop c15_3))) (.seq (.reg p15_17) .ret))))
def c15_5 : PCode := (.keep [1, 2, 6] [(24, .id 24), (176, .id 176)] [] (.seq (.seq (.reg p15_8) (.cond (.tmp 25) (.seq (.reg p15_9) .ret) .skip)) c15_4))
def c15_b : PCode := (.seq (.reg p15_6) (.seq (.reg p15_7) c15_5))
def c15 : FCode := ⟨45, c15_b, [(.tmp 4), (.tmp 5)], some ([4, 5], [(393, (.slot 4 none))], []), false⟩
theorem c15_ok : compF Go.Proofs.Try.prog [100007, 100008, 100009, 100011, 100012, 18, 100022, 23, 25, 27, 28, 29, 38, 39, 40] 15 = some (eraseF c15) := by kernel_rfl
def p16_5 : List PO := [⟨(.some 4), (.mov (.const (.bool .false))), .none⟩]
def p16_6 : List PO := [⟨(.some 6), (.mov (.tmp 0)), .none⟩, ⟨(.some 7), (.len .false (.tmp 6)), .none⟩, ⟨(.some 8), (.mov (.tmp 1)), .none⟩, ⟨(.some 9), (.len .false (.tmp 8)), .none⟩, ⟨(.some 10), (.cmpI .neq (.tmp 7) (.tmp 9)), .none⟩]
def p16_7 : List PO := [⟨(.some 4), (.mov (.const (.bool .false))), .none⟩]
def p16_8 : List PO := [⟨(.some 11), (.mov (.tmp 0)), .none⟩, ⟨(.some 12), (.len .false (.tmp 11)), .none⟩, ⟨(.some 13), (.mov (.const (.int .i64 0))), .none⟩]
def p16_9 : List PO := [⟨(.some 14), (.cmpI .lss (.tmp 13) (.tmp 12)), .none⟩]
def p16_10 : List PO := [⟨(.some 15), (.mov (.tmp 13)), .none⟩, ⟨(.some 5), (.mov (.tmp 15)), .none⟩]
def p16_11 : List PO := [⟨(.some 16), (.mov (.tmp 0)), .none⟩, ⟨(.some 17), (.mov (.tmp 5)), .none⟩, ⟨(.some 18), (.ixS 3 1 (.tmp 16) (.tmp 17)), .none⟩, ⟨(.some 19), (.load .false 1 (.tmp 18)), .none⟩, ⟨(.some 20), (.mov (.tmp 1)), .none⟩, ⟨(.some 21), (.mov (.tmp 5)), .none⟩, ⟨(.some 22), (.ixS 3 1 (.tmp 20) (.tmp 21)), .none⟩, ⟨(.some 23), (.load .false 1 (.tmp 22)), .none⟩, ⟨(.some 24), (.cmpI .neq (.tmp 19) (.tmp 23)), .none⟩]
def p16_12 : List PO := [⟨(.some 4), (.mov (.const (.bool .false))), .none⟩]
def p16_13 : List PO := [⟨(.some 25), (.arI .add (.tmp 13) (.const (.int .i64 1))), .none⟩, ⟨(.some 13), (.mov (.tmp 25)), .none⟩]
def c16_1 : PCode := (.keep [0, 1, 12, 13] [] [] (.seq (.block 1 (.seq (.reg p16_10) (.seq (.regD p16_11 []) (.cond (.tmp 24) (.seq (.reg p16_12) .ret) .skip)))) (.reg p16_13)))
def c16_2 : PCode := (.keep [0, 1, 12, 13, 14] [] [] (.seq (.cond (.tmp 14) .skip (.keep [] [] [] (.exit 0))) c16_1))
def c16_3 : PCode := (.keep [0, 1, 12, 13] [] [] (.seq (.reg p16_9) c16_2))
def p16_14 : List PO := [⟨(.some 4), (.mov (.const (.bool .true))), .none⟩]
def c16_4 : PCode := (.keep [0, 1] [] [] (.seq (.seq (.reg p16_8) (.block 0 (.loop c16_3))) (.seq (.reg p16_14) .ret)))
def c16_b : PCode := (.seq (.reg p16_5) (.seq (.seq (.reg p16_6) (.cond (.tmp 10) (.seq (.reg p16_7) .ret) .skip)) c16_4))
def c16 : FCode := ⟨26, c16_b, [(.tmp 4)], some ([4], [], []), false⟩
theorem c16_ok : compF Go.Proofs.Try.prog [100007, 100008, 100009, 100011, 100012, 18, 100022, 23, 25, 27, 28, 29, 38, 39, 40] 16 = some (eraseF c16) := by kernel_rfl
def p5_1 : List PO := [⟨(.some 0), (.mov (.const (.bool .false))), .none⟩]
def p5_2 : List PO := [⟨(.some 8), (.build [(3, (.int .i64 0))] []), .none⟩, ⟨(.some 9), (.call 14 [(.const (.int .i64 4)), (.const (.int .i64 1)), (.tmp 8)]), .none⟩, ⟨(.some 7), (.mov (.tmp 9)), .none⟩, ⟨(.some 10), (.ext (.tmp 7) 0), .none⟩, ⟨(.some 11), (.ext (.tmp 7) 1), .none⟩, ⟨(.some 1), (.alloc [(2, (.int .i64 0)), (1, (.slice .none 0 0))]), .none⟩, ⟨.none, (.store 3 (.tmp 1) (.tmp 10)), .none⟩, ⟨(.some 2), (.mov (.tmp 11)), .none⟩]
def p5_3 : List PO := [⟨(.some 13), (.load .true 3 (.tmp 1)), .none⟩, ⟨(.some 14), (.build [(3, (.int .i64 0))] []), .none⟩, ⟨(.some 15), (.callf 7 [(.tmp 13), (.const (.int .i64 0)), (.const (.int .i64 0)), (.const (.int .i64 97)), (.tmp 14)]), .none⟩, ⟨(.some 12), (.mov (.tmp 15)), .none⟩, ⟨(.some 16), (.ext (.tmp 12) 0), .none⟩, ⟨(.some 17), (.ext (.tmp 12) 1), .none⟩, ⟨.none, (.store 3 (.tmp 1) (.tmp 16)), .none⟩, ⟨(.some 3), (.mov (.tmp 17)), .none⟩]
def p5_4 : List PO := [⟨(.some 19), (.load .true 3 (.tmp 1)), .none⟩, ⟨(.some 20), (.build [(3, (.int .i64 0))] [(0, (1, (.const (.int .i64 1))))]), .none⟩, ⟨(.some 21), (.callf 7 [(.tmp 19), (.const (.int .i64 0)), (.const (.int .i64 1)), (.const (.int .i64 20013)), (.tmp 20)]), .none⟩, ⟨(.some 18), (.mov (.tmp 21)), .none⟩, ⟨(.some 22), (.ext (.tmp 18) 0), .none⟩, ⟨(.some 23), (.ext (.tmp 18) 1), .none⟩, ⟨.none, (.store 3 (.tmp 1) (.tmp 22)), .none⟩, ⟨(.some 4), (.mov (.tmp 23)), .none⟩]
def p5_5 : List PO := [⟨(.some 25), (.load .true 3 (.tmp 1)), .none⟩, ⟨(.some 26), (.call 15 [(.tmp 25), (.const (.int .i64 0))]), .none⟩, ⟨(.some 24), (.mov (.tmp 26)), .none⟩, ⟨(.some 27), (.ext (.tmp 24) 0), .none⟩, ⟨(.some 28), (.ext (.tmp 24) 1), .none⟩, ⟨(.some 5), (.mov (.tmp 27)), .none⟩, ⟨(.some 6), (.mov (.tmp 28)), .none⟩]
def p5_6 : List PO := [⟨(.some 29), (.mov (.tmp 2)), .none⟩, ⟨(.some 30), (.cmpI .eql (.tmp 29) (.const (.int .i64 0))), .none⟩, ⟨(.some 31), (.mov (.tmp 30)), .none⟩, ⟨(.some 32), (.mov (.tmp 3)), (.some (31, .true))⟩, ⟨(.some 33), (.cmpI .eql (.tmp 32) (.const (.int .i64 0))), (.some (31, .true))⟩, ⟨(.some 34), (.pick (.tmp 31) (.tmp 33) (.const (.bool .false))), .none⟩, ⟨(.some 35), (.mov (.tmp 34)), .none⟩, ⟨(.some 36), (.mov (.tmp 4)), (.some (35, .true))⟩, ⟨(.some 37), (.cmpI .eql (.tmp 36) (.const (.int .i64 0))), (.some (35, .true))⟩, ⟨(.some 38), (.pick (.tmp 35) (.tmp 37) (.const (.bool .false))), .none⟩, ⟨(.some 39), (.mov (.tmp 38)), .none⟩, ⟨(.some 40), (.mov (.tmp 6)), (.some (39, .true))⟩, ⟨(.some 41), (.cmpI .eql (.tmp 40) (.const (.int .i64 0))), (.some (39, .true))⟩, ⟨(.some 42), (.pick (.tmp 39) (.tmp 41) (.const (.bool .false))), .none⟩, ⟨(.some 43), (.mov (.tmp 42)), .none⟩, ⟨(.some 44), (.mov (.tmp 5)), (.some (43, .true))⟩, ⟨(.some 45), (.bsl 3 1 3 [(3, (.int .i64 0))] [(0, (1, (.const (.int .i64 97)))), (1, (1, (.const (.int .i64 20013)))), (2, (1, (.const (.int .i64 32))))]), (.some (43, .true))⟩, ⟨(.some 46), (.call 16 [(.tmp 44), (.tmp 45)]), (.some (43, .true))⟩, ⟨(.some 47), (.pick (.tmp 43) (.tmp 46) (.const (.bool .false))), .none⟩, ⟨(.some 0), (.mov (.tmp 47)), .none⟩]
def c5_b : PCode := (.seq (.reg p5_1) (.seq (.reg p5_2) (.seq (.reg p5_3) (.seq (.reg p5_4) (.seq (.reg p5_5) (.seq (.reg p5_6) .ret))))))
def c5 : FCode := ⟨48, c5_b, [(.tmp 0)], some ([0], [], []), false⟩
theorem c5_ok : compF Go.Proofs.Try.prog [100007, 100008, 100009, 100011, 100012, 18, 100022, 23, 25, 27, 28, 29, 38, 39, 40] 5 = some (eraseF c5) := by kernel_rfl
def p24_1 : List PO := [⟨(.some 4), (.box 3 (.tmp 0)), .none⟩, ⟨(.some 8), (.mov (.const (.bool .false))), .none⟩]
def p24_2 : List PO := [⟨(.some 9), (.mov (.tmp 1)), .none⟩, ⟨(.some 10), (.cmpI .geq (.tmp 9) (.const (.int .i64 0))), .none⟩, ⟨(.some 11), (.mov (.tmp 10)), .none⟩, ⟨(.some 12), (.mov (.tmp 1)), (.some (11, .true))⟩, ⟨(.some 13), (.fld 1 (.tmp 4)), (.some (11, .true))⟩, ⟨(.some 14), (.load .false 1 (.tmp 13)), (.some (11, .true))⟩, ⟨(.some 15), (.cmpI .lss (.tmp 12) (.tmp 14)), (.some (11, .true))⟩, ⟨(.some 16), (.pick (.tmp 11) (.tmp 15) (.const (.bool .false))), .none⟩, ⟨(.some 17), (.mov (.tmp 16)), .none⟩, ⟨(.some 18), (.mov (.tmp 2)), (.some (17, .true))⟩, ⟨(.some 19), (.cmpI .geq (.tmp 18) (.const (.int .i64 0))), (.some (17, .true))⟩, ⟨(.some 20), (.pick (.tmp 17) (.tmp 19) (.const (.bool .false))), .none⟩, ⟨(.some 21), (.mov (.tmp 20)), .none⟩, ⟨(.some 22), (.mov (.tmp 2)), (.some (21, .true))⟩, ⟨(.some 23), (.mov (.tmp 3)), (.some (21, .true))⟩, ⟨(.some 24), (.cmpI .leq (.tmp 22) (.tmp 23)), (.some (21, .true))⟩, ⟨(.some 25), (.pick (.tmp 21) (.tmp 24) (.const (.bool .false))), .none⟩, ⟨(.some 26), (.mov (.tmp 25)), .none⟩, ⟨(.some 27), (.mov (.tmp 3)), (.some (26, .true))⟩, ⟨(.some 28), (.fld 0 (.tmp 4)), (.some (26, .true))⟩, ⟨(.some 29), (.load .false 1 (.tmp 28)), (.some (26, .true))⟩, ⟨(.some 30), (.cmpI .leq (.tmp 27) (.tmp 29)), (.some (26, .true))⟩, ⟨(.some 31), (.pick (.tmp 26) (.tmp 30) (.const (.bool .false))), .none⟩, ⟨(.some 8), (.mov (.tmp 31)), .none⟩]
def c24_b : PCode := (.seq (.reg p24_1) (.seq (.reg p24_2) .ret))
def c24 : FCode := ⟨32, c24_b, [(.tmp 8)], some ([8], [], []), false⟩
theorem c24_ok : compF Go.Proofs.Try.prog [100007, 100008, 100009, 100011, 100012, 18, 100022, 23, 25, 27, 28, 29, 38, 39, 40] 24 = some (eraseF c24) := by kernel_rfl
def p25_3 : List PO := [⟨(.some 5), (.box 3 (.tmp 0)), .none⟩, ⟨(.some 9), (.box 3 (.tmp 4)), .none⟩]
def p25_4 : List PO := [⟨(.some 12), (.load .true 3 (.tmp 5)), .none⟩, ⟨(.some 13), (.mov (.tmp 1)), .none⟩, ⟨(.some 14), (.callr 18 [(.tmp 12), (.tmp 13)]), .none⟩, ⟨(.some 10), (.mov (.tmp 14)), .none⟩]
def p25_5 : List PO := [⟨(.some 15), (.mov (.tmp 2)), .none⟩, ⟨(.some 11), (.mov (.tmp 15)), .none⟩]
def p25_6 : List PO := [⟨(.some 16), (.mov (.tmp 11)), .none⟩, ⟨(.some 17), (.mov (.tmp 3)), .none⟩, ⟨(.some 18), (.cmpI .lss (.tmp 16) (.tmp 17)), .none⟩]
def p25_7 : List PO := [⟨(.some 21), (.mov (.tmp 10)), .none⟩, ⟨(.some 22), (.mov (.tmp 11)), .none⟩, ⟨(.some 23), (.load .true 3 (.tmp 9)), .none⟩, ⟨(.some 24), (.call 36 [(.tmp 23)]), .none⟩, ⟨(.some 25), (.ixS 36 4 (.tmp 21) (.tmp 22)), .none⟩, ⟨.none, (.store 4 (.tmp 25) (.tmp 24)), .none⟩]
def p25_8 : List PO := [⟨(.some 19), (.mov (.tmp 11)), .none⟩, ⟨(.some 20), (.arI .add (.tmp 19) (.const (.int .i64 1))), .none⟩, ⟨(.some 11), (.mov (.tmp 20)), .none⟩]
def c25_1 : PCode := (.keep [3, 9, 10, 11] [(0, .id 0), (80, .id 80)] [] (.seq (.block 1 (.reg p25_7)) (.reg p25_8)))
def c25_2 : PCode := (.keep [3, 9, 10, 11] [(0, .id 0), (80, .id 80)] [] (.seq (.seq (.reg p25_6) (.cond (.tmp 18) .skip (.keep [10] [(0, .id 0)] [] (.exit 0)))) c25_1))
def p25_9 : List PO := [⟨(.some 26), (.mov (.tmp 10)), .none⟩, ⟨(.some 27), (.callr 29 [(.tmp 26)]), .none⟩]
def c25_b : PCode := (.seq (.reg p25_3) (.seq (.reg p25_4) (.seq (.seq (.reg p25_5) (.block 0 (.loop c25_2))) (.reg p25_9))))
def c25 : FCode := ⟨28, c25_b, [], some ([2000000], [(0, .id 0)], []), false⟩
theorem c25_ok : compF Go.Proofs.Try.prog [100007, 100008, 100009, 100011, 100012, 18, 100022, 23, 25, 27, 28, 29, 38, 39, 40] 25 = some (eraseF c25) := by kernel_rfl
def p8_2 : List PO := [⟨(.some 5), (.box 3 (.tmp 0)), .none⟩, ⟨(.some 9), (.box 3 (.tmp 4)), .none⟩, ⟨(.some 10), (.alloc [(2, (.int .i64 0)), (1, (.slice .none 0 0))]), .none⟩, ⟨(.some 11), (.mov (.const (.int .i64 0))), .none⟩]
def p8_3 : List PO := [⟨(.some 14), (.load .true 3 (.tmp 5)), .none⟩, ⟨(.some 15), (.load .true 3 (.tmp 5)), .none⟩, ⟨(.some 16), (.mov (.tmp 1)), .none⟩, ⟨(.some 17), (.mov (.tmp 2)), .none⟩, ⟨(.some 18), (.mov (.tmp 3)), .none⟩, ⟨(.some 19), (.call 24 [(.tmp 15), (.tmp 16), (.tmp 17), (.tmp 18)]), .none⟩, ⟨(.some 20), (.load .true 3 (.tmp 9)), .none⟩, ⟨(.some 21), (.callf 22 [(.tmp 14), (.tmp 19), (.tmp 20)]), .none⟩, ⟨(.some 13), (.mov (.tmp 21)), .none⟩, ⟨(.some 22), (.ext (.tmp 13) 0), .none⟩, ⟨(.some 23), (.ext (.tmp 13) 1), .none⟩, ⟨.none, (.store 3 (.tmp 5) (.tmp 22)), .none⟩, ⟨(.some 12), (.mov (.tmp 23)), .none⟩]
def p8_4 : List PO := [⟨(.some 24), (.mov (.tmp 12)), .none⟩, ⟨(.some 25), (.cmpI .neq (.tmp 24) (.const (.int .i64 0))), .none⟩]
def p8_5 : List PO := [⟨(.some 26), (.load .true 3 (.tmp 5)), .none⟩, ⟨(.some 27), (.mov (.tmp 12)), .none⟩, ⟨.none, (.store 3 (.tmp 10) (.tmp 26)), .none⟩, ⟨(.some 11), (.mov (.tmp 27)), .none⟩]
def p8_6 : List PO := [⟨(.some 28), (.load .true 3 (.tmp 5)), .none⟩, ⟨(.some 29), (.mov (.tmp 1)), .none⟩, ⟨(.some 30), (.mov (.tmp 2)), .none⟩, ⟨(.some 31), (.mov (.tmp 3)), .none⟩, ⟨(.some 32), (.load .true 3 (.tmp 9)), .none⟩, ⟨(.some 33), (.callr 25 [(.tmp 28), (.tmp 29), (.tmp 30), (.tmp 31), (.tmp 32)]), .none⟩]
def p8_7 : List PO := [⟨(.some 34), (.load .true 3 (.tmp 5)), .none⟩, ⟨.none, (.store 3 (.tmp 10) (.tmp 34)), .none⟩, ⟨(.some 11), (.mov (.const (.int .i64 0))), .none⟩]
def c8_1 : PCode := (.keep [1, 2, 3, 5, 9, 10] [(48, .id 48), (176, .id 176), (80, .id 80), (88, .id 88)] [.cell 88 2 0 0 1] (.seq (.reg p8_6) (.seq (.reg p8_7) .ret)))
def c8_b : PCode := (.seq (.reg p8_2) (.seq (.regD p8_3 [(0, 5), (5, 6)]) (.seq (.seq (.reg p8_4) (.cond (.tmp 25) (.seq (.reg p8_5) .ret) .skip)) c8_1)))
def c8 : FCode := ⟨35, c8_b, [(.cell 10 .true 3), (.tmp 11)], some ([10, 11], [(88, .id 88), (176, .id 176)], []), false⟩
theorem c8_ok : compF Go.Proofs.Try.prog [100007, 100008, 100009, 100011, 100012, 18, 100022, 23, 25, 27, 28, 29, 38, 39, 40] 8 = some (eraseF c8) := by kernel_rfl
def p26_1 : List PO := [⟨(.some 2), (.mov (.const (.bool .false))), .none⟩]
def p26_2 : List PO := [⟨(.some 3), (.mov (.tmp 0)), .none⟩, ⟨(.some 4), (.cmpI .geq (.tmp 3) (.const (.int .i64 (-16383)))), .none⟩, ⟨(.some 5), (.mov (.tmp 4)), .none⟩, ⟨(.some 6), (.mov (.tmp 0)), (.some (5, .true))⟩, ⟨(.some 7), (.cmpI .leq (.tmp 6) (.const (.int .i64 16383))), (.some (5, .true))⟩, ⟨(.some 8), (.pick (.tmp 5) (.tmp 7) (.const (.bool .false))), .none⟩, ⟨(.some 2), (.mov (.tmp 8)), .none⟩]
def c26_b : PCode := (.seq (.reg p26_1) (.seq (.reg p26_2) .ret))
def c26 : FCode := ⟨9, c26_b, [(.tmp 2)], some ([2], [], []), false⟩
theorem c26_ok : compF Go.Proofs.Try.prog [100007, 100008, 100009, 100011, 100012, 18, 100022, 23, 25, 27, 28, 29, 38, 39, 40] 26 = some (eraseF c26) := by kernel_rfl
def p38_1 : List PO := [⟨(.some 1), (.alloc [(4, (.int .i64 0))]), .none⟩]
def p38_2 : List PO := [⟨(.some 2), (.load .true 3 (.tmp 0)), .none⟩, ⟨(.some 3), (.call 36 [(.tmp 2)]), .none⟩, ⟨.none, (.store 4 (.tmp 1) (.tmp 3)), .none⟩]
def c38_b : PCode := (.seq (.reg p38_1) (.seq (.reg p38_2) .ret))
def c38 : FCode := ⟨4, c38_b, [(.cell 1 .true 4)], some ([1], [(16, .id 16)], []), false⟩
theorem c38_ok : compF Go.Proofs.Try.prog [100007, 100008, 100009, 100011, 100012, 18, 100022, 23, 25, 27, 28, 29, 38, 39, 40] 38 = some (eraseF c38) := by kernel_rfl
def p37_6 : List PO := [⟨(.some 6), (.nilS 36 4), .none⟩]
def p37_7 : List PO := [⟨(.some 7), (.nilS 36 4), .none⟩]
def p37_8 : List PO := [⟨(.some 10), (.mov (.tmp 0)), .none⟩, ⟨(.some 11), (.len .false (.tmp 10)), .none⟩, ⟨(.some 12), (.mov (.const (.int .i64 0))), .none⟩]
def p37_9 : List PO := [⟨(.some 13), (.cmpI .lss (.tmp 12) (.tmp 11)), .none⟩]
def p37_10 : List PO := [⟨(.some 14), (.mov (.tmp 12)), .none⟩, ⟨(.some 8), (.mov (.tmp 14)), .none⟩]
def p37_11 : List PO := [⟨(.some 15), (.mov (.tmp 8)), .none⟩, ⟨(.some 16), (.mov (.tmp 1)), .none⟩, ⟨(.some 17), (.arI .sub (.tmp 15) (.tmp 16)), .none⟩, ⟨(.some 9), (.mov (.tmp 17)), .none⟩]
def p37_12 : List PO := [⟨(.some 18), (.mov (.tmp 9)), .none⟩, ⟨(.some 19), (.cmpI .geq (.tmp 18) (.const (.int .i64 0))), .none⟩, ⟨(.some 20), (.mov (.tmp 19)), .none⟩, ⟨(.some 21), (.mov (.tmp 9)), (.some (20, .true))⟩, ⟨(.some 22), (.mov (.tmp 0)), (.some (20, .true))⟩, ⟨(.some 23), (.len .false (.tmp 22)), (.some (20, .true))⟩, ⟨(.some 24), (.cmpI .lss (.tmp 21) (.tmp 23)), (.some (20, .true))⟩, ⟨(.some 25), (.pick (.tmp 20) (.tmp 24) (.const (.bool .false))), .none⟩]
def p37_13 : List PO := [⟨(.some 26), (.mov (.tmp 7)), .none⟩, ⟨(.some 27), (.mov (.tmp 0)), .none⟩, ⟨(.some 28), (.mov (.tmp 9)), .none⟩, ⟨(.some 29), (.ixS 36 4 (.tmp 27) (.tmp 28)), .none⟩, ⟨(.some 30), (.load .true 4 (.tmp 29)), .none⟩, ⟨(.some 31), (.bsl 36 4 1 [(4, (.int .i64 0))] [(0, (4, (.tmp 30)))]), .none⟩, ⟨(.some 32), (.app 36 4 32 (.tmp 26) (.tmp 31)), .none⟩, ⟨(.some 7), (.mov (.tmp 32)), .none⟩]
def p37_14 : List PO := [⟨(.some 33), (.mov (.tmp 7)), .none⟩, ⟨(.some 34), (.mov (.tmp 2)), .none⟩, ⟨(.some 35), (.callv (.tmp 34) []), .none⟩, ⟨(.some 36), (.bsl 36 4 1 [(4, (.int .i64 0))] [(0, (4, (.tmp 35)))]), .none⟩, ⟨(.some 37), (.app 36 4 32 (.tmp 33) (.tmp 36)), .none⟩, ⟨(.some 7), (.mov (.tmp 37)), .none⟩]
def c37_1 : PCode := (.keep [0, 1, 2, 7, 11, 12] [(64, .id 64)] [] (.reg p37_14))
def p37_15 : List PO := [⟨(.some 38), (.arI .add (.tmp 12) (.const (.int .i64 1))), .none⟩, ⟨(.some 12), (.mov (.tmp 38)), .none⟩]
def c37_2 : PCode := (.reg p37_15)
def c37_3 : PCode := (.keep [0, 1, 2, 7, 11, 12] [(64, .id 64)] [] (.seq (.block 1 (.seq (.reg p37_10) (.seq (.reg p37_11) (.seq (.reg p37_12) (.cond (.tmp 25) (.reg p37_13) c37_1))))) c37_2))
def c37_4 : PCode := (.keep [0, 1, 2, 7, 11, 12, 13] [(64, .id 64)] [] (.seq (.cond (.tmp 13) .skip (.keep [7] [(64, .id 64)] [] (.exit 0))) c37_3))
def c37_5 : PCode := (.keep [0, 1, 2, 7, 11, 12] [(64, .id 64)] [] (.seq (.reg p37_9) c37_4))
def p37_16 : List PO := [⟨(.some 39), (.mov (.tmp 7)), .none⟩, ⟨(.some 6), (.mov (.tmp 39)), .none⟩]
def c37_b : PCode := (.seq (.reg p37_6) (.seq (.reg p37_7) (.seq (.seq (.reg p37_8) (.block 0 (.loop c37_5))) (.seq (.reg p37_16) .ret))))
def c37 : FCode := ⟨40, c37_b, [(.tmp 6)], some ([6], [(64, .id 64)], []), false⟩
theorem c37_ok : compF Go.Proofs.Try.prog [100007, 100008, 100009, 100011, 100012, 18, 100022, 23, 25, 27, 28, 29, 38, 39, 40] 37 = some (eraseF c37) := by kernel_rfl
def p27_1 : List PO := [⟨(.some 6), (.box 3 (.tmp 0)), .none⟩, ⟨(.some 11), (.box 3 (.tmp 5)), .none⟩]
def p27_2 : List PO := [⟨(.some 13), (.load .true 3 (.tmp 6)), .none⟩, ⟨(.some 14), (.mov (.tmp 1)), .none⟩, ⟨(.some 15), (.callr 18 [(.tmp 13), (.tmp 14)]), .none⟩, ⟨(.some 12), (.mov (.tmp 15)), .none⟩]
def p27_3 : List PO := [⟨(.some 16), (.mov (.tmp 12)), .none⟩, ⟨(.some 17), (.mov (.tmp 2)), .none⟩, ⟨(.some 18), (.mov (.tmp 3)), .none⟩, ⟨(.some 19), (.slS 36 4 (.tmp 16) (.some (.tmp 17)) (.some (.tmp 18))), .none⟩, ⟨(.some 20), (.mov (.tmp 12)), .none⟩, ⟨(.some 21), (.mov (.tmp 2)), .none⟩, ⟨(.some 22), (.mov (.tmp 3)), .none⟩, ⟨(.some 23), (.slS 36 4 (.tmp 20) (.some (.tmp 21)) (.some (.tmp 22))), .none⟩, ⟨(.some 24), (.mov (.tmp 4)), .none⟩, ⟨(.some 25), (.mkF 38 [(.tmp 11)]), .none⟩, ⟨(.some 26), (.call 37 [(.tmp 23), (.tmp 24), (.tmp 25)]), .none⟩, ⟨(.some 27), (.cpy 4 (.tmp 19) (.tmp 26)), .none⟩]
def p27_4 : List PO := [⟨(.some 28), (.mov (.tmp 12)), .none⟩, ⟨(.some 29), (.callr 29 [(.tmp 28)]), .none⟩]
def c27_b : PCode := (.seq (.reg p27_1) (.seq (.reg p27_2) (.seq (.regD p27_3 [(3, 10)]) (.reg p27_4))))
def c27 : FCode := ⟨30, c27_b, [], some ([2000000], [(0, .id 0)], []), false⟩
theorem c27_ok : compF Go.Proofs.Try.prog [100007, 100008, 100009, 100011, 100012, 18, 100022, 23, 25, 27, 28, 29, 38, 39, 40] 27 = some (eraseF c27) := by kernel_rfl
def p9_3 : List PO := [⟨(.some 6), (.box 3 (.tmp 0)), .none⟩, ⟨(.some 11), (.box 3 (.tmp 5)), .none⟩, ⟨(.some 12), (.alloc [(2, (.int .i64 0)), (1, (.slice .none 0 0))]), .none⟩, ⟨(.some 13), (.mov (.const (.int .i64 0))), .none⟩]
def p9_4 : List PO := [⟨(.some 16), (.load .true 3 (.tmp 6)), .none⟩, ⟨(.some 17), (.load .true 3 (.tmp 6)), .none⟩, ⟨(.some 18), (.mov (.tmp 1)), .none⟩, ⟨(.some 19), (.mov (.tmp 2)), .none⟩, ⟨(.some 20), (.mov (.tmp 3)), .none⟩, ⟨(.some 21), (.call 24 [(.tmp 17), (.tmp 18), (.tmp 19), (.tmp 20)]), .none⟩, ⟨(.some 22), (.mov (.tmp 21)), .none⟩, ⟨(.some 23), (.mov (.tmp 4)), (.some (22, .true))⟩, ⟨(.some 24), (.call 26 [(.tmp 23)]), (.some (22, .true))⟩, ⟨(.some 25), (.pick (.tmp 22) (.tmp 24) (.const (.bool .false))), .none⟩, ⟨(.some 26), (.load .true 3 (.tmp 11)), .none⟩, ⟨(.some 27), (.callf 22 [(.tmp 16), (.tmp 25), (.tmp 26)]), .none⟩, ⟨(.some 15), (.mov (.tmp 27)), .none⟩, ⟨(.some 28), (.ext (.tmp 15) 0), .none⟩, ⟨(.some 29), (.ext (.tmp 15) 1), .none⟩, ⟨.none, (.store 3 (.tmp 6) (.tmp 28)), .none⟩, ⟨(.some 14), (.mov (.tmp 29)), .none⟩]
def p9_5 : List PO := [⟨(.some 30), (.mov (.tmp 14)), .none⟩, ⟨(.some 31), (.cmpI .neq (.tmp 30) (.const (.int .i64 0))), .none⟩]
def p9_6 : List PO := [⟨(.some 32), (.load .true 3 (.tmp 6)), .none⟩, ⟨(.some 33), (.mov (.tmp 14)), .none⟩, ⟨.none, (.store 3 (.tmp 12) (.tmp 32)), .none⟩, ⟨(.some 13), (.mov (.tmp 33)), .none⟩]
def p9_7 : List PO := [⟨(.some 34), (.load .true 3 (.tmp 6)), .none⟩, ⟨(.some 35), (.mov (.tmp 1)), .none⟩, ⟨(.some 36), (.mov (.tmp 2)), .none⟩, ⟨(.some 37), (.mov (.tmp 3)), .none⟩, ⟨(.some 38), (.mov (.tmp 4)), .none⟩, ⟨(.some 39), (.load .true 3 (.tmp 11)), .none⟩, ⟨(.some 40), (.callr 27 [(.tmp 34), (.tmp 35), (.tmp 36), (.tmp 37), (.tmp 38), (.tmp 39)]), .none⟩]
def p9_8 : List PO := [⟨(.some 41), (.load .true 3 (.tmp 6)), .none⟩, ⟨.none, (.store 3 (.tmp 12) (.tmp 41)), .none⟩, ⟨(.some 13), (.mov (.const (.int .i64 0))), .none⟩]
def c9_1 : PCode := (.keep [1, 2, 3, 4, 6, 11, 12] [(56, .id 56), (224, .id 224), (96, .id 96), (104, .id 104)] [] (.seq (.reg p9_7) (.seq (.reg p9_8) .ret)))
def c9_2 : PCode := (.keep [1, 2, 3, 4, 6, 11, 12, 14] [(56, .id 56), (224, .id 224), (96, .id 96), (104, .id 104)] [.cell 104 2 0 0 1] (.seq (.seq (.reg p9_5) (.cond (.tmp 31) (.seq (.reg p9_6) .ret) .skip)) c9_1))
def c9_b : PCode := (.seq (.reg p9_3) (.seq (.regD p9_4 [(0, 5), (0, 8), (5, 10), (8, 10)]) c9_2))
def c9 : FCode := ⟨42, c9_b, [(.cell 12 .true 3), (.tmp 13)], some ([12, 13], [(104, .id 104), (224, .id 224)], []), false⟩
theorem c9_ok : compF Go.Proofs.Try.prog [100007, 100008, 100009, 100011, 100012, 18, 100022, 23, 25, 27, 28, 29, 38, 39, 40] 9 = some (eraseF c9) := by kernel_rfl
def p3_11 : List PO := [⟨(.some 7), (.box 3 (.tmp 0)), .none⟩, ⟨(.some 13), (.box 3 (.tmp 6)), .none⟩, ⟨(.some 14), (.mov (.const (.bool .false))), .none⟩]
def p3_12 : List PO := [⟨(.some 24), (.call 5 []), .none⟩, ⟨(.some 25), (.un .not (.tmp 24)), .none⟩, ⟨(.some 26), (.mov (.tmp 25)), .none⟩, ⟨(.some 27), (.load .true 3 (.tmp 7)), (.some (26, .false))⟩, ⟨(.some 28), (.call 6 [(.tmp 27)]), (.some (26, .false))⟩, ⟨(.some 29), (.cmpI .neq (.tmp 28) (.const (.int .i64 0))), (.some (26, .false))⟩, ⟨(.some 30), (.pick (.tmp 26) (.const (.bool .true)) (.tmp 29)), .none⟩]
def p3_13 : List PO := [⟨(.some 31), (.call 5 []), .none⟩, ⟨(.some 14), (.mov (.tmp 31)), .none⟩]
def p3_14 : List PO := [⟨(.some 33), (.load .true 3 (.tmp 7)), .none⟩, ⟨(.some 34), (.mov (.tmp 1)), .none⟩, ⟨(.some 35), (.mov (.tmp 2)), .none⟩, ⟨(.some 36), (.mov (.tmp 5)), .none⟩, ⟨(.some 37), (.load .true 3 (.tmp 13)), .none⟩, ⟨(.some 38), (.callf 7 [(.tmp 33), (.tmp 34), (.tmp 35), (.tmp 36), (.tmp 37)]), .none⟩, ⟨(.some 32), (.mov (.tmp 38)), .none⟩, ⟨(.some 39), (.ext (.tmp 32) 0), .none⟩, ⟨(.some 40), (.ext (.tmp 32) 1), .none⟩, ⟨(.some 15), (.alloc [(2, (.int .i64 0)), (1, (.slice .none 0 0))]), .none⟩, ⟨.none, (.store 3 (.tmp 15) (.tmp 39)), .none⟩, ⟨(.some 16), (.mov (.tmp 40)), .none⟩]
def p3_15 : List PO := [⟨(.some 42), (.load .true 3 (.tmp 7)), .none⟩, ⟨(.some 43), (.mov (.tmp 1)), .none⟩, ⟨(.some 44), (.mov (.tmp 2)), .none⟩, ⟨(.some 45), (.mov (.tmp 3)), .none⟩, ⟨(.some 46), (.load .true 3 (.tmp 13)), .none⟩, ⟨(.some 47), (.callf 8 [(.tmp 42), (.tmp 43), (.tmp 44), (.tmp 45), (.tmp 46)]), .none⟩, ⟨(.some 41), (.mov (.tmp 47)), .none⟩, ⟨(.some 48), (.ext (.tmp 41) 0), .none⟩, ⟨(.some 49), (.ext (.tmp 41) 1), .none⟩, ⟨(.some 17), (.alloc [(2, (.int .i64 0)), (1, (.slice .none 0 0))]), .none⟩, ⟨.none, (.store 3 (.tmp 17) (.tmp 48)), .none⟩, ⟨(.some 18), (.mov (.tmp 49)), .none⟩]
def p3_16 : List PO := [⟨(.some 51), (.load .true 3 (.tmp 7)), .none⟩, ⟨(.some 52), (.mov (.tmp 1)), .none⟩, ⟨(.some 53), (.mov (.tmp 2)), .none⟩, ⟨(.some 54), (.mov (.tmp 3)), .none⟩, ⟨(.some 55), (.mov (.tmp 4)), .none⟩, ⟨(.some 56), (.load .true 3 (.tmp 13)), .none⟩, ⟨(.some 57), (.callf 9 [(.tmp 51), (.tmp 52), (.tmp 53), (.tmp 54), (.tmp 55), (.tmp 56)]), .none⟩, ⟨(.some 50), (.mov (.tmp 57)), .none⟩, ⟨(.some 58), (.ext (.tmp 50) 0), .none⟩, ⟨(.some 59), (.ext (.tmp 50) 1), .none⟩, ⟨(.some 19), (.alloc [(2, (.int .i64 0)), (1, (.slice .none 0 0))]), .none⟩, ⟨.none, (.store 3 (.tmp 19) (.tmp 58)), .none⟩, ⟨(.some 20), (.mov (.tmp 59)), .none⟩]
def p3_17 : List PO := [⟨(.some 60), (.load .true 3 (.tmp 15)), .none⟩, ⟨(.some 61), (.load .true 3 (.tmp 17)), .none⟩, ⟨(.some 62), (.load .true 3 (.tmp 19)), .none⟩, ⟨(.some 63), (.bsl 24 3 3 [(2, (.int .i64 0)), (1, (.slice .none 0 0)), (2, (.int .i64 0)), (1, (.slice .none 0 0)), (2, (.int .i64 0)), (1, (.slice .none 0 0))] [(0, (3, (.tmp 60))), (3, (3, (.tmp 61))), (6, (3, (.tmp 62)))]), .none⟩, ⟨(.some 64), (.len .false (.tmp 63)), .none⟩, ⟨(.some 65), (.mov (.const (.int .i64 0))), .none⟩]
def p3_18 : List PO := [⟨(.some 66), (.cmpI .lss (.tmp 65) (.tmp 64)), .none⟩]
def p3_19 : List PO := [⟨(.some 67), (.mov (.tmp 65)), .none⟩, ⟨(.some 68), (.ixS 24 3 (.tmp 63) (.tmp 65)), .none⟩, ⟨(.some 69), (.load .true 3 (.tmp 68)), .none⟩, ⟨(.some 22), (.alloc [(2, (.int .i64 0)), (1, (.slice .none 0 0))]), .none⟩, ⟨(.some 21), (.mov (.tmp 67)), .none⟩, ⟨.none, (.store 3 (.tmp 22) (.tmp 69)), .none⟩]
def p3_20 : List PO := [⟨(.some 70), (.mov (.tmp 16)), .none⟩, ⟨(.some 71), (.mov (.tmp 18)), .none⟩, ⟨(.some 72), (.mov (.tmp 20)), .none⟩, ⟨(.some 73), (.build [(3, (.int .i64 0))] [(0, (1, (.tmp 70))), (1, (1, (.tmp 71))), (2, (1, (.tmp 72)))]), .none⟩, ⟨(.some 74), (.mov (.tmp 21)), .none⟩, ⟨(.some 75), (.ixV .false 3 1 (.tmp 73) (.tmp 74)), .none⟩, ⟨(.some 76), (.cmpI .neq (.tmp 75) (.const (.int .i64 0))), .none⟩]
def p3_21 : List PO := [⟨(.some 77), (.fld 2 (.tmp 22)), .none⟩, ⟨(.some 78), (.load .false 1 (.tmp 77)), .none⟩, ⟨(.some 79), (.len .false (.tmp 78)), .none⟩, ⟨(.some 80), (.fld 2 (.tmp 7)), .none⟩, ⟨(.some 81), (.load .false 1 (.tmp 80)), .none⟩, ⟨(.some 82), (.len .false (.tmp 81)), .none⟩, ⟨(.some 83), (.cmpI .neq (.tmp 79) (.tmp 82)), .none⟩]
def p3_22 : List PO := [⟨(.some 14), (.mov (.const (.bool .false))), .none⟩]
def p3_23 : List PO := [⟨(.some 84), (.fld 2 (.tmp 7)), .none⟩, ⟨(.some 85), (.load .false 1 (.tmp 84)), .none⟩, ⟨(.some 86), (.len .false (.tmp 85)), .none⟩, ⟨(.some 87), (.mov (.const (.int .i64 0))), .none⟩]
def p3_24 : List PO := [⟨(.some 88), (.cmpI .lss (.tmp 87) (.tmp 86)), .none⟩]
def p3_25 : List PO := [⟨(.some 89), (.mov (.tmp 87)), .none⟩, ⟨(.some 23), (.mov (.tmp 89)), .none⟩]
def p3_26 : List PO := [⟨(.some 90), (.mov (.tmp 23)), .none⟩, ⟨(.some 91), (.fld 0 (.tmp 7)), .none⟩, ⟨(.some 92), (.load .false 1 (.tmp 91)), .none⟩, ⟨(.some 93), (.arI .quo (.tmp 90) (.tmp 92)), .none⟩, ⟨(.some 94), (.mov (.tmp 1)), .none⟩, ⟨(.some 95), (.cmpI .neq (.tmp 93) (.tmp 94)), .none⟩, ⟨(.some 96), (.mov (.tmp 95)), .none⟩, ⟨(.some 97), (.fld 2 (.tmp 22)), (.some (96, .true))⟩, ⟨(.some 98), (.load .false 1 (.tmp 97)), (.some (96, .true))⟩, ⟨(.some 99), (.mov (.tmp 23)), (.some (96, .true))⟩, ⟨(.some 100), (.ixS 36 4 (.tmp 98) (.tmp 99)), (.some (96, .true))⟩, ⟨(.some 101), (.load .true 4 (.tmp 100)), (.some (96, .true))⟩, ⟨(.some 102), (.fld 2 (.tmp 7)), (.some (96, .true))⟩, ⟨(.some 103), (.load .false 1 (.tmp 102)), (.some (96, .true))⟩, ⟨(.some 104), (.mov (.tmp 23)), (.some (96, .true))⟩, ⟨(.some 105), (.ixS 36 4 (.tmp 103) (.tmp 104)), (.some (96, .true))⟩, ⟨(.some 106), (.load .true 4 (.tmp 105)), (.some (96, .true))⟩, ⟨(.some 107), (.eqA .true [(4, .int)] (.tmp 101) (.tmp 106)), (.some (96, .true))⟩, ⟨(.some 108), (.pick (.tmp 96) (.tmp 107) (.const (.bool .false))), .none⟩]
def p3_27 : List PO := [⟨(.some 14), (.mov (.const (.bool .false))), .none⟩]
def p3_28 : List PO := [⟨(.some 109), (.arI .add (.tmp 87) (.const (.int .i64 1))), .none⟩, ⟨(.some 87), (.mov (.tmp 109)), .none⟩]
def c3_1 : PCode := (.keep [1, 7, 16, 18, 20, 22, 63, 64, 65, 86, 87] [(64, .id 64), (184, .id 184), (512, .id 512)] [] (.seq (.block 3 (.seq (.reg p3_25) (.seq (.regD p3_26 []) (.cond (.tmp 108) (.seq (.reg p3_27) .ret) .skip)))) (.reg p3_28)))
def c3_2 : PCode := (.keep [1, 7, 16, 18, 20, 22, 63, 64, 65, 86, 87, 88] [(64, .id 64), (184, .id 184), (512, .id 512)] [] (.seq (.cond (.tmp 88) .skip (.keep [1, 7, 16, 18, 20, 63, 64, 65] [(64, .id 64), (512, .id 512)] [] (.exit 2))) c3_1))
def c3_3 : PCode := (.keep [1, 7, 16, 18, 20, 22, 63, 64, 65, 86, 87] [(64, .id 64), (184, .id 184), (512, .id 512)] [] (.seq (.reg p3_24) c3_2))
def c3_4 : PCode := (.keep [1, 7, 16, 18, 20, 22, 63, 64, 65] [(64, .id 64), (184, .id 184), (512, .id 512)] [] (.seq (.reg p3_23) (.block 2 (.loop c3_3))))
def c3_6 : PCode := (.keep [1, 7, 16, 18, 20, 22, 63, 64, 65] [(64, .id 64), (184, .id 184), (512, .id 512)] [] (.seq (.seq (.reg p3_21) (.cond (.tmp 83) (.seq (.reg p3_22) .ret) .skip)) c3_4))
def p3_29 : List PO := [⟨(.some 110), (.arI .add (.tmp 65) (.const (.int .i64 1))), .none⟩, ⟨(.some 65), (.mov (.tmp 110)), .none⟩]
def c3_5 : PCode := (.reg p3_29)
def c3_7 : PCode := (.keep [1, 7, 16, 18, 20, 63, 64, 65] [(64, .id 64), (512, .id 512)] [] (.seq (.block 1 (.seq (.reg p3_19) (.seq (.seq (.reg p3_20) (.cond (.tmp 76) (.exit 1) .skip)) c3_6))) c3_5))
def c3_8 : PCode := (.keep [1, 7, 16, 18, 20, 63, 64, 65, 66] [(64, .id 64), (512, .id 512)] [] (.seq (.cond (.tmp 66) .skip (.keep [] [] [] (.exit 0))) c3_7))
def c3_9 : PCode := (.keep [1, 7, 16, 18, 20, 63, 64, 65] [(64, .id 64), (512, .id 512)] [] (.seq (.reg p3_18) c3_8))
def p3_30 : List PO := [⟨(.some 14), (.mov (.const (.bool .true))), .none⟩]
def c3_10 : PCode := (.keep [1, 2, 3, 4, 5, 7, 13] [(64, .id 64), (112, .id 112)] [] (.seq (.reg p3_14) (.seq (.reg p3_15) (.seq (.reg p3_16) (.seq (.seq (.reg p3_17) (.block 0 (.loop c3_9))) (.seq (.reg p3_30) .ret))))))
def c3_b : PCode := (.seq (.reg p3_11) (.seq (.seq (.reg p3_12) (.cond (.tmp 30) (.seq (.reg p3_13) .ret) .skip)) c3_10))
def c3 : FCode := ⟨111, c3_b, [(.tmp 14)], some ([14], [], []), false⟩
theorem c3_ok : compF Go.Proofs.Try.prog [100007, 100008, 100009, 100011, 100012, 18, 100022, 23, 25, 27, 28, 29, 38, 39, 40] 3 = some (eraseF c3) := by kernel_rfl
def p40_1 : List PO := [⟨(.some 2), (.nilS 36 4), .none⟩]
def p40_2 : List PO := [⟨(.some 3), (.fld 0 (.tmp 0)), .none⟩, ⟨(.some 4), (.load .false 1 (.tmp 3)), .none⟩, ⟨(.some 5), (.load .true 3 (.tmp 1)), .none⟩, ⟨(.some 6), (.call 31 [(.tmp 4), (.const (.int .i64 1)), (.tmp 5)]), .none⟩, ⟨(.some 7), (.fldV .false 2 1 (.tmp 6)), .none⟩, ⟨(.some 2), (.mov (.tmp 7)), .none⟩]
def c40_b : PCode := (.seq (.reg p40_1) (.seq (.reg p40_2) .ret))
def c40 : FCode := ⟨8, c40_b, [(.tmp 2)], some ([2], [(56, .id 56)], []), false⟩
theorem c40_ok : compF Go.Proofs.Try.prog [100007, 100008, 100009, 100011, 100012, 18, 100022, 23, 25, 27, 28, 29, 38, 39, 40] 40 = some (eraseF c40) := by kernel_rfl
def p39_6 : List PO := [⟨(.some 6), (.nilS 22 1), .none⟩]
def p39_7 : List PO := [⟨(.some 7), (.nilS 22 1), .none⟩]
def p39_8 : List PO := [⟨(.some 10), (.mov (.tmp 0)), .none⟩, ⟨(.some 11), (.len .false (.tmp 10)), .none⟩, ⟨(.some 12), (.mov (.const (.int .i64 0))), .none⟩]
def p39_9 : List PO := [⟨(.some 13), (.cmpI .lss (.tmp 12) (.tmp 11)), .none⟩]
def p39_10 : List PO := [⟨(.some 14), (.mov (.tmp 12)), .none⟩, ⟨(.some 8), (.mov (.tmp 14)), .none⟩]
def p39_11 : List PO := [⟨(.some 15), (.mov (.tmp 8)), .none⟩, ⟨(.some 16), (.mov (.tmp 1)), .none⟩, ⟨(.some 17), (.arI .sub (.tmp 15) (.tmp 16)), .none⟩, ⟨(.some 9), (.mov (.tmp 17)), .none⟩]
def p39_12 : List PO := [⟨(.some 18), (.mov (.tmp 9)), .none⟩, ⟨(.some 19), (.cmpI .geq (.tmp 18) (.const (.int .i64 0))), .none⟩, ⟨(.some 20), (.mov (.tmp 19)), .none⟩, ⟨(.some 21), (.mov (.tmp 9)), (.some (20, .true))⟩, ⟨(.some 22), (.mov (.tmp 0)), (.some (20, .true))⟩, ⟨(.some 23), (.len .false (.tmp 22)), (.some (20, .true))⟩, ⟨(.some 24), (.cmpI .lss (.tmp 21) (.tmp 23)), (.some (20, .true))⟩, ⟨(.some 25), (.pick (.tmp 20) (.tmp 24) (.const (.bool .false))), .none⟩]
def p39_13 : List PO := [⟨(.some 26), (.mov (.tmp 7)), .none⟩, ⟨(.some 27), (.mov (.tmp 0)), .none⟩, ⟨(.some 28), (.mov (.tmp 9)), .none⟩, ⟨(.some 29), (.ixS 22 1 (.tmp 27) (.tmp 28)), .none⟩, ⟨(.some 30), (.load .false 1 (.tmp 29)), .none⟩, ⟨(.some 31), (.bsl 22 1 1 [(1, (.slice .none 0 0))] [(0, (1, (.tmp 30)))]), .none⟩, ⟨(.some 32), (.app 22 1 24 (.tmp 26) (.tmp 31)), .none⟩, ⟨(.some 7), (.mov (.tmp 32)), .none⟩]
def p39_14 : List PO := [⟨(.some 33), (.mov (.tmp 7)), .none⟩, ⟨(.some 34), (.mov (.tmp 2)), .none⟩, ⟨(.some 35), (.callv (.tmp 34) []), .none⟩, ⟨(.some 36), (.bsl 22 1 1 [(1, (.slice .none 0 0))] [(0, (1, (.tmp 35)))]), .none⟩, ⟨(.some 37), (.app 22 1 24 (.tmp 33) (.tmp 36)), .none⟩, ⟨(.some 7), (.mov (.tmp 37)), .none⟩]
def c39_1 : PCode := (.keep [0, 1, 2, 7, 11, 12] [(1, .id 1), (3, .id 3), (2, .id 2), (0, .id 0), (64, .id 64)] [] (.reg p39_14))
def p39_15 : List PO := [⟨(.some 38), (.arI .add (.tmp 12) (.const (.int .i64 1))), .none⟩, ⟨(.some 12), (.mov (.tmp 38)), .none⟩]
def c39_2 : PCode := (.reg p39_15)
def c39_3 : PCode := (.keep [0, 1, 2, 7, 11, 12] [(1, .id 1), (3, .id 3), (2, .id 2), (0, .id 0), (64, .id 64)] [] (.seq (.block 1 (.seq (.reg p39_10) (.seq (.reg p39_11) (.seq (.reg p39_12) (.cond (.tmp 25) (.reg p39_13) c39_1))))) c39_2))
def c39_4 : PCode := (.keep [0, 1, 2, 7, 11, 12, 13] [(1, .id 1), (3, .id 3), (2, .id 2), (0, .id 0), (64, .id 64)] [] (.seq (.cond (.tmp 13) .skip (.keep [7] [(1, .id 1), (3, .id 3), (2, .id 2), (0, .id 0), (64, .id 64)] [] (.exit 0))) c39_3))
def c39_5 : PCode := (.keep [0, 1, 2, 7, 11, 12] [(1, .id 1), (3, .id 3), (2, .id 2), (0, .id 0), (64, .id 64)] [] (.seq (.reg p39_9) c39_4))
def p39_16 : List PO := [⟨(.some 39), (.mov (.tmp 7)), .none⟩, ⟨(.some 6), (.mov (.tmp 39)), .none⟩]
def c39_b : PCode := (.seq (.reg p39_6) (.seq (.reg p39_7) (.seq (.seq (.reg p39_8) (.block 0 (.loop c39_5))) (.seq (.reg p39_16) .ret))))
def c39 : FCode := ⟨40, c39_b, [(.tmp 6)], some ([6, 2000000], [(1, .id 1), (3, .id 3), (2, .id 2), (0, .id 0), (64, .id 64)], []), false⟩
theorem c39_ok : compF Go.Proofs.Try.prog [100007, 100008, 100009, 100011, 100012, 18, 100022, 23, 25, 27, 28, 29, 38, 39, 40] 39 = some (eraseF c39) := by kernel_rfl
def p28_7 : List PO := [⟨(.some 5), (.box 3 (.tmp 0)), .none⟩, ⟨(.some 9), (.box 3 (.tmp 4)), .none⟩]
def p28_8 : List PO := [⟨(.some 10), (.nilS 22 1), .none⟩]
def p28_9 : List PO := [⟨(.some 14), (.mov (.tmp 1)), .none⟩, ⟨(.some 11), (.mov (.tmp 14)), .none⟩]
def p28_10 : List PO := [⟨(.some 15), (.mov (.tmp 11)), .none⟩, ⟨(.some 16), (.mov (.tmp 2)), .none⟩, ⟨(.some 17), (.cmpI .lss (.tmp 15) (.tmp 16)), .none⟩]
def p28_11 : List PO := [⟨(.some 20), (.mov (.tmp 10)), .none⟩, ⟨(.some 21), (.load .true 3 (.tmp 5)), .none⟩, ⟨(.some 22), (.mov (.tmp 11)), .none⟩, ⟨(.some 23), (.callr 18 [(.tmp 21), (.tmp 22)]), .none⟩, ⟨(.some 24), (.call 10 [(.tmp 23)]), .none⟩, ⟨(.some 25), (.bsl 22 1 1 [(1, (.slice .none 0 0))] [(0, (1, (.tmp 24)))]), .none⟩, ⟨(.some 26), (.app 22 1 24 (.tmp 20) (.tmp 25)), .none⟩, ⟨(.some 10), (.mov (.tmp 26)), .none⟩]
def p28_12 : List PO := [⟨(.some 18), (.mov (.tmp 11)), .none⟩, ⟨(.some 19), (.arI .add (.tmp 18) (.const (.int .i64 1))), .none⟩, ⟨(.some 11), (.mov (.tmp 19)), .none⟩]
def c28_5 : PCode := (.keep [1, 2, 3, 5, 9, 10, 11] [(0, .id 0), (48, .id 48), (80, .id 80), (88, .id 88)] [] (.seq (.block 1 (.reg p28_11)) (.reg p28_12)))
def c28_6 : PCode := (.keep [1, 2, 3, 5, 9, 10, 11] [(0, .id 0), (48, .id 48), (80, .id 80), (88, .id 88)] [] (.seq (.seq (.reg p28_10) (.cond (.tmp 17) .skip (.keep [1, 3, 5, 9, 10] [(0, .id 0), (48, .id 48), (80, .id 80), (88, .id 88)] [] (.exit 0)))) c28_5))
def p28_13 : List PO := [⟨(.some 27), (.mov (.tmp 10)), .none⟩, ⟨(.some 28), (.mov (.tmp 3)), .none⟩, ⟨(.some 29), (.un .neg (.tmp 28)), .none⟩, ⟨(.some 30), (.mkF 40 [(.tmp 5), (.tmp 9)]), .none⟩, ⟨(.some 31), (.callr 39 [(.tmp 27), (.tmp 29), (.tmp 30)]), .none⟩, ⟨(.some 10), (.mov (.tmp 31)), .none⟩]
def p28_14 : List PO := [⟨(.some 32), (.mov (.tmp 10)), .none⟩, ⟨(.some 33), (.len .false (.tmp 32)), .none⟩, ⟨(.some 34), (.mov (.const (.int .i64 0))), .none⟩]
def p28_15 : List PO := [⟨(.some 35), (.cmpI .lss (.tmp 34) (.tmp 33)), .none⟩]
def p28_16 : List PO := [⟨(.some 36), (.mov (.tmp 34)), .none⟩, ⟨(.some 37), (.ixS 22 1 (.tmp 32) (.tmp 34)), .none⟩, ⟨(.some 38), (.load .false 1 (.tmp 37)), .none⟩, ⟨(.some 12), (.mov (.tmp 36)), .none⟩, ⟨(.some 13), (.mov (.tmp 38)), .none⟩]
def p28_17 : List PO := [⟨(.some 39), (.load .true 3 (.tmp 5)), .none⟩, ⟨(.some 40), (.mov (.tmp 1)), .none⟩, ⟨(.some 41), (.mov (.tmp 12)), .none⟩, ⟨(.some 42), (.arI .add (.tmp 40) (.tmp 41)), .none⟩, ⟨(.some 43), (.callr 18 [(.tmp 39), (.tmp 42)]), .none⟩, ⟨(.some 44), (.mov (.tmp 13)), .none⟩, ⟨(.some 45), (.cpy 4 (.tmp 43) (.tmp 44)), .none⟩]
def p28_18 : List PO := [⟨(.some 46), (.arI .add (.tmp 34) (.const (.int .i64 1))), .none⟩, ⟨(.some 34), (.mov (.tmp 46)), .none⟩]
def c28_1 : PCode := (.keep [1, 5, 32, 33, 34] [(0, .id 0), (48, .id 48), (256, .id 256)] [] (.seq (.block 3 (.seq (.reg p28_16) (.reg p28_17))) (.reg p28_18)))
def c28_2 : PCode := (.keep [1, 5, 32, 33, 34, 35] [(0, .id 0), (48, .id 48), (256, .id 256)] [] (.seq (.cond (.tmp 35) .skip (.keep [] [(0, .id 0)] [] (.exit 2))) c28_1))
def c28_3 : PCode := (.keep [1, 5, 32, 33, 34] [(0, .id 0), (48, .id 48), (256, .id 256)] [] (.seq (.reg p28_15) c28_2))
def c28_4 : PCode := (.keep [1, 3, 5, 9, 10] [(0, .id 0), (48, .id 48), (80, .id 80), (88, .id 88)] [] (.seq (.reg p28_13) (.seq (.reg p28_14) (.block 2 (.loop c28_3)))))
def c28_b : PCode := (.seq (.reg p28_7) (.seq (.reg p28_8) (.seq (.seq (.reg p28_9) (.block 0 (.loop c28_6))) c28_4)))
def c28 : FCode := ⟨47, c28_b, [], some ([2000000], [(0, .id 0)], []), false⟩
theorem c28_ok : compF Go.Proofs.Try.prog [100007, 100008, 100009, 100011, 100012, 18, 100022, 23, 25, 27, 28, 29, 38, 39, 40] 28 = some (eraseF c28) := by kernel_rfl
def p11_3 : List PO := [⟨(.some 5), (.box 3 (.tmp 0)), .none⟩, ⟨(.some 9), (.box 3 (.tmp 4)), .none⟩, ⟨(.some 10), (.alloc [(2, (.int .i64 0)), (1, (.slice .none 0 0))]), .none⟩, ⟨(.some 11), (.mov (.const (.int .i64 0))), .none⟩]
def p11_4 : List PO := [⟨(.some 14), (.load .true 3 (.tmp 5)), .none⟩, ⟨(.some 15), (.mov (.tmp 1)), .none⟩, ⟨(.some 16), (.cmpI .geq (.tmp 15) (.const (.int .i64 0))), .none⟩, ⟨(.some 17), (.mov (.tmp 16)), .none⟩, ⟨(.some 18), (.mov (.tmp 1)), (.some (17, .true))⟩, ⟨(.some 19), (.mov (.tmp 2)), (.some (17, .true))⟩, ⟨(.some 20), (.cmpI .leq (.tmp 18) (.tmp 19)), (.some (17, .true))⟩, ⟨(.some 21), (.pick (.tmp 17) (.tmp 20) (.const (.bool .false))), .none⟩, ⟨(.some 22), (.mov (.tmp 21)), .none⟩, ⟨(.some 23), (.mov (.tmp 2)), (.some (22, .true))⟩, ⟨(.some 24), (.fld 1 (.tmp 5)), (.some (22, .true))⟩, ⟨(.some 25), (.load .false 1 (.tmp 24)), (.some (22, .true))⟩, ⟨(.some 26), (.cmpI .leq (.tmp 23) (.tmp 25)), (.some (22, .true))⟩, ⟨(.some 27), (.pick (.tmp 22) (.tmp 26) (.const (.bool .false))), .none⟩, ⟨(.some 28), (.mov (.tmp 27)), .none⟩, ⟨(.some 29), (.mov (.tmp 3)), (.some (28, .true))⟩, ⟨(.some 30), (.call 26 [(.tmp 29)]), (.some (28, .true))⟩, ⟨(.some 31), (.pick (.tmp 28) (.tmp 30) (.const (.bool .false))), .none⟩, ⟨(.some 32), (.load .true 3 (.tmp 9)), .none⟩, ⟨(.some 33), (.callf 22 [(.tmp 14), (.tmp 31), (.tmp 32)]), .none⟩, ⟨(.some 13), (.mov (.tmp 33)), .none⟩, ⟨(.some 34), (.ext (.tmp 13) 0), .none⟩, ⟨(.some 35), (.ext (.tmp 13) 1), .none⟩, ⟨.none, (.store 3 (.tmp 5) (.tmp 34)), .none⟩, ⟨(.some 12), (.mov (.tmp 35)), .none⟩]
def p11_5 : List PO := [⟨(.some 36), (.mov (.tmp 12)), .none⟩, ⟨(.some 37), (.cmpI .neq (.tmp 36) (.const (.int .i64 0))), .none⟩]
def p11_6 : List PO := [⟨(.some 38), (.load .true 3 (.tmp 5)), .none⟩, ⟨(.some 39), (.mov (.tmp 12)), .none⟩, ⟨.none, (.store 3 (.tmp 10) (.tmp 38)), .none⟩, ⟨(.some 11), (.mov (.tmp 39)), .none⟩]
def p11_7 : List PO := [⟨(.some 40), (.load .true 3 (.tmp 5)), .none⟩, ⟨(.some 41), (.mov (.tmp 1)), .none⟩, ⟨(.some 42), (.mov (.tmp 2)), .none⟩, ⟨(.some 43), (.mov (.tmp 3)), .none⟩, ⟨(.some 44), (.load .true 3 (.tmp 9)), .none⟩, ⟨(.some 45), (.callr 28 [(.tmp 40), (.tmp 41), (.tmp 42), (.tmp 43), (.tmp 44)]), .none⟩]
def p11_8 : List PO := [⟨(.some 46), (.load .true 3 (.tmp 5)), .none⟩, ⟨.none, (.store 3 (.tmp 10) (.tmp 46)), .none⟩, ⟨(.some 11), (.mov (.const (.int .i64 0))), .none⟩]
def c11_1 : PCode := (.keep [1, 2, 3, 5, 9, 10] [(48, .id 48), (272, .id 272), (80, .id 80), (88, .id 88)] [] (.seq (.reg p11_7) (.seq (.reg p11_8) .ret)))
def c11_2 : PCode := (.keep [1, 2, 3, 5, 9, 10, 12] [(48, .id 48), (272, .id 272), (80, .id 80), (88, .id 88)] [.cell 88 2 0 0 1] (.seq (.seq (.reg p11_5) (.cond (.tmp 37) (.seq (.reg p11_6) .ret) .skip)) c11_1))
def c11_b : PCode := (.seq (.reg p11_3) (.seq (.regD p11_4 [(0, 16), (16, 18)]) c11_2))
def c11 : FCode := ⟨47, c11_b, [(.cell 10 .true 3), (.tmp 11)], some ([10, 11], [(88, .id 88), (272, .id 272)], []), false⟩
theorem c11_ok : compF Go.Proofs.Try.prog [100007, 100008, 100009, 100011, 100012, 18, 100022, 23, 25, 27, 28, 29, 38, 39, 40] 11 = some (eraseF c11) := by kernel_rfl
def p12_10 : List PO := [⟨(.some 4), (.box 3 (.tmp 0)), .none⟩, ⟨(.some 7), (.box 3 (.tmp 3)), .none⟩, ⟨(.some 8), (.alloc [(2, (.int .i64 0)), (1, (.slice .none 0 0))]), .none⟩, ⟨(.some 9), (.mov (.const (.int .i64 0))), .none⟩]
def p12_11 : List PO := [⟨(.some 15), (.load .true 3 (.tmp 4)), .none⟩, ⟨(.some 16), (.call 6 [(.tmp 15)]), .none⟩, ⟨(.some 10), (.mov (.tmp 16)), .none⟩]
def p12_12 : List PO := [⟨(.some 17), (.mov (.tmp 10)), .none⟩, ⟨(.some 18), (.cmpI .neq (.tmp 17) (.const (.int .i64 0))), .none⟩]
def p12_13 : List PO := [⟨(.some 19), (.build [(2, (.int .i64 0)), (1, (.slice .none 0 0))] []), .none⟩, ⟨(.some 20), (.mov (.tmp 10)), .none⟩, ⟨.none, (.store 3 (.tmp 8) (.tmp 19)), .none⟩, ⟨(.some 9), (.mov (.tmp 20)), .none⟩]
def p12_14 : List PO := [⟨(.some 22), (.mov (.tmp 1)), .none⟩, ⟨(.some 23), (.mov (.tmp 2)), .none⟩, ⟨(.some 24), (.load .true 3 (.tmp 7)), .none⟩, ⟨(.some 25), (.call 14 [(.tmp 22), (.tmp 23), (.tmp 24)]), .none⟩, ⟨(.some 21), (.mov (.tmp 25)), .none⟩, ⟨(.some 26), (.ext (.tmp 21) 0), .none⟩, ⟨(.some 27), (.ext (.tmp 21) 1), .none⟩, ⟨(.some 11), (.alloc [(2, (.int .i64 0)), (1, (.slice .none 0 0))]), .none⟩, ⟨.none, (.store 3 (.tmp 11) (.tmp 26)), .none⟩, ⟨(.some 12), (.mov (.tmp 27)), .none⟩]
def p12_15 : List PO := [⟨(.some 28), (.mov (.tmp 12)), .none⟩, ⟨(.some 29), (.cmpI .neq (.tmp 28) (.const (.int .i64 0))), .none⟩]
def p12_16 : List PO := [⟨(.some 30), (.build [(2, (.int .i64 0)), (1, (.slice .none 0 0))] []), .none⟩, ⟨(.some 31), (.mov (.tmp 12)), .none⟩, ⟨.none, (.store 3 (.tmp 8) (.tmp 30)), .none⟩, ⟨(.some 9), (.mov (.tmp 31)), .none⟩]
def p12_17 : List PO := [⟨(.some 32), (.mov (.tmp 2)), .none⟩, ⟨(.some 33), (.fld 1 (.tmp 4)), .none⟩, ⟨(.some 34), (.load .false 1 (.tmp 33)), .none⟩, ⟨(.some 35), (.mn [(.tmp 32), (.tmp 34)]), .none⟩, ⟨(.some 36), (.mov (.const (.int .i64 0))), .none⟩]
def p12_18 : List PO := [⟨(.some 37), (.cmpI .lss (.tmp 36) (.tmp 35)), .none⟩]
def p12_19 : List PO := [⟨(.some 38), (.mov (.tmp 36)), .none⟩, ⟨(.some 13), (.mov (.tmp 38)), .none⟩]
def p12_20 : List PO := [⟨(.some 39), (.load .true 3 (.tmp 11)), .none⟩, ⟨(.some 40), (.mov (.tmp 13)), .none⟩, ⟨(.some 41), (.callr 18 [(.tmp 39), (.tmp 40)]), .none⟩, ⟨(.some 42), (.load .true 3 (.tmp 4)), .none⟩, ⟨(.some 43), (.mov (.tmp 13)), .none⟩, ⟨(.some 44), (.callr 18 [(.tmp 42), (.tmp 43)]), .none⟩, ⟨(.some 45), (.cpy 4 (.tmp 41) (.tmp 44)), .none⟩]
def p12_21 : List PO := [⟨(.some 46), (.arI .add (.tmp 36) (.const (.int .i64 1))), .none⟩, ⟨(.some 36), (.mov (.tmp 46)), .none⟩]
def c12_5 : PCode := (.keep [2, 4, 8, 11, 35, 36] [(40, .id 40), (72, .id 72), (96, .id 96), (208, .id 208)] [] (.seq (.block 1 (.seq (.reg p12_19) (.regD p12_20 [(2, 3)]))) (.reg p12_21)))
def c12_6 : PCode := (.keep [2, 4, 8, 11, 35, 36, 37] [(40, .id 40), (72, .id 72), (96, .id 96), (208, .id 208)] [] (.seq (.cond (.tmp 37) .skip (.keep [2, 8, 11] [(72, .id 72), (96, .id 96), (208, .id 208)] [] (.exit 0))) c12_5))
def c12_7 : PCode := (.keep [2, 4, 8, 11, 35, 36] [(40, .id 40), (72, .id 72), (96, .id 96), (208, .id 208)] [] (.seq (.reg p12_18) c12_6))
def p12_22 : List PO := [⟨(.some 47), (.mov (.tmp 2)), .none⟩, ⟨(.some 48), (.mov (.const (.int .i64 0))), .none⟩]
def p12_23 : List PO := [⟨(.some 49), (.cmpI .lss (.tmp 48) (.tmp 47)), .none⟩]
def p12_24 : List PO := [⟨(.some 50), (.mov (.tmp 48)), .none⟩, ⟨(.some 14), (.mov (.tmp 50)), .none⟩]
def p12_25 : List PO := [⟨(.some 51), (.load .true 3 (.tmp 11)), .none⟩, ⟨(.some 52), (.mov (.tmp 14)), .none⟩, ⟨(.some 53), (.callr 18 [(.tmp 51), (.tmp 52)]), .none⟩, ⟨(.some 54), (.callr 29 [(.tmp 53)]), .none⟩]
def p12_26 : List PO := [⟨(.some 55), (.arI .add (.tmp 48) (.const (.int .i64 1))), .none⟩, ⟨(.some 48), (.mov (.tmp 55)), .none⟩]
def c12_1 : PCode := (.keep [8, 11, 47, 48] [(72, .id 72), (96, .id 96), (208, .id 208)] [] (.seq (.block 3 (.seq (.reg p12_24) (.reg p12_25))) (.reg p12_26)))
def c12_2 : PCode := (.keep [8, 11, 47, 48, 49] [(72, .id 72), (96, .id 96), (208, .id 208)] [] (.seq (.cond (.tmp 49) .skip (.keep [8, 11] [(72, .id 72), (96, .id 96), (208, .id 208)] [] (.exit 2))) c12_1))
def c12_3 : PCode := (.keep [8, 11, 47, 48] [(72, .id 72), (96, .id 96), (208, .id 208)] [] (.seq (.reg p12_23) c12_2))
def p12_27 : List PO := [⟨(.some 56), (.load .true 3 (.tmp 11)), .none⟩, ⟨.none, (.store 3 (.tmp 8) (.tmp 56)), .none⟩, ⟨(.some 9), (.mov (.const (.int .i64 0))), .none⟩]
def c12_4 : PCode := (.keep [2, 8, 11] [(72, .id 72), (96, .id 96), (208, .id 208)] [] (.seq (.seq (.reg p12_22) (.block 2 (.loop c12_3))) (.seq (.reg p12_27) .ret)))
def c12_8 : PCode := (.keep [2, 4, 8, 11] [(40, .id 40), (72, .id 72), (96, .id 96), (208, .id 208)] [] (.seq (.seq (.reg p12_17) (.block 0 (.loop c12_7))) c12_4))
def c12_9 : PCode := (.keep [1, 2, 4, 7, 8] [(40, .id 40), (64, .id 64), (72, .id 72)] [.cell 72 2 0 0 1] (.seq (.reg p12_14) (.seq (.seq (.reg p12_15) (.cond (.tmp 29) (.seq (.reg p12_16) .ret) .skip)) c12_8)))
def c12_b : PCode := (.seq (.reg p12_10) (.seq (.seq (.reg p12_11) (.seq (.reg p12_12) (.cond (.tmp 18) (.seq (.reg p12_13) .ret) .skip))) c12_9))
def c12 : FCode := ⟨57, c12_b, [(.cell 8 .true 3), (.tmp 9)], some ([8, 9], [(72, .id 72), (490, (.cell 72 2))], [.cell 72 2 490 36 4]), false⟩
theorem c12_ok : compF Go.Proofs.Try.prog [100007, 100008, 100009, 100011, 100012, 18, 100022, 23, 25, 27, 28, 29, 38, 39, 40] 12 = some (eraseF c12) := by kernel_rfl
def p30_5 : List PO := [⟨(.some 4), (.mov (.const (.bool .false))), .none⟩]
def p30_6 : List PO := [⟨(.some 6), (.mov (.tmp 0)), .none⟩, ⟨(.some 7), (.len .false (.tmp 6)), .none⟩, ⟨(.some 8), (.mov (.tmp 1)), .none⟩, ⟨(.some 9), (.len .false (.tmp 8)), .none⟩, ⟨(.some 10), (.cmpI .neq (.tmp 7) (.tmp 9)), .none⟩]
def p30_7 : List PO := [⟨(.some 4), (.mov (.const (.bool .false))), .none⟩]
def p30_8 : List PO := [⟨(.some 11), (.mov (.tmp 0)), .none⟩, ⟨(.some 12), (.len .false (.tmp 11)), .none⟩, ⟨(.some 13), (.mov (.const (.int .i64 0))), .none⟩]
def p30_9 : List PO := [⟨(.some 14), (.cmpI .lss (.tmp 13) (.tmp 12)), .none⟩]
def p30_10 : List PO := [⟨(.some 15), (.mov (.tmp 13)), .none⟩, ⟨(.some 5), (.mov (.tmp 15)), .none⟩]
def p30_11 : List PO := [⟨(.some 16), (.mov (.tmp 0)), .none⟩, ⟨(.some 17), (.mov (.tmp 5)), .none⟩, ⟨(.some 18), (.ixS 36 4 (.tmp 16) (.tmp 17)), .none⟩, ⟨(.some 19), (.load .true 4 (.tmp 18)), .none⟩, ⟨(.some 20), (.mov (.tmp 1)), .none⟩, ⟨(.some 21), (.mov (.tmp 5)), .none⟩, ⟨(.some 22), (.ixS 36 4 (.tmp 20) (.tmp 21)), .none⟩, ⟨(.some 23), (.load .true 4 (.tmp 22)), .none⟩, ⟨(.some 24), (.eqA .true [(4, .int)] (.tmp 19) (.tmp 23)), .none⟩]
def p30_12 : List PO := [⟨(.some 4), (.mov (.const (.bool .false))), .none⟩]
def p30_13 : List PO := [⟨(.some 25), (.arI .add (.tmp 13) (.const (.int .i64 1))), .none⟩, ⟨(.some 13), (.mov (.tmp 25)), .none⟩]
def c30_1 : PCode := (.keep [0, 1, 12, 13] [] [] (.seq (.block 1 (.seq (.reg p30_10) (.seq (.regD p30_11 []) (.cond (.tmp 24) (.seq (.reg p30_12) .ret) .skip)))) (.reg p30_13)))
def c30_2 : PCode := (.keep [0, 1, 12, 13, 14] [] [] (.seq (.cond (.tmp 14) .skip (.keep [] [] [] (.exit 0))) c30_1))
def c30_3 : PCode := (.keep [0, 1, 12, 13] [] [] (.seq (.reg p30_9) c30_2))
def p30_14 : List PO := [⟨(.some 4), (.mov (.const (.bool .true))), .none⟩]
def c30_4 : PCode := (.keep [0, 1] [] [] (.seq (.seq (.reg p30_8) (.block 0 (.loop c30_3))) (.seq (.reg p30_14) .ret)))
def c30_b : PCode := (.seq (.reg p30_5) (.seq (.seq (.reg p30_6) (.cond (.tmp 10) (.seq (.reg p30_7) .ret) .skip)) c30_4))
def c30 : FCode := ⟨26, c30_b, [(.tmp 4)], some ([4], [], []), false⟩
theorem c30_ok : compF Go.Proofs.Try.prog [100007, 100008, 100009, 100011, 100012, 18, 100022, 23, 25, 27, 28, 29, 38, 39, 40] 30 = some (eraseF c30) := by kernel_rfl
def p13_1 : List PO := [⟨(.some 2), (.box 3 (.tmp 0)), .none⟩, ⟨(.some 3), (.box 3 (.tmp 1)), .none⟩, ⟨(.some 4), (.mov (.const (.bool .false))), .none⟩]
def p13_2 : List PO := [⟨(.some 5), (.fld 0 (.tmp 2)), .none⟩, ⟨(.some 6), (.load .false 1 (.tmp 5)), .none⟩, ⟨(.some 7), (.fld 0 (.tmp 3)), .none⟩, ⟨(.some 8), (.load .false 1 (.tmp 7)), .none⟩, ⟨(.some 9), (.cmpI .eql (.tmp 6) (.tmp 8)), .none⟩, ⟨(.some 10), (.mov (.tmp 9)), .none⟩, ⟨(.some 11), (.fld 1 (.tmp 2)), (.some (10, .true))⟩, ⟨(.some 12), (.load .false 1 (.tmp 11)), (.some (10, .true))⟩, ⟨(.some 13), (.fld 1 (.tmp 3)), (.some (10, .true))⟩, ⟨(.some 14), (.load .false 1 (.tmp 13)), (.some (10, .true))⟩, ⟨(.some 15), (.cmpI .eql (.tmp 12) (.tmp 14)), (.some (10, .true))⟩, ⟨(.some 16), (.pick (.tmp 10) (.tmp 15) (.const (.bool .false))), .none⟩, ⟨(.some 17), (.mov (.tmp 16)), .none⟩, ⟨(.some 18), (.fld 2 (.tmp 2)), (.some (17, .true))⟩, ⟨(.some 19), (.load .false 1 (.tmp 18)), (.some (17, .true))⟩, ⟨(.some 20), (.fld 2 (.tmp 3)), (.some (17, .true))⟩, ⟨(.some 21), (.load .false 1 (.tmp 20)), (.some (17, .true))⟩, ⟨(.some 22), (.call 30 [(.tmp 19), (.tmp 21)]), (.some (17, .true))⟩, ⟨(.some 23), (.pick (.tmp 17) (.tmp 22) (.const (.bool .false))), .none⟩, ⟨(.some 4), (.mov (.tmp 23)), .none⟩]
def c13_b : PCode := (.seq (.reg p13_1) (.seq (.reg p13_2) .ret))
def c13 : FCode := ⟨24, c13_b, [(.tmp 4)], some ([4], [], []), false⟩
theorem c13_ok : compF Go.Proofs.Try.prog [100007, 100008, 100009, 100011, 100012, 18, 100022, 23, 25, 27, 28, 29, 38, 39, 40] 13 = some (eraseF c13) := by kernel_rfl
def codes : Nat → Option FCode
  | 3 => some c3
  | 5 => some c5
  | 6 => some c6
  | 7 => some c7
  | 8 => some c8
  | 9 => some c9
  | 10 => some c10
  | 11 => some c11
  | 12 => some c12
  | 13 => some c13
  | 14 => some c14
  | 15 => some c15
  | 16 => some c16
  | 17 => some c17
  | 18 => some c18
  | 19 => some c19
  | 20 => some c20
  | 21 => some c21
  | 22 => some c22
  | 23 => some c23
  | 24 => some c24
  | 25 => some c25
  | 26 => some c26
  | 27 => some c27
  | 28 => some c28
  | 29 => some c29
  | 30 => some c30
  | 31 => some c31
  | 32 => some c32
  | 33 => some c33
  | 34 => some c34
  | 35 => some c35
  | 36 => some c36
  | 37 => some c37
  | 38 => some c38
  | 39 => some c39
  | 40 => some c40
  | 41 => some c41
  | 42 => some c42
  | 44 => some c44
  | _ => none
theorem codes_ok : ∀ f fc, codes f = some fc → compF Go.Proofs.Try.prog [100007, 100008, 100009, 100011, 100012, 18, 100022, 23, 25, 27, 28, 29, 38, 39, 40] f = some (eraseF fc) := by
  intro f fc h
  unfold codes at h
  split at h
  · cases h; exact c3_ok
  · cases h; exact c5_ok
  · cases h; exact c6_ok
  · cases h; exact c7_ok
  · cases h; exact c8_ok
  · cases h; exact c9_ok
  · cases h; exact c10_ok
  · cases h; exact c11_ok
  · cases h; exact c12_ok
  · cases h; exact c13_ok
  · cases h; exact c14_ok
  · cases h; exact c15_ok
  · cases h; exact c16_ok
  · cases h; exact c17_ok
  · cases h; exact c18_ok
  · cases h; exact c19_ok
  · cases h; exact c20_ok
  · cases h; exact c21_ok
  · cases h; exact c22_ok
  · cases h; exact c23_ok
  · cases h; exact c24_ok
  · cases h; exact c25_ok
  · cases h; exact c26_ok
  · cases h; exact c27_ok
  · cases h; exact c28_ok
  · cases h; exact c29_ok
  · cases h; exact c30_ok
  · cases h; exact c31_ok
  · cases h; exact c32_ok
  · cases h; exact c33_ok
  · cases h; exact c34_ok
  · cases h; exact c35_ok
  · cases h; exact c36_ok
  · cases h; exact c37_ok
  · cases h; exact c38_ok
  · cases h; exact c39_ok
  · cases h; exact c40_ok
  · cases h; exact c41_ok
  · cases h; exact c42_ok
  · cases h; exact c44_ok
  · cases h
theorem codes3 : codes 3 = some c3 := rfl
theorem codes5 : codes 5 = some c5 := rfl
theorem codes6 : codes 6 = some c6 := rfl
theorem codes7 : codes 7 = some c7 := rfl
theorem codes8 : codes 8 = some c8 := rfl
theorem codes9 : codes 9 = some c9 := rfl
theorem codes10 : codes 10 = some c10 := rfl
theorem codes11 : codes 11 = some c11 := rfl
theorem codes12 : codes 12 = some c12 := rfl
theorem codes13 : codes 13 = some c13 := rfl
theorem codes14 : codes 14 = some c14 := rfl
theorem codes15 : codes 15 = some c15 := rfl
theorem codes16 : codes 16 = some c16 := rfl
theorem codes17 : codes 17 = some c17 := rfl
theorem codes18 : codes 18 = some c18 := rfl
theorem codes19 : codes 19 = some c19 := rfl
theorem codes20 : codes 20 = some c20 := rfl
theorem codes21 : codes 21 = some c21 := rfl
theorem codes22 : codes 22 = some c22 := rfl
theorem codes23 : codes 23 = some c23 := rfl
theorem codes24 : codes 24 = some c24 := rfl
theorem codes25 : codes 25 = some c25 := rfl
theorem codes26 : codes 26 = some c26 := rfl
theorem codes27 : codes 27 = some c27 := rfl
theorem codes28 : codes 28 = some c28 := rfl
theorem codes29 : codes 29 = some c29 := rfl
theorem codes30 : codes 30 = some c30 := rfl
theorem codes31 : codes 31 = some c31 := rfl
theorem codes32 : codes 32 = some c32 := rfl
theorem codes33 : codes 33 = some c33 := rfl
theorem codes34 : codes 34 = some c34 := rfl
theorem codes35 : codes 35 = some c35 := rfl
theorem codes36 : codes 36 = some c36 := rfl
theorem codes37 : codes 37 = some c37 := rfl
theorem codes38 : codes 38 = some c38 := rfl
theorem codes39 : codes 39 = some c39 := rfl
theorem codes40 : codes 40 = some c40 := rfl
theorem codes41 : codes 41 = some c41 := rfl
theorem codes42 : codes 42 = some c42 := rfl
theorem codes44 : codes 44 = some c44 := rfl
end Go.Proofs.Ytjapcjeijpcpiaa.Pm
