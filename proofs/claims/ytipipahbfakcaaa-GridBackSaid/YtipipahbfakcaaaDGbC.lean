/- The small machine's codes of some functions. Printed by dec.py. -/
import Derived.Test.YtipipahbfakcaaaPa
import Derived.Test.YtipipahbfakcaaaProg
namespace Go.Proofs.Ytipipahbfakcaaa.Pm
set_option maxRecDepth 1000000
set_option maxHeartbeats 20000000
set_option linter.unusedVariables false
structure GPen where
  Flags : Int
  Fore : Int
  Back : Int
structure GCell where
  Rune : Int
  Pen : GPen
structure GGrid where
  Wide : Int
  High : Int
  Cells : List GCell
def e_GPen : Enc GPen := ⟨3, fun x => [.int .i64 x.Flags, .int .i64 x.Fore, .int .i64 x.Back], fun _ => rfl⟩
def e_GCell : Enc GCell := ⟨4, fun x => [.int .i64 x.Rune, .int .i64 x.Pen.Flags, .int .i64 x.Pen.Fore, .int .i64 x.Pen.Back], fun _ => rfl⟩
def e_A61 : Enc (Int × Int) := ⟨2, fun x => [.int .i64 x.1, .int .i64 x.2], fun _ => rfl⟩
def e_GGrid : Enc GGrid := ⟨3, fun x => [.int .i64 x.Wide, .int .i64 x.High, .sl x.Cells.length (e_GCell.cells x.Cells)], fun _ => rfl⟩
def p37_1 : List PO := [⟨(.some 4), (.mov (.const (.int .i64 0))), .none⟩]
def p37_2 : List PO := [⟨(.some 5), (.mov (.tmp 0)), .none⟩, ⟨(.some 6), (.cmpI .lss (.tmp 5) (.const (.int .i64 1))), .none⟩, ⟨(.some 7), (.mov (.tmp 6)), .none⟩, ⟨(.some 8), (.mov (.tmp 0)), (.some (7, .false))⟩, ⟨(.some 9), (.cmpI .gtr (.tmp 8) (.const (.int .i64 160))), (.some (7, .false))⟩, ⟨(.some 10), (.pick (.tmp 7) (.const (.bool .true)) (.tmp 9)), .none⟩, ⟨(.some 11), (.mov (.tmp 10)), .none⟩, ⟨(.some 12), (.mov (.tmp 1)), (.some (11, .false))⟩, ⟨(.some 13), (.cmpI .lss (.tmp 12) (.const (.int .i64 1))), (.some (11, .false))⟩, ⟨(.some 14), (.pick (.tmp 11) (.const (.bool .true)) (.tmp 13)), .none⟩, ⟨(.some 15), (.mov (.tmp 14)), .none⟩, ⟨(.some 16), (.mov (.tmp 1)), (.some (15, .false))⟩, ⟨(.some 17), (.cmpI .gtr (.tmp 16) (.const (.int .i64 60))), (.some (15, .false))⟩, ⟨(.some 18), (.pick (.tmp 15) (.const (.bool .true)) (.tmp 17)), .none⟩]
def p37_3 : List PO := [⟨(.some 4), (.mov (.const (.int .i64 1))), .none⟩]
def p37_4 : List PO := [⟨(.some 4), (.mov (.const (.int .i64 0))), .none⟩]
def c37_b : PCode := (.seq (.reg p37_1) (.seq (.seq (.reg p37_2) (.cond (.tmp 18) (.seq (.reg p37_3) .ret) .skip)) (.seq (.reg p37_4) .ret)))
def c37 : FCode := ⟨19, c37_b, [(.tmp 4)], some ([4], [], []), false⟩
theorem c37_ok : compF Go.Proofs.Try.prog [100009, 100014, 100019, 100022, 100024, 100029, 30, 33, 35, 41, 43, 46, 100048, 100052, 60, 61, 62] 37 = some (eraseF c37) := by kernel_rfl
def p57_1 : List PO := [⟨(.some 2), (.mov (.const (.bool .false))), .none⟩]
def p57_2 : List PO := [⟨(.some 3), (.mov (.tmp 0)), .none⟩, ⟨(.some 4), (.cmpI .geq (.tmp 3) (.const (.int .i64 0))), .none⟩, ⟨(.some 5), (.mov (.tmp 4)), .none⟩, ⟨(.some 6), (.mov (.tmp 0)), (.some (5, .true))⟩, ⟨(.some 7), (.cmpI .leq (.tmp 6) (.const (.int .i64 256))), (.some (5, .true))⟩, ⟨(.some 8), (.pick (.tmp 5) (.tmp 7) (.const (.bool .false))), .none⟩, ⟨(.some 9), (.mov (.tmp 8)), .none⟩, ⟨(.some 10), (.mov (.tmp 0)), (.some (9, .false))⟩, ⟨(.some 11), (.cmpI .geq (.tmp 10) (.const (.int .i64 16777216))), (.some (9, .false))⟩, ⟨(.some 12), (.mov (.tmp 11)), (.some (9, .false))⟩, ⟨(.some 13), (.mov (.tmp 0)), (.some (12, .true))⟩, ⟨(.some 14), (.cmpI .lss (.tmp 13) (.const (.int .i64 33554432))), (.some (12, .true))⟩, ⟨(.some 15), (.pick (.tmp 12) (.tmp 14) (.const (.bool .false))), (.some (9, .false))⟩, ⟨(.some 16), (.pick (.tmp 9) (.const (.bool .true)) (.tmp 15)), .none⟩, ⟨(.some 2), (.mov (.tmp 16)), .none⟩]
def c57_b : PCode := (.seq (.reg p57_1) (.seq (.reg p57_2) .ret))
def c57 : FCode := ⟨17, c57_b, [(.tmp 2)], some ([2], [], []), false⟩
theorem c57_ok : compF Go.Proofs.Try.prog [100009, 100014, 100019, 100022, 100024, 100029, 30, 33, 35, 41, 43, 46, 100048, 100052, 60, 61, 62] 57 = some (eraseF c57) := by kernel_rfl
def p38_1 : List PO := [⟨(.some 1), (.box 3 (.tmp 0)), .none⟩, ⟨(.some 2), (.mov (.const (.int .i64 0))), .none⟩]
def p38_2 : List PO := [⟨(.some 3), (.fld 0 (.tmp 1)), .none⟩, ⟨(.some 4), (.load .false 1 (.tmp 3)), .none⟩, ⟨(.some 5), (.cmpI .lss (.tmp 4) (.const (.int .i64 0))), .none⟩, ⟨(.some 6), (.mov (.tmp 5)), .none⟩, ⟨(.some 7), (.fld 0 (.tmp 1)), (.some (6, .false))⟩, ⟨(.some 8), (.load .false 1 (.tmp 7)), (.some (6, .false))⟩, ⟨(.some 9), (.cmpI .gtr (.tmp 8) (.const (.int .i64 255))), (.some (6, .false))⟩, ⟨(.some 10), (.pick (.tmp 6) (.const (.bool .true)) (.tmp 9)), .none⟩, ⟨(.some 11), (.mov (.tmp 10)), .none⟩, ⟨(.some 12), (.fld 1 (.tmp 1)), (.some (11, .false))⟩, ⟨(.some 13), (.load .false 1 (.tmp 12)), (.some (11, .false))⟩, ⟨(.some 14), (.call 57 [(.tmp 13)]), (.some (11, .false))⟩, ⟨(.some 15), (.un .not (.tmp 14)), (.some (11, .false))⟩, ⟨(.some 16), (.pick (.tmp 11) (.const (.bool .true)) (.tmp 15)), .none⟩, ⟨(.some 17), (.mov (.tmp 16)), .none⟩, ⟨(.some 18), (.fld 2 (.tmp 1)), (.some (17, .false))⟩, ⟨(.some 19), (.load .false 1 (.tmp 18)), (.some (17, .false))⟩, ⟨(.some 20), (.call 57 [(.tmp 19)]), (.some (17, .false))⟩, ⟨(.some 21), (.un .not (.tmp 20)), (.some (17, .false))⟩, ⟨(.some 22), (.pick (.tmp 17) (.const (.bool .true)) (.tmp 21)), .none⟩]
def p38_3 : List PO := [⟨(.some 2), (.mov (.const (.int .i64 4))), .none⟩]
def p38_4 : List PO := [⟨(.some 2), (.mov (.const (.int .i64 0))), .none⟩]
def c38_b : PCode := (.seq (.reg p38_1) (.seq (.seq (.reg p38_2) (.cond (.tmp 22) (.seq (.reg p38_3) .ret) .skip)) (.seq (.reg p38_4) .ret)))
def c38 : FCode := ⟨23, c38_b, [(.tmp 2)], some ([2], [], []), false⟩
theorem c38_ok : compF Go.Proofs.Try.prog [100009, 100014, 100019, 100022, 100024, 100029, 30, 33, 35, 41, 43, 46, 100048, 100052, 60, 61, 62] 38 = some (eraseF c38) := by kernel_rfl
def p54_1 : List PO := [⟨(.some 1), (.box 3 (.tmp 0)), .none⟩, ⟨(.some 2), (.alloc [(4, (.int .i64 0))]), .none⟩]
def p54_2 : List PO := [⟨(.some 3), (.load .true 3 (.tmp 1)), .none⟩, ⟨(.some 4), (.build [(4, (.int .i64 0))] [(0, (1, (.const (.int .i64 32)))), (1, (3, (.tmp 3)))]), .none⟩, ⟨.none, (.store 4 (.tmp 2) (.tmp 4)), .none⟩]
def c54_b : PCode := (.seq (.reg p54_1) (.seq (.reg p54_2) .ret))
def c54 : FCode := ⟨5, c54_b, [(.cell 2 .true 4)], some ([2], [(24, .id 24)], []), false⟩
theorem c54_ok : compF Go.Proofs.Try.prog [100009, 100014, 100019, 100022, 100024, 100029, 30, 33, 35, 41, 43, 46, 100048, 100052, 60, 61, 62] 54 = some (eraseF c54) := by kernel_rfl
def p56_1 : List PO := [⟨(.some 4), (.mov (.const (.int .u64 0))), .none⟩, ⟨(.some 5), (.mov (.const (.int .u64 0))), .none⟩]
def p56_2 : List PO := [⟨(.some 14), (.mov (.tmp 0)), .none⟩, ⟨(.some 15), (.arI .and (.tmp 14) (.const (.int .u64 4294967295))), .none⟩, ⟨(.some 6), (.mov (.tmp 15)), .none⟩]
def p56_3 : List PO := [⟨(.some 16), (.mov (.tmp 0)), .none⟩, ⟨(.some 17), (.sh .shr (.tmp 16) (.const (.int .u64 32))), .none⟩, ⟨(.some 7), (.mov (.tmp 17)), .none⟩]
def p56_4 : List PO := [⟨(.some 18), (.mov (.tmp 1)), .none⟩, ⟨(.some 19), (.arI .and (.tmp 18) (.const (.int .u64 4294967295))), .none⟩, ⟨(.some 8), (.mov (.tmp 19)), .none⟩]
def p56_5 : List PO := [⟨(.some 20), (.mov (.tmp 1)), .none⟩, ⟨(.some 21), (.sh .shr (.tmp 20) (.const (.int .u64 32))), .none⟩, ⟨(.some 9), (.mov (.tmp 21)), .none⟩]
def p56_6 : List PO := [⟨(.some 22), (.mov (.tmp 6)), .none⟩, ⟨(.some 23), (.mov (.tmp 8)), .none⟩, ⟨(.some 24), (.arI .mul (.tmp 22) (.tmp 23)), .none⟩, ⟨(.some 10), (.mov (.tmp 24)), .none⟩]
def p56_7 : List PO := [⟨(.some 25), (.mov (.tmp 7)), .none⟩, ⟨(.some 26), (.mov (.tmp 8)), .none⟩, ⟨(.some 27), (.arI .mul (.tmp 25) (.tmp 26)), .none⟩, ⟨(.some 28), (.mov (.tmp 10)), .none⟩, ⟨(.some 29), (.sh .shr (.tmp 28) (.const (.int .u64 32))), .none⟩, ⟨(.some 30), (.arI .add (.tmp 27) (.tmp 29)), .none⟩, ⟨(.some 11), (.mov (.tmp 30)), .none⟩]
def p56_8 : List PO := [⟨(.some 31), (.mov (.tmp 11)), .none⟩, ⟨(.some 32), (.arI .and (.tmp 31) (.const (.int .u64 4294967295))), .none⟩, ⟨(.some 12), (.mov (.tmp 32)), .none⟩]
def p56_9 : List PO := [⟨(.some 33), (.mov (.tmp 11)), .none⟩, ⟨(.some 34), (.sh .shr (.tmp 33) (.const (.int .u64 32))), .none⟩, ⟨(.some 13), (.mov (.tmp 34)), .none⟩]
def p56_10 : List PO := [⟨(.some 35), (.mov (.tmp 12)), .none⟩, ⟨(.some 36), (.mov (.tmp 6)), .none⟩, ⟨(.some 37), (.mov (.tmp 9)), .none⟩, ⟨(.some 38), (.arI .mul (.tmp 36) (.tmp 37)), .none⟩, ⟨(.some 39), (.arI .add (.tmp 35) (.tmp 38)), .none⟩, ⟨(.some 12), (.mov (.tmp 39)), .none⟩]
def p56_11 : List PO := [⟨(.some 40), (.mov (.tmp 7)), .none⟩, ⟨(.some 41), (.mov (.tmp 9)), .none⟩, ⟨(.some 42), (.arI .mul (.tmp 40) (.tmp 41)), .none⟩, ⟨(.some 43), (.mov (.tmp 13)), .none⟩, ⟨(.some 44), (.arI .add (.tmp 42) (.tmp 43)), .none⟩, ⟨(.some 45), (.mov (.tmp 12)), .none⟩, ⟨(.some 46), (.sh .shr (.tmp 45) (.const (.int .u64 32))), .none⟩, ⟨(.some 47), (.arI .add (.tmp 44) (.tmp 46)), .none⟩, ⟨(.some 4), (.mov (.tmp 47)), .none⟩]
def p56_12 : List PO := [⟨(.some 48), (.mov (.tmp 0)), .none⟩, ⟨(.some 49), (.mov (.tmp 1)), .none⟩, ⟨(.some 50), (.arI .mul (.tmp 48) (.tmp 49)), .none⟩, ⟨(.some 5), (.mov (.tmp 50)), .none⟩]
def c56_13 : PCode := (.seq (.reg p56_3) (.seq (.reg p56_4) (.seq (.reg p56_5) (.seq (.reg p56_6) (.seq (.reg p56_7) (.seq (.reg p56_8) (.seq (.reg p56_9) (.seq (.reg p56_10) (.seq (.reg p56_11) (.seq (.reg p56_12) .ret))))))))))
def c56_b : PCode := (.seq (.reg p56_1) (.seq (.reg p56_2) c56_13))
def c56 : FCode := ⟨51, c56_b, [(.tmp 4), (.tmp 5)], some ([4, 5], [], []), false⟩
theorem c56_ok : compF Go.Proofs.Try.prog [100009, 100014, 100019, 100022, 100024, 100029, 30, 33, 35, 41, 43, 46, 100048, 100052, 60, 61, 62] 56 = some (eraseF c56) := by kernel_rfl
def p36_2 : List PO := [⟨(.some 4), (.mov (.const (.int .u64 0))), .none⟩, ⟨(.some 5), (.mov (.const (.int .u64 0))), .none⟩]
def p36_3 : List PO := [⟨(.some 11), (.mov (.tmp 0)), .none⟩, ⟨(.some 12), (.cvI .u32 (.tmp 11)), .none⟩, ⟨(.some 13), (.mov (.tmp 1)), .none⟩, ⟨(.some 14), (.cvI .u32 (.tmp 13)), .none⟩, ⟨(.some 15), (.call 55 [(.tmp 12), (.tmp 14)]), .none⟩, ⟨(.some 10), (.mov (.tmp 15)), .none⟩, ⟨(.some 16), (.ext (.tmp 10) 0), .none⟩, ⟨(.some 17), (.ext (.tmp 10) 1), .none⟩, ⟨(.some 6), (.mov (.tmp 16)), .none⟩, ⟨(.some 7), (.mov (.tmp 17)), .none⟩]
def p36_4 : List PO := [⟨(.some 18), (.mov (.tmp 6)), .none⟩, ⟨(.some 19), (.cvI .u64 (.tmp 18)), .none⟩, ⟨(.some 20), (.mov (.tmp 7)), .none⟩, ⟨(.some 21), (.cvI .u64 (.tmp 20)), .none⟩, ⟨(.some 4), (.mov (.tmp 19)), .none⟩, ⟨(.some 5), (.mov (.tmp 21)), .none⟩]
def p36_5 : List PO := [⟨(.some 23), (.mov (.tmp 0)), .none⟩, ⟨(.some 24), (.mov (.tmp 1)), .none⟩, ⟨(.some 25), (.call 56 [(.tmp 23), (.tmp 24)]), .none⟩, ⟨(.some 22), (.mov (.tmp 25)), .none⟩, ⟨(.some 26), (.ext (.tmp 22) 0), .none⟩, ⟨(.some 27), (.ext (.tmp 22) 1), .none⟩, ⟨(.some 8), (.mov (.tmp 26)), .none⟩, ⟨(.some 9), (.mov (.tmp 27)), .none⟩]
def p36_6 : List PO := [⟨(.some 28), (.mov (.tmp 8)), .none⟩, ⟨(.some 29), (.mov (.tmp 9)), .none⟩, ⟨(.some 4), (.mov (.tmp 28)), .none⟩, ⟨(.some 5), (.mov (.tmp 29)), .none⟩]
def c36_1 : PCode := (.keep [0, 1] [] [] (.seq (.reg p36_5) (.seq (.reg p36_6) .ret)))
def c36_b : PCode := (.seq (.reg p36_2) (.seq (.cond (.const (.bool .false)) (.seq (.reg p36_3) (.seq (.reg p36_4) .ret)) .skip) c36_1))
def c36 : FCode := ⟨30, c36_b, [(.tmp 4), (.tmp 5)], some ([4, 5], [], []), false⟩
theorem c36_ok : compF Go.Proofs.Try.prog [100009, 100014, 100019, 100022, 100024, 100029, 30, 33, 35, 41, 43, 46, 100048, 100052, 60, 61, 62] 36 = some (eraseF c36) := by kernel_rfl
def p63_5 : List PO := [⟨(.some 4), (.nilS 33 4), .none⟩]
def p63_6 : List PO := [⟨(.some 9), (.mov (.tmp 1)), .none⟩, ⟨(.some 10), (.cmpI .lss (.tmp 9) (.const (.int .i64 0))), .none⟩]
def p63_7 : List PO := [⟨(.some 11), (.mx []), .none⟩, ⟨.none, (.mx []), .none⟩]
def p63_8 : List PO := [⟨(.some 13), (.mov (.tmp 0)), .none⟩, ⟨(.some 14), (.len .false (.tmp 13)), .none⟩, ⟨(.some 15), (.cvI .u64 (.tmp 14)), .none⟩, ⟨(.some 16), (.mov (.tmp 1)), .none⟩, ⟨(.some 17), (.cvI .u64 (.tmp 16)), .none⟩, ⟨(.some 18), (.call 36 [(.tmp 15), (.tmp 17)]), .none⟩, ⟨(.some 12), (.mov (.tmp 18)), .none⟩, ⟨(.some 19), (.ext (.tmp 12) 0), .none⟩, ⟨(.some 20), (.ext (.tmp 12) 1), .none⟩, ⟨(.some 5), (.mov (.tmp 19)), .none⟩, ⟨(.some 6), (.mov (.tmp 20)), .none⟩]
def p63_9 : List PO := [⟨(.some 21), (.mov (.tmp 5)), .none⟩, ⟨(.some 22), (.cmpI .gtr (.tmp 21) (.const (.int .u64 0))), .none⟩, ⟨(.some 23), (.mov (.tmp 22)), .none⟩, ⟨(.some 24), (.mov (.tmp 6)), (.some (23, .false))⟩, ⟨(.some 25), (.cmpI .gtr (.tmp 24) (.const (.int .u64 9223372036854775807))), (.some (23, .false))⟩, ⟨(.some 26), (.pick (.tmp 23) (.const (.bool .true)) (.tmp 25)), .none⟩]
def p63_10 : List PO := [⟨(.some 27), (.mx []), .none⟩, ⟨.none, (.mx []), .none⟩]
def p63_11 : List PO := [⟨(.some 28), (.mov (.tmp 6)), .none⟩, ⟨(.some 29), (.cvI .i64 (.tmp 28)), .none⟩, ⟨(.some 30), (.mks 33 4 32 [(4, (.int .i64 0))] (.tmp 29) (.tmp 29)), .none⟩, ⟨(.some 7), (.mov (.tmp 30)), .none⟩]
def p63_12 : List PO := [⟨(.some 31), (.mov (.tmp 7)), .none⟩, ⟨(.some 32), (.mov (.tmp 0)), .none⟩, ⟨(.some 33), (.cpy 4 (.tmp 31) (.tmp 32)), .none⟩, ⟨(.some 8), (.mov (.tmp 33)), .none⟩]
def p63_13 : List PO := [⟨(.some 34), (.mov (.tmp 8)), .none⟩, ⟨(.some 35), (.mov (.tmp 7)), .none⟩, ⟨(.some 36), (.len .false (.tmp 35)), .none⟩, ⟨(.some 37), (.cmpI .lss (.tmp 34) (.tmp 36)), .none⟩]
def p63_14 : List PO := [⟨(.some 38), (.mov (.tmp 8)), .none⟩, ⟨(.some 39), (.mov (.tmp 7)), .none⟩, ⟨(.some 40), (.mov (.tmp 8)), .none⟩, ⟨(.some 41), (.slS 33 4 (.tmp 39) (.some (.tmp 40)) .none), .none⟩, ⟨(.some 42), (.mov (.tmp 7)), .none⟩, ⟨(.some 43), (.mov (.tmp 8)), .none⟩, ⟨(.some 44), (.slS 33 4 (.tmp 42) .none (.some (.tmp 43))), .none⟩, ⟨(.some 45), (.cpy 4 (.tmp 41) (.tmp 44)), .none⟩, ⟨(.some 46), (.arI .add (.tmp 38) (.tmp 45)), .none⟩, ⟨(.some 8), (.mov (.tmp 46)), .none⟩]
def c63_1 : PCode := (.keep [7, 8] [(248, .id 248)] [] (.block 1 (.regD p63_14 [])))
def c63_2 : PCode := (.keep [7, 8] [(248, .id 248)] [] (.seq (.seq (.reg p63_13) (.cond (.tmp 37) .skip (.keep [7] [(248, .id 248)] [] (.exit 0)))) c63_1))
def p63_15 : List PO := [⟨(.some 47), (.mov (.tmp 7)), .none⟩, ⟨(.some 4), (.mov (.tmp 47)), .none⟩]
def c63_3 : PCode := (.keep [0, 6] [] [] (.seq (.reg p63_11) (.seq (.reg p63_12) (.seq (.block 0 (.loop c63_2)) (.seq (.reg p63_15) .ret)))))
def c63_4 : PCode := (.keep [0, 1] [] [] (.seq (.reg p63_8) (.seq (.seq (.reg p63_9) (.cond (.tmp 26) (.reg p63_10) .skip)) c63_3)))
def c63_b : PCode := (.seq (.reg p63_5) (.seq (.seq (.reg p63_6) (.cond (.tmp 10) (.reg p63_7) .skip)) c63_4))
def c63 : FCode := ⟨48, c63_b, [(.tmp 4)], some ([4], [(248, .id 248)], []), false⟩
theorem c63_ok : compF Go.Proofs.Try.prog [100009, 100014, 100019, 100022, 100024, 100029, 30, 33, 35, 41, 43, 46, 100048, 100052, 60, 61, 62] 63 = some (eraseF c63) := by kernel_rfl
def p53_1 : List PO := [⟨(.some 5), (.box 3 (.tmp 2)), .none⟩, ⟨(.some 6), (.alloc [(2, (.int .i64 0)), (1, (.slice .none 0 0))]), .none⟩]
def p53_2 : List PO := [⟨(.some 7), (.mov (.tmp 0)), .none⟩, ⟨(.some 8), (.mov (.tmp 1)), .none⟩, ⟨(.some 9), (.load .true 3 (.tmp 5)), .none⟩, ⟨(.some 10), (.call 54 [(.tmp 9)]), .none⟩, ⟨(.some 11), (.bsl 33 4 1 [(4, (.int .i64 0))] [(0, (4, (.tmp 10)))]), .none⟩, ⟨(.some 12), (.mov (.tmp 0)), .none⟩, ⟨(.some 13), (.mov (.tmp 1)), .none⟩, ⟨(.some 14), (.arI .mul (.tmp 12) (.tmp 13)), .none⟩, ⟨(.some 15), (.call 63 [(.tmp 11), (.tmp 14)]), .none⟩, ⟨(.some 16), (.build [(2, (.int .i64 0)), (1, (.slice .none 0 0))] [(0, (1, (.tmp 7))), (1, (1, (.tmp 8))), (2, (1, (.tmp 15)))]), .none⟩, ⟨.none, (.store 3 (.tmp 6) (.tmp 16)), .none⟩]
def c53_b : PCode := (.seq (.reg p53_1) (.seq (.reg p53_2) .ret))
def c53 : FCode := ⟨17, c53_b, [(.cell 6 .true 3)], some ([6], [(56, .id 56), (128, .id 128)], []), false⟩
theorem c53_ok : compF Go.Proofs.Try.prog [100009, 100014, 100019, 100022, 100024, 100029, 30, 33, 35, 41, 43, 46, 100048, 100052, 60, 61, 62] 53 = some (eraseF c53) := by kernel_rfl
def p31_2 : List PO := [⟨(.some 5), (.box 3 (.tmp 2)), .none⟩, ⟨(.some 6), (.alloc [(2, (.int .i64 0)), (1, (.slice .none 0 0))]), .none⟩, ⟨(.some 7), (.mov (.const (.int .i64 0))), .none⟩]
def p31_3 : List PO := [⟨(.some 10), (.mov (.tmp 0)), .none⟩, ⟨(.some 11), (.mov (.tmp 1)), .none⟩, ⟨(.some 12), (.call 37 [(.tmp 10), (.tmp 11)]), .none⟩, ⟨(.some 8), (.mov (.tmp 12)), .none⟩]
def p31_4 : List PO := [⟨(.some 13), (.mov (.tmp 8)), .none⟩, ⟨(.some 14), (.cmpI .neq (.tmp 13) (.const (.int .i64 0))), .none⟩]
def p31_5 : List PO := [⟨(.some 15), (.build [(2, (.int .i64 0)), (1, (.slice .none 0 0))] []), .none⟩, ⟨(.some 16), (.mov (.tmp 8)), .none⟩, ⟨.none, (.store 3 (.tmp 6) (.tmp 15)), .none⟩, ⟨(.some 7), (.mov (.tmp 16)), .none⟩]
def p31_6 : List PO := [⟨(.some 17), (.load .true 3 (.tmp 5)), .none⟩, ⟨(.some 18), (.call 38 [(.tmp 17)]), .none⟩, ⟨(.some 9), (.mov (.tmp 18)), .none⟩]
def p31_7 : List PO := [⟨(.some 19), (.mov (.tmp 9)), .none⟩, ⟨(.some 20), (.cmpI .neq (.tmp 19) (.const (.int .i64 0))), .none⟩]
def p31_8 : List PO := [⟨(.some 21), (.build [(2, (.int .i64 0)), (1, (.slice .none 0 0))] []), .none⟩, ⟨(.some 22), (.mov (.tmp 9)), .none⟩, ⟨.none, (.store 3 (.tmp 6) (.tmp 21)), .none⟩, ⟨(.some 7), (.mov (.tmp 22)), .none⟩]
def p31_9 : List PO := [⟨(.some 23), (.mov (.tmp 0)), .none⟩, ⟨(.some 24), (.mov (.tmp 1)), .none⟩, ⟨(.some 25), (.load .true 3 (.tmp 5)), .none⟩, ⟨(.some 26), (.call 53 [(.tmp 23), (.tmp 24), (.tmp 25)]), .none⟩, ⟨.none, (.store 3 (.tmp 6) (.tmp 26)), .none⟩, ⟨(.some 7), (.mov (.const (.int .i64 0))), .none⟩]
def c31_1 : PCode := (.keep [0, 1, 5, 6] [(48, .id 48), (56, .id 56)] [.cell 56 2 0 0 1] (.seq (.seq (.reg p31_6) (.seq (.reg p31_7) (.cond (.tmp 20) (.seq (.reg p31_8) .ret) .skip))) (.seq (.reg p31_9) .ret)))
def c31_b : PCode := (.seq (.reg p31_2) (.seq (.seq (.reg p31_3) (.seq (.reg p31_4) (.cond (.tmp 14) (.seq (.reg p31_5) .ret) .skip))) c31_1))
def c31 : FCode := ⟨27, c31_b, [(.cell 6 .true 3), (.tmp 7)], some ([6, 7], [(56, .id 56), (216, (.cell 56 2))], [.cell 56 2 216 33 4]), false⟩
theorem c31_ok : compF Go.Proofs.Try.prog [100009, 100014, 100019, 100022, 100024, 100029, 30, 33, 35, 41, 43, 46, 100048, 100052, 60, 61, 62] 31 = some (eraseF c31) := by kernel_rfl
def p51_4 : List PO := [⟨(.some 4), (.mov (.const (.bool .false))), .none⟩]
def p51_5 : List PO := [⟨(.some 7), (.mov (.tmp 1)), .none⟩, ⟨(.some 8), (.len .false (.tmp 7)), .none⟩, ⟨(.some 9), (.mov (.const (.int .i64 0))), .none⟩]
def p51_6 : List PO := [⟨(.some 10), (.cmpI .lss (.tmp 9) (.tmp 8)), .none⟩]
def p51_7 : List PO := [⟨(.some 11), (.ixS 61 2 (.tmp 7) (.tmp 9)), .none⟩, ⟨(.some 12), (.load .true 2 (.tmp 11)), .none⟩, ⟨(.some 6), (.alloc [(2, (.int .i64 0))]), .none⟩, ⟨.none, (.store 2 (.tmp 6) (.tmp 12)), .none⟩]
def p51_8 : List PO := [⟨(.some 13), (.mov (.tmp 0)), .none⟩, ⟨(.some 14), (.ixA 2 1 (.tmp 6) (.const (.int .i64 0))), .none⟩, ⟨(.some 15), (.load .false 1 (.tmp 14)), .none⟩, ⟨(.some 16), (.cmpI .geq (.tmp 13) (.tmp 15)), .none⟩, ⟨(.some 17), (.mov (.tmp 16)), .none⟩, ⟨(.some 18), (.mov (.tmp 0)), (.some (17, .true))⟩, ⟨(.some 19), (.ixA 2 1 (.tmp 6) (.const (.int .i64 1))), (.some (17, .true))⟩, ⟨(.some 20), (.load .false 1 (.tmp 19)), (.some (17, .true))⟩, ⟨(.some 21), (.cmpI .leq (.tmp 18) (.tmp 20)), (.some (17, .true))⟩, ⟨(.some 22), (.pick (.tmp 17) (.tmp 21) (.const (.bool .false))), .none⟩]
def p51_9 : List PO := [⟨(.some 4), (.mov (.const (.bool .true))), .none⟩]
def p51_10 : List PO := [⟨(.some 23), (.arI .add (.tmp 9) (.const (.int .i64 1))), .none⟩, ⟨(.some 9), (.mov (.tmp 23)), .none⟩]
def c51_1 : PCode := (.keep [0, 7, 8, 9] [] [] (.seq (.block 1 (.seq (.reg p51_7) (.seq (.reg p51_8) (.cond (.tmp 22) (.seq (.reg p51_9) .ret) .skip)))) (.reg p51_10)))
def c51_2 : PCode := (.keep [0, 7, 8, 9, 10] [] [] (.seq (.cond (.tmp 10) .skip (.keep [] [] [] (.exit 0))) c51_1))
def c51_3 : PCode := (.keep [0, 7, 8, 9] [] [] (.seq (.reg p51_6) c51_2))
def p51_11 : List PO := [⟨(.some 4), (.mov (.const (.bool .false))), .none⟩]
def c51_b : PCode := (.seq (.reg p51_4) (.seq (.seq (.reg p51_5) (.block 0 (.loop c51_3))) (.seq (.reg p51_11) .ret)))
def c51 : FCode := ⟨24, c51_b, [(.tmp 4)], some ([4], [], []), false⟩
theorem c51_ok : compF Go.Proofs.Try.prog [100009, 100014, 100019, 100022, 100024, 100029, 30, 33, 35, 41, 43, 46, 100048, 100052, 60, 61, 62] 51 = some (eraseF c51) := by kernel_rfl
def p28_3 : List PO := [⟨(.some 2), (.mov (.const (.int .i64 0))), .none⟩]
def p28_4 : List PO := [⟨(.some 5), (.build [(2, (.int .i64 0))] [(0, (1, (.const (.int .i64 0)))), (1, (1, (.const (.int .i64 31))))]), .none⟩, ⟨(.some 6), (.build [(2, (.int .i64 0))] [(0, (1, (.const (.int .i64 127)))), (1, (1, (.const (.int .i64 159))))]), .none⟩, ⟨(.some 7), (.build [(2, (.int .i64 0))] [(0, (1, (.const (.int .i64 768)))), (1, (1, (.const (.int .i64 879))))]), .none⟩, ⟨(.some 8), (.build [(2, (.int .i64 0))] [(0, (1, (.const (.int .i64 8203)))), (1, (1, (.const (.int .i64 8207))))]), .none⟩, ⟨(.some 9), (.build [(2, (.int .i64 0))] [(0, (1, (.const (.int .i64 55296)))), (1, (1, (.const (.int .i64 57343))))]), .none⟩, ⟨(.some 10), (.build [(2, (.int .i64 0))] [(0, (1, (.const (.int .i64 65024)))), (1, (1, (.const (.int .i64 65039))))]), .none⟩, ⟨(.some 11), (.build [(12, (.int .i64 0))] [(0, (2, (.tmp 5))), (2, (2, (.tmp 6))), (4, (2, (.tmp 7))), (6, (2, (.tmp 8))), (8, (2, (.tmp 9))), (10, (2, (.tmp 10)))]), .none⟩, ⟨(.some 3), (.alloc [(12, (.int .i64 0))]), .none⟩, ⟨.none, (.store 12 (.tmp 3) (.tmp 11)), .none⟩]
def p28_5 : List PO := [⟨(.some 12), (.build [(2, (.int .i64 0))] [(0, (1, (.const (.int .i64 4352)))), (1, (1, (.const (.int .i64 4447))))]), .none⟩, ⟨(.some 13), (.build [(2, (.int .i64 0))] [(0, (1, (.const (.int .i64 11904)))), (1, (1, (.const (.int .i64 12350))))]), .none⟩, ⟨(.some 14), (.build [(2, (.int .i64 0))] [(0, (1, (.const (.int .i64 12353)))), (1, (1, (.const (.int .i64 19903))))]), .none⟩, ⟨(.some 15), (.build [(2, (.int .i64 0))] [(0, (1, (.const (.int .i64 19968)))), (1, (1, (.const (.int .i64 42191))))]), .none⟩, ⟨(.some 16), (.build [(2, (.int .i64 0))] [(0, (1, (.const (.int .i64 44032)))), (1, (1, (.const (.int .i64 55203))))]), .none⟩, ⟨(.some 17), (.build [(2, (.int .i64 0))] [(0, (1, (.const (.int .i64 63744)))), (1, (1, (.const (.int .i64 64255))))]), .none⟩, ⟨(.some 18), (.build [(2, (.int .i64 0))] [(0, (1, (.const (.int .i64 65072)))), (1, (1, (.const (.int .i64 65135))))]), .none⟩, ⟨(.some 19), (.build [(2, (.int .i64 0))] [(0, (1, (.const (.int .i64 65280)))), (1, (1, (.const (.int .i64 65376))))]), .none⟩, ⟨(.some 20), (.build [(2, (.int .i64 0))] [(0, (1, (.const (.int .i64 65504)))), (1, (1, (.const (.int .i64 65510))))]), .none⟩, ⟨(.some 21), (.build [(2, (.int .i64 0))] [(0, (1, (.const (.int .i64 127744)))), (1, (1, (.const (.int .i64 128591))))]), .none⟩, ⟨(.some 22), (.build [(2, (.int .i64 0))] [(0, (1, (.const (.int .i64 129280)))), (1, (1, (.const (.int .i64 129535))))]), .none⟩, ⟨(.some 23), (.build [(2, (.int .i64 0))] [(0, (1, (.const (.int .i64 131072)))), (1, (1, (.const (.int .i64 262141))))]), .none⟩, ⟨(.some 24), (.build [(24, (.int .i64 0))] [(0, (2, (.tmp 12))), (2, (2, (.tmp 13))), (4, (2, (.tmp 14))), (6, (2, (.tmp 15))), (8, (2, (.tmp 16))), (10, (2, (.tmp 17))), (12, (2, (.tmp 18))), (14, (2, (.tmp 19))), (16, (2, (.tmp 20))), (18, (2, (.tmp 21))), (20, (2, (.tmp 22))), (22, (2, (.tmp 23)))]), .none⟩, ⟨(.some 4), (.alloc [(24, (.int .i64 0))]), .none⟩, ⟨.none, (.store 24 (.tmp 4) (.tmp 24)), .none⟩]
def p28_6 : List PO := [⟨(.some 26), (.mov (.tmp 0)), .none⟩, ⟨(.some 27), (.cmpI .lss (.tmp 26) (.const (.int .i64 0))), .none⟩, ⟨(.some 28), (.mov (.tmp 27)), .none⟩, ⟨(.some 29), (.mov (.tmp 0)), (.some (28, .false))⟩, ⟨(.some 30), (.cmpI .gtr (.tmp 29) (.const (.int .i64 1114111))), (.some (28, .false))⟩, ⟨(.some 31), (.pick (.tmp 28) (.const (.bool .true)) (.tmp 30)), .none⟩, ⟨(.some 32), (.mov (.tmp 31)), .none⟩, ⟨(.some 33), (.mov (.tmp 0)), (.some (32, .false))⟩, ⟨(.some 34), (.slA 6 2 (.tmp 3) .none .none), (.some (32, .false))⟩, ⟨(.some 35), (.call 51 [(.tmp 33), (.tmp 34)]), (.some (32, .false))⟩, ⟨(.some 36), (.pick (.tmp 32) (.const (.bool .true)) (.tmp 35)), .none⟩, ⟨(.some 25), (.mov (.tmp 36)), .none⟩]
def p28_7 : List PO := [⟨(.some 2), (.mov (.const (.int .i64 0))), .none⟩]
def p28_8 : List PO := [⟨(.some 38), (.mov (.tmp 0)), .none⟩, ⟨(.some 39), (.slA 12 2 (.tmp 4) .none .none), .none⟩, ⟨(.some 40), (.call 51 [(.tmp 38), (.tmp 39)]), .none⟩, ⟨(.some 37), (.mov (.tmp 40)), .none⟩]
def p28_9 : List PO := [⟨(.some 2), (.mov (.const (.int .i64 2))), .none⟩]
def c28_1 : PCode := (.keep [0, 4, 25] [(40, .id 40)] [] (.cond (.tmp 25) (.seq (.reg p28_7) .ret) (.seq (.reg p28_8) (.cond (.tmp 37) (.seq (.reg p28_9) .ret) .skip))))
def p28_10 : List PO := [⟨(.some 2), (.mov (.const (.int .i64 1))), .none⟩]
def c28_2 : PCode := (.seq (.reg p28_10) .ret)
def c28_b : PCode := (.seq (.reg p28_3) (.seq (.reg p28_4) (.seq (.reg p28_5) (.seq (.block 0 (.seq (.reg p28_6) c28_1)) c28_2))))
def c28 : FCode := ⟨41, c28_b, [(.tmp 2)], some ([2], [], []), false⟩
theorem c28_ok : compF Go.Proofs.Try.prog [100009, 100014, 100019, 100022, 100024, 100029, 30, 33, 35, 41, 43, 46, 100048, 100052, 60, 61, 62] 28 = some (eraseF c28) := by kernel_rfl
def p33_1 : List PO := [⟨(.some 2), (.box 3 (.tmp 0)), .none⟩, ⟨(.some 4), (.nilS 33 4), .none⟩]
def p33_2 : List PO := [⟨(.some 5), (.fld 2 (.tmp 2)), .none⟩, ⟨(.some 6), (.load .false 1 (.tmp 5)), .none⟩, ⟨(.some 7), (.mov (.tmp 1)), .none⟩, ⟨(.some 8), (.fld 0 (.tmp 2)), .none⟩, ⟨(.some 9), (.load .false 1 (.tmp 8)), .none⟩, ⟨(.some 10), (.arI .mul (.tmp 7) (.tmp 9)), .none⟩, ⟨(.some 11), (.mov (.tmp 1)), .none⟩, ⟨(.some 12), (.arI .add (.tmp 11) (.const (.int .i64 1))), .none⟩, ⟨(.some 13), (.fld 0 (.tmp 2)), .none⟩, ⟨(.some 14), (.load .false 1 (.tmp 13)), .none⟩, ⟨(.some 15), (.arI .mul (.tmp 12) (.tmp 14)), .none⟩, ⟨(.some 16), (.slS 33 4 (.tmp 6) (.some (.tmp 10)) (.some (.tmp 15))), .none⟩, ⟨(.some 4), (.mov (.tmp 16)), .none⟩]
def c33_b : PCode := (.seq (.reg p33_1) (.seq (.reg p33_2) .ret))
def c33 : FCode := ⟨17, c33_b, [(.tmp 4)], some ([4, 2000000], [(0, .id 0)], []), false⟩
theorem c33_ok : compF Go.Proofs.Try.prog [100009, 100014, 100019, 100022, 100024, 100029, 30, 33, 35, 41, 43, 46, 100048, 100052, 60, 61, 62] 33 = some (eraseF c33) := by kernel_rfl
def p58_1 : List PO := [⟨(.some 3), (.mov (.const (.bool .false))), .none⟩]
def p58_2 : List PO := [⟨(.some 4), (.mov (.tmp 0)), .none⟩, ⟨(.some 5), (.load .false 1 (.tmp 1)), .none⟩, ⟨(.some 6), (.len .false (.tmp 5)), .none⟩, ⟨(.some 7), (.cmpI .lss (.tmp 4) (.tmp 6)), .none⟩, ⟨(.some 8), (.mov (.tmp 7)), .none⟩, ⟨(.some 9), (.load .false 1 (.tmp 1)), (.some (8, .true))⟩, ⟨(.some 10), (.mov (.tmp 0)), (.some (8, .true))⟩, ⟨(.some 11), (.ixS 33 4 (.tmp 9) (.tmp 10)), (.some (8, .true))⟩, ⟨(.some 12), (.fld 0 (.tmp 11)), (.some (8, .true))⟩, ⟨(.some 13), (.load .false 1 (.tmp 12)), (.some (8, .true))⟩, ⟨(.some 14), (.cmpI .eql (.tmp 13) (.const (.int .i64 0))), (.some (8, .true))⟩, ⟨(.some 15), (.pick (.tmp 8) (.tmp 14) (.const (.bool .false))), .none⟩, ⟨(.some 16), (.mov (.tmp 15)), .none⟩, ⟨(.some 17), (.load .false 1 (.tmp 1)), (.some (16, .true))⟩, ⟨(.some 18), (.mov (.tmp 0)), (.some (16, .true))⟩, ⟨(.some 19), (.ixS 33 4 (.tmp 17) (.tmp 18)), (.some (16, .true))⟩, ⟨(.some 20), (.fld 1 (.tmp 19)), (.some (16, .true))⟩, ⟨(.some 21), (.load .true 3 (.tmp 20)), (.some (16, .true))⟩, ⟨(.some 22), (.load .false 1 (.tmp 1)), (.some (16, .true))⟩, ⟨(.some 23), (.mov (.tmp 0)), (.some (16, .true))⟩, ⟨(.some 24), (.arI .sub (.tmp 23) (.const (.int .i64 1))), (.some (16, .true))⟩, ⟨(.some 25), (.ixS 33 4 (.tmp 22) (.tmp 24)), (.some (16, .true))⟩, ⟨(.some 26), (.fld 1 (.tmp 25)), (.some (16, .true))⟩, ⟨(.some 27), (.load .true 3 (.tmp 26)), (.some (16, .true))⟩, ⟨(.some 28), (.eqA .false [(3, .int)] (.tmp 21) (.tmp 27)), (.some (16, .true))⟩, ⟨(.some 29), (.pick (.tmp 16) (.tmp 28) (.const (.bool .false))), .none⟩, ⟨(.some 3), (.mov (.tmp 29)), .none⟩]
def c58_b : PCode := (.seq (.reg p58_1) (.seq (.regD p58_2 []) .ret))
def c58 : FCode := ⟨30, c58_b, [(.tmp 3)], some ([3], [], []), false⟩
theorem c58_ok : compF Go.Proofs.Try.prog [100009, 100014, 100019, 100022, 100024, 100029, 30, 33, 35, 41, 43, 46, 100048, 100052, 60, 61, 62] 58 = some (eraseF c58) := by kernel_rfl
def p39_2 : List PO := [⟨(.some 2), (.box 1 (.tmp 0)), .none⟩, ⟨(.some 4), (.mov (.const (.bool .false))), .none⟩]
def p39_3 : List PO := [⟨(.some 6), (.mkF 58 [(.tmp 2)]), .none⟩, ⟨(.some 5), (.mov (.tmp 6)), .none⟩]
def p39_4 : List PO := [⟨(.some 7), (.load .false 1 (.tmp 2)), .none⟩, ⟨(.some 8), (.mov (.tmp 1)), .none⟩, ⟨(.some 9), (.ixS 33 4 (.tmp 7) (.tmp 8)), .none⟩, ⟨(.some 10), (.fld 0 (.tmp 9)), .none⟩, ⟨(.some 11), (.load .false 1 (.tmp 10)), .none⟩, ⟨(.some 12), (.cmpI .eql (.tmp 11) (.const (.int .i64 0))), .none⟩]
def p39_5 : List PO := [⟨(.some 13), (.mov (.tmp 1)), .none⟩, ⟨(.some 14), (.cmpI .eql (.tmp 13) (.const (.int .i64 0))), .none⟩, ⟨(.some 15), (.mov (.tmp 14)), .none⟩, ⟨(.some 16), (.load .false 1 (.tmp 2)), (.some (15, .false))⟩, ⟨(.some 17), (.mov (.tmp 1)), (.some (15, .false))⟩, ⟨(.some 18), (.arI .sub (.tmp 17) (.const (.int .i64 1))), (.some (15, .false))⟩, ⟨(.some 19), (.ixS 33 4 (.tmp 16) (.tmp 18)), (.some (15, .false))⟩, ⟨(.some 20), (.fld 0 (.tmp 19)), (.some (15, .false))⟩, ⟨(.some 21), (.load .false 1 (.tmp 20)), (.some (15, .false))⟩, ⟨(.some 22), (.call 28 [(.tmp 21)]), (.some (15, .false))⟩, ⟨(.some 23), (.cmpI .neq (.tmp 22) (.const (.int .i64 2))), (.some (15, .false))⟩, ⟨(.some 24), (.pick (.tmp 15) (.const (.bool .true)) (.tmp 23)), .none⟩, ⟨(.some 25), (.mov (.tmp 24)), .none⟩, ⟨(.some 26), (.mov (.tmp 5)), (.some (25, .false))⟩, ⟨(.some 27), (.mov (.tmp 1)), (.some (25, .false))⟩, ⟨(.some 28), (.callv (.tmp 26) [(.tmp 27)]), (.some (25, .false))⟩, ⟨(.some 29), (.un .not (.tmp 28)), (.some (25, .false))⟩, ⟨(.some 30), (.pick (.tmp 25) (.const (.bool .true)) (.tmp 29)), .none⟩, ⟨(.some 4), (.mov (.tmp 30)), .none⟩]
def p39_6 : List PO := [⟨(.some 31), (.load .false 1 (.tmp 2)), .none⟩, ⟨(.some 32), (.mov (.tmp 1)), .none⟩, ⟨(.some 33), (.ixS 33 4 (.tmp 31) (.tmp 32)), .none⟩, ⟨(.some 34), (.fld 0 (.tmp 33)), .none⟩, ⟨(.some 35), (.load .false 1 (.tmp 34)), .none⟩, ⟨(.some 36), (.call 28 [(.tmp 35)]), .none⟩, ⟨(.some 37), (.cmpI .eql (.tmp 36) (.const (.int .i64 2))), .none⟩, ⟨(.some 38), (.mov (.tmp 37)), .none⟩, ⟨(.some 39), (.mov (.tmp 5)), (.some (38, .true))⟩, ⟨(.some 40), (.mov (.tmp 1)), (.some (38, .true))⟩, ⟨(.some 41), (.arI .add (.tmp 40) (.const (.int .i64 1))), (.some (38, .true))⟩, ⟨(.some 42), (.callv (.tmp 39) [(.tmp 41)]), (.some (38, .true))⟩, ⟨(.some 43), (.un .not (.tmp 42)), (.some (38, .true))⟩, ⟨(.some 44), (.pick (.tmp 38) (.tmp 43) (.const (.bool .false))), .none⟩, ⟨(.some 4), (.mov (.tmp 44)), .none⟩]
def c39_1 : PCode := (.keep [1, 2, 5] [(24, .id 24)] [] (.seq (.reg p39_6) .ret))
def c39_b : PCode := (.seq (.reg p39_2) (.seq (.reg p39_3) (.seq (.seq (.reg p39_4) (.cond (.tmp 12) (.seq (.reg p39_5) .ret) .skip)) c39_1)))
def c39 : FCode := ⟨45, c39_b, [(.tmp 4)], some ([4], [], []), false⟩
theorem c39_ok : compF Go.Proofs.Try.prog [100009, 100014, 100019, 100022, 100024, 100029, 30, 33, 35, 41, 43, 46, 100048, 100052, 60, 61, 62] 39 = some (eraseF c39) := by kernel_rfl
def p18_9 : List PO := [⟨(.some 1), (.box 3 (.tmp 0)), .none⟩, ⟨(.some 2), (.mov (.const (.int .i64 0))), .none⟩]
def p18_10 : List PO := [⟨(.some 8), (.fld 0 (.tmp 1)), .none⟩, ⟨(.some 9), (.load .false 1 (.tmp 8)), .none⟩, ⟨(.some 10), (.fld 1 (.tmp 1)), .none⟩, ⟨(.some 11), (.load .false 1 (.tmp 10)), .none⟩, ⟨(.some 12), (.call 37 [(.tmp 9), (.tmp 11)]), .none⟩, ⟨(.some 3), (.mov (.tmp 12)), .none⟩]
def p18_11 : List PO := [⟨(.some 13), (.mov (.tmp 3)), .none⟩, ⟨(.some 14), (.cmpI .neq (.tmp 13) (.const (.int .i64 0))), .none⟩]
def p18_12 : List PO := [⟨(.some 15), (.mov (.tmp 3)), .none⟩, ⟨(.some 2), (.mov (.tmp 15)), .none⟩]
def p18_13 : List PO := [⟨(.some 16), (.fld 2 (.tmp 1)), .none⟩, ⟨(.some 17), (.load .false 1 (.tmp 16)), .none⟩, ⟨(.some 18), (.len .false (.tmp 17)), .none⟩, ⟨(.some 19), (.fld 0 (.tmp 1)), .none⟩, ⟨(.some 20), (.load .false 1 (.tmp 19)), .none⟩, ⟨(.some 21), (.fld 1 (.tmp 1)), .none⟩, ⟨(.some 22), (.load .false 1 (.tmp 21)), .none⟩, ⟨(.some 23), (.arI .mul (.tmp 20) (.tmp 22)), .none⟩, ⟨(.some 24), (.cmpI .neq (.tmp 18) (.tmp 23)), .none⟩]
def p18_14 : List PO := [⟨(.some 2), (.mov (.const (.int .i64 4))), .none⟩]
def p18_15 : List PO := [⟨(.some 25), (.fld 1 (.tmp 1)), .none⟩, ⟨(.some 26), (.load .false 1 (.tmp 25)), .none⟩, ⟨(.some 27), (.mov (.const (.int .i64 0))), .none⟩]
def p18_16 : List PO := [⟨(.some 28), (.cmpI .lss (.tmp 27) (.tmp 26)), .none⟩]
def p18_17 : List PO := [⟨(.some 29), (.mov (.tmp 27)), .none⟩, ⟨(.some 4), (.mov (.tmp 29)), .none⟩]
def p18_18 : List PO := [⟨(.some 30), (.load .true 3 (.tmp 1)), .none⟩, ⟨(.some 31), (.mov (.tmp 4)), .none⟩, ⟨(.some 32), (.callr 33 [(.tmp 30), (.tmp 31)]), .none⟩, ⟨(.some 5), (.mov (.tmp 32)), .none⟩]
def p18_19 : List PO := [⟨(.some 33), (.mov (.tmp 5)), .none⟩, ⟨(.some 34), (.len .false (.tmp 33)), .none⟩, ⟨(.some 35), (.mov (.const (.int .i64 0))), .none⟩]
def p18_20 : List PO := [⟨(.some 36), (.cmpI .lss (.tmp 35) (.tmp 34)), .none⟩]
def p18_21 : List PO := [⟨(.some 37), (.mov (.tmp 35)), .none⟩, ⟨(.some 38), (.ixS 33 4 (.tmp 33) (.tmp 35)), .none⟩, ⟨(.some 39), (.load .true 4 (.tmp 38)), .none⟩, ⟨(.some 7), (.alloc [(4, (.int .i64 0))]), .none⟩, ⟨(.some 6), (.mov (.tmp 37)), .none⟩, ⟨.none, (.store 4 (.tmp 7) (.tmp 39)), .none⟩]
def p18_22 : List PO := [⟨(.some 40), (.fld 1 (.tmp 7)), .none⟩, ⟨(.some 41), (.load .true 3 (.tmp 40)), .none⟩, ⟨(.some 42), (.call 38 [(.tmp 41)]), .none⟩, ⟨(.some 43), (.cmpI .neq (.tmp 42) (.const (.int .i64 0))), .none⟩, ⟨(.some 44), (.mov (.tmp 43)), .none⟩, ⟨(.some 45), (.fld 0 (.tmp 7)), (.some (44, .false))⟩, ⟨(.some 46), (.load .false 1 (.tmp 45)), (.some (44, .false))⟩, ⟨(.some 47), (.cmpI .neq (.tmp 46) (.const (.int .i64 0))), (.some (44, .false))⟩, ⟨(.some 48), (.mov (.tmp 47)), (.some (44, .false))⟩, ⟨(.some 49), (.fld 0 (.tmp 7)), (.some (48, .true))⟩, ⟨(.some 50), (.load .false 1 (.tmp 49)), (.some (48, .true))⟩, ⟨(.some 51), (.call 28 [(.tmp 50)]), (.some (48, .true))⟩, ⟨(.some 52), (.cmpI .eql (.tmp 51) (.const (.int .i64 0))), (.some (48, .true))⟩, ⟨(.some 53), (.pick (.tmp 48) (.tmp 52) (.const (.bool .false))), (.some (44, .false))⟩, ⟨(.some 54), (.pick (.tmp 44) (.const (.bool .true)) (.tmp 53)), .none⟩, ⟨(.some 55), (.mov (.tmp 54)), .none⟩, ⟨(.some 56), (.mov (.tmp 5)), (.some (55, .false))⟩, ⟨(.some 57), (.mov (.tmp 6)), (.some (55, .false))⟩, ⟨(.some 58), (.call 39 [(.tmp 56), (.tmp 57)]), (.some (55, .false))⟩, ⟨(.some 59), (.pick (.tmp 55) (.const (.bool .true)) (.tmp 58)), .none⟩]
def p18_23 : List PO := [⟨(.some 2), (.mov (.const (.int .i64 4))), .none⟩]
def p18_24 : List PO := [⟨(.some 60), (.arI .add (.tmp 35) (.const (.int .i64 1))), .none⟩, ⟨(.some 35), (.mov (.tmp 60)), .none⟩]
def c18_1 : PCode := (.keep [1, 5, 26, 27, 33, 34, 35] [(16, .id 16)] [] (.seq (.block 3 (.seq (.reg p18_21) (.seq (.reg p18_22) (.cond (.tmp 59) (.seq (.reg p18_23) .ret) .skip)))) (.reg p18_24)))
def c18_2 : PCode := (.keep [1, 5, 26, 27, 33, 34, 35, 36] [(16, .id 16)] [] (.seq (.cond (.tmp 36) .skip (.keep [1, 26, 27] [(16, .id 16)] [] (.exit 2))) c18_1))
def c18_3 : PCode := (.keep [1, 5, 26, 27, 33, 34, 35] [(16, .id 16)] [] (.seq (.reg p18_20) c18_2))
def p18_25 : List PO := [⟨(.some 61), (.arI .add (.tmp 27) (.const (.int .i64 1))), .none⟩, ⟨(.some 27), (.mov (.tmp 61)), .none⟩]
def c18_4 : PCode := (.keep [1, 26, 27] [(16, .id 16)] [] (.seq (.block 1 (.seq (.reg p18_17) (.seq (.reg p18_18) (.seq (.reg p18_19) (.block 2 (.loop c18_3)))))) (.reg p18_25)))
def c18_5 : PCode := (.keep [1, 26, 27, 28] [(16, .id 16)] [] (.seq (.cond (.tmp 28) .skip (.keep [] [] [] (.exit 0))) c18_4))
def c18_6 : PCode := (.keep [1, 26, 27] [(16, .id 16)] [] (.seq (.reg p18_16) c18_5))
def p18_26 : List PO := [⟨(.some 2), (.mov (.const (.int .i64 0))), .none⟩]
def c18_7 : PCode := (.keep [1] [(16, .id 16)] [] (.seq (.seq (.reg p18_15) (.block 0 (.loop c18_6))) (.seq (.reg p18_26) .ret)))
def c18_8 : PCode := (.keep [1] [(16, .id 16)] [] (.seq (.seq (.reg p18_13) (.cond (.tmp 24) (.seq (.reg p18_14) .ret) .skip)) c18_7))
def c18_b : PCode := (.seq (.reg p18_9) (.seq (.seq (.reg p18_10) (.seq (.reg p18_11) (.cond (.tmp 14) (.seq (.reg p18_12) .ret) .skip))) c18_8))
def c18 : FCode := ⟨62, c18_b, [(.tmp 2)], some ([2], [], []), false⟩
theorem c18_ok : compF Go.Proofs.Try.prog [100009, 100014, 100019, 100022, 100024, 100029, 30, 33, 35, 41, 43, 46, 100048, 100052, 60, 61, 62] 18 = some (eraseF c18) := by kernel_rfl
def p26_1 : List PO := [⟨(.some 2), (.nilS 33 4), .none⟩]
def p26_2 : List PO := [⟨(.some 3), (.mov (.tmp 0)), .none⟩, ⟨(.some 4), (.isN .false (.tmp 3)), .none⟩]
def p26_3 : List PO := [⟨(.some 2), (.nilS 33 4), .none⟩]
def p26_4 : List PO := [⟨(.some 5), (.bsl 33 4 0 [] []), .none⟩, ⟨(.some 6), (.mov (.tmp 0)), .none⟩, ⟨(.some 7), (.app 33 4 32 (.tmp 5) (.tmp 6)), .none⟩, ⟨(.some 2), (.mov (.tmp 7)), .none⟩]
def c26_b : PCode := (.seq (.reg p26_1) (.seq (.seq (.reg p26_2) (.cond (.tmp 4) (.seq (.reg p26_3) .ret) .skip)) (.seq (.reg p26_4) .ret)))
def c26 : FCode := ⟨8, c26_b, [(.tmp 2)], some ([2], [(97, (.slot 2 none))], []), true⟩
theorem c26_ok : compF Go.Proofs.Try.prog [100009, 100014, 100019, 100022, 100024, 100029, 30, 33, 35, 41, 43, 46, 100048, 100052, 60, 61, 62] 26 = some (eraseF c26) := by kernel_rfl
def p52_1 : List PO := [⟨(.some 1), (.box 3 (.tmp 0)), .none⟩, ⟨(.some 2), (.alloc [(2, (.int .i64 0)), (1, (.slice .none 0 0))]), .none⟩]
def p52_2 : List PO := [⟨(.some 3), (.fld 2 (.tmp 1)), .none⟩, ⟨(.some 4), (.load .false 1 (.tmp 3)), .none⟩, ⟨(.some 5), (.call 26 [(.tmp 4)]), .none⟩, ⟨(.some 6), (.fld 2 (.tmp 1)), .none⟩, ⟨.none, (.store 1 (.tmp 6) (.tmp 5)), .none⟩]
def p52_3 : List PO := [⟨(.some 7), (.load .true 3 (.tmp 1)), .none⟩, ⟨.none, (.store 3 (.tmp 2) (.tmp 7)), .none⟩]
def c52_b : PCode := (.seq (.reg p52_1) (.seq (.reg p52_2) (.seq (.reg p52_3) .ret)))
def c52 : FCode := ⟨8, c52_b, [(.cell 2 .true 3)], some ([2], [(24, .id 24), (48, .id 48)], []), false⟩
theorem c52_ok : compF Go.Proofs.Try.prog [100009, 100014, 100019, 100022, 100024, 100029, 30, 33, 35, 41, 43, 46, 100048, 100052, 60, 61, 62] 52 = some (eraseF c52) := by kernel_rfl
def p29_3 : List PO := [⟨(.some 3), (.box 3 (.tmp 0)), .none⟩, ⟨(.some 5), (.box 3 (.tmp 2)), .none⟩, ⟨(.some 6), (.alloc [(2, (.int .i64 0)), (1, (.slice .none 0 0))]), .none⟩, ⟨(.some 7), (.mov (.const (.int .i64 0))), .none⟩]
def p29_4 : List PO := [⟨(.some 10), (.load .true 3 (.tmp 3)), .none⟩, ⟨(.some 11), (.call 18 [(.tmp 10)]), .none⟩, ⟨(.some 8), (.mov (.tmp 11)), .none⟩]
def p29_5 : List PO := [⟨(.some 12), (.mov (.tmp 8)), .none⟩, ⟨(.some 13), (.cmpI .neq (.tmp 12) (.const (.int .i64 0))), .none⟩]
def p29_6 : List PO := [⟨(.some 14), (.build [(2, (.int .i64 0)), (1, (.slice .none 0 0))] []), .none⟩, ⟨(.some 15), (.mov (.tmp 8)), .none⟩, ⟨.none, (.store 3 (.tmp 6) (.tmp 14)), .none⟩, ⟨(.some 7), (.mov (.tmp 15)), .none⟩]
def p29_7 : List PO := [⟨(.some 16), (.mov (.tmp 1)), .none⟩, ⟨(.some 17), (.un .not (.tmp 16)), .none⟩]
def p29_8 : List PO := [⟨(.some 18), (.build [(2, (.int .i64 0)), (1, (.slice .none 0 0))] []), .none⟩, ⟨.none, (.store 3 (.tmp 6) (.tmp 18)), .none⟩, ⟨(.some 7), (.mov (.const (.int .i64 1))), .none⟩]
def p29_9 : List PO := [⟨(.some 19), (.load .true 3 (.tmp 5)), .none⟩, ⟨(.some 20), (.call 38 [(.tmp 19)]), .none⟩, ⟨(.some 9), (.mov (.tmp 20)), .none⟩]
def p29_10 : List PO := [⟨(.some 21), (.mov (.tmp 9)), .none⟩, ⟨(.some 22), (.cmpI .neq (.tmp 21) (.const (.int .i64 0))), .none⟩]
def p29_11 : List PO := [⟨(.some 23), (.build [(2, (.int .i64 0)), (1, (.slice .none 0 0))] []), .none⟩, ⟨(.some 24), (.mov (.tmp 9)), .none⟩, ⟨.none, (.store 3 (.tmp 6) (.tmp 23)), .none⟩, ⟨(.some 7), (.mov (.tmp 24)), .none⟩]
def p29_12 : List PO := [⟨(.some 25), (.load .true 3 (.tmp 3)), .none⟩, ⟨(.some 26), (.callf 52 [(.tmp 25)]), .none⟩, ⟨.none, (.store 3 (.tmp 6) (.tmp 26)), .none⟩, ⟨(.some 7), (.mov (.const (.int .i64 0))), .none⟩]
def c29_1 : PCode := (.keep [3, 5, 6] [(32, .id 32), (48, .id 48), (56, .id 56)] [] (.seq (.seq (.reg p29_9) (.seq (.reg p29_10) (.cond (.tmp 22) (.seq (.reg p29_11) .ret) .skip))) (.seq (.reg p29_12) .ret)))
def c29_2 : PCode := (.keep [1, 3, 5, 6] [(32, .id 32), (48, .id 48), (56, .id 56)] [.cell 56 2 0 0 1] (.seq (.seq (.reg p29_7) (.cond (.tmp 17) (.seq (.reg p29_8) .ret) .skip)) c29_1))
def c29_b : PCode := (.seq (.reg p29_3) (.seq (.seq (.reg p29_4) (.seq (.reg p29_5) (.cond (.tmp 13) (.seq (.reg p29_6) .ret) .skip))) c29_2))
def c29 : FCode := ⟨27, c29_b, [(.cell 6 .true 3), (.tmp 7)], some ([6, 7], [(56, .id 56), (216, (.cell 56 2))], [.cell 56 2 216 33 4]), false⟩
theorem c29_ok : compF Go.Proofs.Try.prog [100009, 100014, 100019, 100022, 100024, 100029, 30, 33, 35, 41, 43, 46, 100048, 100052, 60, 61, 62] 29 = some (eraseF c29) := by kernel_rfl
def p46_4 : List PO := [⟨(.some 4), (.mov (.tmp 0)), .none⟩, ⟨(.some 5), (.call 26 [(.tmp 4)]), .none⟩, ⟨(.some 2), (.mov (.tmp 5)), .none⟩]
def p46_5 : List PO := [⟨(.some 6), (.mov (.tmp 0)), .none⟩, ⟨(.some 7), (.len .false (.tmp 6)), .none⟩, ⟨(.some 8), (.mov (.const (.int .i64 0))), .none⟩]
def p46_6 : List PO := [⟨(.some 9), (.cmpI .lss (.tmp 8) (.tmp 7)), .none⟩]
def p46_7 : List PO := [⟨(.some 10), (.mov (.tmp 8)), .none⟩, ⟨(.some 3), (.mov (.tmp 10)), .none⟩]
def p46_8 : List PO := [⟨(.some 11), (.mov (.tmp 2)), .none⟩, ⟨(.some 12), (.mov (.tmp 3)), .none⟩, ⟨(.some 13), (.call 39 [(.tmp 11), (.tmp 12)]), .none⟩]
def p46_9 : List PO := [⟨(.some 14), (.mov (.tmp 0)), .none⟩, ⟨(.some 15), (.mov (.tmp 3)), .none⟩, ⟨(.some 16), (.mov (.tmp 2)), .none⟩, ⟨(.some 17), (.mov (.tmp 3)), .none⟩, ⟨(.some 18), (.ixS 33 4 (.tmp 16) (.tmp 17)), .none⟩, ⟨(.some 19), (.fld 1 (.tmp 18)), .none⟩, ⟨(.some 20), (.load .true 3 (.tmp 19)), .none⟩, ⟨(.some 21), (.call 54 [(.tmp 20)]), .none⟩, ⟨(.some 22), (.ixS 33 4 (.tmp 14) (.tmp 15)), .none⟩, ⟨.none, (.store 4 (.tmp 22) (.tmp 21)), .none⟩]
def p46_10 : List PO := [⟨(.some 23), (.arI .add (.tmp 8) (.const (.int .i64 1))), .none⟩, ⟨(.some 8), (.mov (.tmp 23)), .none⟩]
def c46_1 : PCode := (.keep [0, 2, 7, 8] [(0, .id 0), (48, .id 48)] [] (.seq (.block 1 (.seq (.reg p46_7) (.seq (.reg p46_8) (.cond (.tmp 13) (.reg p46_9) .skip)))) (.reg p46_10)))
def c46_2 : PCode := (.keep [0, 2, 7, 8, 9] [(0, .id 0), (48, .id 48)] [] (.seq (.cond (.tmp 9) .skip (.keep [] [(0, .id 0)] [] (.exit 0))) c46_1))
def c46_3 : PCode := (.keep [0, 2, 7, 8] [(0, .id 0), (48, .id 48)] [] (.seq (.reg p46_6) c46_2))
def c46_b : PCode := (.seq (.reg p46_4) (.seq (.reg p46_5) (.block 0 (.loop c46_3))))
def c46 : FCode := ⟨24, c46_b, [], some ([2000000], [(0, .id 0)], []), false⟩
theorem c46_ok : compF Go.Proofs.Try.prog [100009, 100014, 100019, 100022, 100024, 100029, 30, 33, 35, 41, 43, 46, 100048, 100052, 60, 61, 62] 46 = some (eraseF c46) := by kernel_rfl
def p30_1 : List PO := [⟨(.some 5), (.box 3 (.tmp 0)), .none⟩, ⟨(.some 9), (.box 3 (.tmp 4)), .none⟩]
def p30_2 : List PO := [⟨(.some 11), (.load .true 3 (.tmp 5)), .none⟩, ⟨(.some 12), (.mov (.tmp 1)), .none⟩, ⟨(.some 13), (.callr 33 [(.tmp 11), (.tmp 12)]), .none⟩, ⟨(.some 10), (.mov (.tmp 13)), .none⟩]
def p30_3 : List PO := [⟨(.some 14), (.mov (.tmp 10)), .none⟩, ⟨(.some 15), (.mov (.tmp 2)), .none⟩, ⟨(.some 16), (.mov (.tmp 3)), .none⟩, ⟨(.some 17), (.load .true 3 (.tmp 9)), .none⟩, ⟨(.some 18), (.build [(4, (.int .i64 0))] [(0, (1, (.tmp 16))), (1, (3, (.tmp 17)))]), .none⟩, ⟨(.some 19), (.ixS 33 4 (.tmp 14) (.tmp 15)), .none⟩, ⟨.none, (.store 4 (.tmp 19) (.tmp 18)), .none⟩]
def p30_4 : List PO := [⟨(.some 20), (.mov (.tmp 3)), .none⟩, ⟨(.some 21), (.call 28 [(.tmp 20)]), .none⟩, ⟨(.some 22), (.cmpI .eql (.tmp 21) (.const (.int .i64 2))), .none⟩]
def p30_5 : List PO := [⟨(.some 23), (.mov (.tmp 10)), .none⟩, ⟨(.some 24), (.mov (.tmp 2)), .none⟩, ⟨(.some 25), (.arI .add (.tmp 24) (.const (.int .i64 1))), .none⟩, ⟨(.some 26), (.load .true 3 (.tmp 9)), .none⟩, ⟨(.some 27), (.build [(4, (.int .i64 0))] [(1, (3, (.tmp 26)))]), .none⟩, ⟨(.some 28), (.ixS 33 4 (.tmp 23) (.tmp 25)), .none⟩, ⟨.none, (.store 4 (.tmp 28) (.tmp 27)), .none⟩]
def p30_6 : List PO := [⟨(.some 29), (.mov (.tmp 10)), .none⟩, ⟨(.some 30), (.callr 46 [(.tmp 29)]), .none⟩]
def c30_b : PCode := (.seq (.reg p30_1) (.seq (.reg p30_2) (.seq (.reg p30_3) (.seq (.seq (.reg p30_4) (.cond (.tmp 22) (.reg p30_5) .skip)) (.reg p30_6)))))
def c30 : FCode := ⟨31, c30_b, [], some ([2000000], [(0, .id 0)], []), false⟩
theorem c30_ok : compF Go.Proofs.Try.prog [100009, 100014, 100019, 100022, 100024, 100029, 30, 33, 35, 41, 43, 46, 100048, 100052, 60, 61, 62] 30 = some (eraseF c30) := by kernel_rfl
def p9_3 : List PO := [⟨(.some 5), (.box 3 (.tmp 0)), .none⟩, ⟨(.some 9), (.box 3 (.tmp 4)), .none⟩, ⟨(.some 10), (.alloc [(2, (.int .i64 0)), (1, (.slice .none 0 0))]), .none⟩, ⟨(.some 11), (.mov (.const (.int .i64 0))), .none⟩]
def p9_4 : List PO := [⟨(.some 14), (.mov (.tmp 3)), .none⟩, ⟨(.some 15), (.call 28 [(.tmp 14)]), .none⟩, ⟨(.some 12), (.mov (.tmp 15)), .none⟩]
def p9_5 : List PO := [⟨(.some 17), (.load .true 3 (.tmp 5)), .none⟩, ⟨(.some 18), (.mov (.tmp 1)), .none⟩, ⟨(.some 19), (.cmpI .geq (.tmp 18) (.const (.int .i64 0))), .none⟩, ⟨(.some 20), (.mov (.tmp 19)), .none⟩, ⟨(.some 21), (.mov (.tmp 1)), (.some (20, .true))⟩, ⟨(.some 22), (.fld 1 (.tmp 5)), (.some (20, .true))⟩, ⟨(.some 23), (.load .false 1 (.tmp 22)), (.some (20, .true))⟩, ⟨(.some 24), (.cmpI .lss (.tmp 21) (.tmp 23)), (.some (20, .true))⟩, ⟨(.some 25), (.pick (.tmp 20) (.tmp 24) (.const (.bool .false))), .none⟩, ⟨(.some 26), (.mov (.tmp 25)), .none⟩, ⟨(.some 27), (.mov (.tmp 12)), (.some (26, .true))⟩, ⟨(.some 28), (.cmpI .gtr (.tmp 27) (.const (.int .i64 0))), (.some (26, .true))⟩, ⟨(.some 29), (.pick (.tmp 26) (.tmp 28) (.const (.bool .false))), .none⟩, ⟨(.some 30), (.mov (.tmp 29)), .none⟩, ⟨(.some 31), (.mov (.tmp 2)), (.some (30, .true))⟩, ⟨(.some 32), (.cmpI .geq (.tmp 31) (.const (.int .i64 0))), (.some (30, .true))⟩, ⟨(.some 33), (.pick (.tmp 30) (.tmp 32) (.const (.bool .false))), .none⟩, ⟨(.some 34), (.mov (.tmp 33)), .none⟩, ⟨(.some 35), (.mov (.tmp 2)), (.some (34, .true))⟩, ⟨(.some 36), (.fld 0 (.tmp 5)), (.some (34, .true))⟩, ⟨(.some 37), (.load .false 1 (.tmp 36)), (.some (34, .true))⟩, ⟨(.some 38), (.mov (.tmp 12)), (.some (34, .true))⟩, ⟨(.some 39), (.arI .sub (.tmp 37) (.tmp 38)), (.some (34, .true))⟩, ⟨(.some 40), (.cmpI .leq (.tmp 35) (.tmp 39)), (.some (34, .true))⟩, ⟨(.some 41), (.pick (.tmp 34) (.tmp 40) (.const (.bool .false))), .none⟩, ⟨(.some 42), (.load .true 3 (.tmp 9)), .none⟩, ⟨(.some 43), (.callf 29 [(.tmp 17), (.tmp 41), (.tmp 42)]), .none⟩, ⟨(.some 16), (.mov (.tmp 43)), .none⟩, ⟨(.some 44), (.ext (.tmp 16) 0), .none⟩, ⟨(.some 45), (.ext (.tmp 16) 1), .none⟩, ⟨.none, (.store 3 (.tmp 5) (.tmp 44)), .none⟩, ⟨(.some 13), (.mov (.tmp 45)), .none⟩]
def p9_6 : List PO := [⟨(.some 46), (.mov (.tmp 13)), .none⟩, ⟨(.some 47), (.cmpI .neq (.tmp 46) (.const (.int .i64 0))), .none⟩]
def p9_7 : List PO := [⟨(.some 48), (.load .true 3 (.tmp 5)), .none⟩, ⟨(.some 49), (.mov (.tmp 13)), .none⟩, ⟨.none, (.store 3 (.tmp 10) (.tmp 48)), .none⟩, ⟨(.some 11), (.mov (.tmp 49)), .none⟩]
def p9_8 : List PO := [⟨(.some 50), (.load .true 3 (.tmp 5)), .none⟩, ⟨(.some 51), (.mov (.tmp 1)), .none⟩, ⟨(.some 52), (.mov (.tmp 2)), .none⟩, ⟨(.some 53), (.mov (.tmp 3)), .none⟩, ⟨(.some 54), (.load .true 3 (.tmp 9)), .none⟩, ⟨(.some 55), (.callr 30 [(.tmp 50), (.tmp 51), (.tmp 52), (.tmp 53), (.tmp 54)]), .none⟩]
def p9_9 : List PO := [⟨(.some 56), (.load .true 3 (.tmp 5)), .none⟩, ⟨.none, (.store 3 (.tmp 10) (.tmp 56)), .none⟩, ⟨(.some 11), (.mov (.const (.int .i64 0))), .none⟩]
def c9_1 : PCode := (.keep [1, 2, 3, 5, 9, 10] [(48, .id 48), (352, .id 352), (80, .id 80), (88, .id 88)] [] (.seq (.reg p9_8) (.seq (.reg p9_9) .ret)))
def c9_2 : PCode := (.keep [1, 2, 3, 5, 9, 10, 13] [(48, .id 48), (352, .id 352), (80, .id 80), (88, .id 88)] [.cell 88 2 0 0 1] (.seq (.seq (.reg p9_6) (.cond (.tmp 47) (.seq (.reg p9_7) .ret) .skip)) c9_1))
def c9_b : PCode := (.seq (.reg p9_3) (.seq (.reg p9_4) (.seq (.reg p9_5) c9_2)))
def c9 : FCode := ⟨57, c9_b, [(.cell 10 .true 3), (.tmp 11)], some ([10, 11], [(88, .id 88), (352, .id 352)], []), false⟩
theorem c9_ok : compF Go.Proofs.Try.prog [100009, 100014, 100019, 100022, 100024, 100029, 30, 33, 35, 41, 43, 46, 100048, 100052, 60, 61, 62] 9 = some (eraseF c9) := by kernel_rfl
def p13_6 : List PO := [⟨(.some 2), (.box 3 (.tmp 0)), .none⟩, ⟨(.some 4), (.nilS 3 1), .none⟩, ⟨(.some 5), (.mov (.const (.int .i64 0))), .none⟩]
def p13_7 : List PO := [⟨(.some 11), (.load .true 3 (.tmp 2)), .none⟩, ⟨(.some 12), (.mov (.tmp 1)), .none⟩, ⟨(.some 13), (.cmpI .geq (.tmp 12) (.const (.int .i64 0))), .none⟩, ⟨(.some 14), (.mov (.tmp 13)), .none⟩, ⟨(.some 15), (.mov (.tmp 1)), (.some (14, .true))⟩, ⟨(.some 16), (.fld 1 (.tmp 2)), (.some (14, .true))⟩, ⟨(.some 17), (.load .false 1 (.tmp 16)), (.some (14, .true))⟩, ⟨(.some 18), (.cmpI .lss (.tmp 15) (.tmp 17)), (.some (14, .true))⟩, ⟨(.some 19), (.pick (.tmp 14) (.tmp 18) (.const (.bool .false))), .none⟩, ⟨(.some 20), (.build [(3, (.int .i64 0))] []), .none⟩, ⟨(.some 21), (.callf 29 [(.tmp 11), (.tmp 19), (.tmp 20)]), .none⟩, ⟨(.some 10), (.mov (.tmp 21)), .none⟩, ⟨(.some 22), (.ext (.tmp 10) 0), .none⟩, ⟨(.some 23), (.ext (.tmp 10) 1), .none⟩, ⟨.none, (.store 3 (.tmp 2) (.tmp 22)), .none⟩, ⟨(.some 6), (.mov (.tmp 23)), .none⟩]
def p13_8 : List PO := [⟨(.some 24), (.mov (.tmp 6)), .none⟩, ⟨(.some 25), (.cmpI .neq (.tmp 24) (.const (.int .i64 0))), .none⟩]
def p13_9 : List PO := [⟨(.some 26), (.mov (.tmp 6)), .none⟩, ⟨(.some 4), (.nilS 3 1), .none⟩, ⟨(.some 5), (.mov (.tmp 26)), .none⟩]
def p13_10 : List PO := [⟨(.some 7), (.nilS 3 1), .none⟩]
def p13_11 : List PO := [⟨(.some 27), (.load .true 3 (.tmp 2)), .none⟩, ⟨(.some 28), (.mov (.tmp 1)), .none⟩, ⟨(.some 29), (.callr 33 [(.tmp 27), (.tmp 28)]), .none⟩, ⟨(.some 30), (.len .false (.tmp 29)), .none⟩, ⟨(.some 31), (.mov (.const (.int .i64 0))), .none⟩]
def p13_12 : List PO := [⟨(.some 32), (.cmpI .lss (.tmp 31) (.tmp 30)), .none⟩]
def p13_13 : List PO := [⟨(.some 33), (.ixS 33 4 (.tmp 29) (.tmp 31)), .none⟩, ⟨(.some 34), (.load .true 4 (.tmp 33)), .none⟩, ⟨(.some 9), (.alloc [(4, (.int .i64 0))]), .none⟩, ⟨.none, (.store 4 (.tmp 9) (.tmp 34)), .none⟩]
def p13_14 : List PO := [⟨(.some 35), (.fld 0 (.tmp 9)), .none⟩, ⟨(.some 36), (.load .false 1 (.tmp 35)), .none⟩, ⟨(.some 37), (.cmpI .neq (.tmp 36) (.const (.int .i64 0))), .none⟩]
def p13_15 : List PO := [⟨(.some 38), (.mov (.tmp 7)), .none⟩, ⟨(.some 39), (.fld 0 (.tmp 9)), .none⟩, ⟨(.some 40), (.load .false 1 (.tmp 39)), .none⟩, ⟨(.some 41), (.bsl 3 1 1 [(1, (.int .i64 0))] [(0, (1, (.tmp 40)))]), .none⟩, ⟨(.some 42), (.app 3 1 8 (.tmp 38) (.tmp 41)), .none⟩, ⟨(.some 7), (.mov (.tmp 42)), .none⟩]
def p13_16 : List PO := [⟨(.some 43), (.arI .add (.tmp 31) (.const (.int .i64 1))), .none⟩, ⟨(.some 31), (.mov (.tmp 43)), .none⟩]
def c13_1 : PCode := (.keep [7, 29, 30, 31] [(64, .id 64), (176, .id 176)] [] (.seq (.block 1 (.seq (.reg p13_13) (.seq (.reg p13_14) (.cond (.tmp 37) (.reg p13_15) .skip)))) (.reg p13_16)))
def c13_2 : PCode := (.keep [7, 29, 30, 31, 32] [(64, .id 64), (176, .id 176)] [] (.seq (.cond (.tmp 32) .skip (.keep [7] [(64, .id 64)] [] (.exit 0))) c13_1))
def c13_3 : PCode := (.keep [7, 29, 30, 31] [(64, .id 64), (176, .id 176)] [] (.seq (.reg p13_12) c13_2))
def p13_17 : List PO := [⟨(.some 44), (.mov (.tmp 7)), .none⟩, ⟨(.some 4), (.mov (.tmp 44)), .none⟩, ⟨(.some 5), (.mov (.const (.int .i64 0))), .none⟩]
def c13_4 : PCode := (.keep [1, 2] [(24, .id 24), (176, .id 176)] [] (.seq (.reg p13_10) (.seq (.seq (.reg p13_11) (.block 0 (.loop c13_3))) (.seq (.reg p13_17) .ret))))
def c13_5 : PCode := (.keep [1, 2, 6] [(24, .id 24), (176, .id 176)] [] (.seq (.seq (.reg p13_8) (.cond (.tmp 25) (.seq (.reg p13_9) .ret) .skip)) c13_4))
def c13_b : PCode := (.seq (.reg p13_6) (.seq (.reg p13_7) c13_5))
def c13 : FCode := ⟨45, c13_b, [(.tmp 4), (.tmp 5)], some ([4, 5], [(393, (.slot 4 none))], []), false⟩
theorem c13_ok : compF Go.Proofs.Try.prog [100009, 100014, 100019, 100022, 100024, 100029, 30, 33, 35, 41, 43, 46, 100048, 100052, 60, 61, 62] 13 = some (eraseF c13) := by kernel_rfl
def p16_5 : List PO := [⟨(.some 4), (.mov (.const (.bool .false))), .none⟩]
def p16_6 : List PO := [⟨(.some 6), (.mov (.tmp 0)), .none⟩, ⟨(.some 7), (.len .false (.tmp 6)), .none⟩, ⟨(.some 8), (.mov (.tmp 1)), .none⟩, ⟨(.some 9), (.len .false (.tmp 8)), .none⟩, ⟨(.some 10), (.cmpI .neq (.tmp 7) (.tmp 9)), .none⟩]
def p16_7 : List PO := [⟨(.some 4), (.mov (.const (.bool .false))), .none⟩]
def p16_8 : List PO := [⟨(.some 11), (.mov (.tmp 0)), .none⟩, ⟨(.some 12), (.len .false (.tmp 11)), .none⟩, ⟨(.some 13), (.mov (.const (.int .i64 0))), .none⟩]
def p16_9 : List PO := [⟨(.some 14), (.cmpI .lss (.tmp 13) (.tmp 12)), .none⟩]
def p16_10 : List PO := [⟨(.some 15), (.mov (.tmp 13)), .none⟩, ⟨(.some 5), (.mov (.tmp 15)), .none⟩]
def p16_11 : List PO := [⟨(.some 16), (.mov (.tmp 0)), .none⟩, ⟨(.some 17), (.mov (.tmp 5)), .none⟩, ⟨(.some 18), (.ixS 3 1 (.tmp 16) (.tmp 17)), .none⟩, ⟨(.some 19), (.load .false 1 (.tmp 18)), .none⟩, ⟨(.some 20), (.mov (.tmp 1)), .none⟩, ⟨(.some 21), (.mov (.tmp 5)), .none⟩, ⟨(.some 22), (.ixS 3 1 (.tmp 20) (.tmp 21)), .none⟩, ⟨(.some 23), (.load .false 1 (.tmp 22)), .none⟩, ⟨(.some 24), (.cmpI .neq (.tmp 19) (.tmp 23)), .none⟩]
def p16_12 : List PO := [⟨(.some 4), (.mov (.const (.bool .false))), .none⟩]
def p16_13 : List PO := [⟨(.some 25), (.arI .add (.tmp 13) (.const (.int .i64 1))), .none⟩, ⟨(.some 13), (.mov (.tmp 25)), .none⟩]
def c16_1 : PCode := (.keep [0, 1, 12, 13] [] [] (.seq (.block 1 (.seq (.reg p16_10) (.seq (.regD p16_11 []) (.cond (.tmp 24) (.seq (.reg p16_12) .ret) .skip)))) (.reg p16_13)))
def c16_2 : PCode := (.keep [0, 1, 12, 13, 14] [] [] (.seq (.cond (.tmp 14) .skip (.keep [] [] [] (.exit 0))) c16_1))
def c16_3 : PCode := (.keep [0, 1, 12, 13] [] [] (.seq (.reg p16_9) c16_2))
def p16_14 : List PO := [⟨(.some 4), (.mov (.const (.bool .true))), .none⟩]
def c16_4 : PCode := (.keep [0, 1] [] [] (.seq (.seq (.reg p16_8) (.block 0 (.loop c16_3))) (.seq (.reg p16_14) .ret)))
def c16_b : PCode := (.seq (.reg p16_5) (.seq (.seq (.reg p16_6) (.cond (.tmp 10) (.seq (.reg p16_7) .ret) .skip)) c16_4))
def c16 : FCode := ⟨26, c16_b, [(.tmp 4)], some ([4], [], []), false⟩
theorem c16_ok : compF Go.Proofs.Try.prog [100009, 100014, 100019, 100022, 100024, 100029, 30, 33, 35, 41, 43, 46, 100048, 100052, 60, 61, 62] 16 = some (eraseF c16) := by kernel_rfl
def p10_1 : List PO := [⟨(.some 0), (.mov (.const (.bool .false))), .none⟩]
def p10_2 : List PO := [⟨(.some 8), (.build [(3, (.int .i64 0))] []), .none⟩, ⟨(.some 9), (.call 31 [(.const (.int .i64 4)), (.const (.int .i64 1)), (.tmp 8)]), .none⟩, ⟨(.some 7), (.mov (.tmp 9)), .none⟩, ⟨(.some 10), (.ext (.tmp 7) 0), .none⟩, ⟨(.some 11), (.ext (.tmp 7) 1), .none⟩, ⟨(.some 1), (.alloc [(2, (.int .i64 0)), (1, (.slice .none 0 0))]), .none⟩, ⟨.none, (.store 3 (.tmp 1) (.tmp 10)), .none⟩, ⟨(.some 2), (.mov (.tmp 11)), .none⟩]
def p10_3 : List PO := [⟨(.some 13), (.load .true 3 (.tmp 1)), .none⟩, ⟨(.some 14), (.build [(3, (.int .i64 0))] []), .none⟩, ⟨(.some 15), (.callf 9 [(.tmp 13), (.const (.int .i64 0)), (.const (.int .i64 0)), (.const (.int .i64 97)), (.tmp 14)]), .none⟩, ⟨(.some 12), (.mov (.tmp 15)), .none⟩, ⟨(.some 16), (.ext (.tmp 12) 0), .none⟩, ⟨(.some 17), (.ext (.tmp 12) 1), .none⟩, ⟨.none, (.store 3 (.tmp 1) (.tmp 16)), .none⟩, ⟨(.some 3), (.mov (.tmp 17)), .none⟩]
def p10_4 : List PO := [⟨(.some 19), (.load .true 3 (.tmp 1)), .none⟩, ⟨(.some 20), (.build [(3, (.int .i64 0))] [(0, (1, (.const (.int .i64 1))))]), .none⟩, ⟨(.some 21), (.callf 9 [(.tmp 19), (.const (.int .i64 0)), (.const (.int .i64 1)), (.const (.int .i64 20013)), (.tmp 20)]), .none⟩, ⟨(.some 18), (.mov (.tmp 21)), .none⟩, ⟨(.some 22), (.ext (.tmp 18) 0), .none⟩, ⟨(.some 23), (.ext (.tmp 18) 1), .none⟩, ⟨.none, (.store 3 (.tmp 1) (.tmp 22)), .none⟩, ⟨(.some 4), (.mov (.tmp 23)), .none⟩]
def p10_5 : List PO := [⟨(.some 25), (.load .true 3 (.tmp 1)), .none⟩, ⟨(.some 26), (.call 13 [(.tmp 25), (.const (.int .i64 0))]), .none⟩, ⟨(.some 24), (.mov (.tmp 26)), .none⟩, ⟨(.some 27), (.ext (.tmp 24) 0), .none⟩, ⟨(.some 28), (.ext (.tmp 24) 1), .none⟩, ⟨(.some 5), (.mov (.tmp 27)), .none⟩, ⟨(.some 6), (.mov (.tmp 28)), .none⟩]
def p10_6 : List PO := [⟨(.some 29), (.mov (.tmp 2)), .none⟩, ⟨(.some 30), (.cmpI .eql (.tmp 29) (.const (.int .i64 0))), .none⟩, ⟨(.some 31), (.mov (.tmp 30)), .none⟩, ⟨(.some 32), (.mov (.tmp 3)), (.some (31, .true))⟩, ⟨(.some 33), (.cmpI .eql (.tmp 32) (.const (.int .i64 0))), (.some (31, .true))⟩, ⟨(.some 34), (.pick (.tmp 31) (.tmp 33) (.const (.bool .false))), .none⟩, ⟨(.some 35), (.mov (.tmp 34)), .none⟩, ⟨(.some 36), (.mov (.tmp 4)), (.some (35, .true))⟩, ⟨(.some 37), (.cmpI .eql (.tmp 36) (.const (.int .i64 0))), (.some (35, .true))⟩, ⟨(.some 38), (.pick (.tmp 35) (.tmp 37) (.const (.bool .false))), .none⟩, ⟨(.some 39), (.mov (.tmp 38)), .none⟩, ⟨(.some 40), (.mov (.tmp 6)), (.some (39, .true))⟩, ⟨(.some 41), (.cmpI .eql (.tmp 40) (.const (.int .i64 0))), (.some (39, .true))⟩, ⟨(.some 42), (.pick (.tmp 39) (.tmp 41) (.const (.bool .false))), .none⟩, ⟨(.some 43), (.mov (.tmp 42)), .none⟩, ⟨(.some 44), (.mov (.tmp 5)), (.some (43, .true))⟩, ⟨(.some 45), (.bsl 3 1 3 [(3, (.int .i64 0))] [(0, (1, (.const (.int .i64 97)))), (1, (1, (.const (.int .i64 20013)))), (2, (1, (.const (.int .i64 32))))]), (.some (43, .true))⟩, ⟨(.some 46), (.call 16 [(.tmp 44), (.tmp 45)]), (.some (43, .true))⟩, ⟨(.some 47), (.pick (.tmp 43) (.tmp 46) (.const (.bool .false))), .none⟩, ⟨(.some 0), (.mov (.tmp 47)), .none⟩]
def c10_b : PCode := (.seq (.reg p10_1) (.seq (.reg p10_2) (.seq (.reg p10_3) (.seq (.reg p10_4) (.seq (.reg p10_5) (.seq (.reg p10_6) .ret))))))
def c10 : FCode := ⟨48, c10_b, [(.tmp 0)], some ([0], [], []), false⟩
theorem c10_ok : compF Go.Proofs.Try.prog [100009, 100014, 100019, 100022, 100024, 100029, 30, 33, 35, 41, 43, 46, 100048, 100052, 60, 61, 62] 10 = some (eraseF c10) := by kernel_rfl
def p21_1 : List PO := [⟨(.some 1), (.box 4 (.tmp 0)), .none⟩, ⟨(.some 2), (.mov (.const (.bool .false))), .none⟩]
def p21_2 : List PO := [⟨(.some 3), (.fld 0 (.tmp 1)), .none⟩, ⟨(.some 4), (.load .false 1 (.tmp 3)), .none⟩, ⟨(.some 5), (.cmpI .eql (.tmp 4) (.const (.int .i64 0))), .none⟩, ⟨(.some 2), (.mov (.tmp 5)), .none⟩]
def c21_b : PCode := (.seq (.reg p21_1) (.seq (.reg p21_2) .ret))
def c21 : FCode := ⟨6, c21_b, [(.tmp 2)], some ([2], [], []), false⟩
theorem c21_ok : compF Go.Proofs.Try.prog [100009, 100014, 100019, 100022, 100024, 100029, 30, 33, 35, 41, 43, 46, 100048, 100052, 60, 61, 62] 21 = some (eraseF c21) := by kernel_rfl
def p42_4 : List PO := [⟨(.some 4), (.mov (.const (.int .i64 0))), .none⟩]
def p42_5 : List PO := [⟨(.some 6), (.mov (.tmp 0)), .none⟩, ⟨(.some 7), (.len .false (.tmp 6)), .none⟩, ⟨(.some 8), (.mov (.const (.int .i64 0))), .none⟩]
def p42_6 : List PO := [⟨(.some 9), (.cmpI .lss (.tmp 8) (.tmp 7)), .none⟩]
def p42_7 : List PO := [⟨(.some 10), (.mov (.tmp 8)), .none⟩, ⟨(.some 5), (.mov (.tmp 10)), .none⟩]
def p42_8 : List PO := [⟨(.some 11), (.mov (.tmp 1)), .none⟩, ⟨(.some 12), (.mov (.tmp 0)), .none⟩, ⟨(.some 13), (.mov (.tmp 5)), .none⟩, ⟨(.some 14), (.ixS 33 4 (.tmp 12) (.tmp 13)), .none⟩, ⟨(.some 15), (.load .true 4 (.tmp 14)), .none⟩, ⟨(.some 16), (.callv (.tmp 11) [(.tmp 15)]), .none⟩]
def p42_9 : List PO := [⟨(.some 17), (.mov (.tmp 5)), .none⟩, ⟨(.some 4), (.mov (.tmp 17)), .none⟩]
def p42_10 : List PO := [⟨(.some 18), (.arI .add (.tmp 8) (.const (.int .i64 1))), .none⟩, ⟨(.some 8), (.mov (.tmp 18)), .none⟩]
def c42_1 : PCode := (.keep [0, 1, 7, 8] [] [] (.seq (.block 1 (.seq (.reg p42_7) (.seq (.reg p42_8) (.cond (.tmp 16) (.seq (.reg p42_9) .ret) .skip)))) (.reg p42_10)))
def c42_2 : PCode := (.keep [0, 1, 7, 8, 9] [] [] (.seq (.cond (.tmp 9) .skip (.keep [] [] [] (.exit 0))) c42_1))
def c42_3 : PCode := (.keep [0, 1, 7, 8] [] [] (.seq (.reg p42_6) c42_2))
def p42_11 : List PO := [⟨(.some 4), (.mov (.const (.int .i64 (-1)))), .none⟩]
def c42_b : PCode := (.seq (.reg p42_4) (.seq (.seq (.reg p42_5) (.block 0 (.loop c42_3))) (.seq (.reg p42_11) .ret)))
def c42 : FCode := ⟨19, c42_b, [(.tmp 4)], some ([4], [], []), false⟩
theorem c42_ok : compF Go.Proofs.Try.prog [100009, 100014, 100019, 100022, 100024, 100029, 30, 33, 35, 41, 43, 46, 100048, 100052, 60, 61, 62] 42 = some (eraseF c42) := by kernel_rfl
def p20_1 : List PO := [⟨(.some 4), (.mov (.const (.bool .false))), .none⟩]
def p20_2 : List PO := [⟨(.some 5), (.mov (.tmp 0)), .none⟩, ⟨(.some 6), (.mov (.tmp 1)), .none⟩, ⟨(.some 7), (.call 42 [(.tmp 5), (.tmp 6)]), .none⟩, ⟨(.some 8), (.cmpI .geq (.tmp 7) (.const (.int .i64 0))), .none⟩, ⟨(.some 4), (.mov (.tmp 8)), .none⟩]
def c20_b : PCode := (.seq (.reg p20_1) (.seq (.reg p20_2) .ret))
def c20 : FCode := ⟨9, c20_b, [(.tmp 4)], some ([4], [], []), false⟩
theorem c20_ok : compF Go.Proofs.Try.prog [100009, 100014, 100019, 100022, 100024, 100029, 30, 33, 35, 41, 43, 46, 100048, 100052, 60, 61, 62] 20 = some (eraseF c20) := by kernel_rfl
def p34_1 : List PO := [⟨(.some 4), (.box 3 (.tmp 0)), .none⟩, ⟨(.some 8), (.mov (.const (.bool .false))), .none⟩]
def p34_2 : List PO := [⟨(.some 9), (.mov (.tmp 1)), .none⟩, ⟨(.some 10), (.cmpI .geq (.tmp 9) (.const (.int .i64 0))), .none⟩, ⟨(.some 11), (.mov (.tmp 10)), .none⟩, ⟨(.some 12), (.mov (.tmp 1)), (.some (11, .true))⟩, ⟨(.some 13), (.fld 1 (.tmp 4)), (.some (11, .true))⟩, ⟨(.some 14), (.load .false 1 (.tmp 13)), (.some (11, .true))⟩, ⟨(.some 15), (.cmpI .lss (.tmp 12) (.tmp 14)), (.some (11, .true))⟩, ⟨(.some 16), (.pick (.tmp 11) (.tmp 15) (.const (.bool .false))), .none⟩, ⟨(.some 17), (.mov (.tmp 16)), .none⟩, ⟨(.some 18), (.mov (.tmp 2)), (.some (17, .true))⟩, ⟨(.some 19), (.cmpI .geq (.tmp 18) (.const (.int .i64 0))), (.some (17, .true))⟩, ⟨(.some 20), (.pick (.tmp 17) (.tmp 19) (.const (.bool .false))), .none⟩, ⟨(.some 21), (.mov (.tmp 20)), .none⟩, ⟨(.some 22), (.mov (.tmp 2)), (.some (21, .true))⟩, ⟨(.some 23), (.mov (.tmp 3)), (.some (21, .true))⟩, ⟨(.some 24), (.cmpI .leq (.tmp 22) (.tmp 23)), (.some (21, .true))⟩, ⟨(.some 25), (.pick (.tmp 21) (.tmp 24) (.const (.bool .false))), .none⟩, ⟨(.some 26), (.mov (.tmp 25)), .none⟩, ⟨(.some 27), (.mov (.tmp 3)), (.some (26, .true))⟩, ⟨(.some 28), (.fld 0 (.tmp 4)), (.some (26, .true))⟩, ⟨(.some 29), (.load .false 1 (.tmp 28)), (.some (26, .true))⟩, ⟨(.some 30), (.cmpI .leq (.tmp 27) (.tmp 29)), (.some (26, .true))⟩, ⟨(.some 31), (.pick (.tmp 26) (.tmp 30) (.const (.bool .false))), .none⟩, ⟨(.some 8), (.mov (.tmp 31)), .none⟩]
def c34_b : PCode := (.seq (.reg p34_1) (.seq (.reg p34_2) .ret))
def c34 : FCode := ⟨32, c34_b, [(.tmp 8)], some ([8], [], []), false⟩
theorem c34_ok : compF Go.Proofs.Try.prog [100009, 100014, 100019, 100022, 100024, 100029, 30, 33, 35, 41, 43, 46, 100048, 100052, 60, 61, 62] 34 = some (eraseF c34) := by kernel_rfl
def p40_1 : List PO := [⟨(.some 2), (.mov (.const (.bool .false))), .none⟩]
def p40_2 : List PO := [⟨(.some 3), (.mov (.tmp 0)), .none⟩, ⟨(.some 4), (.cmpI .geq (.tmp 3) (.const (.int .i64 (-16383)))), .none⟩, ⟨(.some 5), (.mov (.tmp 4)), .none⟩, ⟨(.some 6), (.mov (.tmp 0)), (.some (5, .true))⟩, ⟨(.some 7), (.cmpI .leq (.tmp 6) (.const (.int .i64 16383))), (.some (5, .true))⟩, ⟨(.some 8), (.pick (.tmp 5) (.tmp 7) (.const (.bool .false))), .none⟩, ⟨(.some 2), (.mov (.tmp 8)), .none⟩]
def c40_b : PCode := (.seq (.reg p40_1) (.seq (.reg p40_2) .ret))
def c40 : FCode := ⟨9, c40_b, [(.tmp 2)], some ([2], [], []), false⟩
theorem c40_ok : compF Go.Proofs.Try.prog [100009, 100014, 100019, 100022, 100024, 100029, 30, 33, 35, 41, 43, 46, 100048, 100052, 60, 61, 62] 40 = some (eraseF c40) := by kernel_rfl
def p60_1 : List PO := [⟨(.some 1), (.alloc [(4, (.int .i64 0))]), .none⟩]
def p60_2 : List PO := [⟨(.some 2), (.load .true 3 (.tmp 0)), .none⟩, ⟨(.some 3), (.call 54 [(.tmp 2)]), .none⟩, ⟨.none, (.store 4 (.tmp 1) (.tmp 3)), .none⟩]
def c60_b : PCode := (.seq (.reg p60_1) (.seq (.reg p60_2) .ret))
def c60 : FCode := ⟨4, c60_b, [(.cell 1 .true 4)], some ([1], [(16, .id 16)], []), false⟩
theorem c60_ok : compF Go.Proofs.Try.prog [100009, 100014, 100019, 100022, 100024, 100029, 30, 33, 35, 41, 43, 46, 100048, 100052, 60, 61, 62] 60 = some (eraseF c60) := by kernel_rfl
def p59_6 : List PO := [⟨(.some 6), (.nilS 33 4), .none⟩]
def p59_7 : List PO := [⟨(.some 7), (.nilS 33 4), .none⟩]
def p59_8 : List PO := [⟨(.some 10), (.mov (.tmp 0)), .none⟩, ⟨(.some 11), (.len .false (.tmp 10)), .none⟩, ⟨(.some 12), (.mov (.const (.int .i64 0))), .none⟩]
def p59_9 : List PO := [⟨(.some 13), (.cmpI .lss (.tmp 12) (.tmp 11)), .none⟩]
def p59_10 : List PO := [⟨(.some 14), (.mov (.tmp 12)), .none⟩, ⟨(.some 8), (.mov (.tmp 14)), .none⟩]
def p59_11 : List PO := [⟨(.some 15), (.mov (.tmp 8)), .none⟩, ⟨(.some 16), (.mov (.tmp 1)), .none⟩, ⟨(.some 17), (.arI .sub (.tmp 15) (.tmp 16)), .none⟩, ⟨(.some 9), (.mov (.tmp 17)), .none⟩]
def p59_12 : List PO := [⟨(.some 18), (.mov (.tmp 9)), .none⟩, ⟨(.some 19), (.cmpI .geq (.tmp 18) (.const (.int .i64 0))), .none⟩, ⟨(.some 20), (.mov (.tmp 19)), .none⟩, ⟨(.some 21), (.mov (.tmp 9)), (.some (20, .true))⟩, ⟨(.some 22), (.mov (.tmp 0)), (.some (20, .true))⟩, ⟨(.some 23), (.len .false (.tmp 22)), (.some (20, .true))⟩, ⟨(.some 24), (.cmpI .lss (.tmp 21) (.tmp 23)), (.some (20, .true))⟩, ⟨(.some 25), (.pick (.tmp 20) (.tmp 24) (.const (.bool .false))), .none⟩]
def p59_13 : List PO := [⟨(.some 26), (.mov (.tmp 7)), .none⟩, ⟨(.some 27), (.mov (.tmp 0)), .none⟩, ⟨(.some 28), (.mov (.tmp 9)), .none⟩, ⟨(.some 29), (.ixS 33 4 (.tmp 27) (.tmp 28)), .none⟩, ⟨(.some 30), (.load .true 4 (.tmp 29)), .none⟩, ⟨(.some 31), (.bsl 33 4 1 [(4, (.int .i64 0))] [(0, (4, (.tmp 30)))]), .none⟩, ⟨(.some 32), (.app 33 4 32 (.tmp 26) (.tmp 31)), .none⟩, ⟨(.some 7), (.mov (.tmp 32)), .none⟩]
def p59_14 : List PO := [⟨(.some 33), (.mov (.tmp 7)), .none⟩, ⟨(.some 34), (.mov (.tmp 2)), .none⟩, ⟨(.some 35), (.callv (.tmp 34) []), .none⟩, ⟨(.some 36), (.bsl 33 4 1 [(4, (.int .i64 0))] [(0, (4, (.tmp 35)))]), .none⟩, ⟨(.some 37), (.app 33 4 32 (.tmp 33) (.tmp 36)), .none⟩, ⟨(.some 7), (.mov (.tmp 37)), .none⟩]
def c59_1 : PCode := (.keep [0, 1, 2, 7, 11, 12] [(64, .id 64)] [] (.reg p59_14))
def p59_15 : List PO := [⟨(.some 38), (.arI .add (.tmp 12) (.const (.int .i64 1))), .none⟩, ⟨(.some 12), (.mov (.tmp 38)), .none⟩]
def c59_2 : PCode := (.reg p59_15)
def c59_3 : PCode := (.keep [0, 1, 2, 7, 11, 12] [(64, .id 64)] [] (.seq (.block 1 (.seq (.reg p59_10) (.seq (.reg p59_11) (.seq (.reg p59_12) (.cond (.tmp 25) (.reg p59_13) c59_1))))) c59_2))
def c59_4 : PCode := (.keep [0, 1, 2, 7, 11, 12, 13] [(64, .id 64)] [] (.seq (.cond (.tmp 13) .skip (.keep [7] [(64, .id 64)] [] (.exit 0))) c59_3))
def c59_5 : PCode := (.keep [0, 1, 2, 7, 11, 12] [(64, .id 64)] [] (.seq (.reg p59_9) c59_4))
def p59_16 : List PO := [⟨(.some 39), (.mov (.tmp 7)), .none⟩, ⟨(.some 6), (.mov (.tmp 39)), .none⟩]
def c59_b : PCode := (.seq (.reg p59_6) (.seq (.reg p59_7) (.seq (.seq (.reg p59_8) (.block 0 (.loop c59_5))) (.seq (.reg p59_16) .ret))))
def c59 : FCode := ⟨40, c59_b, [(.tmp 6)], some ([6], [(64, .id 64)], []), false⟩
theorem c59_ok : compF Go.Proofs.Try.prog [100009, 100014, 100019, 100022, 100024, 100029, 30, 33, 35, 41, 43, 46, 100048, 100052, 60, 61, 62] 59 = some (eraseF c59) := by kernel_rfl
def p41_1 : List PO := [⟨(.some 6), (.box 3 (.tmp 0)), .none⟩, ⟨(.some 11), (.box 3 (.tmp 5)), .none⟩]
def p41_2 : List PO := [⟨(.some 13), (.load .true 3 (.tmp 6)), .none⟩, ⟨(.some 14), (.mov (.tmp 1)), .none⟩, ⟨(.some 15), (.callr 33 [(.tmp 13), (.tmp 14)]), .none⟩, ⟨(.some 12), (.mov (.tmp 15)), .none⟩]
def p41_3 : List PO := [⟨(.some 16), (.mov (.tmp 12)), .none⟩, ⟨(.some 17), (.mov (.tmp 2)), .none⟩, ⟨(.some 18), (.mov (.tmp 3)), .none⟩, ⟨(.some 19), (.slS 33 4 (.tmp 16) (.some (.tmp 17)) (.some (.tmp 18))), .none⟩, ⟨(.some 20), (.mov (.tmp 12)), .none⟩, ⟨(.some 21), (.mov (.tmp 2)), .none⟩, ⟨(.some 22), (.mov (.tmp 3)), .none⟩, ⟨(.some 23), (.slS 33 4 (.tmp 20) (.some (.tmp 21)) (.some (.tmp 22))), .none⟩, ⟨(.some 24), (.mov (.tmp 4)), .none⟩, ⟨(.some 25), (.mkF 60 [(.tmp 11)]), .none⟩, ⟨(.some 26), (.call 59 [(.tmp 23), (.tmp 24), (.tmp 25)]), .none⟩, ⟨(.some 27), (.cpy 4 (.tmp 19) (.tmp 26)), .none⟩]
def p41_4 : List PO := [⟨(.some 28), (.mov (.tmp 12)), .none⟩, ⟨(.some 29), (.callr 46 [(.tmp 28)]), .none⟩]
def c41_b : PCode := (.seq (.reg p41_1) (.seq (.reg p41_2) (.seq (.regD p41_3 [(3, 10)]) (.reg p41_4))))
def c41 : FCode := ⟨30, c41_b, [], some ([2000000], [(0, .id 0)], []), false⟩
theorem c41_ok : compF Go.Proofs.Try.prog [100009, 100014, 100019, 100022, 100024, 100029, 30, 33, 35, 41, 43, 46, 100048, 100052, 60, 61, 62] 41 = some (eraseF c41) := by kernel_rfl
def p19_3 : List PO := [⟨(.some 6), (.box 3 (.tmp 0)), .none⟩, ⟨(.some 11), (.box 3 (.tmp 5)), .none⟩, ⟨(.some 12), (.alloc [(2, (.int .i64 0)), (1, (.slice .none 0 0))]), .none⟩, ⟨(.some 13), (.mov (.const (.int .i64 0))), .none⟩]
def p19_4 : List PO := [⟨(.some 16), (.load .true 3 (.tmp 6)), .none⟩, ⟨(.some 17), (.load .true 3 (.tmp 6)), .none⟩, ⟨(.some 18), (.mov (.tmp 1)), .none⟩, ⟨(.some 19), (.mov (.tmp 2)), .none⟩, ⟨(.some 20), (.mov (.tmp 3)), .none⟩, ⟨(.some 21), (.call 34 [(.tmp 17), (.tmp 18), (.tmp 19), (.tmp 20)]), .none⟩, ⟨(.some 22), (.mov (.tmp 21)), .none⟩, ⟨(.some 23), (.mov (.tmp 4)), (.some (22, .true))⟩, ⟨(.some 24), (.call 40 [(.tmp 23)]), (.some (22, .true))⟩, ⟨(.some 25), (.pick (.tmp 22) (.tmp 24) (.const (.bool .false))), .none⟩, ⟨(.some 26), (.load .true 3 (.tmp 11)), .none⟩, ⟨(.some 27), (.callf 29 [(.tmp 16), (.tmp 25), (.tmp 26)]), .none⟩, ⟨(.some 15), (.mov (.tmp 27)), .none⟩, ⟨(.some 28), (.ext (.tmp 15) 0), .none⟩, ⟨(.some 29), (.ext (.tmp 15) 1), .none⟩, ⟨.none, (.store 3 (.tmp 6) (.tmp 28)), .none⟩, ⟨(.some 14), (.mov (.tmp 29)), .none⟩]
def p19_5 : List PO := [⟨(.some 30), (.mov (.tmp 14)), .none⟩, ⟨(.some 31), (.cmpI .neq (.tmp 30) (.const (.int .i64 0))), .none⟩]
def p19_6 : List PO := [⟨(.some 32), (.load .true 3 (.tmp 6)), .none⟩, ⟨(.some 33), (.mov (.tmp 14)), .none⟩, ⟨.none, (.store 3 (.tmp 12) (.tmp 32)), .none⟩, ⟨(.some 13), (.mov (.tmp 33)), .none⟩]
def p19_7 : List PO := [⟨(.some 34), (.load .true 3 (.tmp 6)), .none⟩, ⟨(.some 35), (.mov (.tmp 1)), .none⟩, ⟨(.some 36), (.mov (.tmp 2)), .none⟩, ⟨(.some 37), (.mov (.tmp 3)), .none⟩, ⟨(.some 38), (.mov (.tmp 4)), .none⟩, ⟨(.some 39), (.load .true 3 (.tmp 11)), .none⟩, ⟨(.some 40), (.callr 41 [(.tmp 34), (.tmp 35), (.tmp 36), (.tmp 37), (.tmp 38), (.tmp 39)]), .none⟩]
def p19_8 : List PO := [⟨(.some 41), (.load .true 3 (.tmp 6)), .none⟩, ⟨.none, (.store 3 (.tmp 12) (.tmp 41)), .none⟩, ⟨(.some 13), (.mov (.const (.int .i64 0))), .none⟩]
def c19_1 : PCode := (.keep [1, 2, 3, 4, 6, 11, 12] [(56, .id 56), (224, .id 224), (96, .id 96), (104, .id 104)] [] (.seq (.reg p19_7) (.seq (.reg p19_8) .ret)))
def c19_2 : PCode := (.keep [1, 2, 3, 4, 6, 11, 12, 14] [(56, .id 56), (224, .id 224), (96, .id 96), (104, .id 104)] [.cell 104 2 0 0 1] (.seq (.seq (.reg p19_5) (.cond (.tmp 31) (.seq (.reg p19_6) .ret) .skip)) c19_1))
def c19_b : PCode := (.seq (.reg p19_3) (.seq (.regD p19_4 [(0, 5), (0, 8), (5, 10), (8, 10)]) c19_2))
def c19 : FCode := ⟨42, c19_b, [(.cell 12 .true 3), (.tmp 13)], some ([12, 13], [(104, .id 104), (224, .id 224)], []), false⟩
theorem c19_ok : compF Go.Proofs.Try.prog [100009, 100014, 100019, 100022, 100024, 100029, 30, 33, 35, 41, 43, 46, 100048, 100052, 60, 61, 62] 19 = some (eraseF c19) := by kernel_rfl
def p62_1 : List PO := [⟨(.some 2), (.nilS 33 4), .none⟩]
def p62_2 : List PO := [⟨(.some 3), (.fld 0 (.tmp 0)), .none⟩, ⟨(.some 4), (.load .false 1 (.tmp 3)), .none⟩, ⟨(.some 5), (.load .true 3 (.tmp 1)), .none⟩, ⟨(.some 6), (.call 53 [(.tmp 4), (.const (.int .i64 1)), (.tmp 5)]), .none⟩, ⟨(.some 7), (.fldV .false 2 1 (.tmp 6)), .none⟩, ⟨(.some 2), (.mov (.tmp 7)), .none⟩]
def c62_b : PCode := (.seq (.reg p62_1) (.seq (.reg p62_2) .ret))
def c62 : FCode := ⟨8, c62_b, [(.tmp 2)], some ([2], [(56, .id 56)], []), false⟩
theorem c62_ok : compF Go.Proofs.Try.prog [100009, 100014, 100019, 100022, 100024, 100029, 30, 33, 35, 41, 43, 46, 100048, 100052, 60, 61, 62] 62 = some (eraseF c62) := by kernel_rfl
def p61_6 : List PO := [⟨(.some 6), (.nilS 22 1), .none⟩]
def p61_7 : List PO := [⟨(.some 7), (.nilS 22 1), .none⟩]
def p61_8 : List PO := [⟨(.some 10), (.mov (.tmp 0)), .none⟩, ⟨(.some 11), (.len .false (.tmp 10)), .none⟩, ⟨(.some 12), (.mov (.const (.int .i64 0))), .none⟩]
def p61_9 : List PO := [⟨(.some 13), (.cmpI .lss (.tmp 12) (.tmp 11)), .none⟩]
def p61_10 : List PO := [⟨(.some 14), (.mov (.tmp 12)), .none⟩, ⟨(.some 8), (.mov (.tmp 14)), .none⟩]
def p61_11 : List PO := [⟨(.some 15), (.mov (.tmp 8)), .none⟩, ⟨(.some 16), (.mov (.tmp 1)), .none⟩, ⟨(.some 17), (.arI .sub (.tmp 15) (.tmp 16)), .none⟩, ⟨(.some 9), (.mov (.tmp 17)), .none⟩]
def p61_12 : List PO := [⟨(.some 18), (.mov (.tmp 9)), .none⟩, ⟨(.some 19), (.cmpI .geq (.tmp 18) (.const (.int .i64 0))), .none⟩, ⟨(.some 20), (.mov (.tmp 19)), .none⟩, ⟨(.some 21), (.mov (.tmp 9)), (.some (20, .true))⟩, ⟨(.some 22), (.mov (.tmp 0)), (.some (20, .true))⟩, ⟨(.some 23), (.len .false (.tmp 22)), (.some (20, .true))⟩, ⟨(.some 24), (.cmpI .lss (.tmp 21) (.tmp 23)), (.some (20, .true))⟩, ⟨(.some 25), (.pick (.tmp 20) (.tmp 24) (.const (.bool .false))), .none⟩]
def p61_13 : List PO := [⟨(.some 26), (.mov (.tmp 7)), .none⟩, ⟨(.some 27), (.mov (.tmp 0)), .none⟩, ⟨(.some 28), (.mov (.tmp 9)), .none⟩, ⟨(.some 29), (.ixS 22 1 (.tmp 27) (.tmp 28)), .none⟩, ⟨(.some 30), (.load .false 1 (.tmp 29)), .none⟩, ⟨(.some 31), (.bsl 22 1 1 [(1, (.slice .none 0 0))] [(0, (1, (.tmp 30)))]), .none⟩, ⟨(.some 32), (.app 22 1 24 (.tmp 26) (.tmp 31)), .none⟩, ⟨(.some 7), (.mov (.tmp 32)), .none⟩]
def p61_14 : List PO := [⟨(.some 33), (.mov (.tmp 7)), .none⟩, ⟨(.some 34), (.mov (.tmp 2)), .none⟩, ⟨(.some 35), (.callv (.tmp 34) []), .none⟩, ⟨(.some 36), (.bsl 22 1 1 [(1, (.slice .none 0 0))] [(0, (1, (.tmp 35)))]), .none⟩, ⟨(.some 37), (.app 22 1 24 (.tmp 33) (.tmp 36)), .none⟩, ⟨(.some 7), (.mov (.tmp 37)), .none⟩]
def c61_1 : PCode := (.keep [0, 1, 2, 7, 11, 12] [(1, .id 1), (3, .id 3), (2, .id 2), (0, .id 0), (64, .id 64)] [] (.reg p61_14))
def p61_15 : List PO := [⟨(.some 38), (.arI .add (.tmp 12) (.const (.int .i64 1))), .none⟩, ⟨(.some 12), (.mov (.tmp 38)), .none⟩]
def c61_2 : PCode := (.reg p61_15)
def c61_3 : PCode := (.keep [0, 1, 2, 7, 11, 12] [(1, .id 1), (3, .id 3), (2, .id 2), (0, .id 0), (64, .id 64)] [] (.seq (.block 1 (.seq (.reg p61_10) (.seq (.reg p61_11) (.seq (.reg p61_12) (.cond (.tmp 25) (.reg p61_13) c61_1))))) c61_2))
def c61_4 : PCode := (.keep [0, 1, 2, 7, 11, 12, 13] [(1, .id 1), (3, .id 3), (2, .id 2), (0, .id 0), (64, .id 64)] [] (.seq (.cond (.tmp 13) .skip (.keep [7] [(1, .id 1), (3, .id 3), (2, .id 2), (0, .id 0), (64, .id 64)] [] (.exit 0))) c61_3))
def c61_5 : PCode := (.keep [0, 1, 2, 7, 11, 12] [(1, .id 1), (3, .id 3), (2, .id 2), (0, .id 0), (64, .id 64)] [] (.seq (.reg p61_9) c61_4))
def p61_16 : List PO := [⟨(.some 39), (.mov (.tmp 7)), .none⟩, ⟨(.some 6), (.mov (.tmp 39)), .none⟩]
def c61_b : PCode := (.seq (.reg p61_6) (.seq (.reg p61_7) (.seq (.seq (.reg p61_8) (.block 0 (.loop c61_5))) (.seq (.reg p61_16) .ret))))
def c61 : FCode := ⟨40, c61_b, [(.tmp 6)], some ([6, 2000000], [(1, .id 1), (3, .id 3), (2, .id 2), (0, .id 0), (64, .id 64)], []), false⟩
theorem c61_ok : compF Go.Proofs.Try.prog [100009, 100014, 100019, 100022, 100024, 100029, 30, 33, 35, 41, 43, 46, 100048, 100052, 60, 61, 62] 61 = some (eraseF c61) := by kernel_rfl
def p43_7 : List PO := [⟨(.some 5), (.box 3 (.tmp 0)), .none⟩, ⟨(.some 9), (.box 3 (.tmp 4)), .none⟩]
def p43_8 : List PO := [⟨(.some 10), (.nilS 22 1), .none⟩]
def p43_9 : List PO := [⟨(.some 14), (.mov (.tmp 1)), .none⟩, ⟨(.some 11), (.mov (.tmp 14)), .none⟩]
def p43_10 : List PO := [⟨(.some 15), (.mov (.tmp 11)), .none⟩, ⟨(.some 16), (.mov (.tmp 2)), .none⟩, ⟨(.some 17), (.cmpI .lss (.tmp 15) (.tmp 16)), .none⟩]
def p43_11 : List PO := [⟨(.some 20), (.mov (.tmp 10)), .none⟩, ⟨(.some 21), (.load .true 3 (.tmp 5)), .none⟩, ⟨(.some 22), (.mov (.tmp 11)), .none⟩, ⟨(.some 23), (.callr 33 [(.tmp 21), (.tmp 22)]), .none⟩, ⟨(.some 24), (.call 26 [(.tmp 23)]), .none⟩, ⟨(.some 25), (.bsl 22 1 1 [(1, (.slice .none 0 0))] [(0, (1, (.tmp 24)))]), .none⟩, ⟨(.some 26), (.app 22 1 24 (.tmp 20) (.tmp 25)), .none⟩, ⟨(.some 10), (.mov (.tmp 26)), .none⟩]
def p43_12 : List PO := [⟨(.some 18), (.mov (.tmp 11)), .none⟩, ⟨(.some 19), (.arI .add (.tmp 18) (.const (.int .i64 1))), .none⟩, ⟨(.some 11), (.mov (.tmp 19)), .none⟩]
def c43_5 : PCode := (.keep [1, 2, 3, 5, 9, 10, 11] [(0, .id 0), (48, .id 48), (80, .id 80), (88, .id 88)] [] (.seq (.block 1 (.reg p43_11)) (.reg p43_12)))
def c43_6 : PCode := (.keep [1, 2, 3, 5, 9, 10, 11] [(0, .id 0), (48, .id 48), (80, .id 80), (88, .id 88)] [] (.seq (.seq (.reg p43_10) (.cond (.tmp 17) .skip (.keep [1, 3, 5, 9, 10] [(0, .id 0), (48, .id 48), (80, .id 80), (88, .id 88)] [] (.exit 0)))) c43_5))
def p43_13 : List PO := [⟨(.some 27), (.mov (.tmp 10)), .none⟩, ⟨(.some 28), (.mov (.tmp 3)), .none⟩, ⟨(.some 29), (.un .neg (.tmp 28)), .none⟩, ⟨(.some 30), (.mkF 62 [(.tmp 5), (.tmp 9)]), .none⟩, ⟨(.some 31), (.callr 61 [(.tmp 27), (.tmp 29), (.tmp 30)]), .none⟩, ⟨(.some 10), (.mov (.tmp 31)), .none⟩]
def p43_14 : List PO := [⟨(.some 32), (.mov (.tmp 10)), .none⟩, ⟨(.some 33), (.len .false (.tmp 32)), .none⟩, ⟨(.some 34), (.mov (.const (.int .i64 0))), .none⟩]
def p43_15 : List PO := [⟨(.some 35), (.cmpI .lss (.tmp 34) (.tmp 33)), .none⟩]
def p43_16 : List PO := [⟨(.some 36), (.mov (.tmp 34)), .none⟩, ⟨(.some 37), (.ixS 22 1 (.tmp 32) (.tmp 34)), .none⟩, ⟨(.some 38), (.load .false 1 (.tmp 37)), .none⟩, ⟨(.some 12), (.mov (.tmp 36)), .none⟩, ⟨(.some 13), (.mov (.tmp 38)), .none⟩]
def p43_17 : List PO := [⟨(.some 39), (.load .true 3 (.tmp 5)), .none⟩, ⟨(.some 40), (.mov (.tmp 1)), .none⟩, ⟨(.some 41), (.mov (.tmp 12)), .none⟩, ⟨(.some 42), (.arI .add (.tmp 40) (.tmp 41)), .none⟩, ⟨(.some 43), (.callr 33 [(.tmp 39), (.tmp 42)]), .none⟩, ⟨(.some 44), (.mov (.tmp 13)), .none⟩, ⟨(.some 45), (.cpy 4 (.tmp 43) (.tmp 44)), .none⟩]
def p43_18 : List PO := [⟨(.some 46), (.arI .add (.tmp 34) (.const (.int .i64 1))), .none⟩, ⟨(.some 34), (.mov (.tmp 46)), .none⟩]
def c43_1 : PCode := (.keep [1, 5, 32, 33, 34] [(0, .id 0), (48, .id 48), (256, .id 256)] [] (.seq (.block 3 (.seq (.reg p43_16) (.reg p43_17))) (.reg p43_18)))
def c43_2 : PCode := (.keep [1, 5, 32, 33, 34, 35] [(0, .id 0), (48, .id 48), (256, .id 256)] [] (.seq (.cond (.tmp 35) .skip (.keep [] [(0, .id 0)] [] (.exit 2))) c43_1))
def c43_3 : PCode := (.keep [1, 5, 32, 33, 34] [(0, .id 0), (48, .id 48), (256, .id 256)] [] (.seq (.reg p43_15) c43_2))
def c43_4 : PCode := (.keep [1, 3, 5, 9, 10] [(0, .id 0), (48, .id 48), (80, .id 80), (88, .id 88)] [] (.seq (.reg p43_13) (.seq (.reg p43_14) (.block 2 (.loop c43_3)))))
def c43_b : PCode := (.seq (.reg p43_7) (.seq (.reg p43_8) (.seq (.seq (.reg p43_9) (.block 0 (.loop c43_6))) c43_4)))
def c43 : FCode := ⟨47, c43_b, [], some ([2000000], [(0, .id 0)], []), false⟩
theorem c43_ok : compF Go.Proofs.Try.prog [100009, 100014, 100019, 100022, 100024, 100029, 30, 33, 35, 41, 43, 46, 100048, 100052, 60, 61, 62] 43 = some (eraseF c43) := by kernel_rfl
def p22_3 : List PO := [⟨(.some 5), (.box 3 (.tmp 0)), .none⟩, ⟨(.some 9), (.box 3 (.tmp 4)), .none⟩, ⟨(.some 10), (.alloc [(2, (.int .i64 0)), (1, (.slice .none 0 0))]), .none⟩, ⟨(.some 11), (.mov (.const (.int .i64 0))), .none⟩]
def p22_4 : List PO := [⟨(.some 14), (.load .true 3 (.tmp 5)), .none⟩, ⟨(.some 15), (.mov (.tmp 1)), .none⟩, ⟨(.some 16), (.cmpI .geq (.tmp 15) (.const (.int .i64 0))), .none⟩, ⟨(.some 17), (.mov (.tmp 16)), .none⟩, ⟨(.some 18), (.mov (.tmp 1)), (.some (17, .true))⟩, ⟨(.some 19), (.mov (.tmp 2)), (.some (17, .true))⟩, ⟨(.some 20), (.cmpI .leq (.tmp 18) (.tmp 19)), (.some (17, .true))⟩, ⟨(.some 21), (.pick (.tmp 17) (.tmp 20) (.const (.bool .false))), .none⟩, ⟨(.some 22), (.mov (.tmp 21)), .none⟩, ⟨(.some 23), (.mov (.tmp 2)), (.some (22, .true))⟩, ⟨(.some 24), (.fld 1 (.tmp 5)), (.some (22, .true))⟩, ⟨(.some 25), (.load .false 1 (.tmp 24)), (.some (22, .true))⟩, ⟨(.some 26), (.cmpI .leq (.tmp 23) (.tmp 25)), (.some (22, .true))⟩, ⟨(.some 27), (.pick (.tmp 22) (.tmp 26) (.const (.bool .false))), .none⟩, ⟨(.some 28), (.mov (.tmp 27)), .none⟩, ⟨(.some 29), (.mov (.tmp 3)), (.some (28, .true))⟩, ⟨(.some 30), (.call 40 [(.tmp 29)]), (.some (28, .true))⟩, ⟨(.some 31), (.pick (.tmp 28) (.tmp 30) (.const (.bool .false))), .none⟩, ⟨(.some 32), (.load .true 3 (.tmp 9)), .none⟩, ⟨(.some 33), (.callf 29 [(.tmp 14), (.tmp 31), (.tmp 32)]), .none⟩, ⟨(.some 13), (.mov (.tmp 33)), .none⟩, ⟨(.some 34), (.ext (.tmp 13) 0), .none⟩, ⟨(.some 35), (.ext (.tmp 13) 1), .none⟩, ⟨.none, (.store 3 (.tmp 5) (.tmp 34)), .none⟩, ⟨(.some 12), (.mov (.tmp 35)), .none⟩]
def p22_5 : List PO := [⟨(.some 36), (.mov (.tmp 12)), .none⟩, ⟨(.some 37), (.cmpI .neq (.tmp 36) (.const (.int .i64 0))), .none⟩]
def p22_6 : List PO := [⟨(.some 38), (.load .true 3 (.tmp 5)), .none⟩, ⟨(.some 39), (.mov (.tmp 12)), .none⟩, ⟨.none, (.store 3 (.tmp 10) (.tmp 38)), .none⟩, ⟨(.some 11), (.mov (.tmp 39)), .none⟩]
def p22_7 : List PO := [⟨(.some 40), (.load .true 3 (.tmp 5)), .none⟩, ⟨(.some 41), (.mov (.tmp 1)), .none⟩, ⟨(.some 42), (.mov (.tmp 2)), .none⟩, ⟨(.some 43), (.mov (.tmp 3)), .none⟩, ⟨(.some 44), (.load .true 3 (.tmp 9)), .none⟩, ⟨(.some 45), (.callr 43 [(.tmp 40), (.tmp 41), (.tmp 42), (.tmp 43), (.tmp 44)]), .none⟩]
def p22_8 : List PO := [⟨(.some 46), (.load .true 3 (.tmp 5)), .none⟩, ⟨.none, (.store 3 (.tmp 10) (.tmp 46)), .none⟩, ⟨(.some 11), (.mov (.const (.int .i64 0))), .none⟩]
def c22_1 : PCode := (.keep [1, 2, 3, 5, 9, 10] [(48, .id 48), (272, .id 272), (80, .id 80), (88, .id 88)] [] (.seq (.reg p22_7) (.seq (.reg p22_8) .ret)))
def c22_2 : PCode := (.keep [1, 2, 3, 5, 9, 10, 12] [(48, .id 48), (272, .id 272), (80, .id 80), (88, .id 88)] [.cell 88 2 0 0 1] (.seq (.seq (.reg p22_5) (.cond (.tmp 37) (.seq (.reg p22_6) .ret) .skip)) c22_1))
def c22_b : PCode := (.seq (.reg p22_3) (.seq (.regD p22_4 [(0, 16), (16, 18)]) c22_2))
def c22 : FCode := ⟨47, c22_b, [(.cell 10 .true 3), (.tmp 11)], some ([10, 11], [(88, .id 88), (272, .id 272)], []), false⟩
theorem c22_ok : compF Go.Proofs.Try.prog [100009, 100014, 100019, 100022, 100024, 100029, 30, 33, 35, 41, 43, 46, 100048, 100052, 60, 61, 62] 22 = some (eraseF c22) := by kernel_rfl
def p44_1 : List PO := [⟨(.some 6), (.mov (.const (.bool .false))), .none⟩]
def p44_2 : List PO := [⟨(.some 7), (.mov (.tmp 1)), .none⟩, ⟨(.some 8), (.mov (.tmp 0)), .none⟩, ⟨(.some 9), (.cmpI .leq (.tmp 7) (.tmp 8)), .none⟩, ⟨(.some 10), (.mov (.tmp 9)), .none⟩, ⟨(.some 11), (.mov (.tmp 0)), (.some (10, .true))⟩, ⟨(.some 12), (.mov (.tmp 2)), (.some (10, .true))⟩, ⟨(.some 13), (.cmpI .leq (.tmp 11) (.tmp 12)), (.some (10, .true))⟩, ⟨(.some 14), (.pick (.tmp 10) (.tmp 13) (.const (.bool .false))), .none⟩, ⟨(.some 6), (.mov (.tmp 14)), .none⟩]
def c44_b : PCode := (.seq (.reg p44_1) (.seq (.reg p44_2) .ret))
def c44 : FCode := ⟨15, c44_b, [(.tmp 6)], some ([6], [], []), false⟩
theorem c44_ok : compF Go.Proofs.Try.prog [100009, 100014, 100019, 100022, 100024, 100029, 30, 33, 35, 41, 43, 46, 100048, 100052, 60, 61, 62] 44 = some (eraseF c44) := by kernel_rfl
def p45_3 : List PO := [⟨(.some 2), (.mov (.const (.int .i64 0))), .none⟩]
def p45_4 : List PO := [⟨(.some 3), (.mov (.const (.int .i64 1))), .none⟩]
def p45_5 : List PO := [⟨(.some 4), (.mov (.tmp 0)), .none⟩, ⟨(.some 5), (.mov (.const (.int .i64 0))), .none⟩]
def p45_6 : List PO := [⟨(.some 6), (.cmpI .lss (.tmp 5) (.tmp 4)), .none⟩]
def p45_7 : List PO := [⟨(.some 7), (.mov (.tmp 3)), .none⟩, ⟨(.some 8), (.arI .mul (.tmp 7) (.const (.int .i64 2))), .none⟩, ⟨(.some 3), (.mov (.tmp 8)), .none⟩]
def p45_8 : List PO := [⟨(.some 9), (.arI .add (.tmp 5) (.const (.int .i64 1))), .none⟩, ⟨(.some 5), (.mov (.tmp 9)), .none⟩]
def c45_1 : PCode := (.keep [3, 4, 5, 6] [] [] (.seq (.cond (.tmp 6) .skip (.keep [3] [] [] (.exit 0))) (.seq (.block 1 (.reg p45_7)) (.reg p45_8))))
def c45_2 : PCode := (.keep [3, 4, 5] [] [] (.seq (.reg p45_6) c45_1))
def p45_9 : List PO := [⟨(.some 10), (.mov (.tmp 3)), .none⟩, ⟨(.some 2), (.mov (.tmp 10)), .none⟩]
def c45_b : PCode := (.seq (.reg p45_3) (.seq (.reg p45_4) (.seq (.seq (.reg p45_5) (.block 0 (.loop c45_2))) (.seq (.reg p45_9) .ret))))
def c45 : FCode := ⟨11, c45_b, [(.tmp 2)], some ([2], [], []), false⟩
theorem c45_ok : compF Go.Proofs.Try.prog [100009, 100014, 100019, 100022, 100024, 100029, 30, 33, 35, 41, 43, 46, 100048, 100052, 60, 61, 62] 45 = some (eraseF c45) := by kernel_rfl
def p23_5 : List PO := [⟨(.some 1), (.box 3 (.tmp 0)), .none⟩, ⟨(.some 2), (.mov (.const (.int .i64 0))), .none⟩]
def p23_6 : List PO := [⟨(.some 5), (.fld 1 (.tmp 1)), .none⟩, ⟨(.some 6), (.load .false 1 (.tmp 5)), .none⟩, ⟨(.some 7), (.fld 2 (.tmp 1)), .none⟩, ⟨(.some 8), (.load .false 1 (.tmp 7)), .none⟩, ⟨(.some 9), (.bsl 3 1 2 [(2, (.int .i64 0))] [(0, (1, (.tmp 6))), (1, (1, (.tmp 8)))]), .none⟩, ⟨(.some 10), (.len .false (.tmp 9)), .none⟩, ⟨(.some 11), (.mov (.const (.int .i64 0))), .none⟩]
def p23_7 : List PO := [⟨(.some 12), (.cmpI .lss (.tmp 11) (.tmp 10)), .none⟩]
def p23_8 : List PO := [⟨(.some 13), (.ixS 3 1 (.tmp 9) (.tmp 11)), .none⟩, ⟨(.some 14), (.load .false 1 (.tmp 13)), .none⟩, ⟨(.some 4), (.mov (.tmp 14)), .none⟩]
def p23_9 : List PO := [⟨(.some 15), (.mov (.tmp 4)), .none⟩, ⟨(.some 16), (.call 44 [(.tmp 15), (.const (.int .i64 0)), (.const (.int .i64 256))]), .none⟩, ⟨(.some 17), (.un .not (.tmp 16)), .none⟩, ⟨(.some 18), (.mov (.tmp 17)), .none⟩, ⟨(.some 19), (.mov (.tmp 4)), (.some (18, .true))⟩, ⟨(.some 20), (.call 45 [(.const (.int .i64 24))]), (.some (18, .true))⟩, ⟨(.some 21), (.call 45 [(.const (.int .i64 25))]), (.some (18, .true))⟩, ⟨(.some 22), (.arI .sub (.tmp 21) (.const (.int .i64 1))), (.some (18, .true))⟩, ⟨(.some 23), (.call 44 [(.tmp 19), (.tmp 20), (.tmp 22)]), (.some (18, .true))⟩, ⟨(.some 24), (.un .not (.tmp 23)), (.some (18, .true))⟩, ⟨(.some 25), (.pick (.tmp 18) (.tmp 24) (.const (.bool .false))), .none⟩]
def p23_10 : List PO := [⟨(.some 2), (.mov (.const (.int .i64 4))), .none⟩]
def p23_11 : List PO := [⟨(.some 26), (.arI .add (.tmp 11) (.const (.int .i64 1))), .none⟩, ⟨(.some 11), (.mov (.tmp 26)), .none⟩]
def c23_2 : PCode := (.keep [1, 9, 10, 11] [(16, .id 16), (80, .id 80)] [] (.seq (.block 1 (.seq (.reg p23_8) (.seq (.reg p23_9) (.cond (.tmp 25) (.seq (.reg p23_10) .ret) .skip)))) (.reg p23_11)))
def c23_3 : PCode := (.keep [1, 9, 10, 11, 12] [(16, .id 16), (80, .id 80)] [] (.seq (.cond (.tmp 12) .skip (.keep [1] [(16, .id 16)] [] (.exit 0))) c23_2))
def c23_4 : PCode := (.keep [1, 9, 10, 11] [(16, .id 16), (80, .id 80)] [] (.seq (.reg p23_7) c23_3))
def p23_12 : List PO := [⟨(.some 27), (.fld 0 (.tmp 1)), .none⟩, ⟨(.some 28), (.load .false 1 (.tmp 27)), .none⟩, ⟨(.some 29), (.call 44 [(.tmp 28), (.const (.int .i64 0)), (.const (.int .i64 255))]), .none⟩, ⟨(.some 30), (.un .not (.tmp 29)), .none⟩]
def p23_13 : List PO := [⟨(.some 2), (.mov (.const (.int .i64 4))), .none⟩]
def p23_14 : List PO := [⟨(.some 2), (.mov (.const (.int .i64 0))), .none⟩]
def c23_1 : PCode := (.keep [1] [(16, .id 16)] [] (.seq (.seq (.reg p23_12) (.cond (.tmp 30) (.seq (.reg p23_13) .ret) .skip)) (.seq (.reg p23_14) .ret)))
def c23_b : PCode := (.seq (.reg p23_5) (.seq (.seq (.reg p23_6) (.block 0 (.loop c23_4))) c23_1))
def c23 : FCode := ⟨31, c23_b, [(.tmp 2)], some ([2], [], []), false⟩
theorem c23_ok : compF Go.Proofs.Try.prog [100009, 100014, 100019, 100022, 100024, 100029, 30, 33, 35, 41, 43, 46, 100048, 100052, 60, 61, 62] 23 = some (eraseF c23) := by kernel_rfl
def p6_7 : List PO := [⟨(.some 4), (.box 3 (.tmp 0)), .none⟩, ⟨(.some 7), (.box 3 (.tmp 3)), .none⟩, ⟨(.some 8), (.mov (.const (.bool .false))), .none⟩]
def p6_8 : List PO := [⟨(.some 21), (.call 10 []), .none⟩, ⟨(.some 22), (.un .not (.tmp 21)), .none⟩, ⟨(.some 23), (.mov (.tmp 22)), .none⟩, ⟨(.some 24), (.load .true 3 (.tmp 4)), (.some (23, .false))⟩, ⟨(.some 25), (.call 18 [(.tmp 24)]), (.some (23, .false))⟩, ⟨(.some 26), (.cmpI .neq (.tmp 25) (.const (.int .i64 0))), (.some (23, .false))⟩, ⟨(.some 27), (.pick (.tmp 23) (.const (.bool .true)) (.tmp 26)), .none⟩, ⟨(.some 28), (.mov (.tmp 27)), .none⟩, ⟨(.some 29), (.mov (.tmp 1)), (.some (28, .false))⟩, ⟨(.some 30), (.cmpI .lss (.tmp 29) (.const (.int .i64 0))), (.some (28, .false))⟩, ⟨(.some 31), (.pick (.tmp 28) (.const (.bool .true)) (.tmp 30)), .none⟩, ⟨(.some 32), (.mov (.tmp 31)), .none⟩, ⟨(.some 33), (.mov (.tmp 1)), (.some (32, .false))⟩, ⟨(.some 34), (.fld 1 (.tmp 4)), (.some (32, .false))⟩, ⟨(.some 35), (.load .false 1 (.tmp 34)), (.some (32, .false))⟩, ⟨(.some 36), (.cmpI .geq (.tmp 33) (.tmp 35)), (.some (32, .false))⟩, ⟨(.some 37), (.pick (.tmp 32) (.const (.bool .true)) (.tmp 36)), .none⟩, ⟨(.some 38), (.mov (.tmp 37)), .none⟩, ⟨(.some 39), (.mov (.tmp 2)), (.some (38, .false))⟩, ⟨(.some 40), (.cmpI .lss (.tmp 39) (.const (.int .i64 0))), (.some (38, .false))⟩, ⟨(.some 41), (.pick (.tmp 38) (.const (.bool .true)) (.tmp 40)), .none⟩, ⟨(.some 42), (.mov (.tmp 41)), .none⟩, ⟨(.some 43), (.mov (.tmp 2)), (.some (42, .false))⟩, ⟨(.some 44), (.cmpI .gtr (.tmp 43) (.const (.int .i64 1000))), (.some (42, .false))⟩, ⟨(.some 45), (.pick (.tmp 42) (.const (.bool .true)) (.tmp 44)), .none⟩]
def p6_9 : List PO := [⟨(.some 46), (.call 10 []), .none⟩, ⟨(.some 8), (.mov (.tmp 46)), .none⟩]
def p6_10 : List PO := [⟨(.some 47), (.fld 2 (.tmp 4)), .none⟩, ⟨(.some 48), (.load .false 1 (.tmp 47)), .none⟩, ⟨(.some 49), (.call 20 [(.tmp 48), (.func 21)]), .none⟩, ⟨(.some 50), (.un .not (.tmp 49)), .none⟩, ⟨(.some 9), (.mov (.tmp 50)), .none⟩]
def p6_11 : List PO := [⟨(.some 52), (.load .true 3 (.tmp 4)), .none⟩, ⟨(.some 53), (.mov (.tmp 1)), .none⟩, ⟨(.some 54), (.fld 0 (.tmp 4)), .none⟩, ⟨(.some 55), (.load .false 1 (.tmp 54)), .none⟩, ⟨(.some 56), (.mov (.tmp 2)), .none⟩, ⟨(.some 57), (.load .true 3 (.tmp 7)), .none⟩, ⟨(.some 58), (.callf 19 [(.tmp 52), (.tmp 53), (.const (.int .i64 0)), (.tmp 55), (.tmp 56), (.tmp 57)]), .none⟩, ⟨(.some 51), (.mov (.tmp 58)), .none⟩, ⟨(.some 59), (.ext (.tmp 51) 0), .none⟩, ⟨(.some 60), (.ext (.tmp 51) 1), .none⟩, ⟨(.some 10), (.alloc [(2, (.int .i64 0)), (1, (.slice .none 0 0))]), .none⟩, ⟨.none, (.store 3 (.tmp 10) (.tmp 59)), .none⟩, ⟨(.some 11), (.mov (.tmp 60)), .none⟩]
def p6_12 : List PO := [⟨(.some 62), (.load .true 3 (.tmp 10)), .none⟩, ⟨(.some 63), (.mov (.tmp 1)), .none⟩, ⟨(.some 64), (.fld 0 (.tmp 4)), .none⟩, ⟨(.some 65), (.load .false 1 (.tmp 64)), .none⟩, ⟨(.some 66), (.mov (.tmp 2)), .none⟩, ⟨(.some 67), (.un .neg (.tmp 66)), .none⟩, ⟨(.some 68), (.load .true 3 (.tmp 7)), .none⟩, ⟨(.some 69), (.callf 19 [(.tmp 62), (.tmp 63), (.const (.int .i64 0)), (.tmp 65), (.tmp 67), (.tmp 68)]), .none⟩, ⟨(.some 61), (.mov (.tmp 69)), .none⟩, ⟨(.some 70), (.ext (.tmp 61) 0), .none⟩, ⟨(.some 71), (.ext (.tmp 61) 1), .none⟩, ⟨(.some 12), (.alloc [(2, (.int .i64 0)), (1, (.slice .none 0 0))]), .none⟩, ⟨.none, (.store 3 (.tmp 12) (.tmp 70)), .none⟩, ⟨(.some 13), (.mov (.tmp 71)), .none⟩]
def p6_13 : List PO := [⟨(.some 73), (.load .true 3 (.tmp 4)), .none⟩, ⟨(.some 74), (.fld 1 (.tmp 4)), .none⟩, ⟨(.some 75), (.load .false 1 (.tmp 74)), .none⟩, ⟨(.some 76), (.mov (.tmp 2)), .none⟩, ⟨(.some 77), (.load .true 3 (.tmp 7)), .none⟩, ⟨(.some 78), (.callf 22 [(.tmp 73), (.const (.int .i64 0)), (.tmp 75), (.tmp 76), (.tmp 77)]), .none⟩, ⟨(.some 72), (.mov (.tmp 78)), .none⟩, ⟨(.some 79), (.ext (.tmp 72) 0), .none⟩, ⟨(.some 80), (.ext (.tmp 72) 1), .none⟩, ⟨(.some 14), (.alloc [(2, (.int .i64 0)), (1, (.slice .none 0 0))]), .none⟩, ⟨.none, (.store 3 (.tmp 14) (.tmp 79)), .none⟩, ⟨(.some 15), (.mov (.tmp 80)), .none⟩]
def p6_14 : List PO := [⟨(.some 82), (.load .true 3 (.tmp 14)), .none⟩, ⟨(.some 83), (.fld 1 (.tmp 4)), .none⟩, ⟨(.some 84), (.load .false 1 (.tmp 83)), .none⟩, ⟨(.some 85), (.mov (.tmp 2)), .none⟩, ⟨(.some 86), (.un .neg (.tmp 85)), .none⟩, ⟨(.some 87), (.load .true 3 (.tmp 7)), .none⟩, ⟨(.some 88), (.callf 22 [(.tmp 82), (.const (.int .i64 0)), (.tmp 84), (.tmp 86), (.tmp 87)]), .none⟩, ⟨(.some 81), (.mov (.tmp 88)), .none⟩, ⟨(.some 89), (.ext (.tmp 81) 0), .none⟩, ⟨(.some 90), (.ext (.tmp 81) 1), .none⟩, ⟨(.some 16), (.alloc [(2, (.int .i64 0)), (1, (.slice .none 0 0))]), .none⟩, ⟨.none, (.store 3 (.tmp 16) (.tmp 89)), .none⟩, ⟨(.some 17), (.mov (.tmp 90)), .none⟩]
def p6_15 : List PO := [⟨(.some 91), (.mov (.tmp 11)), .none⟩, ⟨(.some 92), (.cmpI .neq (.tmp 91) (.const (.int .i64 0))), .none⟩]
def p6_16 : List PO := [⟨(.some 93), (.mov (.tmp 11)), .none⟩, ⟨(.some 94), (.load .true 3 (.tmp 7)), .none⟩, ⟨(.some 95), (.call 23 [(.tmp 94)]), .none⟩, ⟨(.some 96), (.cmpI .eql (.tmp 93) (.tmp 95)), .none⟩, ⟨(.some 97), (.mov (.tmp 96)), .none⟩, ⟨(.some 98), (.mov (.tmp 15)), (.some (97, .true))⟩, ⟨(.some 99), (.mov (.tmp 11)), (.some (97, .true))⟩, ⟨(.some 100), (.cmpI .eql (.tmp 98) (.tmp 99)), (.some (97, .true))⟩, ⟨(.some 101), (.pick (.tmp 97) (.tmp 100) (.const (.bool .false))), .none⟩, ⟨(.some 8), (.mov (.tmp 101)), .none⟩]
def p6_17 : List PO := [⟨(.some 102), (.mov (.tmp 13)), .none⟩, ⟨(.some 103), (.cmpI .neq (.tmp 102) (.const (.int .i64 0))), .none⟩, ⟨(.some 104), (.mov (.tmp 103)), .none⟩, ⟨(.some 105), (.mov (.tmp 15)), (.some (104, .false))⟩, ⟨(.some 106), (.cmpI .neq (.tmp 105) (.const (.int .i64 0))), (.some (104, .false))⟩, ⟨(.some 107), (.pick (.tmp 104) (.const (.bool .true)) (.tmp 106)), .none⟩, ⟨(.some 108), (.mov (.tmp 107)), .none⟩, ⟨(.some 109), (.mov (.tmp 17)), (.some (108, .false))⟩, ⟨(.some 110), (.cmpI .neq (.tmp 109) (.const (.int .i64 0))), (.some (108, .false))⟩, ⟨(.some 111), (.pick (.tmp 108) (.const (.bool .true)) (.tmp 110)), .none⟩]
def p6_18 : List PO := [⟨(.some 8), (.mov (.const (.bool .false))), .none⟩]
def p6_19 : List PO := [⟨(.some 112), (.fld 2 (.tmp 4)), .none⟩, ⟨(.some 113), (.load .false 1 (.tmp 112)), .none⟩, ⟨(.some 114), (.len .false (.tmp 113)), .none⟩, ⟨(.some 115), (.mov (.const (.int .i64 0))), .none⟩]
def p6_20 : List PO := [⟨(.some 116), (.cmpI .lss (.tmp 115) (.tmp 114)), .none⟩]
def p6_21 : List PO := [⟨(.some 117), (.mov (.tmp 115)), .none⟩, ⟨(.some 18), (.mov (.tmp 117)), .none⟩]
def p6_22 : List PO := [⟨(.some 118), (.mov (.tmp 18)), .none⟩, ⟨(.some 119), (.fld 0 (.tmp 4)), .none⟩, ⟨(.some 120), (.load .false 1 (.tmp 119)), .none⟩, ⟨(.some 121), (.arI .quo (.tmp 118) (.tmp 120)), .none⟩, ⟨(.some 122), (.mov (.tmp 18)), .none⟩, ⟨(.some 123), (.fld 0 (.tmp 4)), .none⟩, ⟨(.some 124), (.load .false 1 (.tmp 123)), .none⟩, ⟨(.some 125), (.arI .rem (.tmp 122) (.tmp 124)), .none⟩, ⟨(.some 19), (.mov (.tmp 121)), .none⟩, ⟨(.some 20), (.mov (.tmp 125)), .none⟩]
def p6_23 : List PO := [⟨(.some 126), (.mov (.tmp 9)), .none⟩, ⟨(.some 127), (.mov (.tmp 126)), .none⟩, ⟨(.some 128), (.mov (.tmp 19)), (.some (127, .true))⟩, ⟨(.some 129), (.mov (.tmp 1)), (.some (127, .true))⟩, ⟨(.some 130), (.cmpI .eql (.tmp 128) (.tmp 129)), (.some (127, .true))⟩, ⟨(.some 131), (.pick (.tmp 127) (.tmp 130) (.const (.bool .false))), .none⟩, ⟨(.some 132), (.mov (.tmp 131)), .none⟩, ⟨(.some 133), (.mov (.tmp 20)), (.some (132, .true))⟩, ⟨(.some 134), (.fld 0 (.tmp 4)), (.some (132, .true))⟩, ⟨(.some 135), (.load .false 1 (.tmp 134)), (.some (132, .true))⟩, ⟨(.some 136), (.mov (.tmp 2)), (.some (132, .true))⟩, ⟨(.some 137), (.arI .sub (.tmp 135) (.tmp 136)), (.some (132, .true))⟩, ⟨(.some 138), (.cmpI .lss (.tmp 133) (.tmp 137)), (.some (132, .true))⟩, ⟨(.some 139), (.pick (.tmp 132) (.tmp 138) (.const (.bool .false))), .none⟩, ⟨(.some 140), (.mov (.tmp 139)), .none⟩, ⟨(.some 141), (.fld 2 (.tmp 12)), (.some (140, .true))⟩, ⟨(.some 142), (.load .false 1 (.tmp 141)), (.some (140, .true))⟩, ⟨(.some 143), (.mov (.tmp 18)), (.some (140, .true))⟩, ⟨(.some 144), (.ixS 33 4 (.tmp 142) (.tmp 143)), (.some (140, .true))⟩, ⟨(.some 145), (.load .true 4 (.tmp 144)), (.some (140, .true))⟩, ⟨(.some 146), (.fld 2 (.tmp 4)), (.some (140, .true))⟩, ⟨(.some 147), (.load .false 1 (.tmp 146)), (.some (140, .true))⟩, ⟨(.some 148), (.mov (.tmp 18)), (.some (140, .true))⟩, ⟨(.some 149), (.ixS 33 4 (.tmp 147) (.tmp 148)), (.some (140, .true))⟩, ⟨(.some 150), (.load .true 4 (.tmp 149)), (.some (140, .true))⟩, ⟨(.some 151), (.eqA .true [(4, .int)] (.tmp 145) (.tmp 150)), (.some (140, .true))⟩, ⟨(.some 152), (.pick (.tmp 140) (.tmp 151) (.const (.bool .false))), .none⟩, ⟨(.some 153), (.mov (.tmp 152)), .none⟩, ⟨(.some 154), (.mov (.tmp 19)), (.some (153, .false))⟩, ⟨(.some 155), (.mov (.tmp 2)), (.some (153, .false))⟩, ⟨(.some 156), (.cmpI .geq (.tmp 154) (.tmp 155)), (.some (153, .false))⟩, ⟨(.some 157), (.mov (.tmp 156)), (.some (153, .false))⟩, ⟨(.some 158), (.fld 2 (.tmp 16)), (.some (157, .true))⟩, ⟨(.some 159), (.load .false 1 (.tmp 158)), (.some (157, .true))⟩, ⟨(.some 160), (.mov (.tmp 18)), (.some (157, .true))⟩, ⟨(.some 161), (.ixS 33 4 (.tmp 159) (.tmp 160)), (.some (157, .true))⟩, ⟨(.some 162), (.load .true 4 (.tmp 161)), (.some (157, .true))⟩, ⟨(.some 163), (.fld 2 (.tmp 4)), (.some (157, .true))⟩, ⟨(.some 164), (.load .false 1 (.tmp 163)), (.some (157, .true))⟩, ⟨(.some 165), (.mov (.tmp 18)), (.some (157, .true))⟩, ⟨(.some 166), (.ixS 33 4 (.tmp 164) (.tmp 165)), (.some (157, .true))⟩, ⟨(.some 167), (.load .true 4 (.tmp 166)), (.some (157, .true))⟩, ⟨(.some 168), (.eqA .true [(4, .int)] (.tmp 162) (.tmp 167)), (.some (157, .true))⟩, ⟨(.some 169), (.pick (.tmp 157) (.tmp 168) (.const (.bool .false))), (.some (153, .false))⟩, ⟨(.some 170), (.pick (.tmp 153) (.const (.bool .true)) (.tmp 169)), .none⟩]
def p6_24 : List PO := [⟨(.some 8), (.mov (.const (.bool .false))), .none⟩]
def p6_25 : List PO := [⟨(.some 171), (.arI .add (.tmp 115) (.const (.int .i64 1))), .none⟩, ⟨(.some 115), (.mov (.tmp 171)), .none⟩]
def c6_1 : PCode := (.keep [1, 2, 4, 9, 12, 16, 114, 115] [(40, .id 40), (104, .id 104), (560, .id 560), (136, .id 136), (712, .id 712)] [] (.seq (.block 1 (.seq (.reg p6_21) (.seq (.regD p6_22 []) (.seq (.regD p6_23 []) (.cond (.tmp 170) (.seq (.reg p6_24) .ret) .skip))))) (.reg p6_25)))
def c6_2 : PCode := (.keep [1, 2, 4, 9, 12, 16, 114, 115, 116] [(40, .id 40), (104, .id 104), (560, .id 560), (136, .id 136), (712, .id 712)] [] (.seq (.cond (.tmp 116) .skip (.keep [] [] [] (.exit 0))) c6_1))
def c6_3 : PCode := (.keep [1, 2, 4, 9, 12, 16, 114, 115] [(40, .id 40), (104, .id 104), (560, .id 560), (136, .id 136), (712, .id 712)] [] (.seq (.reg p6_20) c6_2))
def p6_26 : List PO := [⟨(.some 8), (.mov (.const (.bool .true))), .none⟩]
def c6_4 : PCode := (.keep [1, 2, 4, 9, 12, 16] [(40, .id 40), (104, .id 104), (560, .id 560), (136, .id 136), (712, .id 712)] [] (.seq (.seq (.reg p6_19) (.block 0 (.loop c6_3))) (.seq (.reg p6_26) .ret)))
def c6_5 : PCode := (.keep [1, 2, 4, 9, 12, 13, 15, 16, 17] [(40, .id 40), (104, .id 104), (560, .id 560), (136, .id 136), (712, .id 712)] [] (.seq (.seq (.reg p6_17) (.cond (.tmp 111) (.seq (.reg p6_18) .ret) .skip)) c6_4))
def c6_6 : PCode := (.keep [1, 2, 4, 7] [(40, .id 40), (64, .id 64)] [] (.seq (.reg p6_10) (.seq (.reg p6_11) (.seq (.reg p6_12) (.seq (.reg p6_13) (.seq (.reg p6_14) (.seq (.seq (.reg p6_15) (.cond (.tmp 92) (.seq (.reg p6_16) .ret) .skip)) c6_5)))))))
def c6_b : PCode := (.seq (.reg p6_7) (.seq (.seq (.reg p6_8) (.cond (.tmp 45) (.seq (.reg p6_9) .ret) .skip)) c6_6))
def c6 : FCode := ⟨172, c6_b, [(.tmp 8)], some ([8], [], []), false⟩
theorem c6_ok : compF Go.Proofs.Try.prog [100009, 100014, 100019, 100022, 100024, 100029, 30, 33, 35, 41, 43, 46, 100048, 100052, 60, 61, 62] 6 = some (eraseF c6) := by kernel_rfl
def codes : Nat → Option FCode
  | 6 => some c6
  | 9 => some c9
  | 10 => some c10
  | 13 => some c13
  | 16 => some c16
  | 18 => some c18
  | 19 => some c19
  | 20 => some c20
  | 21 => some c21
  | 22 => some c22
  | 23 => some c23
  | 26 => some c26
  | 28 => some c28
  | 29 => some c29
  | 30 => some c30
  | 31 => some c31
  | 33 => some c33
  | 34 => some c34
  | 36 => some c36
  | 37 => some c37
  | 38 => some c38
  | 39 => some c39
  | 40 => some c40
  | 41 => some c41
  | 42 => some c42
  | 43 => some c43
  | 44 => some c44
  | 45 => some c45
  | 46 => some c46
  | 51 => some c51
  | 52 => some c52
  | 53 => some c53
  | 54 => some c54
  | 56 => some c56
  | 57 => some c57
  | 58 => some c58
  | 59 => some c59
  | 60 => some c60
  | 61 => some c61
  | 62 => some c62
  | 63 => some c63
  | _ => none
theorem codes_ok : ∀ f fc, codes f = some fc → compF Go.Proofs.Try.prog [100009, 100014, 100019, 100022, 100024, 100029, 30, 33, 35, 41, 43, 46, 100048, 100052, 60, 61, 62] f = some (eraseF fc) := by
  intro f fc h
  unfold codes at h
  split at h
  · cases h; exact c6_ok
  · cases h; exact c9_ok
  · cases h; exact c10_ok
  · cases h; exact c13_ok
  · cases h; exact c16_ok
  · cases h; exact c18_ok
  · cases h; exact c19_ok
  · cases h; exact c20_ok
  · cases h; exact c21_ok
  · cases h; exact c22_ok
  · cases h; exact c23_ok
  · cases h; exact c26_ok
  · cases h; exact c28_ok
  · cases h; exact c29_ok
  · cases h; exact c30_ok
  · cases h; exact c31_ok
  · cases h; exact c33_ok
  · cases h; exact c34_ok
  · cases h; exact c36_ok
  · cases h; exact c37_ok
  · cases h; exact c38_ok
  · cases h; exact c39_ok
  · cases h; exact c40_ok
  · cases h; exact c41_ok
  · cases h; exact c42_ok
  · cases h; exact c43_ok
  · cases h; exact c44_ok
  · cases h; exact c45_ok
  · cases h; exact c46_ok
  · cases h; exact c51_ok
  · cases h; exact c52_ok
  · cases h; exact c53_ok
  · cases h; exact c54_ok
  · cases h; exact c56_ok
  · cases h; exact c57_ok
  · cases h; exact c58_ok
  · cases h; exact c59_ok
  · cases h; exact c60_ok
  · cases h; exact c61_ok
  · cases h; exact c62_ok
  · cases h; exact c63_ok
  · cases h
theorem codes6 : codes 6 = some c6 := rfl
theorem codes9 : codes 9 = some c9 := rfl
theorem codes10 : codes 10 = some c10 := rfl
theorem codes13 : codes 13 = some c13 := rfl
theorem codes16 : codes 16 = some c16 := rfl
theorem codes18 : codes 18 = some c18 := rfl
theorem codes19 : codes 19 = some c19 := rfl
theorem codes20 : codes 20 = some c20 := rfl
theorem codes21 : codes 21 = some c21 := rfl
theorem codes22 : codes 22 = some c22 := rfl
theorem codes23 : codes 23 = some c23 := rfl
theorem codes26 : codes 26 = some c26 := rfl
theorem codes28 : codes 28 = some c28 := rfl
theorem codes29 : codes 29 = some c29 := rfl
theorem codes30 : codes 30 = some c30 := rfl
theorem codes31 : codes 31 = some c31 := rfl
theorem codes33 : codes 33 = some c33 := rfl
theorem codes34 : codes 34 = some c34 := rfl
theorem codes36 : codes 36 = some c36 := rfl
theorem codes37 : codes 37 = some c37 := rfl
theorem codes38 : codes 38 = some c38 := rfl
theorem codes39 : codes 39 = some c39 := rfl
theorem codes40 : codes 40 = some c40 := rfl
theorem codes41 : codes 41 = some c41 := rfl
theorem codes42 : codes 42 = some c42 := rfl
theorem codes43 : codes 43 = some c43 := rfl
theorem codes44 : codes 44 = some c44 := rfl
theorem codes45 : codes 45 = some c45 := rfl
theorem codes46 : codes 46 = some c46 := rfl
theorem codes51 : codes 51 = some c51 := rfl
theorem codes52 : codes 52 = some c52 := rfl
theorem codes53 : codes 53 = some c53 := rfl
theorem codes54 : codes 54 = some c54 := rfl
theorem codes56 : codes 56 = some c56 := rfl
theorem codes57 : codes 57 = some c57 := rfl
theorem codes58 : codes 58 = some c58 := rfl
theorem codes59 : codes 59 = some c59 := rfl
theorem codes60 : codes 60 = some c60 := rfl
theorem codes61 : codes 61 = some c61 := rfl
theorem codes62 : codes 62 = some c62 := rfl
theorem codes63 : codes 63 = some c63 := rfl
end Go.Proofs.Ytipipahbfakcaaa.Pm
