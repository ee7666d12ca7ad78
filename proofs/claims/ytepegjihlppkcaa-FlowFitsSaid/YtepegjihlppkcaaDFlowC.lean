/- The small machine's codes of some functions. Printed by dec.py. -/
import Derived.Test.YtepegjihlppkcaaPa
import Derived.Test.YtepegjihlppkcaaProg
namespace Go.Proofs.Ytepegjihlppkcaa.Pm
set_option maxRecDepth 1000000
set_option maxHeartbeats 20000000
set_option linter.unusedVariables false
structure GRow where
  Runes : List Int
  Soft : Bool
def e_A59 : Enc (Int × Int) := ⟨2, fun x => [.int .i64 x.1, .int .i64 x.2], fun _ => rfl⟩
def e_GRow : Enc GRow := ⟨2, fun x => [.sl x.Runes.length ((eInt .i64).cells x.Runes), .bool x.Soft], fun _ => rfl⟩
def p36_4 : List PO := [⟨(.some 4), (.mov (.const (.bool .false))), .none⟩]
def p36_5 : List PO := [⟨(.some 7), (.mov (.tmp 1)), .none⟩, ⟨(.some 8), (.len .false (.tmp 7)), .none⟩, ⟨(.some 9), (.mov (.const (.int .i64 0))), .none⟩]
def p36_6 : List PO := [⟨(.some 10), (.cmpI .lss (.tmp 9) (.tmp 8)), .none⟩]
def p36_7 : List PO := [⟨(.some 11), (.ixS 59 2 (.tmp 7) (.tmp 9)), .none⟩, ⟨(.some 12), (.load .true 2 (.tmp 11)), .none⟩, ⟨(.some 6), (.alloc [(2, (.int .i64 0))]), .none⟩, ⟨.none, (.store 2 (.tmp 6) (.tmp 12)), .none⟩]
def p36_8 : List PO := [⟨(.some 13), (.mov (.tmp 0)), .none⟩, ⟨(.some 14), (.ixA 2 1 (.tmp 6) (.const (.int .i64 0))), .none⟩, ⟨(.some 15), (.load .false 1 (.tmp 14)), .none⟩, ⟨(.some 16), (.cmpI .geq (.tmp 13) (.tmp 15)), .none⟩, ⟨(.some 17), (.mov (.tmp 16)), .none⟩, ⟨(.some 18), (.mov (.tmp 0)), (.some (17, .true))⟩, ⟨(.some 19), (.ixA 2 1 (.tmp 6) (.const (.int .i64 1))), (.some (17, .true))⟩, ⟨(.some 20), (.load .false 1 (.tmp 19)), (.some (17, .true))⟩, ⟨(.some 21), (.cmpI .leq (.tmp 18) (.tmp 20)), (.some (17, .true))⟩, ⟨(.some 22), (.pick (.tmp 17) (.tmp 21) (.const (.bool .false))), .none⟩]
def p36_9 : List PO := [⟨(.some 4), (.mov (.const (.bool .true))), .none⟩]
def p36_10 : List PO := [⟨(.some 23), (.arI .add (.tmp 9) (.const (.int .i64 1))), .none⟩, ⟨(.some 9), (.mov (.tmp 23)), .none⟩]
def c36_1 : PCode := (.keep [0, 7, 8, 9] [] [] (.seq (.block 1 (.seq (.reg p36_7) (.seq (.reg p36_8) (.cond (.tmp 22) (.seq (.reg p36_9) .ret) .skip)))) (.reg p36_10)))
def c36_2 : PCode := (.keep [0, 7, 8, 9, 10] [] [] (.seq (.cond (.tmp 10) .skip (.keep [] [] [] (.exit 0))) c36_1))
def c36_3 : PCode := (.keep [0, 7, 8, 9] [] [] (.seq (.reg p36_6) c36_2))
def p36_11 : List PO := [⟨(.some 4), (.mov (.const (.bool .false))), .none⟩]
def c36_b : PCode := (.seq (.reg p36_4) (.seq (.seq (.reg p36_5) (.block 0 (.loop c36_3))) (.seq (.reg p36_11) .ret)))
def c36 : FCode := ⟨24, c36_b, [(.tmp 4)], some ([4], [], []), false⟩
theorem c36_ok : compF Go.Proofs.Try.prog [100019, 100021, 100023, 100025] 36 = some (eraseF c36) := by kernel_rfl
def p18_3 : List PO := [⟨(.some 2), (.mov (.const (.int .i64 0))), .none⟩]
def p18_4 : List PO := [⟨(.some 5), (.build [(2, (.int .i64 0))] [(0, (1, (.const (.int .i64 0)))), (1, (1, (.const (.int .i64 31))))]), .none⟩, ⟨(.some 6), (.build [(2, (.int .i64 0))] [(0, (1, (.const (.int .i64 127)))), (1, (1, (.const (.int .i64 159))))]), .none⟩, ⟨(.some 7), (.build [(2, (.int .i64 0))] [(0, (1, (.const (.int .i64 768)))), (1, (1, (.const (.int .i64 879))))]), .none⟩, ⟨(.some 8), (.build [(2, (.int .i64 0))] [(0, (1, (.const (.int .i64 8203)))), (1, (1, (.const (.int .i64 8207))))]), .none⟩, ⟨(.some 9), (.build [(2, (.int .i64 0))] [(0, (1, (.const (.int .i64 55296)))), (1, (1, (.const (.int .i64 57343))))]), .none⟩, ⟨(.some 10), (.build [(2, (.int .i64 0))] [(0, (1, (.const (.int .i64 65024)))), (1, (1, (.const (.int .i64 65039))))]), .none⟩, ⟨(.some 11), (.build [(12, (.int .i64 0))] [(0, (2, (.tmp 5))), (2, (2, (.tmp 6))), (4, (2, (.tmp 7))), (6, (2, (.tmp 8))), (8, (2, (.tmp 9))), (10, (2, (.tmp 10)))]), .none⟩, ⟨(.some 3), (.alloc [(12, (.int .i64 0))]), .none⟩, ⟨.none, (.store 12 (.tmp 3) (.tmp 11)), .none⟩]
def p18_5 : List PO := [⟨(.some 12), (.build [(2, (.int .i64 0))] [(0, (1, (.const (.int .i64 4352)))), (1, (1, (.const (.int .i64 4447))))]), .none⟩, ⟨(.some 13), (.build [(2, (.int .i64 0))] [(0, (1, (.const (.int .i64 11904)))), (1, (1, (.const (.int .i64 12350))))]), .none⟩, ⟨(.some 14), (.build [(2, (.int .i64 0))] [(0, (1, (.const (.int .i64 12353)))), (1, (1, (.const (.int .i64 19903))))]), .none⟩, ⟨(.some 15), (.build [(2, (.int .i64 0))] [(0, (1, (.const (.int .i64 19968)))), (1, (1, (.const (.int .i64 42191))))]), .none⟩, ⟨(.some 16), (.build [(2, (.int .i64 0))] [(0, (1, (.const (.int .i64 44032)))), (1, (1, (.const (.int .i64 55203))))]), .none⟩, ⟨(.some 17), (.build [(2, (.int .i64 0))] [(0, (1, (.const (.int .i64 63744)))), (1, (1, (.const (.int .i64 64255))))]), .none⟩, ⟨(.some 18), (.build [(2, (.int .i64 0))] [(0, (1, (.const (.int .i64 65072)))), (1, (1, (.const (.int .i64 65135))))]), .none⟩, ⟨(.some 19), (.build [(2, (.int .i64 0))] [(0, (1, (.const (.int .i64 65280)))), (1, (1, (.const (.int .i64 65376))))]), .none⟩, ⟨(.some 20), (.build [(2, (.int .i64 0))] [(0, (1, (.const (.int .i64 65504)))), (1, (1, (.const (.int .i64 65510))))]), .none⟩, ⟨(.some 21), (.build [(2, (.int .i64 0))] [(0, (1, (.const (.int .i64 127744)))), (1, (1, (.const (.int .i64 128591))))]), .none⟩, ⟨(.some 22), (.build [(2, (.int .i64 0))] [(0, (1, (.const (.int .i64 129280)))), (1, (1, (.const (.int .i64 129535))))]), .none⟩, ⟨(.some 23), (.build [(2, (.int .i64 0))] [(0, (1, (.const (.int .i64 131072)))), (1, (1, (.const (.int .i64 262141))))]), .none⟩, ⟨(.some 24), (.build [(24, (.int .i64 0))] [(0, (2, (.tmp 12))), (2, (2, (.tmp 13))), (4, (2, (.tmp 14))), (6, (2, (.tmp 15))), (8, (2, (.tmp 16))), (10, (2, (.tmp 17))), (12, (2, (.tmp 18))), (14, (2, (.tmp 19))), (16, (2, (.tmp 20))), (18, (2, (.tmp 21))), (20, (2, (.tmp 22))), (22, (2, (.tmp 23)))]), .none⟩, ⟨(.some 4), (.alloc [(24, (.int .i64 0))]), .none⟩, ⟨.none, (.store 24 (.tmp 4) (.tmp 24)), .none⟩]
def p18_6 : List PO := [⟨(.some 26), (.mov (.tmp 0)), .none⟩, ⟨(.some 27), (.cmpI .lss (.tmp 26) (.const (.int .i64 0))), .none⟩, ⟨(.some 28), (.mov (.tmp 27)), .none⟩, ⟨(.some 29), (.mov (.tmp 0)), (.some (28, .false))⟩, ⟨(.some 30), (.cmpI .gtr (.tmp 29) (.const (.int .i64 1114111))), (.some (28, .false))⟩, ⟨(.some 31), (.pick (.tmp 28) (.const (.bool .true)) (.tmp 30)), .none⟩, ⟨(.some 32), (.mov (.tmp 31)), .none⟩, ⟨(.some 33), (.mov (.tmp 0)), (.some (32, .false))⟩, ⟨(.some 34), (.slA 6 2 (.tmp 3) .none .none), (.some (32, .false))⟩, ⟨(.some 35), (.call 36 [(.tmp 33), (.tmp 34)]), (.some (32, .false))⟩, ⟨(.some 36), (.pick (.tmp 32) (.const (.bool .true)) (.tmp 35)), .none⟩, ⟨(.some 25), (.mov (.tmp 36)), .none⟩]
def p18_7 : List PO := [⟨(.some 2), (.mov (.const (.int .i64 0))), .none⟩]
def p18_8 : List PO := [⟨(.some 38), (.mov (.tmp 0)), .none⟩, ⟨(.some 39), (.slA 12 2 (.tmp 4) .none .none), .none⟩, ⟨(.some 40), (.call 36 [(.tmp 38), (.tmp 39)]), .none⟩, ⟨(.some 37), (.mov (.tmp 40)), .none⟩]
def p18_9 : List PO := [⟨(.some 2), (.mov (.const (.int .i64 2))), .none⟩]
def c18_1 : PCode := (.keep [0, 4, 25] [(40, .id 40)] [] (.cond (.tmp 25) (.seq (.reg p18_7) .ret) (.seq (.reg p18_8) (.cond (.tmp 37) (.seq (.reg p18_9) .ret) .skip))))
def p18_10 : List PO := [⟨(.some 2), (.mov (.const (.int .i64 1))), .none⟩]
def c18_2 : PCode := (.seq (.reg p18_10) .ret)
def c18_b : PCode := (.seq (.reg p18_3) (.seq (.reg p18_4) (.seq (.reg p18_5) (.seq (.block 0 (.seq (.reg p18_6) c18_1)) c18_2))))
def c18 : FCode := ⟨41, c18_b, [(.tmp 2)], some ([2], [], []), false⟩
theorem c18_ok : compF Go.Proofs.Try.prog [100019, 100021, 100023, 100025] 18 = some (eraseF c18) := by kernel_rfl
def p35_4 : List PO := [⟨(.some 4), (.mov (.const (.int .i64 0))), .none⟩, ⟨(.some 5), (.mov (.const (.int .i64 0))), .none⟩]
def p35_5 : List PO := [⟨(.some 6), (.mov (.const (.int .i64 0))), .none⟩]
def p35_6 : List PO := [⟨(.some 9), (.mov (.tmp 0)), .none⟩, ⟨(.some 10), (.len .false (.tmp 9)), .none⟩, ⟨(.some 11), (.mov (.const (.int .i64 0))), .none⟩]
def p35_7 : List PO := [⟨(.some 12), (.cmpI .lss (.tmp 11) (.tmp 10)), .none⟩]
def p35_8 : List PO := [⟨(.some 13), (.mov (.tmp 11)), .none⟩, ⟨(.some 14), (.ixS 3 1 (.tmp 9) (.tmp 11)), .none⟩, ⟨(.some 15), (.load .false 1 (.tmp 14)), .none⟩, ⟨(.some 7), (.mov (.tmp 13)), .none⟩, ⟨(.some 8), (.mov (.tmp 15)), .none⟩]
def p35_9 : List PO := [⟨(.some 16), (.mov (.tmp 6)), .none⟩, ⟨(.some 17), (.mov (.tmp 8)), .none⟩, ⟨(.some 18), (.call 18 [(.tmp 17)]), .none⟩, ⟨(.some 19), (.arI .add (.tmp 16) (.tmp 18)), .none⟩, ⟨(.some 20), (.mov (.tmp 1)), .none⟩, ⟨(.some 21), (.cmpI .gtr (.tmp 19) (.tmp 20)), .none⟩]
def p35_10 : List PO := [⟨(.some 22), (.mov (.tmp 7)), .none⟩, ⟨(.some 23), (.mov (.tmp 6)), .none⟩, ⟨(.some 4), (.mov (.tmp 22)), .none⟩, ⟨(.some 5), (.mov (.tmp 23)), .none⟩]
def p35_11 : List PO := [⟨(.some 24), (.mov (.tmp 6)), .none⟩, ⟨(.some 25), (.mov (.tmp 8)), .none⟩, ⟨(.some 26), (.call 18 [(.tmp 25)]), .none⟩, ⟨(.some 27), (.arI .add (.tmp 24) (.tmp 26)), .none⟩, ⟨(.some 6), (.mov (.tmp 27)), .none⟩]
def p35_12 : List PO := [⟨(.some 28), (.arI .add (.tmp 11) (.const (.int .i64 1))), .none⟩, ⟨(.some 11), (.mov (.tmp 28)), .none⟩]
def c35_1 : PCode := (.keep [0, 1, 6, 9, 10, 11] [] [] (.seq (.block 1 (.seq (.reg p35_8) (.seq (.seq (.reg p35_9) (.cond (.tmp 21) (.seq (.reg p35_10) .ret) .skip)) (.reg p35_11)))) (.reg p35_12)))
def c35_2 : PCode := (.keep [0, 1, 6, 9, 10, 11, 12] [] [] (.seq (.cond (.tmp 12) .skip (.keep [0, 6] [] [] (.exit 0))) c35_1))
def c35_3 : PCode := (.keep [0, 1, 6, 9, 10, 11] [] [] (.seq (.reg p35_7) c35_2))
def p35_13 : List PO := [⟨(.some 29), (.mov (.tmp 0)), .none⟩, ⟨(.some 30), (.len .false (.tmp 29)), .none⟩, ⟨(.some 31), (.mov (.tmp 6)), .none⟩, ⟨(.some 4), (.mov (.tmp 30)), .none⟩, ⟨(.some 5), (.mov (.tmp 31)), .none⟩]
def c35_b : PCode := (.seq (.reg p35_4) (.seq (.reg p35_5) (.seq (.seq (.reg p35_6) (.block 0 (.loop c35_3))) (.seq (.reg p35_13) .ret))))
def c35 : FCode := ⟨32, c35_b, [(.tmp 4), (.tmp 5)], some ([4, 5], [], []), false⟩
theorem c35_ok : compF Go.Proofs.Try.prog [100019, 100021, 100023, 100025] 35 = some (eraseF c35) := by kernel_rfl
def p16_2 : List PO := [⟨(.some 4), (.nilS 3 1), .none⟩, ⟨(.some 5), (.nilS 3 1), .none⟩, ⟨(.some 6), (.mov (.const (.int .i64 0))), .none⟩]
def p16_3 : List PO := [⟨(.some 9), (.mov (.tmp 1)), .none⟩, ⟨(.some 10), (.cmpI .lss (.tmp 9) (.const (.int .i64 0))), .none⟩, ⟨(.some 11), (.mov (.tmp 10)), .none⟩, ⟨(.some 12), (.mov (.tmp 1)), (.some (11, .false))⟩, ⟨(.some 13), (.cmpI .gtr (.tmp 12) (.const (.int .i64 160))), (.some (11, .false))⟩, ⟨(.some 14), (.pick (.tmp 11) (.const (.bool .true)) (.tmp 13)), .none⟩]
def p16_4 : List PO := [⟨(.some 4), (.nilS 3 1), .none⟩, ⟨(.some 5), (.nilS 3 1), .none⟩, ⟨(.some 6), (.mov (.const (.int .i64 1))), .none⟩]
def p16_5 : List PO := [⟨(.some 16), (.mov (.tmp 0)), .none⟩, ⟨(.some 17), (.mov (.tmp 1)), .none⟩, ⟨(.some 18), (.call 35 [(.tmp 16), (.tmp 17)]), .none⟩, ⟨(.some 15), (.mov (.tmp 18)), .none⟩, ⟨(.some 19), (.ext (.tmp 15) 0), .none⟩, ⟨(.some 20), (.ext (.tmp 15) 1), .none⟩, ⟨(.some 7), (.mov (.tmp 19)), .none⟩, ⟨(.some 8), (.mov (.tmp 20)), .none⟩]
def p16_6 : List PO := [⟨(.some 21), (.mov (.tmp 0)), .none⟩, ⟨(.some 22), (.mov (.tmp 7)), .none⟩, ⟨(.some 23), (.slS 3 1 (.tmp 21) .none (.some (.tmp 22))), .none⟩, ⟨(.some 24), (.app 3 1 8 (.const (.slice .none 0 0)) (.tmp 23)), .none⟩, ⟨(.some 25), (.mov (.tmp 0)), .none⟩, ⟨(.some 26), (.mov (.tmp 7)), .none⟩, ⟨(.some 27), (.slS 3 1 (.tmp 25) (.some (.tmp 26)) .none), .none⟩, ⟨(.some 28), (.app 3 1 8 (.const (.slice .none 0 0)) (.tmp 27)), .none⟩, ⟨(.some 4), (.mov (.tmp 24)), .none⟩, ⟨(.some 5), (.mov (.tmp 28)), .none⟩, ⟨(.some 6), (.mov (.const (.int .i64 0))), .none⟩]
def c16_1 : PCode := (.keep [0, 1] [] [] (.seq (.reg p16_5) (.seq (.regD p16_6 [(3, 6)]) .ret)))
def c16_b : PCode := (.seq (.reg p16_2) (.seq (.seq (.reg p16_3) (.cond (.tmp 14) (.seq (.reg p16_4) .ret) .skip)) c16_1))
def c16 : FCode := ⟨29, c16_b, [(.tmp 4), (.tmp 5), (.tmp 6)], some ([4, 5, 6], [(265, (.slot 4 none)), (266, (.slot 5 none))], []), false⟩
theorem c16_ok : compF Go.Proofs.Try.prog [100019, 100021, 100023, 100025] 16 = some (eraseF c16) := by kernel_rfl
def p19_12 : List PO := [⟨(.some 4), (.nilS 39 2), .none⟩, ⟨(.some 5), (.mov (.const (.int .i64 0))), .none⟩]
def p19_13 : List PO := [⟨(.some 15), (.mov (.tmp 1)), .none⟩, ⟨(.some 16), (.cmpI .lss (.tmp 15) (.const (.int .i64 2))), .none⟩, ⟨(.some 17), (.mov (.tmp 16)), .none⟩, ⟨(.some 18), (.mov (.tmp 1)), (.some (17, .false))⟩, ⟨(.some 19), (.cmpI .gtr (.tmp 18) (.const (.int .i64 160))), (.some (17, .false))⟩, ⟨(.some 20), (.pick (.tmp 17) (.const (.bool .true)) (.tmp 19)), .none⟩]
def p19_14 : List PO := [⟨(.some 4), (.nilS 39 2), .none⟩, ⟨(.some 5), (.mov (.const (.int .i64 1))), .none⟩]
def p19_15 : List PO := [⟨(.some 6), (.mov (.const (.int .i64 0))), .none⟩]
def p19_16 : List PO := [⟨(.some 21), (.mov (.tmp 0)), .none⟩, ⟨(.some 22), (.len .false (.tmp 21)), .none⟩, ⟨(.some 23), (.mov (.const (.int .i64 0))), .none⟩]
def p19_17 : List PO := [⟨(.some 24), (.cmpI .lss (.tmp 23) (.tmp 22)), .none⟩]
def p19_18 : List PO := [⟨(.some 25), (.ixS 22 1 (.tmp 21) (.tmp 23)), .none⟩, ⟨(.some 26), (.load .false 1 (.tmp 25)), .none⟩, ⟨(.some 8), (.mov (.tmp 26)), .none⟩]
def p19_19 : List PO := [⟨(.some 27), (.mov (.tmp 6)), .none⟩, ⟨(.some 28), (.mov (.tmp 8)), .none⟩, ⟨(.some 29), (.len .false (.tmp 28)), .none⟩, ⟨(.some 30), (.arI .add (.tmp 27) (.tmp 29)), .none⟩, ⟨(.some 6), (.mov (.tmp 30)), .none⟩]
def p19_20 : List PO := [⟨(.some 31), (.arI .add (.tmp 23) (.const (.int .i64 1))), .none⟩, ⟨(.some 23), (.mov (.tmp 31)), .none⟩]
def c19_8 : PCode := (.keep [0, 1, 6, 21, 22, 23] [] [] (.seq (.block 1 (.seq (.reg p19_18) (.reg p19_19))) (.reg p19_20)))
def c19_9 : PCode := (.keep [0, 1, 6, 21, 22, 23, 24] [] [] (.seq (.cond (.tmp 24) .skip (.keep [0, 1, 6] [] [] (.exit 0))) c19_8))
def c19_10 : PCode := (.keep [0, 1, 6, 21, 22, 23] [] [] (.seq (.reg p19_17) c19_9))
def p19_21 : List PO := [⟨(.some 32), (.mov (.tmp 0)), .none⟩, ⟨(.some 33), (.len .false (.tmp 32)), .none⟩, ⟨(.some 34), (.cmpI .gtr (.tmp 33) (.const (.int .i64 500))), .none⟩, ⟨(.some 35), (.mov (.tmp 34)), .none⟩, ⟨(.some 36), (.mov (.tmp 6)), (.some (35, .false))⟩, ⟨(.some 37), (.cmpI .gtr (.tmp 36) (.const (.int .i64 4000))), (.some (35, .false))⟩, ⟨(.some 38), (.pick (.tmp 35) (.const (.bool .true)) (.tmp 37)), .none⟩]
def p19_22 : List PO := [⟨(.some 4), (.nilS 39 2), .none⟩, ⟨(.some 5), (.mov (.const (.int .i64 2))), .none⟩]
def p19_23 : List PO := [⟨(.some 9), (.nilS 39 2), .none⟩]
def p19_24 : List PO := [⟨(.some 39), (.mov (.tmp 0)), .none⟩, ⟨(.some 40), (.len .false (.tmp 39)), .none⟩, ⟨(.some 41), (.mov (.const (.int .i64 0))), .none⟩]
def p19_25 : List PO := [⟨(.some 42), (.cmpI .lss (.tmp 41) (.tmp 40)), .none⟩]
def p19_26 : List PO := [⟨(.some 43), (.ixS 22 1 (.tmp 39) (.tmp 41)), .none⟩, ⟨(.some 44), (.load .false 1 (.tmp 43)), .none⟩, ⟨(.some 11), (.mov (.tmp 44)), .none⟩]
def p19_27 : List PO := [⟨(.some 46), (.mov (.tmp 11)), .none⟩, ⟨(.some 47), (.mov (.tmp 1)), .none⟩, ⟨(.some 48), (.call 16 [(.tmp 46), (.tmp 47)]), .none⟩, ⟨(.some 45), (.mov (.tmp 48)), .none⟩, ⟨(.some 49), (.ext (.tmp 45) 0), .none⟩, ⟨(.some 50), (.ext (.tmp 45) 1), .none⟩, ⟨(.some 51), (.ext (.tmp 45) 2), .none⟩, ⟨(.some 12), (.mov (.tmp 49)), .none⟩, ⟨(.some 13), (.mov (.tmp 50)), .none⟩, ⟨(.some 14), (.mov (.tmp 51)), .none⟩]
def p19_28 : List PO := [⟨(.some 52), (.mov (.tmp 9)), .none⟩, ⟨(.some 53), (.mov (.tmp 12)), .none⟩, ⟨(.some 54), (.mov (.tmp 13)), .none⟩, ⟨(.some 55), (.len .false (.tmp 54)), .none⟩, ⟨(.some 56), (.cmpI .gtr (.tmp 55) (.const (.int .i64 0))), .none⟩, ⟨(.some 57), (.build [(1, (.slice .none 0 0)), (1, (.bool .false))] [(0, (1, (.tmp 53))), (1, (1, (.tmp 56)))]), .none⟩, ⟨(.some 58), (.bsl 39 2 1 [(1, (.slice .none 0 0)), (1, (.bool .false))] [(0, (2, (.tmp 57)))]), .none⟩, ⟨(.some 59), (.app 39 2 32 (.tmp 52) (.tmp 58)), .none⟩, ⟨(.some 9), (.mov (.tmp 59)), .none⟩]
def p19_29 : List PO := [⟨(.some 60), (.mov (.tmp 13)), .none⟩, ⟨(.some 11), (.mov (.tmp 60)), .none⟩]
def p19_30 : List PO := [⟨(.some 61), (.mov (.tmp 11)), .none⟩, ⟨(.some 62), (.len .false (.tmp 61)), .none⟩, ⟨(.some 63), (.cmpI .eql (.tmp 62) (.const (.int .i64 0))), .none⟩]
def c19_1 : PCode := (.keep [1, 9, 13, 39, 40, 41] [(80, .id 80), (393, .id 393)] [] (.seq (.reg p19_29) (.seq (.reg p19_30) (.cond (.tmp 63) (.keep [1, 9, 39, 40, 41] [(80, .id 80)] [] (.exit 4)) .skip))))
def c19_2 : PCode := (.keep [1, 9, 11, 39, 40, 41] [(80, .id 80)] [] (.block 5 (.seq (.reg p19_27) (.seq (.reg p19_28) c19_1))))
def p19_31 : List PO := [⟨(.some 64), (.arI .add (.tmp 41) (.const (.int .i64 1))), .none⟩, ⟨(.some 41), (.mov (.tmp 64)), .none⟩]
def c19_3 : PCode := (.keep [1, 9, 39, 40, 41] [(80, .id 80)] [] (.seq (.block 3 (.seq (.reg p19_26) (.block 4 (.loop c19_2)))) (.reg p19_31)))
def c19_4 : PCode := (.keep [1, 9, 39, 40, 41, 42] [(80, .id 80)] [] (.seq (.cond (.tmp 42) .skip (.keep [9] [(80, .id 80)] [] (.exit 2))) c19_3))
def c19_5 : PCode := (.keep [1, 9, 39, 40, 41] [(80, .id 80)] [] (.seq (.reg p19_25) c19_4))
def p19_32 : List PO := [⟨(.some 65), (.mov (.tmp 9)), .none⟩, ⟨(.some 4), (.mov (.tmp 65)), .none⟩, ⟨(.some 5), (.mov (.const (.int .i64 0))), .none⟩]
def c19_6 : PCode := (.keep [0, 1] [] [] (.seq (.reg p19_23) (.seq (.seq (.reg p19_24) (.block 2 (.loop c19_5))) (.seq (.reg p19_32) .ret))))
def c19_7 : PCode := (.keep [0, 1, 6] [] [] (.seq (.seq (.reg p19_21) (.cond (.tmp 38) (.seq (.reg p19_22) .ret) .skip)) c19_6))
def c19_11 : PCode := (.keep [0, 1] [] [] (.seq (.reg p19_15) (.seq (.seq (.reg p19_16) (.block 0 (.loop c19_10))) c19_7)))
def c19_b : PCode := (.seq (.reg p19_12) (.seq (.seq (.reg p19_13) (.cond (.tmp 20) (.seq (.reg p19_14) .ret) .skip)) c19_11))
def c19 : FCode := ⟨66, c19_b, [(.tmp 4), (.tmp 5)], some ([4, 5], [(561, (.slot 4 none))], []), false⟩
theorem c19_ok : compF Go.Proofs.Try.prog [100019, 100021, 100023, 100025] 19 = some (eraseF c19) := by kernel_rfl
def p15_5 : List PO := [⟨(.some 4), (.mov (.const (.bool .false))), .none⟩]
def p15_6 : List PO := [⟨(.some 6), (.mov (.tmp 0)), .none⟩, ⟨(.some 7), (.len .false (.tmp 6)), .none⟩, ⟨(.some 8), (.mov (.tmp 1)), .none⟩, ⟨(.some 9), (.len .false (.tmp 8)), .none⟩, ⟨(.some 10), (.cmpI .neq (.tmp 7) (.tmp 9)), .none⟩]
def p15_7 : List PO := [⟨(.some 4), (.mov (.const (.bool .false))), .none⟩]
def p15_8 : List PO := [⟨(.some 11), (.mov (.tmp 0)), .none⟩, ⟨(.some 12), (.len .false (.tmp 11)), .none⟩, ⟨(.some 13), (.mov (.const (.int .i64 0))), .none⟩]
def p15_9 : List PO := [⟨(.some 14), (.cmpI .lss (.tmp 13) (.tmp 12)), .none⟩]
def p15_10 : List PO := [⟨(.some 15), (.mov (.tmp 13)), .none⟩, ⟨(.some 5), (.mov (.tmp 15)), .none⟩]
def p15_11 : List PO := [⟨(.some 16), (.mov (.tmp 0)), .none⟩, ⟨(.some 17), (.mov (.tmp 5)), .none⟩, ⟨(.some 18), (.ixS 3 1 (.tmp 16) (.tmp 17)), .none⟩, ⟨(.some 19), (.load .false 1 (.tmp 18)), .none⟩, ⟨(.some 20), (.mov (.tmp 1)), .none⟩, ⟨(.some 21), (.mov (.tmp 5)), .none⟩, ⟨(.some 22), (.ixS 3 1 (.tmp 20) (.tmp 21)), .none⟩, ⟨(.some 23), (.load .false 1 (.tmp 22)), .none⟩, ⟨(.some 24), (.cmpI .neq (.tmp 19) (.tmp 23)), .none⟩]
def p15_12 : List PO := [⟨(.some 4), (.mov (.const (.bool .false))), .none⟩]
def p15_13 : List PO := [⟨(.some 25), (.arI .add (.tmp 13) (.const (.int .i64 1))), .none⟩, ⟨(.some 13), (.mov (.tmp 25)), .none⟩]
def c15_1 : PCode := (.keep [0, 1, 12, 13] [] [] (.seq (.block 1 (.seq (.reg p15_10) (.seq (.regD p15_11 []) (.cond (.tmp 24) (.seq (.reg p15_12) .ret) .skip)))) (.reg p15_13)))
def c15_2 : PCode := (.keep [0, 1, 12, 13, 14] [] [] (.seq (.cond (.tmp 14) .skip (.keep [] [] [] (.exit 0))) c15_1))
def c15_3 : PCode := (.keep [0, 1, 12, 13] [] [] (.seq (.reg p15_9) c15_2))
def p15_14 : List PO := [⟨(.some 4), (.mov (.const (.bool .true))), .none⟩]
def c15_4 : PCode := (.keep [0, 1] [] [] (.seq (.seq (.reg p15_8) (.block 0 (.loop c15_3))) (.seq (.reg p15_14) .ret)))
def c15_b : PCode := (.seq (.reg p15_5) (.seq (.seq (.reg p15_6) (.cond (.tmp 10) (.seq (.reg p15_7) .ret) .skip)) c15_4))
def c15 : FCode := ⟨26, c15_b, [(.tmp 4)], some ([4], [], []), false⟩
theorem c15_ok : compF Go.Proofs.Try.prog [100019, 100021, 100023, 100025] 15 = some (eraseF c15) := by kernel_rfl
def p40_1 : List PO := [⟨(.some 2), (.box 2 (.tmp 0)), .none⟩, ⟨(.some 3), (.box 2 (.tmp 1)), .none⟩, ⟨(.some 4), (.mov (.const (.bool .false))), .none⟩]
def p40_2 : List PO := [⟨(.some 5), (.fld 1 (.tmp 2)), .none⟩, ⟨(.some 6), (.load .false 1 (.tmp 5)), .none⟩, ⟨(.some 7), (.fld 1 (.tmp 3)), .none⟩, ⟨(.some 8), (.load .false 1 (.tmp 7)), .none⟩, ⟨(.some 9), (.eqB .false (.tmp 6) (.tmp 8)), .none⟩, ⟨(.some 10), (.mov (.tmp 9)), .none⟩, ⟨(.some 11), (.fld 0 (.tmp 2)), (.some (10, .true))⟩, ⟨(.some 12), (.load .false 1 (.tmp 11)), (.some (10, .true))⟩, ⟨(.some 13), (.fld 0 (.tmp 3)), (.some (10, .true))⟩, ⟨(.some 14), (.load .false 1 (.tmp 13)), (.some (10, .true))⟩, ⟨(.some 15), (.call 15 [(.tmp 12), (.tmp 14)]), (.some (10, .true))⟩, ⟨(.some 16), (.pick (.tmp 10) (.tmp 15) (.const (.bool .false))), .none⟩, ⟨(.some 4), (.mov (.tmp 16)), .none⟩]
def c40_b : PCode := (.seq (.reg p40_1) (.seq (.reg p40_2) .ret))
def c40 : FCode := ⟨17, c40_b, [(.tmp 4)], some ([4], [], []), false⟩
theorem c40_ok : compF Go.Proofs.Try.prog [100019, 100021, 100023, 100025] 40 = some (eraseF c40) := by kernel_rfl
def p39_5 : List PO := [⟨(.some 6), (.mov (.const (.bool .false))), .none⟩]
def p39_6 : List PO := [⟨(.some 10), (.mov (.tmp 0)), .none⟩, ⟨(.some 11), (.len .false (.tmp 10)), .none⟩, ⟨(.some 12), (.mov (.tmp 1)), .none⟩, ⟨(.some 13), (.len .false (.tmp 12)), .none⟩, ⟨(.some 14), (.cmpI .neq (.tmp 11) (.tmp 13)), .none⟩]
def p39_7 : List PO := [⟨(.some 6), (.mov (.const (.bool .false))), .none⟩]
def p39_8 : List PO := [⟨(.some 15), (.mov (.tmp 0)), .none⟩, ⟨(.some 16), (.len .false (.tmp 15)), .none⟩, ⟨(.some 17), (.mov (.const (.int .i64 0))), .none⟩]
def p39_9 : List PO := [⟨(.some 18), (.cmpI .lss (.tmp 17) (.tmp 16)), .none⟩]
def p39_10 : List PO := [⟨(.some 19), (.mov (.tmp 17)), .none⟩, ⟨(.some 20), (.ixS 39 2 (.tmp 15) (.tmp 17)), .none⟩, ⟨(.some 21), (.load .true 2 (.tmp 20)), .none⟩, ⟨(.some 8), (.alloc [(1, (.slice .none 0 0)), (1, (.bool .false))]), .none⟩, ⟨(.some 7), (.mov (.tmp 19)), .none⟩, ⟨.none, (.store 2 (.tmp 8) (.tmp 21)), .none⟩]
def p39_11 : List PO := [⟨(.some 22), (.mov (.tmp 1)), .none⟩, ⟨(.some 23), (.mov (.tmp 7)), .none⟩, ⟨(.some 24), (.ixS 39 2 (.tmp 22) (.tmp 23)), .none⟩, ⟨(.some 25), (.load .true 2 (.tmp 24)), .none⟩, ⟨(.some 9), (.alloc [(1, (.slice .none 0 0)), (1, (.bool .false))]), .none⟩, ⟨.none, (.store 2 (.tmp 9) (.tmp 25)), .none⟩]
def p39_12 : List PO := [⟨(.some 26), (.mov (.tmp 2)), .none⟩, ⟨(.some 27), (.load .true 2 (.tmp 8)), .none⟩, ⟨(.some 28), (.load .true 2 (.tmp 9)), .none⟩, ⟨(.some 29), (.callv (.tmp 26) [(.tmp 27), (.tmp 28)]), .none⟩, ⟨(.some 30), (.un .not (.tmp 29)), .none⟩]
def p39_13 : List PO := [⟨(.some 6), (.mov (.const (.bool .false))), .none⟩]
def p39_14 : List PO := [⟨(.some 31), (.arI .add (.tmp 17) (.const (.int .i64 1))), .none⟩, ⟨(.some 17), (.mov (.tmp 31)), .none⟩]
def c39_1 : PCode := (.keep [1, 2, 15, 16, 17] [] [] (.seq (.block 1 (.seq (.reg p39_10) (.seq (.reg p39_11) (.seq (.reg p39_12) (.cond (.tmp 30) (.seq (.reg p39_13) .ret) .skip))))) (.reg p39_14)))
def c39_2 : PCode := (.keep [1, 2, 15, 16, 17, 18] [] [] (.seq (.cond (.tmp 18) .skip (.keep [] [] [] (.exit 0))) c39_1))
def c39_3 : PCode := (.keep [1, 2, 15, 16, 17] [] [] (.seq (.reg p39_9) c39_2))
def p39_15 : List PO := [⟨(.some 6), (.mov (.const (.bool .true))), .none⟩]
def c39_4 : PCode := (.keep [0, 1, 2] [] [] (.seq (.seq (.reg p39_8) (.block 0 (.loop c39_3))) (.seq (.reg p39_15) .ret)))
def c39_b : PCode := (.seq (.reg p39_5) (.seq (.seq (.reg p39_6) (.cond (.tmp 14) (.seq (.reg p39_7) .ret) .skip)) c39_4))
def c39 : FCode := ⟨32, c39_b, [(.tmp 6)], some ([6], [], []), false⟩
theorem c39_ok : compF Go.Proofs.Try.prog [100019, 100021, 100023, 100025] 39 = some (eraseF c39) := by kernel_rfl
def p24_1 : List PO := [⟨(.some 4), (.mov (.const (.bool .false))), .none⟩]
def p24_2 : List PO := [⟨(.some 5), (.mov (.tmp 0)), .none⟩, ⟨(.some 6), (.mov (.tmp 1)), .none⟩, ⟨(.some 7), (.call 39 [(.tmp 5), (.tmp 6), (.func 40)]), .none⟩, ⟨(.some 4), (.mov (.tmp 7)), .none⟩]
def c24_b : PCode := (.seq (.reg p24_1) (.seq (.reg p24_2) .ret))
def c24 : FCode := ⟨8, c24_b, [(.tmp 4)], some ([4], [], []), false⟩
theorem c24_ok : compF Go.Proofs.Try.prog [100019, 100021, 100023, 100025] 24 = some (eraseF c24) := by kernel_rfl
def p20_1 : List PO := [⟨(.some 0), (.mov (.const (.bool .false))), .none⟩]
def p20_2 : List PO := [⟨(.some 4), (.bsl 3 1 3 [(3, (.int .i64 0))] [(0, (1, (.const (.int .i64 97)))), (1, (1, (.const (.int .i64 98)))), (2, (1, (.const (.int .i64 99))))]), .none⟩, ⟨(.some 5), (.bsl 22 1 2 [(1, (.slice .none 0 0)), (1, (.slice .none 0 0))] [(0, (1, (.tmp 4))), (1, (1, (.const (.slice .none 0 0))))]), .none⟩, ⟨(.some 6), (.callf 19 [(.tmp 5), (.const (.int .i64 2))]), .none⟩, ⟨(.some 3), (.mov (.tmp 6)), .none⟩, ⟨(.some 7), (.ext (.tmp 3) 0), .none⟩, ⟨(.some 8), (.ext (.tmp 3) 1), .none⟩, ⟨(.some 1), (.mov (.tmp 7)), .none⟩, ⟨(.some 2), (.mov (.tmp 8)), .none⟩]
def p20_3 : List PO := [⟨(.some 9), (.mov (.tmp 2)), .none⟩, ⟨(.some 10), (.cmpI .eql (.tmp 9) (.const (.int .i64 0))), .none⟩, ⟨(.some 11), (.mov (.tmp 10)), .none⟩, ⟨(.some 12), (.mov (.tmp 1)), (.some (11, .true))⟩, ⟨(.some 13), (.bsl 3 1 2 [(2, (.int .i64 0))] [(0, (1, (.const (.int .i64 97)))), (1, (1, (.const (.int .i64 98))))]), (.some (11, .true))⟩, ⟨(.some 14), (.build [(1, (.slice .none 0 0)), (1, (.bool .false))] [(0, (1, (.tmp 13))), (1, (1, (.const (.bool .true))))]), (.some (11, .true))⟩, ⟨(.some 15), (.bsl 3 1 1 [(1, (.int .i64 0))] [(0, (1, (.const (.int .i64 99))))]), (.some (11, .true))⟩, ⟨(.some 16), (.build [(1, (.slice .none 0 0)), (1, (.bool .false))] [(0, (1, (.tmp 15)))]), (.some (11, .true))⟩, ⟨(.some 17), (.build [(1, (.slice .none 0 0)), (1, (.bool .false))] []), (.some (11, .true))⟩, ⟨(.some 18), (.bsl 39 2 3 [(1, (.slice .none 0 0)), (1, (.bool .false)), (1, (.slice .none 0 0)), (1, (.bool .false)), (1, (.slice .none 0 0)), (1, (.bool .false))] [(0, (2, (.tmp 14))), (2, (2, (.tmp 16))), (4, (2, (.tmp 17)))]), (.some (11, .true))⟩, ⟨(.some 19), (.call 24 [(.tmp 12), (.tmp 18)]), (.some (11, .true))⟩, ⟨(.some 20), (.pick (.tmp 11) (.tmp 19) (.const (.bool .false))), .none⟩, ⟨(.some 0), (.mov (.tmp 20)), .none⟩]
def c20_b : PCode := (.seq (.reg p20_1) (.seq (.reg p20_2) (.seq (.reg p20_3) .ret)))
def c20 : FCode := ⟨21, c20_b, [(.tmp 0)], some ([0], [], []), false⟩
theorem c20_ok : compF Go.Proofs.Try.prog [100019, 100021, 100023, 100025] 20 = some (eraseF c20) := by kernel_rfl
def p14_4 : List PO := [⟨(.some 2), (.mov (.const (.int .i64 0))), .none⟩]
def p14_5 : List PO := [⟨(.some 3), (.mov (.const (.int .i64 0))), .none⟩]
def p14_6 : List PO := [⟨(.some 6), (.mov (.tmp 0)), .none⟩, ⟨(.some 7), (.len .false (.tmp 6)), .none⟩, ⟨(.some 8), (.mov (.const (.int .i64 0))), .none⟩]
def p14_7 : List PO := [⟨(.some 9), (.cmpI .lss (.tmp 8) (.tmp 7)), .none⟩]
def p14_8 : List PO := [⟨(.some 10), (.ixS 3 1 (.tmp 6) (.tmp 8)), .none⟩, ⟨(.some 11), (.load .false 1 (.tmp 10)), .none⟩, ⟨(.some 5), (.mov (.tmp 11)), .none⟩]
def p14_9 : List PO := [⟨(.some 12), (.mov (.tmp 3)), .none⟩, ⟨(.some 13), (.mov (.tmp 5)), .none⟩, ⟨(.some 14), (.call 18 [(.tmp 13)]), .none⟩, ⟨(.some 15), (.arI .add (.tmp 12) (.tmp 14)), .none⟩, ⟨(.some 3), (.mov (.tmp 15)), .none⟩]
def p14_10 : List PO := [⟨(.some 16), (.arI .add (.tmp 8) (.const (.int .i64 1))), .none⟩, ⟨(.some 8), (.mov (.tmp 16)), .none⟩]
def c14_1 : PCode := (.keep [3, 6, 7, 8] [] [] (.seq (.block 1 (.seq (.reg p14_8) (.reg p14_9))) (.reg p14_10)))
def c14_2 : PCode := (.keep [3, 6, 7, 8, 9] [] [] (.seq (.cond (.tmp 9) .skip (.keep [3] [] [] (.exit 0))) c14_1))
def c14_3 : PCode := (.keep [3, 6, 7, 8] [] [] (.seq (.reg p14_7) c14_2))
def p14_11 : List PO := [⟨(.some 17), (.mov (.tmp 3)), .none⟩, ⟨(.some 2), (.mov (.tmp 17)), .none⟩]
def c14_b : PCode := (.seq (.reg p14_4) (.seq (.reg p14_5) (.seq (.seq (.reg p14_6) (.block 0 (.loop c14_3))) (.seq (.reg p14_11) .ret))))
def c14 : FCode := ⟨18, c14_b, [(.tmp 2)], some ([2], [], []), false⟩
theorem c14_ok : compF Go.Proofs.Try.prog [100019, 100021, 100023, 100025] 14 = some (eraseF c14) := by kernel_rfl
def p5_5 : List PO := [⟨(.some 4), (.mov (.const (.bool .false))), .none⟩]
def p5_6 : List PO := [⟨(.some 10), (.mov (.tmp 0)), .none⟩, ⟨(.some 11), (.mov (.tmp 1)), .none⟩, ⟨(.some 12), (.callf 19 [(.tmp 10), (.tmp 11)]), .none⟩, ⟨(.some 9), (.mov (.tmp 12)), .none⟩, ⟨(.some 13), (.ext (.tmp 9) 0), .none⟩, ⟨(.some 14), (.ext (.tmp 9) 1), .none⟩, ⟨(.some 5), (.mov (.tmp 13)), .none⟩, ⟨(.some 6), (.mov (.tmp 14)), .none⟩]
def p5_7 : List PO := [⟨(.some 15), (.call 20 []), .none⟩, ⟨(.some 16), (.un .not (.tmp 15)), .none⟩, ⟨(.some 17), (.mov (.tmp 16)), .none⟩, ⟨(.some 18), (.mov (.tmp 6)), (.some (17, .false))⟩, ⟨(.some 19), (.cmpI .neq (.tmp 18) (.const (.int .i64 0))), (.some (17, .false))⟩, ⟨(.some 20), (.pick (.tmp 17) (.const (.bool .true)) (.tmp 19)), .none⟩]
def p5_8 : List PO := [⟨(.some 21), (.call 20 []), .none⟩, ⟨(.some 4), (.mov (.tmp 21)), .none⟩]
def p5_9 : List PO := [⟨(.some 22), (.mov (.tmp 5)), .none⟩, ⟨(.some 23), (.len .false (.tmp 22)), .none⟩, ⟨(.some 24), (.mov (.const (.int .i64 0))), .none⟩]
def p5_10 : List PO := [⟨(.some 25), (.cmpI .lss (.tmp 24) (.tmp 23)), .none⟩]
def p5_11 : List PO := [⟨(.some 26), (.mov (.tmp 24)), .none⟩, ⟨(.some 27), (.ixS 39 2 (.tmp 22) (.tmp 24)), .none⟩, ⟨(.some 28), (.load .true 2 (.tmp 27)), .none⟩, ⟨(.some 8), (.alloc [(1, (.slice .none 0 0)), (1, (.bool .false))]), .none⟩, ⟨(.some 7), (.mov (.tmp 26)), .none⟩, ⟨.none, (.store 2 (.tmp 8) (.tmp 28)), .none⟩]
def p5_12 : List PO := [⟨(.some 29), (.fld 0 (.tmp 8)), .none⟩, ⟨(.some 30), (.load .false 1 (.tmp 29)), .none⟩, ⟨(.some 31), (.call 14 [(.tmp 30)]), .none⟩, ⟨(.some 32), (.mov (.tmp 1)), .none⟩, ⟨(.some 33), (.cmpI .gtr (.tmp 31) (.tmp 32)), .none⟩, ⟨(.some 34), (.mov (.tmp 33)), .none⟩, ⟨(.some 35), (.fld 1 (.tmp 8)), (.some (34, .false))⟩, ⟨(.some 36), (.load .false 1 (.tmp 35)), (.some (34, .false))⟩, ⟨(.some 37), (.mov (.tmp 36)), (.some (34, .false))⟩, ⟨(.some 38), (.mov (.tmp 7)), (.some (37, .true))⟩, ⟨(.some 39), (.arI .add (.tmp 38) (.const (.int .i64 1))), (.some (37, .true))⟩, ⟨(.some 40), (.mov (.tmp 5)), (.some (37, .true))⟩, ⟨(.some 41), (.len .false (.tmp 40)), (.some (37, .true))⟩, ⟨(.some 42), (.cmpI .eql (.tmp 39) (.tmp 41)), (.some (37, .true))⟩, ⟨(.some 43), (.mov (.tmp 42)), (.some (37, .true))⟩, ⟨(.some 44), (.mov (.tmp 5)), (.some (43, .false))⟩, ⟨(.some 45), (.mov (.tmp 7)), (.some (43, .false))⟩, ⟨(.some 46), (.arI .add (.tmp 45) (.const (.int .i64 1))), (.some (43, .false))⟩, ⟨(.some 47), (.ixS 39 2 (.tmp 44) (.tmp 46)), (.some (43, .false))⟩, ⟨(.some 48), (.fld 0 (.tmp 47)), (.some (43, .false))⟩, ⟨(.some 49), (.load .false 1 (.tmp 48)), (.some (43, .false))⟩, ⟨(.some 50), (.len .false (.tmp 49)), (.some (43, .false))⟩, ⟨(.some 51), (.cmpI .eql (.tmp 50) (.const (.int .i64 0))), (.some (43, .false))⟩, ⟨(.some 52), (.pick (.tmp 43) (.const (.bool .true)) (.tmp 51)), (.some (37, .true))⟩, ⟨(.some 53), (.mov (.tmp 52)), (.some (37, .true))⟩, ⟨(.some 54), (.fld 0 (.tmp 8)), (.some (53, .false))⟩, ⟨(.some 55), (.load .false 1 (.tmp 54)), (.some (53, .false))⟩, ⟨(.some 56), (.call 14 [(.tmp 55)]), (.some (53, .false))⟩, ⟨(.some 57), (.mov (.tmp 5)), (.some (53, .false))⟩, ⟨(.some 58), (.mov (.tmp 7)), (.some (53, .false))⟩, ⟨(.some 59), (.arI .add (.tmp 58) (.const (.int .i64 1))), (.some (53, .false))⟩, ⟨(.some 60), (.ixS 39 2 (.tmp 57) (.tmp 59)), (.some (53, .false))⟩, ⟨(.some 61), (.fld 0 (.tmp 60)), (.some (53, .false))⟩, ⟨(.some 62), (.load .false 1 (.tmp 61)), (.some (53, .false))⟩, ⟨(.some 63), (.ixS 3 1 (.tmp 62) (.const (.int .i64 0))), (.some (53, .false))⟩, ⟨(.some 64), (.load .false 1 (.tmp 63)), (.some (53, .false))⟩, ⟨(.some 65), (.call 18 [(.tmp 64)]), (.some (53, .false))⟩, ⟨(.some 66), (.arI .add (.tmp 56) (.tmp 65)), (.some (53, .false))⟩, ⟨(.some 67), (.mov (.tmp 1)), (.some (53, .false))⟩, ⟨(.some 68), (.cmpI .leq (.tmp 66) (.tmp 67)), (.some (53, .false))⟩, ⟨(.some 69), (.pick (.tmp 53) (.const (.bool .true)) (.tmp 68)), (.some (37, .true))⟩, ⟨(.some 70), (.pick (.tmp 37) (.tmp 69) (.const (.bool .false))), (.some (34, .false))⟩, ⟨(.some 71), (.pick (.tmp 34) (.const (.bool .true)) (.tmp 70)), .none⟩]
def p5_13 : List PO := [⟨(.some 4), (.mov (.const (.bool .false))), .none⟩]
def p5_14 : List PO := [⟨(.some 72), (.arI .add (.tmp 24) (.const (.int .i64 1))), .none⟩, ⟨(.some 24), (.mov (.tmp 72)), .none⟩]
def c5_1 : PCode := (.keep [0, 1, 5, 22, 23, 24] [(104, .id 104)] [] (.seq (.block 1 (.seq (.reg p5_11) (.seq (.regD p5_12 [(27, 31), (27, 33), (27, 34), (27, 35)]) (.cond (.tmp 71) (.seq (.reg p5_13) .ret) .skip)))) (.reg p5_14)))
def c5_2 : PCode := (.keep [0, 1, 5, 22, 23, 24, 25] [(104, .id 104)] [] (.seq (.cond (.tmp 25) .skip (.keep [0, 5] [(104, .id 104)] [] (.exit 0))) c5_1))
def c5_3 : PCode := (.keep [0, 1, 5, 22, 23, 24] [(104, .id 104)] [] (.seq (.reg p5_10) c5_2))
def p5_15 : List PO := [⟨(.some 73), (.mov (.tmp 5)), .none⟩, ⟨(.some 74), (.len .false (.tmp 73)), .none⟩, ⟨(.some 75), (.mov (.tmp 0)), .none⟩, ⟨(.some 76), (.len .false (.tmp 75)), .none⟩, ⟨(.some 77), (.cmpI .geq (.tmp 74) (.tmp 76)), .none⟩, ⟨(.some 4), (.mov (.tmp 77)), .none⟩]
def c5_4 : PCode := (.keep [0, 1, 5] [(104, .id 104)] [] (.seq (.seq (.reg p5_9) (.block 0 (.loop c5_3))) (.seq (.reg p5_15) .ret)))
def c5_b : PCode := (.seq (.reg p5_5) (.seq (.reg p5_6) (.seq (.seq (.reg p5_7) (.cond (.tmp 20) (.seq (.reg p5_8) .ret) .skip)) c5_4)))
def c5 : FCode := ⟨78, c5_b, [(.tmp 4)], some ([4], [], []), false⟩
theorem c5_ok : compF Go.Proofs.Try.prog [100019, 100021, 100023, 100025] 5 = some (eraseF c5) := by kernel_rfl
def p17_1 : List PO := [⟨(.some 2), (.nilS 3 1), .none⟩]
def p17_2 : List PO := [⟨(.some 3), (.mov (.tmp 0)), .none⟩, ⟨(.some 4), (.isN .false (.tmp 3)), .none⟩]
def p17_3 : List PO := [⟨(.some 2), (.nilS 3 1), .none⟩]
def p17_4 : List PO := [⟨(.some 5), (.bsl 3 1 0 [] []), .none⟩, ⟨(.some 6), (.mov (.tmp 0)), .none⟩, ⟨(.some 7), (.app 3 1 8 (.tmp 5) (.tmp 6)), .none⟩, ⟨(.some 2), (.mov (.tmp 7)), .none⟩]
def c17_b : PCode := (.seq (.reg p17_1) (.seq (.seq (.reg p17_2) (.cond (.tmp 4) (.seq (.reg p17_3) .ret) .skip)) (.seq (.reg p17_4) .ret)))
def c17 : FCode := ⟨8, c17_b, [(.tmp 2)], some ([2], [(97, (.slot 2 none))], []), true⟩
theorem c17_ok : compF Go.Proofs.Try.prog [100019, 100021, 100023, 100025] 17 = some (eraseF c17) := by kernel_rfl
def p21_10 : List PO := [⟨(.some 2), (.nilS 22 1), .none⟩, ⟨(.some 3), (.mov (.const (.int .i64 0))), .none⟩]
def p21_11 : List PO := [⟨(.some 4), (.mov (.const (.int .i64 0))), .none⟩]
def p21_12 : List PO := [⟨(.some 11), (.mov (.tmp 0)), .none⟩, ⟨(.some 12), (.len .false (.tmp 11)), .none⟩, ⟨(.some 13), (.mov (.const (.int .i64 0))), .none⟩]
def p21_13 : List PO := [⟨(.some 14), (.cmpI .lss (.tmp 13) (.tmp 12)), .none⟩]
def p21_14 : List PO := [⟨(.some 15), (.ixS 39 2 (.tmp 11) (.tmp 13)), .none⟩, ⟨(.some 16), (.load .true 2 (.tmp 15)), .none⟩, ⟨(.some 6), (.alloc [(1, (.slice .none 0 0)), (1, (.bool .false))]), .none⟩, ⟨.none, (.store 2 (.tmp 6) (.tmp 16)), .none⟩]
def p21_15 : List PO := [⟨(.some 17), (.mov (.tmp 4)), .none⟩, ⟨(.some 18), (.fld 0 (.tmp 6)), .none⟩, ⟨(.some 19), (.load .false 1 (.tmp 18)), .none⟩, ⟨(.some 20), (.len .false (.tmp 19)), .none⟩, ⟨(.some 21), (.arI .add (.tmp 17) (.tmp 20)), .none⟩, ⟨(.some 4), (.mov (.tmp 21)), .none⟩]
def p21_16 : List PO := [⟨(.some 22), (.arI .add (.tmp 13) (.const (.int .i64 1))), .none⟩, ⟨(.some 13), (.mov (.tmp 22)), .none⟩]
def c21_7 : PCode := (.keep [0, 4, 11, 12, 13] [] [] (.seq (.block 1 (.seq (.reg p21_14) (.reg p21_15))) (.reg p21_16)))
def c21_8 : PCode := (.keep [0, 4, 11, 12, 13, 14] [] [] (.seq (.cond (.tmp 14) .skip (.keep [0, 4] [] [] (.exit 0))) c21_7))
def c21_9 : PCode := (.keep [0, 4, 11, 12, 13] [] [] (.seq (.reg p21_13) c21_8))
def p21_17 : List PO := [⟨(.some 23), (.mov (.tmp 0)), .none⟩, ⟨(.some 24), (.len .false (.tmp 23)), .none⟩, ⟨(.some 25), (.cmpI .gtr (.tmp 24) (.const (.int .i64 4500))), .none⟩, ⟨(.some 26), (.mov (.tmp 25)), .none⟩, ⟨(.some 27), (.mov (.tmp 4)), (.some (26, .false))⟩, ⟨(.some 28), (.cmpI .gtr (.tmp 27) (.const (.int .i64 4000))), (.some (26, .false))⟩, ⟨(.some 29), (.pick (.tmp 26) (.const (.bool .true)) (.tmp 28)), .none⟩]
def p21_18 : List PO := [⟨(.some 2), (.nilS 22 1), .none⟩, ⟨(.some 3), (.mov (.const (.int .i64 2))), .none⟩]
def p21_19 : List PO := [⟨(.some 30), (.mov (.tmp 0)), .none⟩, ⟨(.some 31), (.len .false (.tmp 30)), .none⟩, ⟨(.some 32), (.cmpI .gtr (.tmp 31) (.const (.int .i64 0))), .none⟩, ⟨(.some 33), (.mov (.tmp 32)), .none⟩, ⟨(.some 34), (.mov (.tmp 0)), (.some (33, .true))⟩, ⟨(.some 35), (.mov (.tmp 0)), (.some (33, .true))⟩, ⟨(.some 36), (.len .false (.tmp 35)), (.some (33, .true))⟩, ⟨(.some 37), (.arI .sub (.tmp 36) (.const (.int .i64 1))), (.some (33, .true))⟩, ⟨(.some 38), (.ixS 39 2 (.tmp 34) (.tmp 37)), (.some (33, .true))⟩, ⟨(.some 39), (.fld 1 (.tmp 38)), (.some (33, .true))⟩, ⟨(.some 40), (.load .false 1 (.tmp 39)), (.some (33, .true))⟩, ⟨(.some 41), (.pick (.tmp 33) (.tmp 40) (.const (.bool .false))), .none⟩]
def p21_20 : List PO := [⟨(.some 2), (.nilS 22 1), .none⟩, ⟨(.some 3), (.mov (.const (.int .i64 4))), .none⟩]
def p21_21 : List PO := [⟨(.some 7), (.nilS 22 1), .none⟩]
def p21_22 : List PO := [⟨(.some 8), (.nilS 3 1), .none⟩]
def p21_23 : List PO := [⟨(.some 42), (.mov (.tmp 0)), .none⟩, ⟨(.some 43), (.len .false (.tmp 42)), .none⟩, ⟨(.some 44), (.mov (.const (.int .i64 0))), .none⟩]
def p21_24 : List PO := [⟨(.some 45), (.cmpI .lss (.tmp 44) (.tmp 43)), .none⟩]
def p21_25 : List PO := [⟨(.some 46), (.ixS 39 2 (.tmp 42) (.tmp 44)), .none⟩, ⟨(.some 47), (.load .true 2 (.tmp 46)), .none⟩, ⟨(.some 10), (.alloc [(1, (.slice .none 0 0)), (1, (.bool .false))]), .none⟩, ⟨.none, (.store 2 (.tmp 10) (.tmp 47)), .none⟩]
def p21_26 : List PO := [⟨(.some 48), (.mov (.tmp 8)), .none⟩, ⟨(.some 49), (.fld 0 (.tmp 10)), .none⟩, ⟨(.some 50), (.load .false 1 (.tmp 49)), .none⟩, ⟨(.some 51), (.app 3 1 8 (.tmp 48) (.tmp 50)), .none⟩, ⟨(.some 8), (.mov (.tmp 51)), .none⟩]
def p21_27 : List PO := [⟨(.some 52), (.fld 1 (.tmp 10)), .none⟩, ⟨(.some 53), (.load .false 1 (.tmp 52)), .none⟩, ⟨(.some 54), (.un .not (.tmp 53)), .none⟩]
def p21_28 : List PO := [⟨(.some 55), (.mov (.tmp 7)), .none⟩, ⟨(.some 56), (.mov (.tmp 8)), .none⟩, ⟨(.some 57), (.call 17 [(.tmp 56)]), .none⟩, ⟨(.some 58), (.bsl 22 1 1 [(1, (.slice .none 0 0))] [(0, (1, (.tmp 57)))]), .none⟩, ⟨(.some 59), (.app 22 1 24 (.tmp 55) (.tmp 58)), .none⟩, ⟨(.some 7), (.mov (.tmp 59)), .none⟩]
def p21_29 : List PO := [⟨(.some 8), (.nilS 3 1), .none⟩]
def p21_30 : List PO := [⟨(.some 60), (.arI .add (.tmp 44) (.const (.int .i64 1))), .none⟩, ⟨(.some 44), (.mov (.tmp 60)), .none⟩]
def c21_1 : PCode := (.keep [7, 8, 42, 43, 44] [(64, .id 64), (72, .id 72)] [] (.seq (.block 3 (.seq (.reg p21_25) (.seq (.reg p21_26) (.seq (.reg p21_27) (.cond (.tmp 54) (.seq (.reg p21_28) (.reg p21_29)) .skip))))) (.reg p21_30)))
def c21_2 : PCode := (.keep [7, 8, 42, 43, 44, 45] [(64, .id 64), (72, .id 72)] [] (.seq (.cond (.tmp 45) .skip (.keep [7] [(64, .id 64)] [] (.exit 2))) c21_1))
def c21_3 : PCode := (.keep [7, 8, 42, 43, 44] [(64, .id 64), (72, .id 72)] [] (.seq (.reg p21_24) c21_2))
def p21_31 : List PO := [⟨(.some 61), (.mov (.tmp 7)), .none⟩, ⟨(.some 2), (.mov (.tmp 61)), .none⟩, ⟨(.some 3), (.mov (.const (.int .i64 0))), .none⟩]
def c21_4 : PCode := (.keep [0] [] [] (.seq (.reg p21_21) (.seq (.reg p21_22) (.seq (.seq (.reg p21_23) (.block 2 (.loop c21_3))) (.seq (.reg p21_31) .ret)))))
def c21_5 : PCode := (.keep [0] [] [] (.seq (.seq (.reg p21_19) (.cond (.tmp 41) (.seq (.reg p21_20) .ret) .skip)) c21_4))
def c21_6 : PCode := (.keep [0, 4] [] [] (.seq (.seq (.reg p21_17) (.cond (.tmp 29) (.seq (.reg p21_18) .ret) .skip)) c21_5))
def c21_b : PCode := (.seq (.reg p21_10) (.seq (.reg p21_11) (.seq (.seq (.reg p21_12) (.block 0 (.loop c21_9))) c21_6)))
def c21 : FCode := ⟨62, c21_b, [(.tmp 2), (.tmp 3)], some ([2, 3], [(529, (.slot 2 none))], []), false⟩
theorem c21_ok : compF Go.Proofs.Try.prog [100019, 100021, 100023, 100025] 21 = some (eraseF c21) := by kernel_rfl
def p38_1 : List PO := [⟨(.some 4), (.mov (.const (.bool .false))), .none⟩]
def p38_2 : List PO := [⟨(.some 5), (.mov (.tmp 0)), .none⟩, ⟨(.some 6), (.mov (.tmp 1)), .none⟩, ⟨(.some 7), (.call 15 [(.tmp 5), (.tmp 6)]), .none⟩, ⟨(.some 4), (.mov (.tmp 7)), .none⟩]
def c38_b : PCode := (.seq (.reg p38_1) (.seq (.reg p38_2) .ret))
def c38 : FCode := ⟨8, c38_b, [(.tmp 4)], some ([4], [], []), false⟩
theorem c38_ok : compF Go.Proofs.Try.prog [100019, 100021, 100023, 100025] 38 = some (eraseF c38) := by kernel_rfl
def p37_5 : List PO := [⟨(.some 6), (.mov (.const (.bool .false))), .none⟩]
def p37_6 : List PO := [⟨(.some 10), (.mov (.tmp 0)), .none⟩, ⟨(.some 11), (.len .false (.tmp 10)), .none⟩, ⟨(.some 12), (.mov (.tmp 1)), .none⟩, ⟨(.some 13), (.len .false (.tmp 12)), .none⟩, ⟨(.some 14), (.cmpI .neq (.tmp 11) (.tmp 13)), .none⟩]
def p37_7 : List PO := [⟨(.some 6), (.mov (.const (.bool .false))), .none⟩]
def p37_8 : List PO := [⟨(.some 15), (.mov (.tmp 0)), .none⟩, ⟨(.some 16), (.len .false (.tmp 15)), .none⟩, ⟨(.some 17), (.mov (.const (.int .i64 0))), .none⟩]
def p37_9 : List PO := [⟨(.some 18), (.cmpI .lss (.tmp 17) (.tmp 16)), .none⟩]
def p37_10 : List PO := [⟨(.some 19), (.mov (.tmp 17)), .none⟩, ⟨(.some 20), (.ixS 22 1 (.tmp 15) (.tmp 17)), .none⟩, ⟨(.some 21), (.load .false 1 (.tmp 20)), .none⟩, ⟨(.some 7), (.mov (.tmp 19)), .none⟩, ⟨(.some 8), (.mov (.tmp 21)), .none⟩]
def p37_11 : List PO := [⟨(.some 22), (.mov (.tmp 1)), .none⟩, ⟨(.some 23), (.mov (.tmp 7)), .none⟩, ⟨(.some 24), (.ixS 22 1 (.tmp 22) (.tmp 23)), .none⟩, ⟨(.some 25), (.load .false 1 (.tmp 24)), .none⟩, ⟨(.some 9), (.mov (.tmp 25)), .none⟩]
def p37_12 : List PO := [⟨(.some 26), (.mov (.tmp 2)), .none⟩, ⟨(.some 27), (.mov (.tmp 8)), .none⟩, ⟨(.some 28), (.mov (.tmp 9)), .none⟩, ⟨(.some 29), (.callv (.tmp 26) [(.tmp 27), (.tmp 28)]), .none⟩, ⟨(.some 30), (.un .not (.tmp 29)), .none⟩]
def p37_13 : List PO := [⟨(.some 6), (.mov (.const (.bool .false))), .none⟩]
def p37_14 : List PO := [⟨(.some 31), (.arI .add (.tmp 17) (.const (.int .i64 1))), .none⟩, ⟨(.some 17), (.mov (.tmp 31)), .none⟩]
def c37_1 : PCode := (.keep [1, 2, 15, 16, 17] [] [] (.seq (.block 1 (.seq (.reg p37_10) (.seq (.reg p37_11) (.seq (.reg p37_12) (.cond (.tmp 30) (.seq (.reg p37_13) .ret) .skip))))) (.reg p37_14)))
def c37_2 : PCode := (.keep [1, 2, 15, 16, 17, 18] [] [] (.seq (.cond (.tmp 18) .skip (.keep [] [] [] (.exit 0))) c37_1))
def c37_3 : PCode := (.keep [1, 2, 15, 16, 17] [] [] (.seq (.reg p37_9) c37_2))
def p37_15 : List PO := [⟨(.some 6), (.mov (.const (.bool .true))), .none⟩]
def c37_4 : PCode := (.keep [0, 1, 2] [] [] (.seq (.seq (.reg p37_8) (.block 0 (.loop c37_3))) (.seq (.reg p37_15) .ret)))
def c37_b : PCode := (.seq (.reg p37_5) (.seq (.seq (.reg p37_6) (.cond (.tmp 14) (.seq (.reg p37_7) .ret) .skip)) c37_4))
def c37 : FCode := ⟨32, c37_b, [(.tmp 6)], some ([6], [], []), false⟩
theorem c37_ok : compF Go.Proofs.Try.prog [100019, 100021, 100023, 100025] 37 = some (eraseF c37) := by kernel_rfl
def p22_1 : List PO := [⟨(.some 4), (.mov (.const (.bool .false))), .none⟩]
def p22_2 : List PO := [⟨(.some 5), (.mov (.tmp 0)), .none⟩, ⟨(.some 6), (.mov (.tmp 1)), .none⟩, ⟨(.some 7), (.call 37 [(.tmp 5), (.tmp 6), (.func 38)]), .none⟩, ⟨(.some 4), (.mov (.tmp 7)), .none⟩]
def c22_b : PCode := (.seq (.reg p22_1) (.seq (.reg p22_2) .ret))
def c22 : FCode := ⟨8, c22_b, [(.tmp 4)], some ([4], [], []), false⟩
theorem c22_ok : compF Go.Proofs.Try.prog [100019, 100021, 100023, 100025] 22 = some (eraseF c22) := by kernel_rfl
def p6_3 : List PO := [⟨(.some 4), (.mov (.const (.bool .false))), .none⟩]
def p6_4 : List PO := [⟨(.some 10), (.mov (.tmp 0)), .none⟩, ⟨(.some 11), (.mov (.tmp 1)), .none⟩, ⟨(.some 12), (.callf 19 [(.tmp 10), (.tmp 11)]), .none⟩, ⟨(.some 9), (.mov (.tmp 12)), .none⟩, ⟨(.some 13), (.ext (.tmp 9) 0), .none⟩, ⟨(.some 14), (.ext (.tmp 9) 1), .none⟩, ⟨(.some 5), (.mov (.tmp 13)), .none⟩, ⟨(.some 6), (.mov (.tmp 14)), .none⟩]
def p6_5 : List PO := [⟨(.some 15), (.call 20 []), .none⟩, ⟨(.some 16), (.un .not (.tmp 15)), .none⟩, ⟨(.some 17), (.mov (.tmp 16)), .none⟩, ⟨(.some 18), (.mov (.tmp 6)), (.some (17, .false))⟩, ⟨(.some 19), (.cmpI .neq (.tmp 18) (.const (.int .i64 0))), (.some (17, .false))⟩, ⟨(.some 20), (.pick (.tmp 17) (.const (.bool .true)) (.tmp 19)), .none⟩]
def p6_6 : List PO := [⟨(.some 21), (.call 20 []), .none⟩, ⟨(.some 22), (.mov (.tmp 21)), .none⟩, ⟨(.some 23), (.mov (.tmp 5)), (.some (22, .true))⟩, ⟨(.some 24), (.len .false (.tmp 23)), (.some (22, .true))⟩, ⟨(.some 25), (.cmpI .eql (.tmp 24) (.const (.int .i64 0))), (.some (22, .true))⟩, ⟨(.some 26), (.pick (.tmp 22) (.tmp 25) (.const (.bool .false))), .none⟩, ⟨(.some 4), (.mov (.tmp 26)), .none⟩]
def c6_2 : PCode := (.keep [5] [(104, .id 104)] [] (.seq (.reg p6_6) .ret))
def p6_7 : List PO := [⟨(.some 28), (.mov (.tmp 5)), .none⟩, ⟨(.some 29), (.callf 21 [(.tmp 28)]), .none⟩, ⟨(.some 27), (.mov (.tmp 29)), .none⟩, ⟨(.some 30), (.ext (.tmp 27) 0), .none⟩, ⟨(.some 31), (.ext (.tmp 27) 1), .none⟩, ⟨(.some 7), (.mov (.tmp 30)), .none⟩, ⟨(.some 8), (.mov (.tmp 31)), .none⟩]
def p6_8 : List PO := [⟨(.some 32), (.mov (.tmp 8)), .none⟩, ⟨(.some 33), (.cmpI .eql (.tmp 32) (.const (.int .i64 0))), .none⟩, ⟨(.some 34), (.mov (.tmp 33)), .none⟩, ⟨(.some 35), (.mov (.tmp 7)), (.some (34, .true))⟩, ⟨(.some 36), (.mov (.tmp 0)), (.some (34, .true))⟩, ⟨(.some 37), (.call 22 [(.tmp 35), (.tmp 36)]), (.some (34, .true))⟩, ⟨(.some 38), (.pick (.tmp 34) (.tmp 37) (.const (.bool .false))), .none⟩, ⟨(.some 4), (.mov (.tmp 38)), .none⟩]
def c6_1 : PCode := (.keep [0, 5] [(104, .id 104)] [] (.seq (.reg p6_7) (.seq (.reg p6_8) .ret)))
def c6_b : PCode := (.seq (.reg p6_3) (.seq (.reg p6_4) (.seq (.seq (.reg p6_5) (.cond (.tmp 20) c6_2 .skip)) c6_1)))
def c6 : FCode := ⟨39, c6_b, [(.tmp 4)], some ([4], [], []), false⟩
theorem c6_ok : compF Go.Proofs.Try.prog [100019, 100021, 100023, 100025] 6 = some (eraseF c6) := by kernel_rfl
def p23_2 : List PO := [⟨(.some 4), (.nilS 39 2), .none⟩, ⟨(.some 5), (.mov (.const (.int .i64 0))), .none⟩]
def p23_3 : List PO := [⟨(.some 9), (.mov (.tmp 0)), .none⟩, ⟨(.some 10), (.callf 21 [(.tmp 9)]), .none⟩, ⟨(.some 8), (.mov (.tmp 10)), .none⟩, ⟨(.some 11), (.ext (.tmp 8) 0), .none⟩, ⟨(.some 12), (.ext (.tmp 8) 1), .none⟩, ⟨(.some 6), (.mov (.tmp 11)), .none⟩, ⟨(.some 7), (.mov (.tmp 12)), .none⟩]
def p23_4 : List PO := [⟨(.some 13), (.mov (.tmp 7)), .none⟩, ⟨(.some 14), (.cmpI .neq (.tmp 13) (.const (.int .i64 0))), .none⟩]
def p23_5 : List PO := [⟨(.some 15), (.mov (.tmp 7)), .none⟩, ⟨(.some 4), (.nilS 39 2), .none⟩, ⟨(.some 5), (.mov (.tmp 15)), .none⟩]
def p23_6 : List PO := [⟨(.some 16), (.mov (.tmp 6)), .none⟩, ⟨(.some 17), (.mov (.tmp 1)), .none⟩, ⟨(.some 18), (.callf 19 [(.tmp 16), (.tmp 17)]), .none⟩, ⟨(.some 19), (.ext (.tmp 18) 0), .none⟩, ⟨(.some 20), (.ext (.tmp 18) 1), .none⟩, ⟨(.some 4), (.mov (.tmp 19)), .none⟩, ⟨(.some 5), (.mov (.tmp 20)), .none⟩]
def c23_1 : PCode := (.keep [1, 6] [(88, .id 88)] [] (.seq (.reg p23_6) .ret))
def c23_b : PCode := (.seq (.reg p23_2) (.seq (.reg p23_3) (.seq (.seq (.reg p23_4) (.cond (.tmp 14) (.seq (.reg p23_5) .ret) .skip)) c23_1)))
def c23 : FCode := ⟨21, c23_b, [(.tmp 4), (.tmp 5)], some ([4, 5], [(201, (.slot 4 none))], []), false⟩
theorem c23_ok : compF Go.Proofs.Try.prog [100019, 100021, 100023, 100025] 23 = some (eraseF c23) := by kernel_rfl
def p7_4 : List PO := [⟨(.some 6), (.mov (.const (.bool .false))), .none⟩]
def p7_5 : List PO := [⟨(.some 18), (.mov (.tmp 0)), .none⟩, ⟨(.some 19), (.mov (.tmp 1)), .none⟩, ⟨(.some 20), (.callf 19 [(.tmp 18), (.tmp 19)]), .none⟩, ⟨(.some 17), (.mov (.tmp 20)), .none⟩, ⟨(.some 21), (.ext (.tmp 17) 0), .none⟩, ⟨(.some 22), (.ext (.tmp 17) 1), .none⟩, ⟨(.some 7), (.mov (.tmp 21)), .none⟩, ⟨(.some 8), (.mov (.tmp 22)), .none⟩]
def p7_6 : List PO := [⟨(.some 24), (.mov (.tmp 7)), .none⟩, ⟨(.some 25), (.mov (.tmp 2)), .none⟩, ⟨(.some 26), (.callf 23 [(.tmp 24), (.tmp 25)]), .none⟩, ⟨(.some 23), (.mov (.tmp 26)), .none⟩, ⟨(.some 27), (.ext (.tmp 23) 0), .none⟩, ⟨(.some 28), (.ext (.tmp 23) 1), .none⟩, ⟨(.some 9), (.mov (.tmp 27)), .none⟩, ⟨(.some 10), (.mov (.tmp 28)), .none⟩]
def p7_7 : List PO := [⟨(.some 29), (.call 20 []), .none⟩, ⟨(.some 30), (.un .not (.tmp 29)), .none⟩, ⟨(.some 31), (.mov (.tmp 30)), .none⟩, ⟨(.some 32), (.mov (.tmp 8)), (.some (31, .false))⟩, ⟨(.some 33), (.cmpI .neq (.tmp 32) (.const (.int .i64 0))), (.some (31, .false))⟩, ⟨(.some 34), (.pick (.tmp 31) (.const (.bool .true)) (.tmp 33)), .none⟩, ⟨(.some 35), (.mov (.tmp 34)), .none⟩, ⟨(.some 36), (.mov (.tmp 10)), (.some (35, .false))⟩, ⟨(.some 37), (.cmpI .neq (.tmp 36) (.const (.int .i64 0))), (.some (35, .false))⟩, ⟨(.some 38), (.pick (.tmp 35) (.const (.bool .true)) (.tmp 37)), .none⟩]
def p7_8 : List PO := [⟨(.some 39), (.call 20 []), .none⟩, ⟨(.some 6), (.mov (.tmp 39)), .none⟩]
def p7_9 : List PO := [⟨(.some 41), (.mov (.tmp 0)), .none⟩, ⟨(.some 42), (.mov (.tmp 2)), .none⟩, ⟨(.some 43), (.callf 19 [(.tmp 41), (.tmp 42)]), .none⟩, ⟨(.some 40), (.mov (.tmp 43)), .none⟩, ⟨(.some 44), (.ext (.tmp 40) 0), .none⟩, ⟨(.some 45), (.ext (.tmp 40) 1), .none⟩, ⟨(.some 11), (.mov (.tmp 44)), .none⟩, ⟨(.some 12), (.mov (.tmp 45)), .none⟩]
def p7_10 : List PO := [⟨(.some 47), (.mov (.tmp 9)), .none⟩, ⟨(.some 48), (.mov (.tmp 1)), .none⟩, ⟨(.some 49), (.callf 23 [(.tmp 47), (.tmp 48)]), .none⟩, ⟨(.some 46), (.mov (.tmp 49)), .none⟩, ⟨(.some 50), (.ext (.tmp 46) 0), .none⟩, ⟨(.some 51), (.ext (.tmp 46) 1), .none⟩, ⟨(.some 13), (.mov (.tmp 50)), .none⟩, ⟨(.some 14), (.mov (.tmp 51)), .none⟩]
def p7_11 : List PO := [⟨(.some 53), (.mov (.tmp 7)), .none⟩, ⟨(.some 54), (.mov (.tmp 1)), .none⟩, ⟨(.some 55), (.callf 23 [(.tmp 53), (.tmp 54)]), .none⟩, ⟨(.some 52), (.mov (.tmp 55)), .none⟩, ⟨(.some 56), (.ext (.tmp 52) 0), .none⟩, ⟨(.some 57), (.ext (.tmp 52) 1), .none⟩, ⟨(.some 15), (.mov (.tmp 56)), .none⟩, ⟨(.some 16), (.mov (.tmp 57)), .none⟩]
def p7_12 : List PO := [⟨(.some 58), (.mov (.tmp 12)), .none⟩, ⟨(.some 59), (.cmpI .eql (.tmp 58) (.const (.int .i64 0))), .none⟩, ⟨(.some 60), (.mov (.tmp 59)), .none⟩, ⟨(.some 61), (.mov (.tmp 14)), (.some (60, .true))⟩, ⟨(.some 62), (.cmpI .eql (.tmp 61) (.const (.int .i64 0))), (.some (60, .true))⟩, ⟨(.some 63), (.pick (.tmp 60) (.tmp 62) (.const (.bool .false))), .none⟩, ⟨(.some 64), (.mov (.tmp 63)), .none⟩, ⟨(.some 65), (.mov (.tmp 16)), (.some (64, .true))⟩, ⟨(.some 66), (.cmpI .eql (.tmp 65) (.const (.int .i64 0))), (.some (64, .true))⟩, ⟨(.some 67), (.pick (.tmp 64) (.tmp 66) (.const (.bool .false))), .none⟩, ⟨(.some 68), (.mov (.tmp 67)), .none⟩, ⟨(.some 69), (.mov (.tmp 9)), (.some (68, .true))⟩, ⟨(.some 70), (.mov (.tmp 11)), (.some (68, .true))⟩, ⟨(.some 71), (.call 24 [(.tmp 69), (.tmp 70)]), (.some (68, .true))⟩, ⟨(.some 72), (.pick (.tmp 68) (.tmp 71) (.const (.bool .false))), .none⟩, ⟨(.some 73), (.mov (.tmp 72)), .none⟩, ⟨(.some 74), (.mov (.tmp 13)), (.some (73, .true))⟩, ⟨(.some 75), (.mov (.tmp 7)), (.some (73, .true))⟩, ⟨(.some 76), (.call 24 [(.tmp 74), (.tmp 75)]), (.some (73, .true))⟩, ⟨(.some 77), (.pick (.tmp 73) (.tmp 76) (.const (.bool .false))), .none⟩, ⟨(.some 78), (.mov (.tmp 77)), .none⟩, ⟨(.some 79), (.mov (.tmp 15)), (.some (78, .true))⟩, ⟨(.some 80), (.mov (.tmp 7)), (.some (78, .true))⟩, ⟨(.some 81), (.call 24 [(.tmp 79), (.tmp 80)]), (.some (78, .true))⟩, ⟨(.some 82), (.pick (.tmp 78) (.tmp 81) (.const (.bool .false))), .none⟩, ⟨(.some 6), (.mov (.tmp 82)), .none⟩]
def c7_1 : PCode := (.keep [1, 7, 9, 11, 12] [(352, .id 352)] [] (.seq (.reg p7_10) (.seq (.reg p7_11) (.seq (.reg p7_12) .ret))))
def c7_2 : PCode := (.keep [0, 1, 2, 7, 9] [(216, .id 216)] [] (.seq (.reg p7_9) c7_1))
def c7_3 : PCode := (.keep [0, 1, 2, 7, 8] [] [] (.seq (.reg p7_6) (.seq (.seq (.reg p7_7) (.cond (.tmp 38) (.seq (.reg p7_8) .ret) .skip)) c7_2)))
def c7_b : PCode := (.seq (.reg p7_4) (.seq (.reg p7_5) c7_3))
def c7 : FCode := ⟨83, c7_b, [(.tmp 6)], some ([6], [], []), false⟩
theorem c7_ok : compF Go.Proofs.Try.prog [100019, 100021, 100023, 100025] 7 = some (eraseF c7) := by kernel_rfl
def codes : Nat → Option FCode
  | 5 => some c5
  | 6 => some c6
  | 7 => some c7
  | 14 => some c14
  | 15 => some c15
  | 16 => some c16
  | 17 => some c17
  | 18 => some c18
  | 19 => some c19
  | 20 => some c20
  | 21 => some c21
  | 22 => some c22
  | 23 => some c23
  | 24 => some c24
  | 35 => some c35
  | 36 => some c36
  | 37 => some c37
  | 38 => some c38
  | 39 => some c39
  | 40 => some c40
  | _ => none
theorem codes_ok : ∀ f fc, codes f = some fc → compF Go.Proofs.Try.prog [100019, 100021, 100023, 100025] f = some (eraseF fc) := by
  intro f fc h
  unfold codes at h
  split at h
  · cases h; exact c5_ok
  · cases h; exact c6_ok
  · cases h; exact c7_ok
  · cases h; exact c14_ok
  · cases h; exact c15_ok
  · cases h; exact c16_ok
  · cases h; exact c17_ok
  · cases h; exact c18_ok
  · cases h; exact c19_ok
  · cases h; exact c20_ok
  · cases h; exact c21_ok
  · cases h; exact c22_ok
  · cases h; exact c23_ok
  · cases h; exact c24_ok
  · cases h; exact c35_ok
  · cases h; exact c36_ok
  · cases h; exact c37_ok
  · cases h; exact c38_ok
  · cases h; exact c39_ok
  · cases h; exact c40_ok
  · cases h
theorem codes5 : codes 5 = some c5 := rfl
theorem codes6 : codes 6 = some c6 := rfl
theorem codes7 : codes 7 = some c7 := rfl
theorem codes14 : codes 14 = some c14 := rfl
theorem codes15 : codes 15 = some c15 := rfl
theorem codes16 : codes 16 = some c16 := rfl
theorem codes17 : codes 17 = some c17 := rfl
theorem codes18 : codes 18 = some c18 := rfl
theorem codes19 : codes 19 = some c19 := rfl
theorem codes20 : codes 20 = some c20 := rfl
theorem codes21 : codes 21 = some c21 := rfl
theorem codes22 : codes 22 = some c22 := rfl
theorem codes23 : codes 23 = some c23 := rfl
theorem codes24 : codes 24 = some c24 := rfl
theorem codes35 : codes 35 = some c35 := rfl
theorem codes36 : codes 36 = some c36 := rfl
theorem codes37 : codes 37 = some c37 := rfl
theorem codes38 : codes 38 = some c38 := rfl
theorem codes39 : codes 39 = some c39 := rfl
theorem codes40 : codes 40 = some c40 := rfl
end Go.Proofs.Ytepegjihlppkcaa.Pm
