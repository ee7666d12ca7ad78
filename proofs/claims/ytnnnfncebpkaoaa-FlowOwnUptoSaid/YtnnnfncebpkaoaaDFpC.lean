/- The small machine's codes of some functions. Printed by dec.py. -/
import Derived.Test.YtnnnfncebpkaoaaPa
import Derived.Test.YtnnnfncebpkaoaaProg
namespace Go.Proofs.Ytnnnfncebpkaoaa.Pm
set_option maxRecDepth 1000000
set_option maxHeartbeats 20000000
set_option linter.unusedVariables false
structure GRow where
  Runes : List Int
  Soft : Bool
def e_GRow : Enc GRow := ⟨2, fun x => [.sl x.Runes.length ((eInt .i64).cells x.Runes), .bool x.Soft], fun _ => rfl⟩
def e_A50 : Enc (Int × Int) := ⟨2, fun x => [.int .i64 x.1, .int .i64 x.2], fun _ => rfl⟩
def p9_1 : List PO := [⟨(.some 2), (.nilS 3 1), .none⟩]
def p9_2 : List PO := [⟨(.some 3), (.mov (.tmp 0)), .none⟩, ⟨(.some 4), (.isN .false (.tmp 3)), .none⟩]
def p9_3 : List PO := [⟨(.some 2), (.nilS 3 1), .none⟩]
def p9_4 : List PO := [⟨(.some 5), (.bsl 3 1 0 [] []), .none⟩, ⟨(.some 6), (.mov (.tmp 0)), .none⟩, ⟨(.some 7), (.app 3 1 8 (.tmp 5) (.tmp 6)), .none⟩, ⟨(.some 2), (.mov (.tmp 7)), .none⟩]
def c9_b : PCode := (.seq (.reg p9_1) (.seq (.seq (.reg p9_2) (.cond (.tmp 4) (.seq (.reg p9_3) .ret) .skip)) (.seq (.reg p9_4) .ret)))
def c9 : FCode := ⟨8, c9_b, [(.tmp 2)], some ([2], [(97, (.slot 2 none))], []), true⟩
theorem c9_ok : compF Go.Proofs.Try.prog [100005, 100007, 100010, 100012] 9 = some (eraseF c9) := by kernel_rfl
def p22_4 : List PO := [⟨(.some 4), (.mov (.const (.bool .false))), .none⟩]
def p22_5 : List PO := [⟨(.some 7), (.mov (.tmp 1)), .none⟩, ⟨(.some 8), (.len .false (.tmp 7)), .none⟩, ⟨(.some 9), (.mov (.const (.int .i64 0))), .none⟩]
def p22_6 : List PO := [⟨(.some 10), (.cmpI .lss (.tmp 9) (.tmp 8)), .none⟩]
def p22_7 : List PO := [⟨(.some 11), (.ixS 50 2 (.tmp 7) (.tmp 9)), .none⟩, ⟨(.some 12), (.load .true 2 (.tmp 11)), .none⟩, ⟨(.some 6), (.alloc [(2, (.int .i64 0))]), .none⟩, ⟨.none, (.store 2 (.tmp 6) (.tmp 12)), .none⟩]
def p22_8 : List PO := [⟨(.some 13), (.mov (.tmp 0)), .none⟩, ⟨(.some 14), (.ixA 2 1 (.tmp 6) (.const (.int .i64 0))), .none⟩, ⟨(.some 15), (.load .false 1 (.tmp 14)), .none⟩, ⟨(.some 16), (.cmpI .geq (.tmp 13) (.tmp 15)), .none⟩, ⟨(.some 17), (.mov (.tmp 16)), .none⟩, ⟨(.some 18), (.mov (.tmp 0)), (.some (17, .true))⟩, ⟨(.some 19), (.ixA 2 1 (.tmp 6) (.const (.int .i64 1))), (.some (17, .true))⟩, ⟨(.some 20), (.load .false 1 (.tmp 19)), (.some (17, .true))⟩, ⟨(.some 21), (.cmpI .leq (.tmp 18) (.tmp 20)), (.some (17, .true))⟩, ⟨(.some 22), (.pick (.tmp 17) (.tmp 21) (.const (.bool .false))), .none⟩]
def p22_9 : List PO := [⟨(.some 4), (.mov (.const (.bool .true))), .none⟩]
def p22_10 : List PO := [⟨(.some 23), (.arI .add (.tmp 9) (.const (.int .i64 1))), .none⟩, ⟨(.some 9), (.mov (.tmp 23)), .none⟩]
def c22_1 : PCode := (.keep [0, 7, 8, 9] [] [] (.seq (.block 1 (.seq (.reg p22_7) (.seq (.reg p22_8) (.cond (.tmp 22) (.seq (.reg p22_9) .ret) .skip)))) (.reg p22_10)))
def c22_2 : PCode := (.keep [0, 7, 8, 9, 10] [] [] (.seq (.cond (.tmp 10) .skip (.keep [] [] [] (.exit 0))) c22_1))
def c22_3 : PCode := (.keep [0, 7, 8, 9] [] [] (.seq (.reg p22_6) c22_2))
def p22_11 : List PO := [⟨(.some 4), (.mov (.const (.bool .false))), .none⟩]
def c22_b : PCode := (.seq (.reg p22_4) (.seq (.seq (.reg p22_5) (.block 0 (.loop c22_3))) (.seq (.reg p22_11) .ret)))
def c22 : FCode := ⟨24, c22_b, [(.tmp 4)], some ([4], [], []), false⟩
theorem c22_ok : compF Go.Proofs.Try.prog [100005, 100007, 100010, 100012] 22 = some (eraseF c22) := by kernel_rfl
def p21_3 : List PO := [⟨(.some 2), (.mov (.const (.int .i64 0))), .none⟩]
def p21_4 : List PO := [⟨(.some 5), (.build [(2, (.int .i64 0))] [(0, (1, (.const (.int .i64 0)))), (1, (1, (.const (.int .i64 31))))]), .none⟩, ⟨(.some 6), (.build [(2, (.int .i64 0))] [(0, (1, (.const (.int .i64 127)))), (1, (1, (.const (.int .i64 159))))]), .none⟩, ⟨(.some 7), (.build [(2, (.int .i64 0))] [(0, (1, (.const (.int .i64 768)))), (1, (1, (.const (.int .i64 879))))]), .none⟩, ⟨(.some 8), (.build [(2, (.int .i64 0))] [(0, (1, (.const (.int .i64 8203)))), (1, (1, (.const (.int .i64 8207))))]), .none⟩, ⟨(.some 9), (.build [(2, (.int .i64 0))] [(0, (1, (.const (.int .i64 55296)))), (1, (1, (.const (.int .i64 57343))))]), .none⟩, ⟨(.some 10), (.build [(2, (.int .i64 0))] [(0, (1, (.const (.int .i64 65024)))), (1, (1, (.const (.int .i64 65039))))]), .none⟩, ⟨(.some 11), (.build [(12, (.int .i64 0))] [(0, (2, (.tmp 5))), (2, (2, (.tmp 6))), (4, (2, (.tmp 7))), (6, (2, (.tmp 8))), (8, (2, (.tmp 9))), (10, (2, (.tmp 10)))]), .none⟩, ⟨(.some 3), (.alloc [(12, (.int .i64 0))]), .none⟩, ⟨.none, (.store 12 (.tmp 3) (.tmp 11)), .none⟩]
def p21_5 : List PO := [⟨(.some 12), (.build [(2, (.int .i64 0))] [(0, (1, (.const (.int .i64 4352)))), (1, (1, (.const (.int .i64 4447))))]), .none⟩, ⟨(.some 13), (.build [(2, (.int .i64 0))] [(0, (1, (.const (.int .i64 11904)))), (1, (1, (.const (.int .i64 12350))))]), .none⟩, ⟨(.some 14), (.build [(2, (.int .i64 0))] [(0, (1, (.const (.int .i64 12353)))), (1, (1, (.const (.int .i64 19903))))]), .none⟩, ⟨(.some 15), (.build [(2, (.int .i64 0))] [(0, (1, (.const (.int .i64 19968)))), (1, (1, (.const (.int .i64 42191))))]), .none⟩, ⟨(.some 16), (.build [(2, (.int .i64 0))] [(0, (1, (.const (.int .i64 44032)))), (1, (1, (.const (.int .i64 55203))))]), .none⟩, ⟨(.some 17), (.build [(2, (.int .i64 0))] [(0, (1, (.const (.int .i64 63744)))), (1, (1, (.const (.int .i64 64255))))]), .none⟩, ⟨(.some 18), (.build [(2, (.int .i64 0))] [(0, (1, (.const (.int .i64 65072)))), (1, (1, (.const (.int .i64 65135))))]), .none⟩, ⟨(.some 19), (.build [(2, (.int .i64 0))] [(0, (1, (.const (.int .i64 65280)))), (1, (1, (.const (.int .i64 65376))))]), .none⟩, ⟨(.some 20), (.build [(2, (.int .i64 0))] [(0, (1, (.const (.int .i64 65504)))), (1, (1, (.const (.int .i64 65510))))]), .none⟩, ⟨(.some 21), (.build [(2, (.int .i64 0))] [(0, (1, (.const (.int .i64 127744)))), (1, (1, (.const (.int .i64 128591))))]), .none⟩, ⟨(.some 22), (.build [(2, (.int .i64 0))] [(0, (1, (.const (.int .i64 129280)))), (1, (1, (.const (.int .i64 129535))))]), .none⟩, ⟨(.some 23), (.build [(2, (.int .i64 0))] [(0, (1, (.const (.int .i64 131072)))), (1, (1, (.const (.int .i64 262141))))]), .none⟩, ⟨(.some 24), (.build [(24, (.int .i64 0))] [(0, (2, (.tmp 12))), (2, (2, (.tmp 13))), (4, (2, (.tmp 14))), (6, (2, (.tmp 15))), (8, (2, (.tmp 16))), (10, (2, (.tmp 17))), (12, (2, (.tmp 18))), (14, (2, (.tmp 19))), (16, (2, (.tmp 20))), (18, (2, (.tmp 21))), (20, (2, (.tmp 22))), (22, (2, (.tmp 23)))]), .none⟩, ⟨(.some 4), (.alloc [(24, (.int .i64 0))]), .none⟩, ⟨.none, (.store 24 (.tmp 4) (.tmp 24)), .none⟩]
def p21_6 : List PO := [⟨(.some 26), (.mov (.tmp 0)), .none⟩, ⟨(.some 27), (.cmpI .lss (.tmp 26) (.const (.int .i64 0))), .none⟩, ⟨(.some 28), (.mov (.tmp 27)), .none⟩, ⟨(.some 29), (.mov (.tmp 0)), (.some (28, .false))⟩, ⟨(.some 30), (.cmpI .gtr (.tmp 29) (.const (.int .i64 1114111))), (.some (28, .false))⟩, ⟨(.some 31), (.pick (.tmp 28) (.const (.bool .true)) (.tmp 30)), .none⟩, ⟨(.some 32), (.mov (.tmp 31)), .none⟩, ⟨(.some 33), (.mov (.tmp 0)), (.some (32, .false))⟩, ⟨(.some 34), (.slA 6 2 (.tmp 3) .none .none), (.some (32, .false))⟩, ⟨(.some 35), (.call 22 [(.tmp 33), (.tmp 34)]), (.some (32, .false))⟩, ⟨(.some 36), (.pick (.tmp 32) (.const (.bool .true)) (.tmp 35)), .none⟩, ⟨(.some 25), (.mov (.tmp 36)), .none⟩]
def p21_7 : List PO := [⟨(.some 2), (.mov (.const (.int .i64 0))), .none⟩]
def p21_8 : List PO := [⟨(.some 38), (.mov (.tmp 0)), .none⟩, ⟨(.some 39), (.slA 12 2 (.tmp 4) .none .none), .none⟩, ⟨(.some 40), (.call 22 [(.tmp 38), (.tmp 39)]), .none⟩, ⟨(.some 37), (.mov (.tmp 40)), .none⟩]
def p21_9 : List PO := [⟨(.some 2), (.mov (.const (.int .i64 2))), .none⟩]
def c21_1 : PCode := (.keep [0, 4, 25] [(40, .id 40)] [] (.cond (.tmp 25) (.seq (.reg p21_7) .ret) (.seq (.reg p21_8) (.cond (.tmp 37) (.seq (.reg p21_9) .ret) .skip))))
def p21_10 : List PO := [⟨(.some 2), (.mov (.const (.int .i64 1))), .none⟩]
def c21_2 : PCode := (.seq (.reg p21_10) .ret)
def c21_b : PCode := (.seq (.reg p21_3) (.seq (.reg p21_4) (.seq (.reg p21_5) (.seq (.block 0 (.seq (.reg p21_6) c21_1)) c21_2))))
def c21 : FCode := ⟨41, c21_b, [(.tmp 2)], some ([2], [], []), false⟩
theorem c21_ok : compF Go.Proofs.Try.prog [100005, 100007, 100010, 100012] 21 = some (eraseF c21) := by kernel_rfl
def p20_4 : List PO := [⟨(.some 4), (.mov (.const (.int .i64 0))), .none⟩, ⟨(.some 5), (.mov (.const (.int .i64 0))), .none⟩]
def p20_5 : List PO := [⟨(.some 6), (.mov (.const (.int .i64 0))), .none⟩]
def p20_6 : List PO := [⟨(.some 9), (.mov (.tmp 0)), .none⟩, ⟨(.some 10), (.len .false (.tmp 9)), .none⟩, ⟨(.some 11), (.mov (.const (.int .i64 0))), .none⟩]
def p20_7 : List PO := [⟨(.some 12), (.cmpI .lss (.tmp 11) (.tmp 10)), .none⟩]
def p20_8 : List PO := [⟨(.some 13), (.mov (.tmp 11)), .none⟩, ⟨(.some 14), (.ixS 3 1 (.tmp 9) (.tmp 11)), .none⟩, ⟨(.some 15), (.load .false 1 (.tmp 14)), .none⟩, ⟨(.some 7), (.mov (.tmp 13)), .none⟩, ⟨(.some 8), (.mov (.tmp 15)), .none⟩]
def p20_9 : List PO := [⟨(.some 16), (.mov (.tmp 6)), .none⟩, ⟨(.some 17), (.mov (.tmp 8)), .none⟩, ⟨(.some 18), (.call 21 [(.tmp 17)]), .none⟩, ⟨(.some 19), (.arI .add (.tmp 16) (.tmp 18)), .none⟩, ⟨(.some 20), (.mov (.tmp 1)), .none⟩, ⟨(.some 21), (.cmpI .gtr (.tmp 19) (.tmp 20)), .none⟩]
def p20_10 : List PO := [⟨(.some 22), (.mov (.tmp 7)), .none⟩, ⟨(.some 23), (.mov (.tmp 6)), .none⟩, ⟨(.some 4), (.mov (.tmp 22)), .none⟩, ⟨(.some 5), (.mov (.tmp 23)), .none⟩]
def p20_11 : List PO := [⟨(.some 24), (.mov (.tmp 6)), .none⟩, ⟨(.some 25), (.mov (.tmp 8)), .none⟩, ⟨(.some 26), (.call 21 [(.tmp 25)]), .none⟩, ⟨(.some 27), (.arI .add (.tmp 24) (.tmp 26)), .none⟩, ⟨(.some 6), (.mov (.tmp 27)), .none⟩]
def p20_12 : List PO := [⟨(.some 28), (.arI .add (.tmp 11) (.const (.int .i64 1))), .none⟩, ⟨(.some 11), (.mov (.tmp 28)), .none⟩]
def c20_1 : PCode := (.keep [0, 1, 6, 9, 10, 11] [] [] (.seq (.block 1 (.seq (.reg p20_8) (.seq (.seq (.reg p20_9) (.cond (.tmp 21) (.seq (.reg p20_10) .ret) .skip)) (.reg p20_11)))) (.reg p20_12)))
def c20_2 : PCode := (.keep [0, 1, 6, 9, 10, 11, 12] [] [] (.seq (.cond (.tmp 12) .skip (.keep [0, 6] [] [] (.exit 0))) c20_1))
def c20_3 : PCode := (.keep [0, 1, 6, 9, 10, 11] [] [] (.seq (.reg p20_7) c20_2))
def p20_13 : List PO := [⟨(.some 29), (.mov (.tmp 0)), .none⟩, ⟨(.some 30), (.len .false (.tmp 29)), .none⟩, ⟨(.some 31), (.mov (.tmp 6)), .none⟩, ⟨(.some 4), (.mov (.tmp 30)), .none⟩, ⟨(.some 5), (.mov (.tmp 31)), .none⟩]
def c20_b : PCode := (.seq (.reg p20_4) (.seq (.reg p20_5) (.seq (.seq (.reg p20_6) (.block 0 (.loop c20_3))) (.seq (.reg p20_13) .ret))))
def c20 : FCode := ⟨32, c20_b, [(.tmp 4), (.tmp 5)], some ([4, 5], [], []), false⟩
theorem c20_ok : compF Go.Proofs.Try.prog [100005, 100007, 100010, 100012] 20 = some (eraseF c20) := by kernel_rfl
def p14_2 : List PO := [⟨(.some 4), (.nilS 3 1), .none⟩, ⟨(.some 5), (.nilS 3 1), .none⟩, ⟨(.some 6), (.mov (.const (.int .i64 0))), .none⟩]
def p14_3 : List PO := [⟨(.some 9), (.mov (.tmp 1)), .none⟩, ⟨(.some 10), (.cmpI .lss (.tmp 9) (.const (.int .i64 0))), .none⟩, ⟨(.some 11), (.mov (.tmp 10)), .none⟩, ⟨(.some 12), (.mov (.tmp 1)), (.some (11, .false))⟩, ⟨(.some 13), (.cmpI .gtr (.tmp 12) (.const (.int .i64 160))), (.some (11, .false))⟩, ⟨(.some 14), (.pick (.tmp 11) (.const (.bool .true)) (.tmp 13)), .none⟩]
def p14_4 : List PO := [⟨(.some 4), (.nilS 3 1), .none⟩, ⟨(.some 5), (.nilS 3 1), .none⟩, ⟨(.some 6), (.mov (.const (.int .i64 1))), .none⟩]
def p14_5 : List PO := [⟨(.some 16), (.mov (.tmp 0)), .none⟩, ⟨(.some 17), (.mov (.tmp 1)), .none⟩, ⟨(.some 18), (.call 20 [(.tmp 16), (.tmp 17)]), .none⟩, ⟨(.some 15), (.mov (.tmp 18)), .none⟩, ⟨(.some 19), (.ext (.tmp 15) 0), .none⟩, ⟨(.some 20), (.ext (.tmp 15) 1), .none⟩, ⟨(.some 7), (.mov (.tmp 19)), .none⟩, ⟨(.some 8), (.mov (.tmp 20)), .none⟩]
def p14_6 : List PO := [⟨(.some 21), (.mov (.tmp 0)), .none⟩, ⟨(.some 22), (.mov (.tmp 7)), .none⟩, ⟨(.some 23), (.slS 3 1 (.tmp 21) .none (.some (.tmp 22))), .none⟩, ⟨(.some 24), (.app 3 1 8 (.const (.slice .none 0 0)) (.tmp 23)), .none⟩, ⟨(.some 25), (.mov (.tmp 0)), .none⟩, ⟨(.some 26), (.mov (.tmp 7)), .none⟩, ⟨(.some 27), (.slS 3 1 (.tmp 25) (.some (.tmp 26)) .none), .none⟩, ⟨(.some 28), (.app 3 1 8 (.const (.slice .none 0 0)) (.tmp 27)), .none⟩, ⟨(.some 4), (.mov (.tmp 24)), .none⟩, ⟨(.some 5), (.mov (.tmp 28)), .none⟩, ⟨(.some 6), (.mov (.const (.int .i64 0))), .none⟩]
def c14_1 : PCode := (.keep [0, 1] [] [] (.seq (.reg p14_5) (.seq (.regD p14_6 [(3, 6)]) .ret)))
def c14_b : PCode := (.seq (.reg p14_2) (.seq (.seq (.reg p14_3) (.cond (.tmp 14) (.seq (.reg p14_4) .ret) .skip)) c14_1))
def c14 : FCode := ⟨29, c14_b, [(.tmp 4), (.tmp 5), (.tmp 6)], some ([4, 5, 6], [(265, (.slot 4 none)), (266, (.slot 5 none))], []), false⟩
theorem c14_ok : compF Go.Proofs.Try.prog [100005, 100007, 100010, 100012] 14 = some (eraseF c14) := by kernel_rfl
def p5_12 : List PO := [⟨(.some 4), (.nilS 35 2), .none⟩, ⟨(.some 5), (.mov (.const (.int .i64 0))), .none⟩]
def p5_13 : List PO := [⟨(.some 15), (.mov (.tmp 1)), .none⟩, ⟨(.some 16), (.cmpI .lss (.tmp 15) (.const (.int .i64 2))), .none⟩, ⟨(.some 17), (.mov (.tmp 16)), .none⟩, ⟨(.some 18), (.mov (.tmp 1)), (.some (17, .false))⟩, ⟨(.some 19), (.cmpI .gtr (.tmp 18) (.const (.int .i64 160))), (.some (17, .false))⟩, ⟨(.some 20), (.pick (.tmp 17) (.const (.bool .true)) (.tmp 19)), .none⟩]
def p5_14 : List PO := [⟨(.some 4), (.nilS 35 2), .none⟩, ⟨(.some 5), (.mov (.const (.int .i64 1))), .none⟩]
def p5_15 : List PO := [⟨(.some 6), (.mov (.const (.int .i64 0))), .none⟩]
def p5_16 : List PO := [⟨(.some 21), (.mov (.tmp 0)), .none⟩, ⟨(.some 22), (.len .false (.tmp 21)), .none⟩, ⟨(.some 23), (.mov (.const (.int .i64 0))), .none⟩]
def p5_17 : List PO := [⟨(.some 24), (.cmpI .lss (.tmp 23) (.tmp 22)), .none⟩]
def p5_18 : List PO := [⟨(.some 25), (.ixS 32 1 (.tmp 21) (.tmp 23)), .none⟩, ⟨(.some 26), (.load .false 1 (.tmp 25)), .none⟩, ⟨(.some 8), (.mov (.tmp 26)), .none⟩]
def p5_19 : List PO := [⟨(.some 27), (.mov (.tmp 6)), .none⟩, ⟨(.some 28), (.mov (.tmp 8)), .none⟩, ⟨(.some 29), (.len .false (.tmp 28)), .none⟩, ⟨(.some 30), (.arI .add (.tmp 27) (.tmp 29)), .none⟩, ⟨(.some 6), (.mov (.tmp 30)), .none⟩]
def p5_20 : List PO := [⟨(.some 31), (.arI .add (.tmp 23) (.const (.int .i64 1))), .none⟩, ⟨(.some 23), (.mov (.tmp 31)), .none⟩]
def c5_8 : PCode := (.keep [0, 1, 6, 21, 22, 23] [] [] (.seq (.block 1 (.seq (.reg p5_18) (.reg p5_19))) (.reg p5_20)))
def c5_9 : PCode := (.keep [0, 1, 6, 21, 22, 23, 24] [] [] (.seq (.cond (.tmp 24) .skip (.keep [0, 1, 6] [] [] (.exit 0))) c5_8))
def c5_10 : PCode := (.keep [0, 1, 6, 21, 22, 23] [] [] (.seq (.reg p5_17) c5_9))
def p5_21 : List PO := [⟨(.some 32), (.mov (.tmp 0)), .none⟩, ⟨(.some 33), (.len .false (.tmp 32)), .none⟩, ⟨(.some 34), (.cmpI .gtr (.tmp 33) (.const (.int .i64 500))), .none⟩, ⟨(.some 35), (.mov (.tmp 34)), .none⟩, ⟨(.some 36), (.mov (.tmp 6)), (.some (35, .false))⟩, ⟨(.some 37), (.cmpI .gtr (.tmp 36) (.const (.int .i64 4000))), (.some (35, .false))⟩, ⟨(.some 38), (.pick (.tmp 35) (.const (.bool .true)) (.tmp 37)), .none⟩]
def p5_22 : List PO := [⟨(.some 4), (.nilS 35 2), .none⟩, ⟨(.some 5), (.mov (.const (.int .i64 2))), .none⟩]
def p5_23 : List PO := [⟨(.some 9), (.nilS 35 2), .none⟩]
def p5_24 : List PO := [⟨(.some 39), (.mov (.tmp 0)), .none⟩, ⟨(.some 40), (.len .false (.tmp 39)), .none⟩, ⟨(.some 41), (.mov (.const (.int .i64 0))), .none⟩]
def p5_25 : List PO := [⟨(.some 42), (.cmpI .lss (.tmp 41) (.tmp 40)), .none⟩]
def p5_26 : List PO := [⟨(.some 43), (.ixS 32 1 (.tmp 39) (.tmp 41)), .none⟩, ⟨(.some 44), (.load .false 1 (.tmp 43)), .none⟩, ⟨(.some 11), (.mov (.tmp 44)), .none⟩]
def p5_27 : List PO := [⟨(.some 46), (.mov (.tmp 11)), .none⟩, ⟨(.some 47), (.mov (.tmp 1)), .none⟩, ⟨(.some 48), (.call 14 [(.tmp 46), (.tmp 47)]), .none⟩, ⟨(.some 45), (.mov (.tmp 48)), .none⟩, ⟨(.some 49), (.ext (.tmp 45) 0), .none⟩, ⟨(.some 50), (.ext (.tmp 45) 1), .none⟩, ⟨(.some 51), (.ext (.tmp 45) 2), .none⟩, ⟨(.some 12), (.mov (.tmp 49)), .none⟩, ⟨(.some 13), (.mov (.tmp 50)), .none⟩, ⟨(.some 14), (.mov (.tmp 51)), .none⟩]
def p5_28 : List PO := [⟨(.some 52), (.mov (.tmp 9)), .none⟩, ⟨(.some 53), (.mov (.tmp 12)), .none⟩, ⟨(.some 54), (.mov (.tmp 13)), .none⟩, ⟨(.some 55), (.len .false (.tmp 54)), .none⟩, ⟨(.some 56), (.cmpI .gtr (.tmp 55) (.const (.int .i64 0))), .none⟩, ⟨(.some 57), (.build [(1, (.slice .none 0 0)), (1, (.bool .false))] [(0, (1, (.tmp 53))), (1, (1, (.tmp 56)))]), .none⟩, ⟨(.some 58), (.bsl 35 2 1 [(1, (.slice .none 0 0)), (1, (.bool .false))] [(0, (2, (.tmp 57)))]), .none⟩, ⟨(.some 59), (.app 35 2 32 (.tmp 52) (.tmp 58)), .none⟩, ⟨(.some 9), (.mov (.tmp 59)), .none⟩]
def p5_29 : List PO := [⟨(.some 60), (.mov (.tmp 13)), .none⟩, ⟨(.some 11), (.mov (.tmp 60)), .none⟩]
def p5_30 : List PO := [⟨(.some 61), (.mov (.tmp 11)), .none⟩, ⟨(.some 62), (.len .false (.tmp 61)), .none⟩, ⟨(.some 63), (.cmpI .eql (.tmp 62) (.const (.int .i64 0))), .none⟩]
def c5_1 : PCode := (.keep [1, 9, 13, 39, 40, 41] [(80, .id 80), (393, .id 393)] [] (.seq (.reg p5_29) (.seq (.reg p5_30) (.cond (.tmp 63) (.keep [1, 9, 39, 40, 41] [(80, .id 80)] [] (.exit 4)) .skip))))
def c5_2 : PCode := (.keep [1, 9, 11, 39, 40, 41] [(80, .id 80)] [] (.block 5 (.seq (.reg p5_27) (.seq (.reg p5_28) c5_1))))
def p5_31 : List PO := [⟨(.some 64), (.arI .add (.tmp 41) (.const (.int .i64 1))), .none⟩, ⟨(.some 41), (.mov (.tmp 64)), .none⟩]
def c5_3 : PCode := (.keep [1, 9, 39, 40, 41] [(80, .id 80)] [] (.seq (.block 3 (.seq (.reg p5_26) (.block 4 (.loop c5_2)))) (.reg p5_31)))
def c5_4 : PCode := (.keep [1, 9, 39, 40, 41, 42] [(80, .id 80)] [] (.seq (.cond (.tmp 42) .skip (.keep [9] [(80, .id 80)] [] (.exit 2))) c5_3))
def c5_5 : PCode := (.keep [1, 9, 39, 40, 41] [(80, .id 80)] [] (.seq (.reg p5_25) c5_4))
def p5_32 : List PO := [⟨(.some 65), (.mov (.tmp 9)), .none⟩, ⟨(.some 4), (.mov (.tmp 65)), .none⟩, ⟨(.some 5), (.mov (.const (.int .i64 0))), .none⟩]
def c5_6 : PCode := (.keep [0, 1] [] [] (.seq (.reg p5_23) (.seq (.seq (.reg p5_24) (.block 2 (.loop c5_5))) (.seq (.reg p5_32) .ret))))
def c5_7 : PCode := (.keep [0, 1, 6] [] [] (.seq (.seq (.reg p5_21) (.cond (.tmp 38) (.seq (.reg p5_22) .ret) .skip)) c5_6))
def c5_11 : PCode := (.keep [0, 1] [] [] (.seq (.reg p5_15) (.seq (.seq (.reg p5_16) (.block 0 (.loop c5_10))) c5_7)))
def c5_b : PCode := (.seq (.reg p5_12) (.seq (.seq (.reg p5_13) (.cond (.tmp 20) (.seq (.reg p5_14) .ret) .skip)) c5_11))
def c5 : FCode := ⟨66, c5_b, [(.tmp 4), (.tmp 5)], some ([4, 5], [(561, (.slot 4 none))], []), false⟩
theorem c5_ok : compF Go.Proofs.Try.prog [100005, 100007, 100010, 100012] 5 = some (eraseF c5) := by kernel_rfl
def p7_10 : List PO := [⟨(.some 2), (.nilS 32 1), .none⟩, ⟨(.some 3), (.mov (.const (.int .i64 0))), .none⟩]
def p7_11 : List PO := [⟨(.some 4), (.mov (.const (.int .i64 0))), .none⟩]
def p7_12 : List PO := [⟨(.some 11), (.mov (.tmp 0)), .none⟩, ⟨(.some 12), (.len .false (.tmp 11)), .none⟩, ⟨(.some 13), (.mov (.const (.int .i64 0))), .none⟩]
def p7_13 : List PO := [⟨(.some 14), (.cmpI .lss (.tmp 13) (.tmp 12)), .none⟩]
def p7_14 : List PO := [⟨(.some 15), (.ixS 35 2 (.tmp 11) (.tmp 13)), .none⟩, ⟨(.some 16), (.load .true 2 (.tmp 15)), .none⟩, ⟨(.some 6), (.alloc [(1, (.slice .none 0 0)), (1, (.bool .false))]), .none⟩, ⟨.none, (.store 2 (.tmp 6) (.tmp 16)), .none⟩]
def p7_15 : List PO := [⟨(.some 17), (.mov (.tmp 4)), .none⟩, ⟨(.some 18), (.fld 0 (.tmp 6)), .none⟩, ⟨(.some 19), (.load .false 1 (.tmp 18)), .none⟩, ⟨(.some 20), (.len .false (.tmp 19)), .none⟩, ⟨(.some 21), (.arI .add (.tmp 17) (.tmp 20)), .none⟩, ⟨(.some 4), (.mov (.tmp 21)), .none⟩]
def p7_16 : List PO := [⟨(.some 22), (.arI .add (.tmp 13) (.const (.int .i64 1))), .none⟩, ⟨(.some 13), (.mov (.tmp 22)), .none⟩]
def c7_7 : PCode := (.keep [0, 4, 11, 12, 13] [] [] (.seq (.block 1 (.seq (.reg p7_14) (.reg p7_15))) (.reg p7_16)))
def c7_8 : PCode := (.keep [0, 4, 11, 12, 13, 14] [] [] (.seq (.cond (.tmp 14) .skip (.keep [0, 4] [] [] (.exit 0))) c7_7))
def c7_9 : PCode := (.keep [0, 4, 11, 12, 13] [] [] (.seq (.reg p7_13) c7_8))
def p7_17 : List PO := [⟨(.some 23), (.mov (.tmp 0)), .none⟩, ⟨(.some 24), (.len .false (.tmp 23)), .none⟩, ⟨(.some 25), (.cmpI .gtr (.tmp 24) (.const (.int .i64 4500))), .none⟩, ⟨(.some 26), (.mov (.tmp 25)), .none⟩, ⟨(.some 27), (.mov (.tmp 4)), (.some (26, .false))⟩, ⟨(.some 28), (.cmpI .gtr (.tmp 27) (.const (.int .i64 4000))), (.some (26, .false))⟩, ⟨(.some 29), (.pick (.tmp 26) (.const (.bool .true)) (.tmp 28)), .none⟩]
def p7_18 : List PO := [⟨(.some 2), (.nilS 32 1), .none⟩, ⟨(.some 3), (.mov (.const (.int .i64 2))), .none⟩]
def p7_19 : List PO := [⟨(.some 30), (.mov (.tmp 0)), .none⟩, ⟨(.some 31), (.len .false (.tmp 30)), .none⟩, ⟨(.some 32), (.cmpI .gtr (.tmp 31) (.const (.int .i64 0))), .none⟩, ⟨(.some 33), (.mov (.tmp 32)), .none⟩, ⟨(.some 34), (.mov (.tmp 0)), (.some (33, .true))⟩, ⟨(.some 35), (.mov (.tmp 0)), (.some (33, .true))⟩, ⟨(.some 36), (.len .false (.tmp 35)), (.some (33, .true))⟩, ⟨(.some 37), (.arI .sub (.tmp 36) (.const (.int .i64 1))), (.some (33, .true))⟩, ⟨(.some 38), (.ixS 35 2 (.tmp 34) (.tmp 37)), (.some (33, .true))⟩, ⟨(.some 39), (.fld 1 (.tmp 38)), (.some (33, .true))⟩, ⟨(.some 40), (.load .false 1 (.tmp 39)), (.some (33, .true))⟩, ⟨(.some 41), (.pick (.tmp 33) (.tmp 40) (.const (.bool .false))), .none⟩]
def p7_20 : List PO := [⟨(.some 2), (.nilS 32 1), .none⟩, ⟨(.some 3), (.mov (.const (.int .i64 4))), .none⟩]
def p7_21 : List PO := [⟨(.some 7), (.nilS 32 1), .none⟩]
def p7_22 : List PO := [⟨(.some 8), (.nilS 3 1), .none⟩]
def p7_23 : List PO := [⟨(.some 42), (.mov (.tmp 0)), .none⟩, ⟨(.some 43), (.len .false (.tmp 42)), .none⟩, ⟨(.some 44), (.mov (.const (.int .i64 0))), .none⟩]
def p7_24 : List PO := [⟨(.some 45), (.cmpI .lss (.tmp 44) (.tmp 43)), .none⟩]
def p7_25 : List PO := [⟨(.some 46), (.ixS 35 2 (.tmp 42) (.tmp 44)), .none⟩, ⟨(.some 47), (.load .true 2 (.tmp 46)), .none⟩, ⟨(.some 10), (.alloc [(1, (.slice .none 0 0)), (1, (.bool .false))]), .none⟩, ⟨.none, (.store 2 (.tmp 10) (.tmp 47)), .none⟩]
def p7_26 : List PO := [⟨(.some 48), (.mov (.tmp 8)), .none⟩, ⟨(.some 49), (.fld 0 (.tmp 10)), .none⟩, ⟨(.some 50), (.load .false 1 (.tmp 49)), .none⟩, ⟨(.some 51), (.app 3 1 8 (.tmp 48) (.tmp 50)), .none⟩, ⟨(.some 8), (.mov (.tmp 51)), .none⟩]
def p7_27 : List PO := [⟨(.some 52), (.fld 1 (.tmp 10)), .none⟩, ⟨(.some 53), (.load .false 1 (.tmp 52)), .none⟩, ⟨(.some 54), (.un .not (.tmp 53)), .none⟩]
def p7_28 : List PO := [⟨(.some 55), (.mov (.tmp 7)), .none⟩, ⟨(.some 56), (.mov (.tmp 8)), .none⟩, ⟨(.some 57), (.call 9 [(.tmp 56)]), .none⟩, ⟨(.some 58), (.bsl 32 1 1 [(1, (.slice .none 0 0))] [(0, (1, (.tmp 57)))]), .none⟩, ⟨(.some 59), (.app 32 1 24 (.tmp 55) (.tmp 58)), .none⟩, ⟨(.some 7), (.mov (.tmp 59)), .none⟩]
def p7_29 : List PO := [⟨(.some 8), (.nilS 3 1), .none⟩]
def p7_30 : List PO := [⟨(.some 60), (.arI .add (.tmp 44) (.const (.int .i64 1))), .none⟩, ⟨(.some 44), (.mov (.tmp 60)), .none⟩]
def c7_1 : PCode := (.keep [7, 8, 42, 43, 44] [(64, .id 64), (72, .id 72)] [] (.seq (.block 3 (.seq (.reg p7_25) (.seq (.reg p7_26) (.seq (.reg p7_27) (.cond (.tmp 54) (.seq (.reg p7_28) (.reg p7_29)) .skip))))) (.reg p7_30)))
def c7_2 : PCode := (.keep [7, 8, 42, 43, 44, 45] [(64, .id 64), (72, .id 72)] [] (.seq (.cond (.tmp 45) .skip (.keep [7] [(64, .id 64)] [] (.exit 2))) c7_1))
def c7_3 : PCode := (.keep [7, 8, 42, 43, 44] [(64, .id 64), (72, .id 72)] [] (.seq (.reg p7_24) c7_2))
def p7_31 : List PO := [⟨(.some 61), (.mov (.tmp 7)), .none⟩, ⟨(.some 2), (.mov (.tmp 61)), .none⟩, ⟨(.some 3), (.mov (.const (.int .i64 0))), .none⟩]
def c7_4 : PCode := (.keep [0] [] [] (.seq (.reg p7_21) (.seq (.reg p7_22) (.seq (.seq (.reg p7_23) (.block 2 (.loop c7_3))) (.seq (.reg p7_31) .ret)))))
def c7_5 : PCode := (.keep [0] [] [] (.seq (.seq (.reg p7_19) (.cond (.tmp 41) (.seq (.reg p7_20) .ret) .skip)) c7_4))
def c7_6 : PCode := (.keep [0, 4] [] [] (.seq (.seq (.reg p7_17) (.cond (.tmp 29) (.seq (.reg p7_18) .ret) .skip)) c7_5))
def c7_b : PCode := (.seq (.reg p7_10) (.seq (.reg p7_11) (.seq (.seq (.reg p7_12) (.block 0 (.loop c7_9))) c7_6)))
def c7 : FCode := ⟨62, c7_b, [(.tmp 2), (.tmp 3)], some ([2, 3], [(529, (.slot 2 none))], []), false⟩
theorem c7_ok : compF Go.Proofs.Try.prog [100005, 100007, 100010, 100012] 7 = some (eraseF c7) := by kernel_rfl
def p10_2 : List PO := [⟨(.some 4), (.nilS 35 2), .none⟩, ⟨(.some 5), (.mov (.const (.int .i64 0))), .none⟩]
def p10_3 : List PO := [⟨(.some 9), (.mov (.tmp 0)), .none⟩, ⟨(.some 10), (.callf 7 [(.tmp 9)]), .none⟩, ⟨(.some 8), (.mov (.tmp 10)), .none⟩, ⟨(.some 11), (.ext (.tmp 8) 0), .none⟩, ⟨(.some 12), (.ext (.tmp 8) 1), .none⟩, ⟨(.some 6), (.mov (.tmp 11)), .none⟩, ⟨(.some 7), (.mov (.tmp 12)), .none⟩]
def p10_4 : List PO := [⟨(.some 13), (.mov (.tmp 7)), .none⟩, ⟨(.some 14), (.cmpI .neq (.tmp 13) (.const (.int .i64 0))), .none⟩]
def p10_5 : List PO := [⟨(.some 15), (.mov (.tmp 7)), .none⟩, ⟨(.some 4), (.nilS 35 2), .none⟩, ⟨(.some 5), (.mov (.tmp 15)), .none⟩]
def p10_6 : List PO := [⟨(.some 16), (.mov (.tmp 6)), .none⟩, ⟨(.some 17), (.mov (.tmp 1)), .none⟩, ⟨(.some 18), (.callf 5 [(.tmp 16), (.tmp 17)]), .none⟩, ⟨(.some 19), (.ext (.tmp 18) 0), .none⟩, ⟨(.some 20), (.ext (.tmp 18) 1), .none⟩, ⟨(.some 4), (.mov (.tmp 19)), .none⟩, ⟨(.some 5), (.mov (.tmp 20)), .none⟩]
def c10_1 : PCode := (.keep [1, 6] [(88, .id 88)] [] (.seq (.reg p10_6) .ret))
def c10_b : PCode := (.seq (.reg p10_2) (.seq (.reg p10_3) (.seq (.seq (.reg p10_4) (.cond (.tmp 14) (.seq (.reg p10_5) .ret) .skip)) c10_1)))
def c10 : FCode := ⟨21, c10_b, [(.tmp 4), (.tmp 5)], some ([4, 5], [(201, (.slot 4 none))], []), false⟩
theorem c10_ok : compF Go.Proofs.Try.prog [100005, 100007, 100010, 100012] 10 = some (eraseF c10) := by kernel_rfl
def p17_5 : List PO := [⟨(.some 4), (.mov (.const (.bool .false))), .none⟩]
def p17_6 : List PO := [⟨(.some 6), (.mov (.tmp 0)), .none⟩, ⟨(.some 7), (.len .false (.tmp 6)), .none⟩, ⟨(.some 8), (.mov (.tmp 1)), .none⟩, ⟨(.some 9), (.len .false (.tmp 8)), .none⟩, ⟨(.some 10), (.cmpI .neq (.tmp 7) (.tmp 9)), .none⟩]
def p17_7 : List PO := [⟨(.some 4), (.mov (.const (.bool .false))), .none⟩]
def p17_8 : List PO := [⟨(.some 11), (.mov (.tmp 0)), .none⟩, ⟨(.some 12), (.len .false (.tmp 11)), .none⟩, ⟨(.some 13), (.mov (.const (.int .i64 0))), .none⟩]
def p17_9 : List PO := [⟨(.some 14), (.cmpI .lss (.tmp 13) (.tmp 12)), .none⟩]
def p17_10 : List PO := [⟨(.some 15), (.mov (.tmp 13)), .none⟩, ⟨(.some 5), (.mov (.tmp 15)), .none⟩]
def p17_11 : List PO := [⟨(.some 16), (.mov (.tmp 0)), .none⟩, ⟨(.some 17), (.mov (.tmp 5)), .none⟩, ⟨(.some 18), (.ixS 3 1 (.tmp 16) (.tmp 17)), .none⟩, ⟨(.some 19), (.load .false 1 (.tmp 18)), .none⟩, ⟨(.some 20), (.mov (.tmp 1)), .none⟩, ⟨(.some 21), (.mov (.tmp 5)), .none⟩, ⟨(.some 22), (.ixS 3 1 (.tmp 20) (.tmp 21)), .none⟩, ⟨(.some 23), (.load .false 1 (.tmp 22)), .none⟩, ⟨(.some 24), (.cmpI .neq (.tmp 19) (.tmp 23)), .none⟩]
def p17_12 : List PO := [⟨(.some 4), (.mov (.const (.bool .false))), .none⟩]
def p17_13 : List PO := [⟨(.some 25), (.arI .add (.tmp 13) (.const (.int .i64 1))), .none⟩, ⟨(.some 13), (.mov (.tmp 25)), .none⟩]
def c17_1 : PCode := (.keep [0, 1, 12, 13] [] [] (.seq (.block 1 (.seq (.reg p17_10) (.seq (.regD p17_11 []) (.cond (.tmp 24) (.seq (.reg p17_12) .ret) .skip)))) (.reg p17_13)))
def c17_2 : PCode := (.keep [0, 1, 12, 13, 14] [] [] (.seq (.cond (.tmp 14) .skip (.keep [] [] [] (.exit 0))) c17_1))
def c17_3 : PCode := (.keep [0, 1, 12, 13] [] [] (.seq (.reg p17_9) c17_2))
def p17_14 : List PO := [⟨(.some 4), (.mov (.const (.bool .true))), .none⟩]
def c17_4 : PCode := (.keep [0, 1] [] [] (.seq (.seq (.reg p17_8) (.block 0 (.loop c17_3))) (.seq (.reg p17_14) .ret)))
def c17_b : PCode := (.seq (.reg p17_5) (.seq (.seq (.reg p17_6) (.cond (.tmp 10) (.seq (.reg p17_7) .ret) .skip)) c17_4))
def c17 : FCode := ⟨26, c17_b, [(.tmp 4)], some ([4], [], []), false⟩
theorem c17_ok : compF Go.Proofs.Try.prog [100005, 100007, 100010, 100012] 17 = some (eraseF c17) := by kernel_rfl
def p16_1 : List PO := [⟨(.some 4), (.mov (.const (.bool .false))), .none⟩]
def p16_2 : List PO := [⟨(.some 5), (.mov (.tmp 0)), .none⟩, ⟨(.some 6), (.mov (.tmp 1)), .none⟩, ⟨(.some 7), (.call 17 [(.tmp 5), (.tmp 6)]), .none⟩, ⟨(.some 4), (.mov (.tmp 7)), .none⟩]
def c16_b : PCode := (.seq (.reg p16_1) (.seq (.reg p16_2) .ret))
def c16 : FCode := ⟨8, c16_b, [(.tmp 4)], some ([4], [], []), false⟩
theorem c16_ok : compF Go.Proofs.Try.prog [100005, 100007, 100010, 100012] 16 = some (eraseF c16) := by kernel_rfl
def p15_5 : List PO := [⟨(.some 6), (.mov (.const (.bool .false))), .none⟩]
def p15_6 : List PO := [⟨(.some 10), (.mov (.tmp 0)), .none⟩, ⟨(.some 11), (.len .false (.tmp 10)), .none⟩, ⟨(.some 12), (.mov (.tmp 1)), .none⟩, ⟨(.some 13), (.len .false (.tmp 12)), .none⟩, ⟨(.some 14), (.cmpI .neq (.tmp 11) (.tmp 13)), .none⟩]
def p15_7 : List PO := [⟨(.some 6), (.mov (.const (.bool .false))), .none⟩]
def p15_8 : List PO := [⟨(.some 15), (.mov (.tmp 0)), .none⟩, ⟨(.some 16), (.len .false (.tmp 15)), .none⟩, ⟨(.some 17), (.mov (.const (.int .i64 0))), .none⟩]
def p15_9 : List PO := [⟨(.some 18), (.cmpI .lss (.tmp 17) (.tmp 16)), .none⟩]
def p15_10 : List PO := [⟨(.some 19), (.mov (.tmp 17)), .none⟩, ⟨(.some 20), (.ixS 32 1 (.tmp 15) (.tmp 17)), .none⟩, ⟨(.some 21), (.load .false 1 (.tmp 20)), .none⟩, ⟨(.some 7), (.mov (.tmp 19)), .none⟩, ⟨(.some 8), (.mov (.tmp 21)), .none⟩]
def p15_11 : List PO := [⟨(.some 22), (.mov (.tmp 1)), .none⟩, ⟨(.some 23), (.mov (.tmp 7)), .none⟩, ⟨(.some 24), (.ixS 32 1 (.tmp 22) (.tmp 23)), .none⟩, ⟨(.some 25), (.load .false 1 (.tmp 24)), .none⟩, ⟨(.some 9), (.mov (.tmp 25)), .none⟩]
def p15_12 : List PO := [⟨(.some 26), (.mov (.tmp 2)), .none⟩, ⟨(.some 27), (.mov (.tmp 8)), .none⟩, ⟨(.some 28), (.mov (.tmp 9)), .none⟩, ⟨(.some 29), (.callv (.tmp 26) [(.tmp 27), (.tmp 28)]), .none⟩, ⟨(.some 30), (.un .not (.tmp 29)), .none⟩]
def p15_13 : List PO := [⟨(.some 6), (.mov (.const (.bool .false))), .none⟩]
def p15_14 : List PO := [⟨(.some 31), (.arI .add (.tmp 17) (.const (.int .i64 1))), .none⟩, ⟨(.some 17), (.mov (.tmp 31)), .none⟩]
def c15_1 : PCode := (.keep [1, 2, 15, 16, 17] [] [] (.seq (.block 1 (.seq (.reg p15_10) (.seq (.reg p15_11) (.seq (.reg p15_12) (.cond (.tmp 30) (.seq (.reg p15_13) .ret) .skip))))) (.reg p15_14)))
def c15_2 : PCode := (.keep [1, 2, 15, 16, 17, 18] [] [] (.seq (.cond (.tmp 18) .skip (.keep [] [] [] (.exit 0))) c15_1))
def c15_3 : PCode := (.keep [1, 2, 15, 16, 17] [] [] (.seq (.reg p15_9) c15_2))
def p15_15 : List PO := [⟨(.some 6), (.mov (.const (.bool .true))), .none⟩]
def c15_4 : PCode := (.keep [0, 1, 2] [] [] (.seq (.seq (.reg p15_8) (.block 0 (.loop c15_3))) (.seq (.reg p15_15) .ret)))
def c15_b : PCode := (.seq (.reg p15_5) (.seq (.seq (.reg p15_6) (.cond (.tmp 14) (.seq (.reg p15_7) .ret) .skip)) c15_4))
def c15 : FCode := ⟨32, c15_b, [(.tmp 6)], some ([6], [], []), false⟩
theorem c15_ok : compF Go.Proofs.Try.prog [100005, 100007, 100010, 100012] 15 = some (eraseF c15) := by kernel_rfl
def p8_1 : List PO := [⟨(.some 4), (.mov (.const (.bool .false))), .none⟩]
def p8_2 : List PO := [⟨(.some 5), (.mov (.tmp 0)), .none⟩, ⟨(.some 6), (.mov (.tmp 1)), .none⟩, ⟨(.some 7), (.call 15 [(.tmp 5), (.tmp 6), (.func 16)]), .none⟩, ⟨(.some 4), (.mov (.tmp 7)), .none⟩]
def c8_b : PCode := (.seq (.reg p8_1) (.seq (.reg p8_2) .ret))
def c8 : FCode := ⟨8, c8_b, [(.tmp 4)], some ([4], [], []), false⟩
theorem c8_ok : compF Go.Proofs.Try.prog [100005, 100007, 100010, 100012] 8 = some (eraseF c8) := by kernel_rfl
def p19_1 : List PO := [⟨(.some 2), (.box 2 (.tmp 0)), .none⟩, ⟨(.some 3), (.box 2 (.tmp 1)), .none⟩, ⟨(.some 4), (.mov (.const (.bool .false))), .none⟩]
def p19_2 : List PO := [⟨(.some 5), (.fld 1 (.tmp 2)), .none⟩, ⟨(.some 6), (.load .false 1 (.tmp 5)), .none⟩, ⟨(.some 7), (.fld 1 (.tmp 3)), .none⟩, ⟨(.some 8), (.load .false 1 (.tmp 7)), .none⟩, ⟨(.some 9), (.eqB .false (.tmp 6) (.tmp 8)), .none⟩, ⟨(.some 10), (.mov (.tmp 9)), .none⟩, ⟨(.some 11), (.fld 0 (.tmp 2)), (.some (10, .true))⟩, ⟨(.some 12), (.load .false 1 (.tmp 11)), (.some (10, .true))⟩, ⟨(.some 13), (.fld 0 (.tmp 3)), (.some (10, .true))⟩, ⟨(.some 14), (.load .false 1 (.tmp 13)), (.some (10, .true))⟩, ⟨(.some 15), (.call 17 [(.tmp 12), (.tmp 14)]), (.some (10, .true))⟩, ⟨(.some 16), (.pick (.tmp 10) (.tmp 15) (.const (.bool .false))), .none⟩, ⟨(.some 4), (.mov (.tmp 16)), .none⟩]
def c19_b : PCode := (.seq (.reg p19_1) (.seq (.reg p19_2) .ret))
def c19 : FCode := ⟨17, c19_b, [(.tmp 4)], some ([4], [], []), false⟩
theorem c19_ok : compF Go.Proofs.Try.prog [100005, 100007, 100010, 100012] 19 = some (eraseF c19) := by kernel_rfl
def p18_5 : List PO := [⟨(.some 6), (.mov (.const (.bool .false))), .none⟩]
def p18_6 : List PO := [⟨(.some 10), (.mov (.tmp 0)), .none⟩, ⟨(.some 11), (.len .false (.tmp 10)), .none⟩, ⟨(.some 12), (.mov (.tmp 1)), .none⟩, ⟨(.some 13), (.len .false (.tmp 12)), .none⟩, ⟨(.some 14), (.cmpI .neq (.tmp 11) (.tmp 13)), .none⟩]
def p18_7 : List PO := [⟨(.some 6), (.mov (.const (.bool .false))), .none⟩]
def p18_8 : List PO := [⟨(.some 15), (.mov (.tmp 0)), .none⟩, ⟨(.some 16), (.len .false (.tmp 15)), .none⟩, ⟨(.some 17), (.mov (.const (.int .i64 0))), .none⟩]
def p18_9 : List PO := [⟨(.some 18), (.cmpI .lss (.tmp 17) (.tmp 16)), .none⟩]
def p18_10 : List PO := [⟨(.some 19), (.mov (.tmp 17)), .none⟩, ⟨(.some 20), (.ixS 35 2 (.tmp 15) (.tmp 17)), .none⟩, ⟨(.some 21), (.load .true 2 (.tmp 20)), .none⟩, ⟨(.some 8), (.alloc [(1, (.slice .none 0 0)), (1, (.bool .false))]), .none⟩, ⟨(.some 7), (.mov (.tmp 19)), .none⟩, ⟨.none, (.store 2 (.tmp 8) (.tmp 21)), .none⟩]
def p18_11 : List PO := [⟨(.some 22), (.mov (.tmp 1)), .none⟩, ⟨(.some 23), (.mov (.tmp 7)), .none⟩, ⟨(.some 24), (.ixS 35 2 (.tmp 22) (.tmp 23)), .none⟩, ⟨(.some 25), (.load .true 2 (.tmp 24)), .none⟩, ⟨(.some 9), (.alloc [(1, (.slice .none 0 0)), (1, (.bool .false))]), .none⟩, ⟨.none, (.store 2 (.tmp 9) (.tmp 25)), .none⟩]
def p18_12 : List PO := [⟨(.some 26), (.mov (.tmp 2)), .none⟩, ⟨(.some 27), (.load .true 2 (.tmp 8)), .none⟩, ⟨(.some 28), (.load .true 2 (.tmp 9)), .none⟩, ⟨(.some 29), (.callv (.tmp 26) [(.tmp 27), (.tmp 28)]), .none⟩, ⟨(.some 30), (.un .not (.tmp 29)), .none⟩]
def p18_13 : List PO := [⟨(.some 6), (.mov (.const (.bool .false))), .none⟩]
def p18_14 : List PO := [⟨(.some 31), (.arI .add (.tmp 17) (.const (.int .i64 1))), .none⟩, ⟨(.some 17), (.mov (.tmp 31)), .none⟩]
def c18_1 : PCode := (.keep [1, 2, 15, 16, 17] [] [] (.seq (.block 1 (.seq (.reg p18_10) (.seq (.reg p18_11) (.seq (.reg p18_12) (.cond (.tmp 30) (.seq (.reg p18_13) .ret) .skip))))) (.reg p18_14)))
def c18_2 : PCode := (.keep [1, 2, 15, 16, 17, 18] [] [] (.seq (.cond (.tmp 18) .skip (.keep [] [] [] (.exit 0))) c18_1))
def c18_3 : PCode := (.keep [1, 2, 15, 16, 17] [] [] (.seq (.reg p18_9) c18_2))
def p18_15 : List PO := [⟨(.some 6), (.mov (.const (.bool .true))), .none⟩]
def c18_4 : PCode := (.keep [0, 1, 2] [] [] (.seq (.seq (.reg p18_8) (.block 0 (.loop c18_3))) (.seq (.reg p18_15) .ret)))
def c18_b : PCode := (.seq (.reg p18_5) (.seq (.seq (.reg p18_6) (.cond (.tmp 14) (.seq (.reg p18_7) .ret) .skip)) c18_4))
def c18 : FCode := ⟨32, c18_b, [(.tmp 6)], some ([6], [], []), false⟩
theorem c18_ok : compF Go.Proofs.Try.prog [100005, 100007, 100010, 100012] 18 = some (eraseF c18) := by kernel_rfl
def p11_1 : List PO := [⟨(.some 4), (.mov (.const (.bool .false))), .none⟩]
def p11_2 : List PO := [⟨(.some 5), (.mov (.tmp 0)), .none⟩, ⟨(.some 6), (.mov (.tmp 1)), .none⟩, ⟨(.some 7), (.call 18 [(.tmp 5), (.tmp 6), (.func 19)]), .none⟩, ⟨(.some 4), (.mov (.tmp 7)), .none⟩]
def c11_b : PCode := (.seq (.reg p11_1) (.seq (.reg p11_2) .ret))
def c11 : FCode := ⟨8, c11_b, [(.tmp 4)], some ([4], [], []), false⟩
theorem c11_ok : compF Go.Proofs.Try.prog [100005, 100007, 100010, 100012] 11 = some (eraseF c11) := by kernel_rfl
def p12_1 : List PO := [⟨(.some 2), (.nilS 35 2), .none⟩]
def p12_2 : List PO := [⟨(.some 3), (.mov (.tmp 0)), .none⟩, ⟨(.some 4), (.isN .false (.tmp 3)), .none⟩]
def p12_3 : List PO := [⟨(.some 2), (.nilS 35 2), .none⟩]
def p12_4 : List PO := [⟨(.some 5), (.bsl 35 2 0 [] []), .none⟩, ⟨(.some 6), (.mov (.tmp 0)), .none⟩, ⟨(.some 7), (.app 35 2 32 (.tmp 5) (.tmp 6)), .none⟩, ⟨(.some 2), (.mov (.tmp 7)), .none⟩]
def c12_b : PCode := (.seq (.reg p12_1) (.seq (.seq (.reg p12_2) (.cond (.tmp 4) (.seq (.reg p12_3) .ret) .skip)) (.seq (.reg p12_4) .ret)))
def c12 : FCode := ⟨8, c12_b, [(.tmp 2)], some ([2], [(97, (.slot 2 none))], []), true⟩
theorem c12_ok : compF Go.Proofs.Try.prog [100005, 100007, 100010, 100012] 12 = some (eraseF c12) := by kernel_rfl
def p6_1 : List PO := [⟨(.some 0), (.mov (.const (.bool .false))), .none⟩]
def p6_2 : List PO := [⟨(.some 4), (.bsl 3 1 3 [(3, (.int .i64 0))] [(0, (1, (.const (.int .i64 97)))), (1, (1, (.const (.int .i64 98)))), (2, (1, (.const (.int .i64 99))))]), .none⟩, ⟨(.some 5), (.bsl 32 1 2 [(1, (.slice .none 0 0)), (1, (.slice .none 0 0))] [(0, (1, (.tmp 4))), (1, (1, (.const (.slice .none 0 0))))]), .none⟩, ⟨(.some 6), (.callf 5 [(.tmp 5), (.const (.int .i64 2))]), .none⟩, ⟨(.some 3), (.mov (.tmp 6)), .none⟩, ⟨(.some 7), (.ext (.tmp 3) 0), .none⟩, ⟨(.some 8), (.ext (.tmp 3) 1), .none⟩, ⟨(.some 1), (.mov (.tmp 7)), .none⟩, ⟨(.some 2), (.mov (.tmp 8)), .none⟩]
def p6_3 : List PO := [⟨(.some 9), (.mov (.tmp 2)), .none⟩, ⟨(.some 10), (.cmpI .eql (.tmp 9) (.const (.int .i64 0))), .none⟩, ⟨(.some 11), (.mov (.tmp 10)), .none⟩, ⟨(.some 12), (.mov (.tmp 1)), (.some (11, .true))⟩, ⟨(.some 13), (.bsl 3 1 2 [(2, (.int .i64 0))] [(0, (1, (.const (.int .i64 97)))), (1, (1, (.const (.int .i64 98))))]), (.some (11, .true))⟩, ⟨(.some 14), (.build [(1, (.slice .none 0 0)), (1, (.bool .false))] [(0, (1, (.tmp 13))), (1, (1, (.const (.bool .true))))]), (.some (11, .true))⟩, ⟨(.some 15), (.bsl 3 1 1 [(1, (.int .i64 0))] [(0, (1, (.const (.int .i64 99))))]), (.some (11, .true))⟩, ⟨(.some 16), (.build [(1, (.slice .none 0 0)), (1, (.bool .false))] [(0, (1, (.tmp 15)))]), (.some (11, .true))⟩, ⟨(.some 17), (.build [(1, (.slice .none 0 0)), (1, (.bool .false))] []), (.some (11, .true))⟩, ⟨(.some 18), (.bsl 35 2 3 [(1, (.slice .none 0 0)), (1, (.bool .false)), (1, (.slice .none 0 0)), (1, (.bool .false)), (1, (.slice .none 0 0)), (1, (.bool .false))] [(0, (2, (.tmp 14))), (2, (2, (.tmp 16))), (4, (2, (.tmp 17)))]), (.some (11, .true))⟩, ⟨(.some 19), (.call 11 [(.tmp 12), (.tmp 18)]), (.some (11, .true))⟩, ⟨(.some 20), (.pick (.tmp 11) (.tmp 19) (.const (.bool .false))), .none⟩, ⟨(.some 0), (.mov (.tmp 20)), .none⟩]
def c6_b : PCode := (.seq (.reg p6_1) (.seq (.reg p6_2) (.seq (.reg p6_3) .ret)))
def c6 : FCode := ⟨21, c6_b, [(.tmp 0)], some ([0], [], []), false⟩
theorem c6_ok : compF Go.Proofs.Try.prog [100005, 100007, 100010, 100012] 6 = some (eraseF c6) := by kernel_rfl
def p4_18 : List PO := [⟨(.some 6), (.mov (.const (.bool .false))), .none⟩]
def p4_19 : List PO := [⟨(.some 7), (.nilS 32 1), .none⟩]
def p4_20 : List PO := [⟨(.some 8), (.nilS 35 2), .none⟩]
def p4_21 : List PO := [⟨(.some 24), (.mov (.tmp 0)), .none⟩, ⟨(.some 25), (.len .false (.tmp 24)), .none⟩, ⟨(.some 26), (.mov (.const (.int .i64 0))), .none⟩]
def p4_22 : List PO := [⟨(.some 27), (.cmpI .lss (.tmp 26) (.tmp 25)), .none⟩]
def p4_23 : List PO := [⟨(.some 28), (.ixS 32 1 (.tmp 24) (.tmp 26)), .none⟩, ⟨(.some 29), (.load .false 1 (.tmp 28)), .none⟩, ⟨(.some 10), (.mov (.tmp 29)), .none⟩]
def p4_24 : List PO := [⟨(.some 30), (.mov (.tmp 7)), .none⟩, ⟨(.some 31), (.mov (.tmp 10)), .none⟩, ⟨(.some 32), (.call 9 [(.tmp 31)]), .none⟩, ⟨(.some 33), (.bsl 32 1 1 [(1, (.slice .none 0 0))] [(0, (1, (.tmp 32)))]), .none⟩, ⟨(.some 34), (.app 32 1 24 (.tmp 30) (.tmp 33)), .none⟩, ⟨(.some 7), (.mov (.tmp 34)), .none⟩]
def p4_25 : List PO := [⟨(.some 35), (.arI .add (.tmp 26) (.const (.int .i64 1))), .none⟩, ⟨(.some 26), (.mov (.tmp 35)), .none⟩]
def c4_15 : PCode := (.keep [0, 1, 2, 7, 8, 24, 25, 26] [(64, .id 64), (72, .id 72)] [] (.seq (.block 1 (.seq (.reg p4_23) (.reg p4_24))) (.reg p4_25)))
def c4_16 : PCode := (.keep [0, 1, 2, 7, 8, 24, 25, 26, 27] [(64, .id 64), (72, .id 72)] [] (.seq (.cond (.tmp 27) .skip (.keep [0, 1, 2, 7, 8] [(64, .id 64), (72, .id 72)] [] (.exit 0))) c4_15))
def c4_17 : PCode := (.keep [0, 1, 2, 7, 8, 24, 25, 26] [(64, .id 64), (72, .id 72)] [] (.seq (.reg p4_22) c4_16))
def p4_26 : List PO := [⟨(.some 36), (.mov (.tmp 1)), .none⟩, ⟨(.some 37), (.len .false (.tmp 36)), .none⟩, ⟨(.some 38), (.mov (.const (.int .i64 0))), .none⟩]
def p4_27 : List PO := [⟨(.some 39), (.cmpI .lss (.tmp 38) (.tmp 37)), .none⟩]
def p4_28 : List PO := [⟨(.some 40), (.ixS 35 2 (.tmp 36) (.tmp 38)), .none⟩, ⟨(.some 41), (.load .true 2 (.tmp 40)), .none⟩, ⟨(.some 12), (.alloc [(1, (.slice .none 0 0)), (1, (.bool .false))]), .none⟩, ⟨.none, (.store 2 (.tmp 12) (.tmp 41)), .none⟩]
def p4_29 : List PO := [⟨(.some 42), (.mov (.tmp 8)), .none⟩, ⟨(.some 43), (.fld 0 (.tmp 12)), .none⟩, ⟨(.some 44), (.load .false 1 (.tmp 43)), .none⟩, ⟨(.some 45), (.call 9 [(.tmp 44)]), .none⟩, ⟨(.some 46), (.fld 1 (.tmp 12)), .none⟩, ⟨(.some 47), (.load .false 1 (.tmp 46)), .none⟩, ⟨(.some 48), (.build [(1, (.slice .none 0 0)), (1, (.bool .false))] [(0, (1, (.tmp 45))), (1, (1, (.tmp 47)))]), .none⟩, ⟨(.some 49), (.bsl 35 2 1 [(1, (.slice .none 0 0)), (1, (.bool .false))] [(0, (2, (.tmp 48)))]), .none⟩, ⟨(.some 50), (.app 35 2 32 (.tmp 42) (.tmp 49)), .none⟩, ⟨(.some 8), (.mov (.tmp 50)), .none⟩]
def p4_30 : List PO := [⟨(.some 51), (.arI .add (.tmp 38) (.const (.int .i64 1))), .none⟩, ⟨(.some 38), (.mov (.tmp 51)), .none⟩]
def c4_11 : PCode := (.keep [0, 1, 2, 7, 8, 36, 37, 38] [(64, .id 64), (72, .id 72)] [] (.seq (.block 3 (.seq (.reg p4_28) (.regD p4_29 [(3, 5)]))) (.reg p4_30)))
def c4_12 : PCode := (.keep [0, 1, 2, 7, 8, 36, 37, 38, 39] [(64, .id 64), (72, .id 72)] [] (.seq (.cond (.tmp 39) .skip (.keep [0, 1, 2, 7, 8] [(64, .id 64), (72, .id 72)] [] (.exit 2))) c4_11))
def c4_13 : PCode := (.keep [0, 1, 2, 7, 8, 36, 37, 38] [(64, .id 64), (72, .id 72)] [] (.seq (.reg p4_27) c4_12))
def p4_31 : List PO := [⟨(.some 53), (.mov (.tmp 0)), .none⟩, ⟨(.some 54), (.mov (.tmp 2)), .none⟩, ⟨(.some 55), (.callf 5 [(.tmp 53), (.tmp 54)]), .none⟩, ⟨(.some 52), (.mov (.tmp 55)), .none⟩, ⟨(.some 56), (.ext (.tmp 52) 0), .none⟩, ⟨(.some 57), (.ext (.tmp 52) 1), .none⟩, ⟨(.some 13), (.mov (.tmp 56)), .none⟩, ⟨(.some 14), (.mov (.tmp 57)), .none⟩]
def p4_32 : List PO := [⟨(.some 59), (.mov (.tmp 1)), .none⟩, ⟨(.some 60), (.callf 7 [(.tmp 59)]), .none⟩, ⟨(.some 58), (.mov (.tmp 60)), .none⟩, ⟨(.some 61), (.ext (.tmp 58) 0), .none⟩, ⟨(.some 62), (.ext (.tmp 58) 1), .none⟩, ⟨(.some 15), (.mov (.tmp 61)), .none⟩, ⟨(.some 16), (.mov (.tmp 62)), .none⟩]
def p4_33 : List PO := [⟨(.some 64), (.mov (.tmp 1)), .none⟩, ⟨(.some 65), (.mov (.tmp 2)), .none⟩, ⟨(.some 66), (.callf 10 [(.tmp 64), (.tmp 65)]), .none⟩, ⟨(.some 63), (.mov (.tmp 66)), .none⟩, ⟨(.some 67), (.ext (.tmp 63) 0), .none⟩, ⟨(.some 68), (.ext (.tmp 63) 1), .none⟩, ⟨(.some 17), (.mov (.tmp 67)), .none⟩, ⟨(.some 18), (.mov (.tmp 68)), .none⟩]
def p4_34 : List PO := [⟨(.some 69), (.mov (.tmp 0)), .none⟩, ⟨(.some 70), (.mov (.tmp 7)), .none⟩, ⟨(.some 71), (.call 8 [(.tmp 69), (.tmp 70)]), .none⟩, ⟨(.some 72), (.mov (.tmp 71)), .none⟩, ⟨(.some 73), (.mov (.tmp 1)), (.some (72, .true))⟩, ⟨(.some 74), (.mov (.tmp 8)), (.some (72, .true))⟩, ⟨(.some 75), (.call 11 [(.tmp 73), (.tmp 74)]), (.some (72, .true))⟩, ⟨(.some 76), (.pick (.tmp 72) (.tmp 75) (.const (.bool .false))), .none⟩, ⟨(.some 19), (.mov (.tmp 76)), .none⟩]
def p4_35 : List PO := [⟨(.some 77), (.mov (.tmp 13)), .none⟩, ⟨(.some 78), (.callf 12 [(.tmp 77)]), .none⟩, ⟨(.some 79), (.mov (.tmp 17)), .none⟩, ⟨(.some 80), (.app 35 2 32 (.tmp 78) (.tmp 79)), .none⟩, ⟨(.some 81), (.len .false (.tmp 80)), .none⟩, ⟨(.some 82), (.mov (.const (.int .i64 0))), .none⟩]
def p4_36 : List PO := [⟨(.some 83), (.cmpI .lss (.tmp 82) (.tmp 81)), .none⟩]
def p4_37 : List PO := [⟨(.some 84), (.ixS 35 2 (.tmp 80) (.tmp 82)), .none⟩, ⟨(.some 85), (.load .true 2 (.tmp 84)), .none⟩, ⟨(.some 21), (.alloc [(1, (.slice .none 0 0)), (1, (.bool .false))]), .none⟩, ⟨.none, (.store 2 (.tmp 21) (.tmp 85)), .none⟩]
def p4_38 : List PO := [⟨(.some 86), (.fld 0 (.tmp 21)), .none⟩, ⟨(.some 87), (.load .false 1 (.tmp 86)), .none⟩, ⟨(.some 88), (.call 13 [(.tmp 87)]), .none⟩]
def p4_39 : List PO := [⟨(.some 89), (.arI .add (.tmp 82) (.const (.int .i64 1))), .none⟩, ⟨(.some 82), (.mov (.tmp 89)), .none⟩]
def c4_6 : PCode := (.keep [0, 1, 7, 8, 15, 19, 80, 81, 82] [(64, .id 64), (72, .id 72), (488, .id 488), (632, .id 632)] [] (.seq (.block 5 (.seq (.reg p4_37) (.reg p4_38))) (.reg p4_39)))
def c4_7 : PCode := (.keep [0, 1, 7, 8, 15, 19, 80, 81, 82, 83] [(64, .id 64), (72, .id 72), (488, .id 488), (632, .id 632)] [] (.seq (.cond (.tmp 83) .skip (.keep [0, 1, 7, 8, 15, 19] [(64, .id 64), (72, .id 72), (488, .id 488)] [] (.exit 4))) c4_6))
def c4_8 : PCode := (.keep [0, 1, 7, 8, 15, 19, 80, 81, 82] [(64, .id 64), (72, .id 72), (488, .id 488), (632, .id 632)] [] (.seq (.reg p4_36) c4_7))
def p4_40 : List PO := [⟨(.some 90), (.mov (.tmp 15)), .none⟩, ⟨(.some 91), (.len .false (.tmp 90)), .none⟩, ⟨(.some 92), (.mov (.const (.int .i64 0))), .none⟩]
def p4_41 : List PO := [⟨(.some 93), (.cmpI .lss (.tmp 92) (.tmp 91)), .none⟩]
def p4_42 : List PO := [⟨(.some 94), (.ixS 32 1 (.tmp 90) (.tmp 92)), .none⟩, ⟨(.some 95), (.load .false 1 (.tmp 94)), .none⟩, ⟨(.some 23), (.mov (.tmp 95)), .none⟩]
def p4_43 : List PO := [⟨(.some 96), (.mov (.tmp 23)), .none⟩, ⟨(.some 97), (.call 13 [(.tmp 96)]), .none⟩]
def p4_44 : List PO := [⟨(.some 98), (.arI .add (.tmp 92) (.const (.int .i64 1))), .none⟩, ⟨(.some 92), (.mov (.tmp 98)), .none⟩]
def c4_2 : PCode := (.keep [0, 1, 7, 8, 19, 90, 91, 92] [(64, .id 64), (72, .id 72), (488, .id 488)] [] (.seq (.block 7 (.seq (.reg p4_42) (.reg p4_43))) (.reg p4_44)))
def c4_3 : PCode := (.keep [0, 1, 7, 8, 19, 90, 91, 92, 93] [(64, .id 64), (72, .id 72), (488, .id 488)] [] (.seq (.cond (.tmp 93) .skip (.keep [0, 1, 7, 8, 19] [(64, .id 64), (72, .id 72)] [] (.exit 6))) c4_2))
def c4_4 : PCode := (.keep [0, 1, 7, 8, 19, 90, 91, 92] [(64, .id 64), (72, .id 72), (488, .id 488)] [] (.seq (.reg p4_41) c4_3))
def p4_45 : List PO := [⟨(.some 99), (.call 6 []), .none⟩, ⟨(.some 100), (.mov (.tmp 99)), .none⟩, ⟨(.some 101), (.mov (.tmp 19)), (.some (100, .true))⟩, ⟨(.some 102), (.pick (.tmp 100) (.tmp 101) (.const (.bool .false))), .none⟩, ⟨(.some 103), (.mov (.tmp 102)), .none⟩, ⟨(.some 104), (.mov (.tmp 0)), (.some (103, .true))⟩, ⟨(.some 105), (.mov (.tmp 7)), (.some (103, .true))⟩, ⟨(.some 106), (.call 8 [(.tmp 104), (.tmp 105)]), (.some (103, .true))⟩, ⟨(.some 107), (.pick (.tmp 103) (.tmp 106) (.const (.bool .false))), .none⟩, ⟨(.some 108), (.mov (.tmp 107)), .none⟩, ⟨(.some 109), (.mov (.tmp 1)), (.some (108, .true))⟩, ⟨(.some 110), (.mov (.tmp 8)), (.some (108, .true))⟩, ⟨(.some 111), (.call 11 [(.tmp 109), (.tmp 110)]), (.some (108, .true))⟩, ⟨(.some 112), (.pick (.tmp 108) (.tmp 111) (.const (.bool .false))), .none⟩, ⟨(.some 6), (.mov (.tmp 112)), .none⟩]
def c4_1 : PCode := (.keep [0, 1, 7, 8, 19] [(64, .id 64), (72, .id 72)] [] (.seq (.reg p4_45) .ret))
def c4_5 : PCode := (.keep [0, 1, 7, 8, 15, 19] [(64, .id 64), (72, .id 72), (488, .id 488)] [] (.seq (.seq (.reg p4_40) (.block 6 (.loop c4_4))) c4_1))
def c4_9 : PCode := (.keep [0, 1, 7, 8, 13, 15, 17, 19] [(64, .id 64), (72, .id 72), (448, .id 448), (488, .id 488), (536, .id 536)] [] (.seq (.seq (.reg p4_35) (.block 4 (.loop c4_8))) c4_5))
def c4_10 : PCode := (.keep [0, 1, 2, 7, 8] [(64, .id 64), (72, .id 72)] [] (.seq (.reg p4_31) (.seq (.reg p4_32) (.seq (.reg p4_33) (.seq (.reg p4_34) c4_9)))))
def c4_14 : PCode := (.keep [0, 1, 2, 7, 8] [(64, .id 64), (72, .id 72)] [] (.seq (.seq (.reg p4_26) (.block 2 (.loop c4_13))) c4_10))
def c4_b : PCode := (.seq (.reg p4_18) (.seq (.reg p4_19) (.seq (.reg p4_20) (.seq (.seq (.reg p4_21) (.block 0 (.loop c4_17))) c4_14))))
def c4 : FCode := ⟨113, c4_b, [(.tmp 6)], some ([6], [], []), false⟩
theorem c4_ok : compF Go.Proofs.Try.prog [100005, 100007, 100010, 100012] 4 = some (eraseF c4) := by kernel_rfl
def codes : Nat → Option FCode
  | 4 => some c4
  | 5 => some c5
  | 6 => some c6
  | 7 => some c7
  | 8 => some c8
  | 9 => some c9
  | 10 => some c10
  | 11 => some c11
  | 12 => some c12
  | 14 => some c14
  | 15 => some c15
  | 16 => some c16
  | 17 => some c17
  | 18 => some c18
  | 19 => some c19
  | 20 => some c20
  | 21 => some c21
  | 22 => some c22
  | _ => none
theorem codes_ok : ∀ f fc, codes f = some fc → compF Go.Proofs.Try.prog [100005, 100007, 100010, 100012] f = some (eraseF fc) := by
  intro f fc h
  unfold codes at h
  split at h
  · cases h; exact c4_ok
  · cases h; exact c5_ok
  · cases h; exact c6_ok
  · cases h; exact c7_ok
  · cases h; exact c8_ok
  · cases h; exact c9_ok
  · cases h; exact c10_ok
  · cases h; exact c11_ok
  · cases h; exact c12_ok
  · cases h; exact c14_ok
  · cases h; exact c15_ok
  · cases h; exact c16_ok
  · cases h; exact c17_ok
  · cases h; exact c18_ok
  · cases h; exact c19_ok
  · cases h; exact c20_ok
  · cases h; exact c21_ok
  · cases h; exact c22_ok
  · cases h
theorem codes4 : codes 4 = some c4 := rfl
theorem codes5 : codes 5 = some c5 := rfl
theorem codes6 : codes 6 = some c6 := rfl
theorem codes7 : codes 7 = some c7 := rfl
theorem codes8 : codes 8 = some c8 := rfl
theorem codes9 : codes 9 = some c9 := rfl
theorem codes10 : codes 10 = some c10 := rfl
theorem codes11 : codes 11 = some c11 := rfl
theorem codes12 : codes 12 = some c12 := rfl
theorem codes14 : codes 14 = some c14 := rfl
theorem codes15 : codes 15 = some c15 := rfl
theorem codes16 : codes 16 = some c16 := rfl
theorem codes17 : codes 17 = some c17 := rfl
theorem codes18 : codes 18 = some c18 := rfl
theorem codes19 : codes 19 = some c19 := rfl
theorem codes20 : codes 20 = some c20 := rfl
theorem codes21 : codes 21 = some c21 := rfl
theorem codes22 : codes 22 = some c22 := rfl
end Go.Proofs.Ytnnnfncebpkaoaa.Pm
