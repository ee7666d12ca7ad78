/- The small machine's codes of some functions. Printed by dec.py. -/
import Derived.Test.YtbaadpkhkglelaaDoorLib1
import Derived.Test.YtbaadpkhkglelaaDoorProg
namespace Go.Proofs.YtbaadpkhkglelaaDoor.Pm
set_option maxRecDepth 1000000
set_option maxHeartbeats 20000000
set_option linter.unusedVariables false
def p8_1 : List PO := [⟨(.some 2), (.mov (.const (.string ⟨#[]⟩))), .none⟩]
def p8_2 : List PO := [⟨(.some 3), (.mov (.tmp 0)), .none⟩]
def p8_3 : List PO := [⟨(.some 2), (.mov (.const (.string ⟨#[13]⟩))), .none⟩]
def p8_4 : List PO := [⟨(.some 2), (.mov (.const (.string ⟨#[]⟩))), .none⟩]
def c8_b : PCode := (.seq (.reg p8_1) (.seq (.seq (.reg p8_2) (.cond (.tmp 3) (.seq (.reg p8_3) .ret) .skip)) (.seq (.reg p8_4) .ret)))
def c8 : FCode := ⟨4, c8_b, [(.tmp 2)], some ([2], [], []), false⟩
theorem c8_ok : compF Go.Proofs.Tryd.prog [] 8 = some (eraseF c8) := by kernel_rfl
def p4_7 : List PO := [⟨(.some 6), (.mov (.const (.bool .false))), .none⟩, ⟨(.some 7), (.mov (.const (.string ⟨#[]⟩))), .none⟩]
def p4_8 : List PO := [⟨(.some 11), (.mov (.tmp 2)), .none⟩]
def p4_9 : List PO := [⟨(.some 12), (.mov (.tmp 0)), .none⟩, ⟨(.some 13), (.call 8 [(.tmp 12)]), .none⟩, ⟨(.some 14), (.mov (.tmp 1)), .none⟩, ⟨(.some 15), (.strO .add (.tmp 13) (.tmp 14)), .none⟩, ⟨(.some 6), (.mov (.const (.bool .false))), .none⟩, ⟨(.some 7), (.mov (.tmp 15)), .none⟩]
def p4_10 : List PO := [⟨(.some 8), (.nilS 5 1), .none⟩]
def p4_11 : List PO := [⟨(.some 16), (.mov (.tmp 1)), .none⟩, ⟨(.some 17), (.len .true (.tmp 16)), .none⟩, ⟨(.some 18), (.mov (.const (.int .i64 0))), .none⟩]
def p4_12 : List PO := [⟨(.some 19), (.cmpI .lss (.tmp 18) (.tmp 17)), .none⟩]
def p4_13 : List PO := [⟨(.some 20), (.mov (.tmp 18)), .none⟩, ⟨(.some 9), (.mov (.tmp 20)), .none⟩]
def p4_14 : List PO := [⟨(.some 21), (.mov (.tmp 1)), .none⟩, ⟨(.some 22), (.mov (.tmp 9)), .none⟩, ⟨(.some 23), (.ixStr (.tmp 21) (.tmp 22)), .none⟩, ⟨(.some 10), (.mov (.tmp 23)), .none⟩]
def p4_15 : List PO := [⟨(.some 24), (.mov (.tmp 0)), .none⟩]
def p4_16 : List PO := [⟨(.some 0), (.mov (.const (.bool .false))), .none⟩]
def p4_17 : List PO := [⟨(.some 25), (.mov (.tmp 10)), .none⟩]
def p4_18 : List PO := [⟨(.some 27), (.cmpI .eql (.tmp 25) (.const (.int .u8 10))), .none⟩, ⟨(.some 26), (.mov (.tmp 27)), .none⟩]
def p4_19 : List PO := [⟨(.some 28), (.mov (.tmp 8)), .none⟩, ⟨(.some 29), (.bsl 5 1 1 [(1, (.int .u8 0))] [(0, (1, (.const (.int .u8 10))))]), .none⟩, ⟨(.some 30), (.app 5 1 1 (.tmp 28) (.tmp 29)), .none⟩, ⟨(.some 8), (.mov (.tmp 30)), .none⟩]
def p4_20 : List PO := [⟨(.some 32), (.cmpI .eql (.tmp 25) (.const (.int .u8 0))), .none⟩, ⟨(.some 31), (.mov (.tmp 32)), .none⟩]
def p4_21 : List PO := [⟨(.some 33), (.mov (.tmp 8)), .none⟩, ⟨(.some 34), (.bsl 5 1 1 [(1, (.int .u8 0))] [(0, (1, (.const (.int .u8 13))))]), .none⟩, ⟨(.some 35), (.app 5 1 1 (.tmp 33) (.tmp 34)), .none⟩, ⟨(.some 8), (.mov (.tmp 35)), .none⟩]
def p4_22 : List PO := [⟨(.some 36), (.mov (.tmp 8)), .none⟩, ⟨(.some 37), (.bsl 5 1 1 [(1, (.int .u8 0))] [(0, (1, (.const (.int .u8 13))))]), .none⟩, ⟨(.some 38), (.app 5 1 1 (.tmp 36) (.tmp 37)), .none⟩, ⟨(.some 8), (.mov (.tmp 38)), .none⟩]
def c4_23 : PCode := (.seq (.reg p4_16) (.seq (.seq (.reg p4_17) (.block 2 (.seq (.reg p4_18) (.cond (.tmp 26) (.seq (.reg p4_19) (.exit 1)) (.seq (.reg p4_20) (.cond (.tmp 31) (.seq (.reg p4_21) (.exit 1)) .skip)))))) (.reg p4_22)))
def p4_24 : List PO := [⟨(.some 39), (.mov (.tmp 10)), .none⟩, ⟨(.some 40), (.cmpI .eql (.tmp 39) (.const (.int .u8 13))), .none⟩]
def p4_25 : List PO := [⟨(.some 0), (.mov (.const (.bool .true))), .none⟩]
def p4_26 : List PO := [⟨(.some 41), (.mov (.tmp 8)), .none⟩, ⟨(.some 42), (.mov (.tmp 10)), .none⟩, ⟨(.some 43), (.bsl 5 1 1 [(1, (.int .u8 0))] [(0, (1, (.tmp 42)))]), .none⟩, ⟨(.some 44), (.app 5 1 1 (.tmp 41) (.tmp 43)), .none⟩, ⟨(.some 8), (.mov (.tmp 44)), .none⟩]
def c4_1 : PCode := (.keep [0, 1, 8, 10, 17, 18] [(72, .id 72)] [] (.seq (.reg p4_24) (.cond (.tmp 40) (.reg p4_25) (.reg p4_26))))
def p4_27 : List PO := [⟨(.some 45), (.arI .add (.tmp 18) (.const (.int .i64 1))), .none⟩, ⟨(.some 18), (.mov (.tmp 45)), .none⟩]
def c4_2 : PCode := (.reg p4_27)
def c4_3 : PCode := (.keep [0, 1, 8, 17, 18] [(72, .id 72)] [] (.seq (.block 1 (.seq (.reg p4_13) (.seq (.reg p4_14) (.seq (.seq (.reg p4_15) (.cond (.tmp 24) c4_23 .skip)) c4_1)))) c4_2))
def c4_4 : PCode := (.keep [0, 1, 8, 17, 18, 19] [(72, .id 72)] [] (.seq (.cond (.tmp 19) .skip (.keep [0, 8] [(72, .id 72)] [] (.exit 0))) c4_3))
def c4_5 : PCode := (.keep [0, 1, 8, 17, 18] [(72, .id 72)] [] (.seq (.reg p4_12) c4_4))
def p4_28 : List PO := [⟨(.some 46), (.mov (.tmp 0)), .none⟩, ⟨(.some 47), (.mov (.tmp 8)), .none⟩, ⟨(.some 48), (.cvBS (.tmp 47)), .none⟩, ⟨(.some 6), (.mov (.tmp 46)), .none⟩, ⟨(.some 7), (.mov (.tmp 48)), .none⟩]
def c4_6 : PCode := (.keep [0, 1] [] [] (.seq (.reg p4_10) (.seq (.seq (.reg p4_11) (.block 0 (.loop c4_5))) (.seq (.regD p4_28 []) .ret))))
def c4_b : PCode := (.seq (.reg p4_7) (.seq (.seq (.reg p4_8) (.cond (.tmp 11) (.seq (.reg p4_9) .ret) .skip)) c4_6))
def c4 : FCode := ⟨49, c4_b, [(.tmp 6), (.tmp 7)], some ([6, 7], [], []), false⟩
theorem c4_ok : compF Go.Proofs.Tryd.prog [] 4 = some (eraseF c4) := by kernel_rfl
def p10_5 : List PO := [⟨(.some 4), (.mov (.const (.string ⟨#[]⟩))), .none⟩]
def p10_6 : List PO := [⟨(.some 7), (.mov (.tmp 1)), .none⟩]
def p10_7 : List PO := [⟨(.some 8), (.mov (.tmp 0)), .none⟩, ⟨(.some 4), (.mov (.tmp 8)), .none⟩]
def p10_8 : List PO := [⟨(.some 5), (.nilS 5 1), .none⟩]
def p10_9 : List PO := [⟨(.some 9), (.mov (.tmp 0)), .none⟩, ⟨(.some 10), (.len .true (.tmp 9)), .none⟩, ⟨(.some 11), (.mov (.const (.int .i64 0))), .none⟩]
def p10_10 : List PO := [⟨(.some 12), (.cmpI .lss (.tmp 11) (.tmp 10)), .none⟩]
def p10_11 : List PO := [⟨(.some 13), (.mov (.tmp 11)), .none⟩, ⟨(.some 6), (.mov (.tmp 13)), .none⟩]
def p10_12 : List PO := [⟨(.some 14), (.mov (.tmp 0)), .none⟩, ⟨(.some 15), (.mov (.tmp 6)), .none⟩, ⟨(.some 16), (.ixStr (.tmp 14) (.tmp 15)), .none⟩]
def p10_13 : List PO := [⟨(.some 24), (.cmpI .eql (.tmp 16) (.const (.int .u8 10))), .none⟩, ⟨(.some 23), (.mov (.tmp 24)), .none⟩]
def p10_14 : List PO := [⟨(.some 25), (.mov (.tmp 5)), .none⟩, ⟨(.some 26), (.bsl 5 1 2 [(2, (.int .u8 0))] [(0, (1, (.const (.int .u8 13)))), (1, (1, (.const (.int .u8 10))))]), .none⟩, ⟨(.some 27), (.app 5 1 1 (.tmp 25) (.tmp 26)), .none⟩, ⟨(.some 5), (.mov (.tmp 27)), .none⟩]
def p10_15 : List PO := [⟨(.some 29), (.cmpI .eql (.tmp 16) (.const (.int .u8 13))), .none⟩, ⟨(.some 28), (.mov (.tmp 29)), .none⟩]
def p10_16 : List PO := [⟨(.some 30), (.mov (.tmp 5)), .none⟩, ⟨(.some 31), (.bsl 5 1 2 [(2, (.int .u8 0))] [(0, (1, (.const (.int .u8 13)))), (1, (1, (.const (.int .u8 0))))]), .none⟩, ⟨(.some 32), (.app 5 1 1 (.tmp 30) (.tmp 31)), .none⟩, ⟨(.some 5), (.mov (.tmp 32)), .none⟩]
def p10_17 : List PO := [⟨(.some 17), (.mov (.tmp 5)), .none⟩, ⟨(.some 18), (.mov (.tmp 0)), .none⟩, ⟨(.some 19), (.mov (.tmp 6)), .none⟩, ⟨(.some 20), (.ixStr (.tmp 18) (.tmp 19)), .none⟩, ⟨(.some 21), (.bsl 5 1 1 [(1, (.int .u8 0))] [(0, (1, (.tmp 20)))]), .none⟩, ⟨(.some 22), (.app 5 1 1 (.tmp 17) (.tmp 21)), .none⟩, ⟨(.some 5), (.mov (.tmp 22)), .none⟩]
def p10_18 : List PO := [⟨(.some 33), (.arI .add (.tmp 11) (.const (.int .i64 1))), .none⟩, ⟨(.some 11), (.mov (.tmp 33)), .none⟩]
def c10_1 : PCode := (.keep [0, 5, 10, 11] [(48, .id 48)] [] (.seq (.block 1 (.seq (.reg p10_11) (.seq (.reg p10_12) (.block 2 (.seq (.reg p10_13) (.cond (.tmp 23) (.reg p10_14) (.seq (.reg p10_15) (.cond (.tmp 28) (.reg p10_16) (.reg p10_17))))))))) (.reg p10_18)))
def c10_2 : PCode := (.keep [0, 5, 10, 11, 12] [(48, .id 48)] [] (.seq (.cond (.tmp 12) .skip (.keep [5] [(48, .id 48)] [] (.exit 0))) c10_1))
def c10_3 : PCode := (.keep [0, 5, 10, 11] [(48, .id 48)] [] (.seq (.reg p10_10) c10_2))
def p10_19 : List PO := [⟨(.some 34), (.mov (.tmp 5)), .none⟩, ⟨(.some 35), (.cvBS (.tmp 34)), .none⟩, ⟨(.some 4), (.mov (.tmp 35)), .none⟩]
def c10_4 : PCode := (.keep [0] [] [] (.seq (.reg p10_8) (.seq (.seq (.reg p10_9) (.block 0 (.loop c10_3))) (.seq (.reg p10_19) .ret))))
def c10_b : PCode := (.seq (.reg p10_5) (.seq (.seq (.reg p10_6) (.cond (.tmp 7) (.seq (.reg p10_7) .ret) .skip)) c10_4))
def c10 : FCode := ⟨36, c10_b, [(.tmp 4)], some ([4], [], []), false⟩
theorem c10_ok : compF Go.Proofs.Tryd.prog [] 10 = some (eraseF c10) := by kernel_rfl
def p7_1 : List PO := [⟨(.some 0), (.mov (.const (.bool .false))), .none⟩]
def p7_2 : List PO := [⟨(.some 4), (.call 4 [(.const (.bool .false)), (.const (.string ⟨#[97, 13, 10, 98, 13, 0, 13]⟩)), (.const (.bool .false))]), .none⟩, ⟨(.some 3), (.mov (.tmp 4)), .none⟩, ⟨(.some 5), (.ext (.tmp 3) 0), .none⟩, ⟨(.some 6), (.ext (.tmp 3) 1), .none⟩, ⟨(.some 1), (.mov (.tmp 5)), .none⟩, ⟨(.some 2), (.mov (.tmp 6)), .none⟩]
def p7_3 : List PO := [⟨(.some 7), (.mov (.tmp 1)), .none⟩, ⟨(.some 8), (.mov (.tmp 7)), .none⟩, ⟨(.some 9), (.mov (.tmp 2)), (.some (8, .true))⟩, ⟨(.some 10), (.strO .eql (.tmp 9) (.const (.string ⟨#[97, 10, 98, 13]⟩))), (.some (8, .true))⟩, ⟨(.some 11), (.pick (.tmp 8) (.tmp 10) (.const (.bool .false))), .none⟩, ⟨(.some 12), (.mov (.tmp 11)), .none⟩, ⟨(.some 13), (.call 10 [(.const (.string ⟨#[10, 13]⟩)), (.const (.bool .false))]), (.some (12, .true))⟩, ⟨(.some 14), (.strO .eql (.tmp 13) (.const (.string ⟨#[13, 10, 13, 0]⟩))), (.some (12, .true))⟩, ⟨(.some 15), (.pick (.tmp 12) (.tmp 14) (.const (.bool .false))), .none⟩, ⟨(.some 0), (.mov (.tmp 15)), .none⟩]
def c7_b : PCode := (.seq (.reg p7_1) (.seq (.reg p7_2) (.seq (.reg p7_3) .ret)))
def c7 : FCode := ⟨16, c7_b, [(.tmp 0)], some ([0], [], []), false⟩
theorem c7_ok : compF Go.Proofs.Tryd.prog [] 7 = some (eraseF c7) := by kernel_rfl
def p5_1 : List PO := [⟨(.some 2), (.mov (.const (.string ⟨#[]⟩))), .none⟩]
def p5_2 : List PO := [⟨(.some 3), (.mov (.tmp 0)), .none⟩, ⟨(.some 4), (.call 6 [(.tmp 3), (.const (.string ⟨#[0]⟩)), (.const (.string ⟨#[]⟩))]), .none⟩, ⟨(.some 5), (.call 6 [(.tmp 4), (.const (.string ⟨#[13]⟩)), (.const (.string ⟨#[]⟩))]), .none⟩, ⟨(.some 2), (.mov (.tmp 5)), .none⟩]
def c5_b : PCode := (.seq (.reg p5_1) (.seq (.reg p5_2) .ret))
def c5 : FCode := ⟨6, c5_b, [(.tmp 2)], some ([2], [], []), false⟩
theorem c5_ok : compF Go.Proofs.Tryd.prog [] 5 = some (eraseF c5) := by kernel_rfl
def p3_1 : List PO := [⟨(.some 4), (.mov (.const (.bool .false))), .none⟩]
def p3_2 : List PO := [⟨(.some 11), (.mov (.tmp 0)), .none⟩, ⟨(.some 12), (.call 4 [(.const (.bool .false)), (.tmp 11), (.const (.bool .false))]), .none⟩, ⟨(.some 10), (.mov (.tmp 12)), .none⟩, ⟨(.some 13), (.ext (.tmp 10) 0), .none⟩, ⟨(.some 14), (.ext (.tmp 10) 1), .none⟩, ⟨(.some 5), (.mov (.tmp 13)), .none⟩, ⟨(.some 6), (.mov (.tmp 14)), .none⟩]
def p3_3 : List PO := [⟨(.some 16), (.mov (.tmp 5)), .none⟩, ⟨(.some 17), (.mov (.tmp 1)), .none⟩, ⟨(.some 18), (.call 4 [(.tmp 16), (.tmp 17), (.const (.bool .true))]), .none⟩, ⟨(.some 15), (.mov (.tmp 18)), .none⟩, ⟨(.some 19), (.ext (.tmp 15) 0), .none⟩, ⟨(.some 20), (.ext (.tmp 15) 1), .none⟩, ⟨(.some 7), (.mov (.tmp 19)), .none⟩, ⟨(.some 8), (.mov (.tmp 20)), .none⟩]
def p3_4 : List PO := [⟨(.some 9), (.mov (.func 5)), .none⟩]
def p3_5 : List PO := [⟨(.some 21), (.call 7 []), .none⟩, ⟨(.some 22), (.mov (.tmp 21)), .none⟩, ⟨(.some 23), (.mov (.tmp 7)), (.some (22, .true))⟩, ⟨(.some 24), (.un .not (.tmp 23)), (.some (22, .true))⟩, ⟨(.some 25), (.pick (.tmp 22) (.tmp 24) (.const (.bool .false))), .none⟩, ⟨(.some 26), (.mov (.tmp 25)), .none⟩, ⟨(.some 27), (.mov (.tmp 8)), (.some (26, .true))⟩, ⟨(.some 28), (.mov (.tmp 5)), (.some (26, .true))⟩, ⟨(.some 29), (.call 8 [(.tmp 28)]), (.some (26, .true))⟩, ⟨(.some 30), (.mov (.tmp 1)), (.some (26, .true))⟩, ⟨(.some 31), (.strO .add (.tmp 29) (.tmp 30)), (.some (26, .true))⟩, ⟨(.some 32), (.strO .eql (.tmp 27) (.tmp 31)), (.some (26, .true))⟩, ⟨(.some 33), (.pick (.tmp 26) (.tmp 32) (.const (.bool .false))), .none⟩, ⟨(.some 34), (.mov (.tmp 33)), .none⟩, ⟨(.some 35), (.mov (.tmp 9)), (.some (34, .true))⟩, ⟨(.some 36), (.mov (.tmp 6)), (.some (34, .true))⟩, ⟨(.some 37), (.mov (.tmp 8)), (.some (34, .true))⟩, ⟨(.some 38), (.strO .add (.tmp 36) (.tmp 37)), (.some (34, .true))⟩, ⟨(.some 39), (.callv (.tmp 35) [(.tmp 38)]), (.some (34, .true))⟩, ⟨(.some 40), (.mov (.tmp 9)), (.some (34, .true))⟩, ⟨(.some 41), (.mov (.tmp 0)), (.some (34, .true))⟩, ⟨(.some 42), (.mov (.tmp 1)), (.some (34, .true))⟩, ⟨(.some 43), (.strO .add (.tmp 41) (.tmp 42)), (.some (34, .true))⟩, ⟨(.some 44), (.callv (.tmp 40) [(.tmp 43)]), (.some (34, .true))⟩, ⟨(.some 45), (.strO .eql (.tmp 39) (.tmp 44)), (.some (34, .true))⟩, ⟨(.some 46), (.pick (.tmp 34) (.tmp 45) (.const (.bool .false))), .none⟩, ⟨(.some 4), (.mov (.tmp 46)), .none⟩]
def c3_b : PCode := (.seq (.reg p3_1) (.seq (.reg p3_2) (.seq (.reg p3_3) (.seq (.reg p3_4) (.seq (.reg p3_5) .ret)))))
def c3 : FCode := ⟨47, c3_b, [(.tmp 4)], some ([4], [], []), false⟩
theorem c3_ok : compF Go.Proofs.Tryd.prog [] 3 = some (eraseF c3) := by kernel_rfl
def codes : Nat → Option FCode
  | 3 => some c3
  | 4 => some c4
  | 5 => some c5
  | 7 => some c7
  | 8 => some c8
  | 10 => some c10
  | _ => none
theorem codes_ok : ∀ f fc, codes f = some fc → compF Go.Proofs.Tryd.prog [] f = some (eraseF fc) := by
  intro f fc h
  unfold codes at h
  split at h
  · cases h; exact c3_ok
  · cases h; exact c4_ok
  · cases h; exact c5_ok
  · cases h; exact c7_ok
  · cases h; exact c8_ok
  · cases h; exact c10_ok
  · cases h
theorem codes3 : codes 3 = some c3 := rfl
theorem codes4 : codes 4 = some c4 := rfl
theorem codes5 : codes 5 = some c5 := rfl
theorem codes7 : codes 7 = some c7 := rfl
theorem codes8 : codes 8 = some c8 := rfl
theorem codes10 : codes 10 = some c10 := rfl
noncomputable def libs : List (Nat × (List PV → Option PD)) := [(6, osssS libReplaceAll)]
noncomputable abbrev baseL : Orc := libO libs
end Go.Proofs.YtbaadpkhkglelaaDoor.Pm
