/- The small machine's codes of some functions. Printed by dec.py. -/
import Derived.Test.YtddnpgmmlfbhfaaPa
import Derived.Test.YtddnpgmmlfbhfaaProg
namespace Go.Proofs.Ytddnpgmmlfbhfaa.Pm
set_option maxRecDepth 1000000
set_option maxHeartbeats 20000000
set_option linter.unusedVariables false
structure GNeg where
  Us : Nat → UInt8
  Him : Nat → UInt8
  UsOk : Nat → Int
  HimOk : Nat → Int
structure GTok where
  Kind : Int
  Cmd : Int
  Opt : Int
  Data : List UInt8
def e_GTok : Enc GTok := ⟨4, fun x => [.int .i64 x.Kind, .int .i64 x.Cmd, .int .i64 x.Opt, .str x.Data], fun _ => rfl⟩
def p14_1 : List PO := [⟨(.some 2), (.mov (.const (.bool .false))), .none⟩]
def p14_2 : List PO := [⟨(.some 3), (.mov (.tmp 0)), .none⟩, ⟨(.some 4), (.cmpI .geq (.tmp 3) (.const (.int .i64 0))), .none⟩, ⟨(.some 5), (.mov (.tmp 4)), .none⟩, ⟨(.some 6), (.mov (.tmp 0)), (.some (5, .true))⟩, ⟨(.some 7), (.cmpI .leq (.tmp 6) (.const (.int .i64 5))), (.some (5, .true))⟩, ⟨(.some 8), (.pick (.tmp 5) (.tmp 7) (.const (.bool .false))), .none⟩, ⟨(.some 2), (.mov (.tmp 8)), .none⟩]
def c14_b : PCode := (.seq (.reg p14_1) (.seq (.reg p14_2) .ret))
def c14 : FCode := ⟨9, c14_b, [(.tmp 2)], some ([2], [], []), false⟩
theorem c14_ok : compF Go.Proofs.Try.prog [] 14 = some (eraseF c14) := by kernel_rfl
def p15_7 : List PO := [⟨(.some 1), (.box 520 (.tmp 0)), .none⟩, ⟨(.some 2), (.mov (.const (.int .i64 0))), .none⟩]
def p15_8 : List PO := [⟨(.some 7), (.fld 0 (.tmp 1)), .none⟩, ⟨(.some 8), (.load .true 256 (.tmp 7)), .none⟩, ⟨(.some 9), (.fld 256 (.tmp 1)), .none⟩, ⟨(.some 10), (.load .true 256 (.tmp 9)), .none⟩, ⟨(.some 11), (.build [(512, (.int .u8 0))] [(0, (256, (.tmp 8))), (256, (256, (.tmp 10)))]), .none⟩, ⟨(.some 12), (.mov (.const (.int .i64 0))), .none⟩]
def p15_9 : List PO := [⟨(.some 13), (.cmpI .lss (.tmp 12) (.const (.int .i64 2))), .none⟩]
def p15_10 : List PO := [⟨(.some 14), (.ixV .true 2 256 (.tmp 11) (.tmp 12)), .none⟩, ⟨(.some 4), (.alloc [(256, (.int .u8 0))]), .none⟩, ⟨.none, (.store 256 (.tmp 4) (.tmp 14)), .none⟩]
def p15_11 : List PO := [⟨(.some 15), (.load .true 256 (.tmp 4)), .none⟩, ⟨(.some 16), (.mov (.const (.int .i64 0))), .none⟩]
def p15_12 : List PO := [⟨(.some 17), (.cmpI .lss (.tmp 16) (.const (.int .i64 256))), .none⟩]
def p15_13 : List PO := [⟨(.some 18), (.ixV .false 256 1 (.tmp 15) (.tmp 16)), .none⟩, ⟨(.some 6), (.mov (.tmp 18)), .none⟩]
def p15_14 : List PO := [⟨(.some 19), (.mov (.tmp 6)), .none⟩, ⟨(.some 20), (.cvI .i64 (.tmp 19)), .none⟩, ⟨(.some 21), (.call 14 [(.tmp 20)]), .none⟩, ⟨(.some 22), (.un .not (.tmp 21)), .none⟩]
def p15_15 : List PO := [⟨(.some 2), (.mov (.const (.int .i64 4))), .none⟩]
def p15_16 : List PO := [⟨(.some 23), (.arI .add (.tmp 16) (.const (.int .i64 1))), .none⟩, ⟨(.some 16), (.mov (.tmp 23)), .none⟩]
def c15_1 : PCode := (.keep [11, 12, 15, 16] [] [] (.seq (.block 3 (.seq (.reg p15_13) (.seq (.reg p15_14) (.cond (.tmp 22) (.seq (.reg p15_15) .ret) .skip)))) (.reg p15_16)))
def c15_2 : PCode := (.keep [11, 12, 15, 16, 17] [] [] (.seq (.cond (.tmp 17) .skip (.keep [11, 12] [] [] (.exit 2))) c15_1))
def c15_3 : PCode := (.keep [11, 12, 15, 16] [] [] (.seq (.reg p15_12) c15_2))
def p15_17 : List PO := [⟨(.some 24), (.arI .add (.tmp 12) (.const (.int .i64 1))), .none⟩, ⟨(.some 12), (.mov (.tmp 24)), .none⟩]
def c15_4 : PCode := (.keep [11, 12] [] [] (.seq (.block 1 (.seq (.reg p15_10) (.seq (.reg p15_11) (.block 2 (.loop c15_3))))) (.reg p15_17)))
def c15_5 : PCode := (.loop (.seq (.reg p15_9) (.seq (.cond (.tmp 13) .skip (.exit 0)) c15_4)))
def p15_18 : List PO := [⟨(.some 2), (.mov (.const (.int .i64 0))), .none⟩]
def c15_6 : PCode := (.seq (.reg p15_18) .ret)
def c15_b : PCode := (.seq (.reg p15_7) (.seq (.seq (.reg p15_8) (.block 0 c15_5)) c15_6))
def c15 : FCode := ⟨25, c15_b, [(.tmp 2)], some ([2], [], []), false⟩
theorem c15_ok : compF Go.Proofs.Try.prog [] 15 = some (eraseF c15) := by kernel_rfl
def p16_1 : List PO := [⟨(.some 1), (.box 4 (.tmp 0)), .none⟩, ⟨(.some 2), (.mov (.const (.bool .false))), .none⟩]
def p16_2 : List PO := [⟨(.some 3), (.fld 0 (.tmp 1)), .none⟩, ⟨(.some 4), (.load .false 1 (.tmp 3)), .none⟩, ⟨(.some 5), (.cmpI .eql (.tmp 4) (.const (.int .i64 3))), .none⟩, ⟨(.some 6), (.mov (.tmp 5)), .none⟩, ⟨(.some 7), (.fld 1 (.tmp 1)), (.some (6, .true))⟩, ⟨(.some 8), (.load .false 1 (.tmp 7)), (.some (6, .true))⟩, ⟨(.some 9), (.cmpI .geq (.tmp 8) (.const (.int .i64 251))), (.some (6, .true))⟩, ⟨(.some 10), (.pick (.tmp 6) (.tmp 9) (.const (.bool .false))), .none⟩, ⟨(.some 11), (.mov (.tmp 10)), .none⟩, ⟨(.some 12), (.fld 1 (.tmp 1)), (.some (11, .true))⟩, ⟨(.some 13), (.load .false 1 (.tmp 12)), (.some (11, .true))⟩, ⟨(.some 14), (.cmpI .leq (.tmp 13) (.const (.int .i64 254))), (.some (11, .true))⟩, ⟨(.some 15), (.pick (.tmp 11) (.tmp 14) (.const (.bool .false))), .none⟩, ⟨(.some 16), (.mov (.tmp 15)), .none⟩, ⟨(.some 17), (.fld 2 (.tmp 1)), (.some (16, .true))⟩, ⟨(.some 18), (.load .false 1 (.tmp 17)), (.some (16, .true))⟩, ⟨(.some 19), (.cmpI .geq (.tmp 18) (.const (.int .i64 0))), (.some (16, .true))⟩, ⟨(.some 20), (.pick (.tmp 16) (.tmp 19) (.const (.bool .false))), .none⟩, ⟨(.some 21), (.mov (.tmp 20)), .none⟩, ⟨(.some 22), (.fld 2 (.tmp 1)), (.some (21, .true))⟩, ⟨(.some 23), (.load .false 1 (.tmp 22)), (.some (21, .true))⟩, ⟨(.some 24), (.cmpI .leq (.tmp 23) (.const (.int .i64 255))), (.some (21, .true))⟩, ⟨(.some 25), (.pick (.tmp 21) (.tmp 24) (.const (.bool .false))), .none⟩, ⟨(.some 26), (.mov (.tmp 25)), .none⟩, ⟨(.some 27), (.fld 3 (.tmp 1)), (.some (26, .true))⟩, ⟨(.some 28), (.load .false 1 (.tmp 27)), (.some (26, .true))⟩, ⟨(.some 29), (.strO .eql (.tmp 28) (.const (.string ⟨#[]⟩))), (.some (26, .true))⟩, ⟨(.some 30), (.pick (.tmp 26) (.tmp 29) (.const (.bool .false))), .none⟩, ⟨(.some 2), (.mov (.tmp 30)), .none⟩]
def c16_b : PCode := (.seq (.reg p16_1) (.seq (.reg p16_2) .ret))
def c16 : FCode := ⟨31, c16_b, [(.tmp 2)], some ([2], [], []), false⟩
theorem c16_ok : compF Go.Proofs.Try.prog [] 16 = some (eraseF c16) := by kernel_rfl
def p8_4 : List PO := [⟨(.some 6), (.mov (.const (.int .i64 0))), .none⟩, ⟨(.some 7), (.mov (.const (.int .i64 0))), .none⟩, ⟨(.some 8), (.mov (.const (.bool .false))), .none⟩]
def p8_5 : List PO := [⟨(.some 9), (.mov (.tmp 1)), .none⟩]
def p8_6 : List PO := [⟨(.some 10), (.mov (.tmp 0)), .none⟩]
def p8_7 : List PO := [⟨(.some 12), (.cmpI .eql (.tmp 10) (.const (.int .i64 0))), .none⟩, ⟨(.some 11), (.mov (.tmp 12)), .none⟩]
def p8_8 : List PO := [⟨(.some 13), (.mov (.tmp 2)), .none⟩]
def p8_9 : List PO := [⟨(.some 6), (.mov (.const (.int .i64 1))), .none⟩, ⟨(.some 7), (.mov (.const (.int .i64 1))), .none⟩, ⟨(.some 8), (.mov (.const (.bool .false))), .none⟩]
def p8_10 : List PO := [⟨(.some 6), (.mov (.const (.int .i64 0))), .none⟩, ⟨(.some 7), (.mov (.const (.int .i64 2))), .none⟩, ⟨(.some 8), (.mov (.const (.bool .false))), .none⟩]
def p8_11 : List PO := [⟨(.some 15), (.cmpI .eql (.tmp 10) (.const (.int .i64 1))), .none⟩, ⟨(.some 14), (.mov (.tmp 15)), .none⟩]
def p8_12 : List PO := [⟨(.some 16), (.cmpI .eql (.tmp 10) (.const (.int .i64 4))), .none⟩, ⟨(.some 14), (.mov (.tmp 16)), .none⟩]
def p8_13 : List PO := [⟨(.some 6), (.mov (.const (.int .i64 1))), .none⟩, ⟨(.some 7), (.mov (.const (.int .i64 0))), .none⟩, ⟨(.some 8), (.mov (.const (.bool .false))), .none⟩]
def p8_14 : List PO := [⟨(.some 18), (.cmpI .eql (.tmp 10) (.const (.int .i64 2))), .none⟩, ⟨(.some 17), (.mov (.tmp 18)), .none⟩]
def p8_15 : List PO := [⟨(.some 6), (.mov (.const (.int .i64 0))), .none⟩, ⟨(.some 7), (.mov (.const (.int .i64 0))), .none⟩, ⟨(.some 8), (.mov (.const (.bool .true))), .none⟩]
def p8_16 : List PO := [⟨(.some 20), (.cmpI .eql (.tmp 10) (.const (.int .i64 3))), .none⟩, ⟨(.some 19), (.mov (.tmp 20)), .none⟩]
def p8_17 : List PO := [⟨(.some 6), (.mov (.const (.int .i64 1))), .none⟩, ⟨(.some 7), (.mov (.const (.int .i64 0))), .none⟩, ⟨(.some 8), (.mov (.const (.bool .true))), .none⟩]
def p8_18 : List PO := [⟨(.some 22), (.cmpI .eql (.tmp 10) (.const (.int .i64 5))), .none⟩, ⟨(.some 21), (.mov (.tmp 22)), .none⟩]
def p8_19 : List PO := [⟨(.some 6), (.mov (.const (.int .i64 2))), .none⟩, ⟨(.some 7), (.mov (.const (.int .i64 2))), .none⟩, ⟨(.some 8), (.mov (.const (.bool .false))), .none⟩]
def c8_2 : PCode := (.keep [0, 10, 14] [] [] (.cond (.tmp 14) (.seq (.reg p8_13) .ret) (.seq (.reg p8_14) (.cond (.tmp 17) (.seq (.reg p8_15) .ret) (.seq (.reg p8_16) (.cond (.tmp 19) (.seq (.reg p8_17) .ret) (.seq (.reg p8_18) (.cond (.tmp 21) (.seq (.reg p8_19) .ret) .skip))))))))
def c8_20 : PCode := (.seq (.reg p8_7) (.cond (.tmp 11) (.seq (.seq (.reg p8_8) (.cond (.tmp 13) (.seq (.reg p8_9) .ret) .skip)) (.seq (.reg p8_10) .ret)) (.seq (.seq (.reg p8_11) (.cond (.tmp 14) .skip (.reg p8_12))) c8_2)))
def p8_21 : List PO := [⟨(.some 23), (.mov (.tmp 0)), .none⟩, ⟨(.some 6), (.mov (.tmp 23)), .none⟩, ⟨(.some 7), (.mov (.const (.int .i64 0))), .none⟩, ⟨(.some 8), (.mov (.const (.bool .false))), .none⟩]
def c8_3 : PCode := (.seq (.reg p8_21) .ret)
def p8_22 : List PO := [⟨(.some 24), (.mov (.tmp 0)), .none⟩]
def p8_23 : List PO := [⟨(.some 26), (.cmpI .eql (.tmp 24) (.const (.int .i64 1))), .none⟩, ⟨(.some 25), (.mov (.tmp 26)), .none⟩]
def p8_24 : List PO := [⟨(.some 6), (.mov (.const (.int .i64 0))), .none⟩, ⟨(.some 7), (.mov (.const (.int .i64 2))), .none⟩, ⟨(.some 8), (.mov (.const (.bool .false))), .none⟩]
def p8_25 : List PO := [⟨(.some 28), (.cmpI .eql (.tmp 24) (.const (.int .i64 3))), .none⟩, ⟨(.some 27), (.mov (.tmp 28)), .none⟩]
def p8_26 : List PO := [⟨(.some 6), (.mov (.const (.int .i64 4))), .none⟩, ⟨(.some 7), (.mov (.const (.int .i64 1))), .none⟩, ⟨(.some 8), (.mov (.const (.bool .false))), .none⟩]
def p8_27 : List PO := [⟨(.some 30), (.cmpI .eql (.tmp 24) (.const (.int .i64 0))), .none⟩, ⟨(.some 29), (.mov (.tmp 30)), .none⟩]
def p8_28 : List PO := [⟨(.some 31), (.cmpI .eql (.tmp 24) (.const (.int .i64 2))), .none⟩, ⟨(.some 29), (.mov (.tmp 31)), .none⟩]
def p8_29 : List PO := [⟨(.some 32), (.cmpI .eql (.tmp 24) (.const (.int .i64 4))), .none⟩, ⟨(.some 29), (.mov (.tmp 32)), .none⟩]
def p8_30 : List PO := [⟨(.some 33), (.cmpI .eql (.tmp 24) (.const (.int .i64 5))), .none⟩, ⟨(.some 29), (.mov (.tmp 33)), .none⟩]
def p8_31 : List PO := [⟨(.some 6), (.mov (.const (.int .i64 0))), .none⟩, ⟨(.some 7), (.mov (.const (.int .i64 0))), .none⟩, ⟨(.some 8), (.mov (.const (.bool .false))), .none⟩]
def c8_32 : PCode := (.cond (.tmp 27) (.seq (.reg p8_26) .ret) (.seq (.seq (.reg p8_27) (.cond (.tmp 29) .skip (.seq (.reg p8_28) (.cond (.tmp 29) .skip (.seq (.reg p8_29) (.cond (.tmp 29) .skip (.reg p8_30))))))) (.cond (.tmp 29) (.seq (.reg p8_31) .ret) .skip)))
def p8_33 : List PO := [⟨(.some 34), (.mov (.tmp 0)), .none⟩, ⟨(.some 6), (.mov (.tmp 34)), .none⟩, ⟨(.some 7), (.mov (.const (.int .i64 0))), .none⟩, ⟨(.some 8), (.mov (.const (.bool .false))), .none⟩]
def c8_1 : PCode := (.keep [0] [] [] (.seq (.seq (.reg p8_22) (.block 1 (.seq (.reg p8_23) (.cond (.tmp 25) (.seq (.reg p8_24) .ret) (.seq (.reg p8_25) c8_32))))) (.seq (.reg p8_33) .ret)))
def c8_b : PCode := (.seq (.reg p8_4) (.seq (.seq (.reg p8_5) (.cond (.tmp 9) (.seq (.seq (.reg p8_6) (.block 0 c8_20)) c8_3) .skip)) c8_1))
def c8 : FCode := ⟨35, c8_b, [(.tmp 6), (.tmp 7), (.tmp 8)], some ([6, 7, 8], [], []), false⟩
theorem c8_ok : compF Go.Proofs.Try.prog [] 8 = some (eraseF c8) := by kernel_rfl
def p18_3 : List PO := [⟨(.some 6), (.mov (.const (.string ⟨#[]⟩))), .none⟩]
def p18_4 : List PO := [⟨(.some 8), (.mov (.tmp 1)), .none⟩, ⟨(.some 9), (.cmpI .eql (.tmp 8) (.const (.int .i64 0))), .none⟩]
def p18_5 : List PO := [⟨(.some 6), (.mov (.const (.string ⟨#[]⟩))), .none⟩]
def p18_6 : List PO := [⟨(.some 7), (.mov (.const (.int .i64 253))), .none⟩]
def p18_7 : List PO := [⟨(.some 10), (.mov (.tmp 0)), .none⟩]
def p18_8 : List PO := [⟨(.some 7), (.mov (.const (.int .i64 251))), .none⟩]
def p18_9 : List PO := [⟨(.some 11), (.mov (.tmp 7)), .none⟩, ⟨(.some 12), (.mov (.tmp 1)), .none⟩, ⟨(.some 13), (.arI .add (.tmp 11) (.tmp 12)), .none⟩, ⟨(.some 14), (.arI .sub (.tmp 13) (.const (.int .i64 1))), .none⟩, ⟨(.some 15), (.cvI .u8 (.tmp 14)), .none⟩, ⟨(.some 16), (.mov (.tmp 2)), .none⟩, ⟨(.some 17), (.cvI .u8 (.tmp 16)), .none⟩, ⟨(.some 18), (.bsl 5 1 3 [(3, (.int .u8 0))] [(0, (1, (.const (.int .u8 255)))), (1, (1, (.tmp 15))), (2, (1, (.tmp 17)))]), .none⟩, ⟨(.some 19), (.cvBS (.tmp 18)), .none⟩, ⟨(.some 6), (.mov (.tmp 19)), .none⟩]
def c18_1 : PCode := (.keep [1, 2, 7] [] [] (.seq (.reg p18_9) .ret))
def c18_2 : PCode := (.keep [0, 1, 2] [] [] (.seq (.reg p18_6) (.seq (.seq (.reg p18_7) (.cond (.tmp 10) (.reg p18_8) .skip)) c18_1)))
def c18_b : PCode := (.seq (.reg p18_3) (.seq (.seq (.reg p18_4) (.cond (.tmp 9) (.seq (.reg p18_5) .ret) .skip)) c18_2))
def c18 : FCode := ⟨20, c18_b, [(.tmp 6)], some ([6], [], []), false⟩
theorem c18_ok : compF Go.Proofs.Try.prog [] 18 = some (eraseF c18) := by kernel_rfl
def p17_3 : List PO := [⟨(.some 2), (.box 520 (.tmp 0)), .none⟩, ⟨(.some 3), (.box 4 (.tmp 1)), .none⟩, ⟨(.some 4), (.alloc [(512, (.int .u8 0)), (8, (.int .u64 0))]), .none⟩, ⟨(.some 5), (.mov (.const (.string ⟨#[]⟩))), .none⟩]
def p17_4 : List PO := [⟨(.some 13), (.fld 1 (.tmp 3)), .none⟩, ⟨(.some 14), (.load .false 1 (.tmp 13)), .none⟩, ⟨(.some 15), (.cmpI .eql (.tmp 14) (.const (.int .i64 251))), .none⟩, ⟨(.some 16), (.mov (.tmp 15)), .none⟩, ⟨(.some 17), (.fld 1 (.tmp 3)), (.some (16, .false))⟩, ⟨(.some 18), (.load .false 1 (.tmp 17)), (.some (16, .false))⟩, ⟨(.some 19), (.cmpI .eql (.tmp 18) (.const (.int .i64 253))), (.some (16, .false))⟩, ⟨(.some 20), (.pick (.tmp 16) (.const (.bool .true)) (.tmp 19)), .none⟩, ⟨(.some 6), (.mov (.tmp 20)), .none⟩]
def p17_5 : List PO := [⟨(.some 21), (.fld 1 (.tmp 3)), .none⟩, ⟨(.some 22), (.load .false 1 (.tmp 21)), .none⟩, ⟨(.some 23), (.cmpI .eql (.tmp 22) (.const (.int .i64 253))), .none⟩, ⟨(.some 24), (.mov (.tmp 23)), .none⟩, ⟨(.some 25), (.fld 1 (.tmp 3)), (.some (24, .false))⟩, ⟨(.some 26), (.load .false 1 (.tmp 25)), (.some (24, .false))⟩, ⟨(.some 27), (.cmpI .eql (.tmp 26) (.const (.int .i64 254))), (.some (24, .false))⟩, ⟨(.some 28), (.pick (.tmp 24) (.const (.bool .true)) (.tmp 27)), .none⟩, ⟨(.some 7), (.mov (.tmp 28)), .none⟩]
def p17_6 : List PO := [⟨(.some 29), (.fld 2 (.tmp 3)), .none⟩, ⟨(.some 30), (.load .false 1 (.tmp 29)), .none⟩, ⟨(.some 31), (.fld 256 (.tmp 2)), .none⟩, ⟨(.some 32), (.ixA 256 1 (.tmp 31) (.tmp 30)), .none⟩, ⟨(.some 33), (.fld 516 (.tmp 2)), .none⟩, ⟨(.some 34), (.load .true 4 (.tmp 33)), .none⟩, ⟨(.some 9), (.alloc [(4, (.int .u64 0))]), .none⟩, ⟨(.some 8), (.mov (.tmp 32)), .none⟩, ⟨.none, (.store 4 (.tmp 9) (.tmp 34)), .none⟩]
def p17_7 : List PO := [⟨(.some 35), (.mov (.tmp 7)), .none⟩]
def p17_8 : List PO := [⟨(.some 36), (.fld 2 (.tmp 3)), .none⟩, ⟨(.some 37), (.load .false 1 (.tmp 36)), .none⟩, ⟨(.some 38), (.fld 0 (.tmp 2)), .none⟩, ⟨(.some 39), (.ixA 256 1 (.tmp 38) (.tmp 37)), .none⟩, ⟨(.some 40), (.fld 512 (.tmp 2)), .none⟩, ⟨(.some 41), (.load .true 4 (.tmp 40)), .none⟩, ⟨(.some 8), (.mov (.tmp 39)), .none⟩, ⟨.none, (.store 4 (.tmp 9) (.tmp 41)), .none⟩]
def p17_9 : List PO := [⟨(.some 43), (.mov (.tmp 8)), .none⟩, ⟨(.some 44), (.nilC (.tmp 43)), .none⟩, ⟨(.some 45), (.load .false 1 (.tmp 44)), .none⟩, ⟨(.some 46), (.cvI .i64 (.tmp 45)), .none⟩, ⟨(.some 47), (.mov (.tmp 6)), .none⟩, ⟨(.some 48), (.fld 2 (.tmp 3)), .none⟩, ⟨(.some 49), (.load .false 1 (.tmp 48)), .none⟩, ⟨(.some 50), (.arI .quo (.tmp 49) (.const (.int .i64 64))), .none⟩, ⟨(.some 51), (.ixA 4 1 (.tmp 9) (.tmp 50)), .none⟩, ⟨(.some 52), (.load .false 1 (.tmp 51)), .none⟩, ⟨(.some 53), (.fld 2 (.tmp 3)), .none⟩, ⟨(.some 54), (.load .false 1 (.tmp 53)), .none⟩, ⟨(.some 55), (.arI .rem (.tmp 54) (.const (.int .i64 64))), .none⟩, ⟨(.some 56), (.sh .shr (.tmp 52) (.tmp 55)), .none⟩, ⟨(.some 57), (.arI .and (.tmp 56) (.const (.int .u64 1))), .none⟩, ⟨(.some 58), (.cmpI .eql (.tmp 57) (.const (.int .u64 1))), .none⟩, ⟨(.some 59), (.call 8 [(.tmp 46), (.tmp 47), (.tmp 58)]), .none⟩, ⟨(.some 42), (.mov (.tmp 59)), .none⟩, ⟨(.some 60), (.ext (.tmp 42) 0), .none⟩, ⟨(.some 61), (.ext (.tmp 42) 1), .none⟩, ⟨(.some 62), (.ext (.tmp 42) 2), .none⟩, ⟨(.some 10), (.mov (.tmp 60)), .none⟩, ⟨(.some 11), (.mov (.tmp 61)), .none⟩, ⟨(.some 12), (.mov (.tmp 62)), .none⟩]
def p17_10 : List PO := [⟨(.some 63), (.mov (.tmp 8)), .none⟩, ⟨(.some 64), (.mov (.tmp 10)), .none⟩, ⟨(.some 65), (.cvI .u8 (.tmp 64)), .none⟩, ⟨(.some 66), (.nilC (.tmp 63)), .none⟩, ⟨.none, (.store 1 (.tmp 66) (.tmp 65)), .none⟩]
def p17_11 : List PO := [⟨(.some 67), (.load .true 520 (.tmp 2)), .none⟩, ⟨(.some 68), (.mov (.tmp 7)), .none⟩, ⟨(.some 69), (.mov (.tmp 11)), .none⟩, ⟨(.some 70), (.fld 2 (.tmp 3)), .none⟩, ⟨(.some 71), (.load .false 1 (.tmp 70)), .none⟩, ⟨(.some 72), (.call 18 [(.tmp 68), (.tmp 69), (.tmp 71)]), .none⟩, ⟨.none, (.store 520 (.tmp 4) (.tmp 67)), .none⟩, ⟨(.some 5), (.mov (.tmp 72)), .none⟩]
def c17_1 : PCode := (.keep [2, 3, 4, 6, 7] [(24, .id 24), (32, .id 32), (40, .id 40)] [] (.seq (.regD p17_6 [(1, 6), (5, 6)]) (.seq (.seq (.reg p17_7) (.cond (.tmp 35) (.regD p17_8 []) .skip)) (.seq (.regD p17_9 []) (.seq (.reg p17_10) (.seq (.regD p17_11 [(0, 5)]) .ret))))))
def c17_2 : PCode := (.keep [2, 3, 4, 6] [(24, .id 24), (32, .id 32), (40, .id 40)] [] (.seq (.reg p17_5) c17_1))
def c17_b : PCode := (.seq (.reg p17_3) (.seq (.reg p17_4) c17_2))
def c17 : FCode := ⟨73, c17_b, [(.cell 4 .true 520), (.tmp 5)], some ([4, 5], [(40, .id 40)], []), false⟩
theorem c17_ok : compF Go.Proofs.Try.prog [] 17 = some (eraseF c17) := by kernel_rfl
def p11_3 : List PO := [⟨(.some 2), (.box 520 (.tmp 0)), .none⟩, ⟨(.some 3), (.box 4 (.tmp 1)), .none⟩, ⟨(.some 4), (.alloc [(512, (.int .u8 0)), (8, (.int .u64 0))]), .none⟩, ⟨(.some 5), (.mov (.const (.string ⟨#[]⟩))), .none⟩, ⟨(.some 6), (.mov (.const (.int .i64 0))), .none⟩]
def p11_4 : List PO := [⟨(.some 9), (.load .true 520 (.tmp 2)), .none⟩, ⟨(.some 10), (.call 15 [(.tmp 9)]), .none⟩, ⟨(.some 7), (.mov (.tmp 10)), .none⟩]
def p11_5 : List PO := [⟨(.some 11), (.mov (.tmp 7)), .none⟩, ⟨(.some 12), (.cmpI .neq (.tmp 11) (.const (.int .i64 0))), .none⟩]
def p11_6 : List PO := [⟨(.some 13), (.load .true 520 (.tmp 2)), .none⟩, ⟨(.some 14), (.mov (.tmp 7)), .none⟩, ⟨.none, (.store 520 (.tmp 4) (.tmp 13)), .none⟩, ⟨(.some 5), (.mov (.const (.string ⟨#[]⟩))), .none⟩, ⟨(.some 6), (.mov (.tmp 14)), .none⟩]
def p11_7 : List PO := [⟨(.some 15), (.load .true 4 (.tmp 3)), .none⟩, ⟨(.some 16), (.call 16 [(.tmp 15)]), .none⟩, ⟨(.some 17), (.un .not (.tmp 16)), .none⟩]
def p11_8 : List PO := [⟨(.some 18), (.load .true 520 (.tmp 2)), .none⟩, ⟨.none, (.store 520 (.tmp 4) (.tmp 18)), .none⟩, ⟨(.some 5), (.mov (.const (.string ⟨#[]⟩))), .none⟩, ⟨(.some 6), (.mov (.const (.int .i64 1))), .none⟩]
def p11_9 : List PO := [⟨(.some 20), (.load .true 520 (.tmp 2)), .none⟩, ⟨(.some 21), (.load .true 4 (.tmp 3)), .none⟩, ⟨(.some 22), (.call 17 [(.tmp 20), (.tmp 21)]), .none⟩, ⟨(.some 19), (.mov (.tmp 22)), .none⟩, ⟨(.some 23), (.ext (.tmp 19) 0), .none⟩, ⟨(.some 24), (.ext (.tmp 19) 1), .none⟩, ⟨.none, (.store 520 (.tmp 2) (.tmp 23)), .none⟩, ⟨(.some 8), (.mov (.tmp 24)), .none⟩]
def p11_10 : List PO := [⟨(.some 25), (.load .true 520 (.tmp 2)), .none⟩, ⟨(.some 26), (.mov (.tmp 8)), .none⟩, ⟨.none, (.store 520 (.tmp 4) (.tmp 25)), .none⟩, ⟨(.some 5), (.mov (.tmp 26)), .none⟩, ⟨(.some 6), (.mov (.const (.int .i64 0))), .none⟩]
def c11_1 : PCode := (.keep [2, 3, 4] [(24, .id 24), (32, .id 32), (40, .id 40)] [] (.seq (.reg p11_9) (.seq (.reg p11_10) .ret)))
def c11_2 : PCode := (.keep [2, 3, 4] [(24, .id 24), (32, .id 32), (40, .id 40)] [] (.seq (.seq (.reg p11_7) (.cond (.tmp 17) (.seq (.reg p11_8) .ret) .skip)) c11_1))
def c11_b : PCode := (.seq (.reg p11_3) (.seq (.seq (.reg p11_4) (.seq (.reg p11_5) (.cond (.tmp 12) (.seq (.reg p11_6) .ret) .skip))) c11_2))
def c11 : FCode := ⟨27, c11_b, [(.cell 4 .true 520), (.tmp 5), (.tmp 6)], some ([4, 5, 6], [(40, .id 40)], []), false⟩
theorem c11_ok : compF Go.Proofs.Try.prog [] 11 = some (eraseF c11) := by kernel_rfl
def p10_8 : List PO := [⟨(.some 4), (.mov (.const (.int .i64 0))), .none⟩, ⟨(.some 5), (.mov (.const (.int .i64 0))), .none⟩, ⟨(.some 6), (.mov (.const (.int .i64 0))), .none⟩]
def p10_9 : List PO := [⟨(.some 7), (.mov (.tmp 0)), .none⟩, ⟨(.some 8), (.call 14 [(.tmp 7)]), .none⟩, ⟨(.some 9), (.un .not (.tmp 8)), .none⟩]
def p10_10 : List PO := [⟨(.some 10), (.mov (.tmp 0)), .none⟩, ⟨(.some 4), (.mov (.tmp 10)), .none⟩, ⟨(.some 5), (.mov (.const (.int .i64 0))), .none⟩, ⟨(.some 6), (.mov (.const (.int .i64 1))), .none⟩]
def p10_11 : List PO := [⟨(.some 12), (.mov (.tmp 1)), .none⟩, ⟨(.some 13), (.mov (.tmp 12)), .none⟩, ⟨(.some 14), (.mov (.tmp 0)), (.some (13, .true))⟩, ⟨(.some 15), (.cmpI .eql (.tmp 14) (.const (.int .i64 0))), (.some (13, .true))⟩, ⟨(.some 16), (.pick (.tmp 13) (.tmp 15) (.const (.bool .false))), .none⟩, ⟨(.some 11), (.mov (.tmp 16)), .none⟩]
def p10_12 : List PO := [⟨(.some 4), (.mov (.const (.int .i64 4))), .none⟩, ⟨(.some 5), (.mov (.const (.int .i64 1))), .none⟩, ⟨(.some 6), (.mov (.const (.int .i64 0))), .none⟩]
def p10_13 : List PO := [⟨(.some 18), (.mov (.tmp 1)), .none⟩, ⟨(.some 19), (.mov (.tmp 18)), .none⟩, ⟨(.some 20), (.mov (.tmp 0)), (.some (19, .true))⟩, ⟨(.some 21), (.cmpI .eql (.tmp 20) (.const (.int .i64 2))), (.some (19, .true))⟩, ⟨(.some 22), (.pick (.tmp 19) (.tmp 21) (.const (.bool .false))), .none⟩, ⟨(.some 17), (.mov (.tmp 22)), .none⟩]
def p10_14 : List PO := [⟨(.some 4), (.mov (.const (.int .i64 3))), .none⟩, ⟨(.some 5), (.mov (.const (.int .i64 0))), .none⟩, ⟨(.some 6), (.mov (.const (.int .i64 0))), .none⟩]
def p10_15 : List PO := [⟨(.some 24), (.mov (.tmp 1)), .none⟩, ⟨(.some 25), (.mov (.tmp 24)), .none⟩, ⟨(.some 26), (.mov (.tmp 0)), (.some (25, .true))⟩, ⟨(.some 27), (.cmpI .eql (.tmp 26) (.const (.int .i64 5))), (.some (25, .true))⟩, ⟨(.some 28), (.pick (.tmp 25) (.tmp 27) (.const (.bool .false))), .none⟩, ⟨(.some 23), (.mov (.tmp 28)), .none⟩]
def p10_16 : List PO := [⟨(.some 4), (.mov (.const (.int .i64 4))), .none⟩, ⟨(.some 5), (.mov (.const (.int .i64 0))), .none⟩, ⟨(.some 6), (.mov (.const (.int .i64 0))), .none⟩]
def p10_17 : List PO := [⟨(.some 30), (.mov (.tmp 1)), .none⟩, ⟨(.some 31), (.un .not (.tmp 30)), .none⟩, ⟨(.some 32), (.mov (.tmp 31)), .none⟩, ⟨(.some 33), (.mov (.tmp 0)), (.some (32, .true))⟩, ⟨(.some 34), (.cmpI .eql (.tmp 33) (.const (.int .i64 1))), (.some (32, .true))⟩, ⟨(.some 35), (.pick (.tmp 32) (.tmp 34) (.const (.bool .false))), .none⟩, ⟨(.some 29), (.mov (.tmp 35)), .none⟩]
def p10_18 : List PO := [⟨(.some 4), (.mov (.const (.int .i64 2))), .none⟩, ⟨(.some 5), (.mov (.const (.int .i64 2))), .none⟩, ⟨(.some 6), (.mov (.const (.int .i64 0))), .none⟩]
def p10_19 : List PO := [⟨(.some 37), (.mov (.tmp 1)), .none⟩, ⟨(.some 38), (.un .not (.tmp 37)), .none⟩, ⟨(.some 39), (.mov (.tmp 38)), .none⟩, ⟨(.some 40), (.mov (.tmp 0)), (.some (39, .true))⟩, ⟨(.some 41), (.cmpI .eql (.tmp 40) (.const (.int .i64 3))), (.some (39, .true))⟩, ⟨(.some 42), (.pick (.tmp 39) (.tmp 41) (.const (.bool .false))), .none⟩, ⟨(.some 36), (.mov (.tmp 42)), .none⟩]
def p10_20 : List PO := [⟨(.some 4), (.mov (.const (.int .i64 2))), .none⟩, ⟨(.some 5), (.mov (.const (.int .i64 0))), .none⟩, ⟨(.some 6), (.mov (.const (.int .i64 0))), .none⟩]
def p10_21 : List PO := [⟨(.some 44), (.mov (.tmp 1)), .none⟩, ⟨(.some 45), (.un .not (.tmp 44)), .none⟩, ⟨(.some 46), (.mov (.tmp 45)), .none⟩, ⟨(.some 47), (.mov (.tmp 0)), (.some (46, .true))⟩, ⟨(.some 48), (.cmpI .eql (.tmp 47) (.const (.int .i64 4))), (.some (46, .true))⟩, ⟨(.some 49), (.pick (.tmp 46) (.tmp 48) (.const (.bool .false))), .none⟩, ⟨(.some 43), (.mov (.tmp 49)), .none⟩]
def p10_22 : List PO := [⟨(.some 4), (.mov (.const (.int .i64 5))), .none⟩, ⟨(.some 5), (.mov (.const (.int .i64 0))), .none⟩, ⟨(.some 6), (.mov (.const (.int .i64 0))), .none⟩]
def c10_1 : PCode := (.keep [0, 1] [] [] (.seq (.reg p10_21) (.cond (.tmp 43) (.seq (.reg p10_22) .ret) .skip)))
def c10_3 : PCode := (.keep [0, 1] [] [] (.seq (.reg p10_19) (.cond (.tmp 36) (.seq (.reg p10_20) .ret) c10_1)))
def c10_4 : PCode := (.keep [0, 1] [] [] (.seq (.reg p10_17) (.cond (.tmp 29) (.seq (.reg p10_18) .ret) c10_3)))
def c10_5 : PCode := (.keep [0, 1] [] [] (.seq (.reg p10_15) (.cond (.tmp 23) (.seq (.reg p10_16) .ret) c10_4)))
def c10_6 : PCode := (.keep [0, 1] [] [] (.seq (.reg p10_13) (.cond (.tmp 17) (.seq (.reg p10_14) .ret) c10_5)))
def p10_23 : List PO := [⟨(.some 50), (.mov (.tmp 0)), .none⟩, ⟨(.some 4), (.mov (.tmp 50)), .none⟩, ⟨(.some 5), (.mov (.const (.int .i64 0))), .none⟩, ⟨(.some 6), (.mov (.const (.int .i64 7))), .none⟩]
def c10_2 : PCode := (.seq (.reg p10_23) .ret)
def c10_7 : PCode := (.keep [0, 1] [] [] (.seq (.block 0 (.seq (.reg p10_11) (.cond (.tmp 11) (.seq (.reg p10_12) .ret) c10_6))) c10_2))
def c10_b : PCode := (.seq (.reg p10_8) (.seq (.seq (.reg p10_9) (.cond (.tmp 9) (.seq (.reg p10_10) .ret) .skip)) c10_7))
def c10 : FCode := ⟨51, c10_b, [(.tmp 4), (.tmp 5), (.tmp 6)], some ([4, 5, 6], [], []), false⟩
theorem c10_ok : compF Go.Proofs.Try.prog [] 10 = some (eraseF c10) := by kernel_rfl
def p12_3 : List PO := [⟨(.some 4), (.box 520 (.tmp 0)), .none⟩, ⟨(.some 8), (.alloc [(512, (.int .u8 0)), (8, (.int .u64 0))]), .none⟩, ⟨(.some 9), (.mov (.const (.string ⟨#[]⟩))), .none⟩, ⟨(.some 10), (.mov (.const (.int .i64 0))), .none⟩]
def p12_4 : List PO := [⟨(.some 16), (.load .true 520 (.tmp 4)), .none⟩, ⟨(.some 17), (.call 15 [(.tmp 16)]), .none⟩, ⟨(.some 11), (.mov (.tmp 17)), .none⟩]
def p12_5 : List PO := [⟨(.some 18), (.mov (.tmp 11)), .none⟩, ⟨(.some 19), (.cmpI .neq (.tmp 18) (.const (.int .i64 0))), .none⟩]
def p12_6 : List PO := [⟨(.some 20), (.load .true 520 (.tmp 4)), .none⟩, ⟨(.some 21), (.mov (.tmp 11)), .none⟩, ⟨.none, (.store 520 (.tmp 8) (.tmp 20)), .none⟩, ⟨(.some 9), (.mov (.const (.string ⟨#[]⟩))), .none⟩, ⟨(.some 10), (.mov (.tmp 21)), .none⟩]
def p12_7 : List PO := [⟨(.some 22), (.mov (.tmp 2)), .none⟩, ⟨(.some 23), (.cmpI .lss (.tmp 22) (.const (.int .i64 0))), .none⟩, ⟨(.some 24), (.mov (.tmp 23)), .none⟩, ⟨(.some 25), (.mov (.tmp 2)), (.some (24, .false))⟩, ⟨(.some 26), (.cmpI .gtr (.tmp 25) (.const (.int .i64 255))), (.some (24, .false))⟩, ⟨(.some 27), (.pick (.tmp 24) (.const (.bool .true)) (.tmp 26)), .none⟩]
def p12_8 : List PO := [⟨(.some 28), (.load .true 520 (.tmp 4)), .none⟩, ⟨.none, (.store 520 (.tmp 8) (.tmp 28)), .none⟩, ⟨(.some 9), (.mov (.const (.string ⟨#[]⟩))), .none⟩, ⟨(.some 10), (.mov (.const (.int .i64 1))), .none⟩]
def p12_9 : List PO := [⟨(.some 29), (.mov (.tmp 2)), .none⟩, ⟨(.some 30), (.fld 256 (.tmp 4)), .none⟩, ⟨(.some 31), (.ixA 256 1 (.tmp 30) (.tmp 29)), .none⟩, ⟨(.some 12), (.mov (.tmp 31)), .none⟩]
def p12_10 : List PO := [⟨(.some 32), (.mov (.tmp 1)), .none⟩]
def p12_11 : List PO := [⟨(.some 33), (.mov (.tmp 2)), .none⟩, ⟨(.some 34), (.fld 0 (.tmp 4)), .none⟩, ⟨(.some 35), (.ixA 256 1 (.tmp 34) (.tmp 33)), .none⟩, ⟨(.some 12), (.mov (.tmp 35)), .none⟩]
def p12_12 : List PO := [⟨(.some 37), (.mov (.tmp 12)), .none⟩, ⟨(.some 38), (.nilC (.tmp 37)), .none⟩, ⟨(.some 39), (.load .false 1 (.tmp 38)), .none⟩, ⟨(.some 40), (.cvI .i64 (.tmp 39)), .none⟩, ⟨(.some 41), (.mov (.tmp 3)), .none⟩, ⟨(.some 42), (.call 10 [(.tmp 40), (.tmp 41)]), .none⟩, ⟨(.some 36), (.mov (.tmp 42)), .none⟩, ⟨(.some 43), (.ext (.tmp 36) 0), .none⟩, ⟨(.some 44), (.ext (.tmp 36) 1), .none⟩, ⟨(.some 45), (.ext (.tmp 36) 2), .none⟩, ⟨(.some 13), (.mov (.tmp 43)), .none⟩, ⟨(.some 14), (.mov (.tmp 44)), .none⟩, ⟨(.some 15), (.mov (.tmp 45)), .none⟩]
def p12_13 : List PO := [⟨(.some 46), (.mov (.tmp 15)), .none⟩, ⟨(.some 47), (.cmpI .neq (.tmp 46) (.const (.int .i64 0))), .none⟩]
def p12_14 : List PO := [⟨(.some 48), (.load .true 520 (.tmp 4)), .none⟩, ⟨(.some 49), (.mov (.tmp 15)), .none⟩, ⟨.none, (.store 520 (.tmp 8) (.tmp 48)), .none⟩, ⟨(.some 9), (.mov (.const (.string ⟨#[]⟩))), .none⟩, ⟨(.some 10), (.mov (.tmp 49)), .none⟩]
def p12_15 : List PO := [⟨(.some 50), (.mov (.tmp 12)), .none⟩, ⟨(.some 51), (.mov (.tmp 13)), .none⟩, ⟨(.some 52), (.cvI .u8 (.tmp 51)), .none⟩, ⟨(.some 53), (.nilC (.tmp 50)), .none⟩, ⟨.none, (.store 1 (.tmp 53) (.tmp 52)), .none⟩]
def p12_16 : List PO := [⟨(.some 54), (.load .true 520 (.tmp 4)), .none⟩, ⟨(.some 55), (.mov (.tmp 1)), .none⟩, ⟨(.some 56), (.mov (.tmp 14)), .none⟩, ⟨(.some 57), (.mov (.tmp 2)), .none⟩, ⟨(.some 58), (.call 18 [(.tmp 55), (.tmp 56), (.tmp 57)]), .none⟩, ⟨.none, (.store 520 (.tmp 8) (.tmp 54)), .none⟩, ⟨(.some 9), (.mov (.tmp 58)), .none⟩, ⟨(.some 10), (.mov (.const (.int .i64 0))), .none⟩]
def c12_17 : PCode := (.seq (.seq (.reg p12_10) (.cond (.tmp 32) (.reg p12_11) .skip)) (.seq (.reg p12_12) (.seq (.seq (.reg p12_13) (.cond (.tmp 47) (.seq (.reg p12_14) .ret) .skip)) (.seq (.reg p12_15) (.seq (.regD p12_16 [(0, 4)]) .ret)))))
def c12_1 : PCode := (.keep [1, 2, 3, 4, 8] [(40, .id 40), (72, .id 72)] [] (.seq (.reg p12_9) c12_17))
def c12_2 : PCode := (.keep [1, 2, 3, 4, 8] [(40, .id 40), (72, .id 72)] [] (.seq (.seq (.reg p12_7) (.cond (.tmp 27) (.seq (.reg p12_8) .ret) .skip)) c12_1))
def c12_b : PCode := (.seq (.reg p12_3) (.seq (.seq (.reg p12_4) (.seq (.reg p12_5) (.cond (.tmp 19) (.seq (.reg p12_6) .ret) .skip))) c12_2))
def c12 : FCode := ⟨59, c12_b, [(.cell 8 .true 520), (.tmp 9), (.tmp 10)], some ([8, 9, 10], [(72, .id 72)], []), false⟩
theorem c12_ok : compF Go.Proofs.Try.prog [] 12 = some (eraseF c12) := by kernel_rfl
def p9_1 : List PO := [⟨(.some 0), (.mov (.const (.bool .false))), .none⟩]
def p9_2 : List PO := [⟨(.some 5), (.build [(4, (.int .u64 0))] [(0, (1, (.const (.int .u64 2))))]), .none⟩, ⟨(.some 6), (.build [(512, (.int .u8 0)), (8, (.int .u64 0))] [(512, (4, (.tmp 5)))]), .none⟩, ⟨(.some 7), (.build [(3, (.int .i64 0)), (1, (.string ⟨#[]⟩))] [(0, (1, (.const (.int .i64 3)))), (1, (1, (.const (.int .i64 253)))), (2, (1, (.const (.int .i64 1))))]), .none⟩, ⟨(.some 8), (.call 11 [(.tmp 6), (.tmp 7)]), .none⟩, ⟨(.some 4), (.mov (.tmp 8)), .none⟩, ⟨(.some 9), (.ext (.tmp 4) 0), .none⟩, ⟨(.some 10), (.ext (.tmp 4) 1), .none⟩, ⟨(.some 11), (.ext (.tmp 4) 2), .none⟩, ⟨(.some 1), (.alloc [(512, (.int .u8 0)), (8, (.int .u64 0))]), .none⟩, ⟨.none, (.store 520 (.tmp 1) (.tmp 9)), .none⟩, ⟨(.some 2), (.mov (.tmp 10)), .none⟩, ⟨(.some 3), (.mov (.tmp 11)), .none⟩]
def p9_3 : List PO := [⟨(.some 12), (.mov (.tmp 3)), .none⟩, ⟨(.some 13), (.cmpI .eql (.tmp 12) (.const (.int .i64 0))), .none⟩, ⟨(.some 14), (.mov (.tmp 13)), .none⟩, ⟨(.some 15), (.mov (.tmp 2)), (.some (14, .true))⟩, ⟨(.some 16), (.strO .eql (.tmp 15) (.const (.string ⟨#[255, 251, 1]⟩))), (.some (14, .true))⟩, ⟨(.some 17), (.pick (.tmp 14) (.tmp 16) (.const (.bool .false))), .none⟩, ⟨(.some 18), (.mov (.tmp 17)), .none⟩, ⟨(.some 19), (.fld 0 (.tmp 1)), (.some (18, .true))⟩, ⟨(.some 20), (.ixA 256 1 (.tmp 19) (.const (.int .i64 1))), (.some (18, .true))⟩, ⟨(.some 21), (.load .false 1 (.tmp 20)), (.some (18, .true))⟩, ⟨(.some 22), (.cmpI .eql (.tmp 21) (.const (.int .u8 1))), (.some (18, .true))⟩, ⟨(.some 23), (.pick (.tmp 18) (.tmp 22) (.const (.bool .false))), .none⟩, ⟨(.some 0), (.mov (.tmp 23)), .none⟩]
def c9_b : PCode := (.seq (.reg p9_1) (.seq (.reg p9_2) (.seq (.reg p9_3) .ret)))
def c9 : FCode := ⟨24, c9_b, [(.tmp 0)], some ([0], [], []), false⟩
theorem c9_ok : compF Go.Proofs.Try.prog [] 9 = some (eraseF c9) := by kernel_rfl
def p19_1 : List PO := [⟨(.some 6), (.mov (.const (.bool .false))), .none⟩]
def p19_2 : List PO := [⟨(.some 7), (.mov (.tmp 1)), .none⟩, ⟨(.some 8), (.mov (.tmp 0)), .none⟩, ⟨(.some 9), (.cmpI .leq (.tmp 7) (.tmp 8)), .none⟩, ⟨(.some 10), (.mov (.tmp 9)), .none⟩, ⟨(.some 11), (.mov (.tmp 0)), (.some (10, .true))⟩, ⟨(.some 12), (.mov (.tmp 2)), (.some (10, .true))⟩, ⟨(.some 13), (.cmpI .leq (.tmp 11) (.tmp 12)), (.some (10, .true))⟩, ⟨(.some 14), (.pick (.tmp 10) (.tmp 13) (.const (.bool .false))), .none⟩, ⟨(.some 6), (.mov (.tmp 14)), .none⟩]
def c19_b : PCode := (.seq (.reg p19_1) (.seq (.reg p19_2) .ret))
def c19 : FCode := ⟨15, c19_b, [(.tmp 6)], some ([6], [], []), false⟩
theorem c19_ok : compF Go.Proofs.Try.prog [] 19 = some (eraseF c19) := by kernel_rfl
def p13_4 : List PO := [⟨(.some 1), (.box 520 (.tmp 0)), .none⟩, ⟨(.some 2), (.mov (.const (.int .i64 0))), .none⟩]
def p13_5 : List PO := [⟨(.some 4), (.mov (.const (.int .i64 0))), .none⟩]
def p13_6 : List PO := [⟨(.some 5), (.cmpI .lss (.tmp 4) (.const (.int .i64 256))), .none⟩]
def p13_7 : List PO := [⟨(.some 6), (.mov (.tmp 4)), .none⟩, ⟨(.some 3), (.mov (.tmp 6)), .none⟩]
def p13_8 : List PO := [⟨(.some 7), (.mov (.tmp 3)), .none⟩, ⟨(.some 8), (.fld 0 (.tmp 1)), .none⟩, ⟨(.some 9), (.ixA 256 1 (.tmp 8) (.tmp 7)), .none⟩, ⟨(.some 10), (.load .false 1 (.tmp 9)), .none⟩, ⟨(.some 11), (.cvI .i64 (.tmp 10)), .none⟩, ⟨(.some 12), (.call 19 [(.tmp 11), (.const (.int .i64 0)), (.const (.int .i64 5))]), .none⟩, ⟨(.some 13), (.un .not (.tmp 12)), .none⟩, ⟨(.some 14), (.mov (.tmp 13)), .none⟩, ⟨(.some 15), (.mov (.tmp 3)), (.some (14, .false))⟩, ⟨(.some 16), (.fld 256 (.tmp 1)), (.some (14, .false))⟩, ⟨(.some 17), (.ixA 256 1 (.tmp 16) (.tmp 15)), (.some (14, .false))⟩, ⟨(.some 18), (.load .false 1 (.tmp 17)), (.some (14, .false))⟩, ⟨(.some 19), (.cvI .i64 (.tmp 18)), (.some (14, .false))⟩, ⟨(.some 20), (.call 19 [(.tmp 19), (.const (.int .i64 0)), (.const (.int .i64 5))]), (.some (14, .false))⟩, ⟨(.some 21), (.un .not (.tmp 20)), (.some (14, .false))⟩, ⟨(.some 22), (.pick (.tmp 14) (.const (.bool .true)) (.tmp 21)), .none⟩]
def p13_9 : List PO := [⟨(.some 2), (.mov (.const (.int .i64 4))), .none⟩]
def p13_10 : List PO := [⟨(.some 23), (.arI .add (.tmp 4) (.const (.int .i64 1))), .none⟩, ⟨(.some 4), (.mov (.tmp 23)), .none⟩]
def c13_1 : PCode := (.keep [1, 4] [(16, .id 16)] [] (.seq (.block 1 (.seq (.reg p13_7) (.seq (.reg p13_8) (.cond (.tmp 22) (.seq (.reg p13_9) .ret) .skip)))) (.reg p13_10)))
def c13_2 : PCode := (.keep [1, 4, 5] [(16, .id 16)] [] (.seq (.cond (.tmp 5) .skip (.keep [] [] [] (.exit 0))) c13_1))
def c13_3 : PCode := (.keep [1, 4] [(16, .id 16)] [] (.seq (.reg p13_6) c13_2))
def p13_11 : List PO := [⟨(.some 2), (.mov (.const (.int .i64 0))), .none⟩]
def c13_b : PCode := (.seq (.reg p13_4) (.seq (.seq (.reg p13_5) (.block 0 (.loop c13_3))) (.seq (.reg p13_11) .ret)))
def c13 : FCode := ⟨24, c13_b, [(.tmp 2)], some ([2], [], []), false⟩
theorem c13_ok : compF Go.Proofs.Try.prog [] 13 = some (eraseF c13) := by kernel_rfl
def p7_3 : List PO := [⟨(.some 5), (.box 520 (.tmp 0)), .none⟩, ⟨(.some 6), (.box 4 (.tmp 1)), .none⟩, ⟨(.some 10), (.mov (.const (.bool .false))), .none⟩]
def p7_4 : List PO := [⟨(.some 20), (.load .true 520 (.tmp 5)), .none⟩, ⟨(.some 21), (.load .true 4 (.tmp 6)), .none⟩, ⟨(.some 22), (.call 11 [(.tmp 20), (.tmp 21)]), .none⟩, ⟨(.some 19), (.mov (.tmp 22)), .none⟩, ⟨(.some 23), (.ext (.tmp 19) 0), .none⟩, ⟨(.some 24), (.ext (.tmp 19) 1), .none⟩, ⟨(.some 25), (.ext (.tmp 19) 2), .none⟩, ⟨(.some 11), (.alloc [(512, (.int .u8 0)), (8, (.int .u64 0))]), .none⟩, ⟨.none, (.store 520 (.tmp 11) (.tmp 23)), .none⟩, ⟨(.some 12), (.mov (.tmp 24)), .none⟩, ⟨(.some 13), (.mov (.tmp 25)), .none⟩]
def p7_5 : List PO := [⟨(.some 27), (.load .true 520 (.tmp 5)), .none⟩, ⟨(.some 28), (.mov (.tmp 2)), .none⟩, ⟨(.some 29), (.mov (.tmp 3)), .none⟩, ⟨(.some 30), (.mov (.tmp 4)), .none⟩, ⟨(.some 31), (.call 12 [(.tmp 27), (.tmp 28), (.tmp 29), (.tmp 30)]), .none⟩, ⟨(.some 26), (.mov (.tmp 31)), .none⟩, ⟨(.some 32), (.ext (.tmp 26) 0), .none⟩, ⟨(.some 33), (.ext (.tmp 26) 1), .none⟩, ⟨(.some 34), (.ext (.tmp 26) 2), .none⟩, ⟨(.some 14), (.alloc [(512, (.int .u8 0)), (8, (.int .u64 0))]), .none⟩, ⟨.none, (.store 520 (.tmp 14) (.tmp 32)), .none⟩, ⟨(.some 15), (.mov (.tmp 33)), .none⟩, ⟨(.some 16), (.mov (.tmp 34)), .none⟩]
def p7_6 : List PO := [⟨(.some 35), (.call 9 []), .none⟩, ⟨(.some 36), (.un .not (.tmp 35)), .none⟩, ⟨(.some 37), (.mov (.tmp 36)), .none⟩, ⟨(.some 38), (.mov (.tmp 13)), (.some (37, .false))⟩, ⟨(.some 39), (.cmpI .neq (.tmp 38) (.const (.int .i64 0))), (.some (37, .false))⟩, ⟨(.some 40), (.mov (.tmp 39)), (.some (37, .false))⟩, ⟨(.some 41), (.load .true 520 (.tmp 11)), (.some (40, .true))⟩, ⟨(.some 42), (.load .true 520 (.tmp 5)), (.some (40, .true))⟩, ⟨(.some 43), (.eqA .true [(520, .int)] (.tmp 41) (.tmp 42)), (.some (40, .true))⟩, ⟨(.some 44), (.mov (.tmp 43)), (.some (40, .true))⟩, ⟨(.some 45), (.mov (.tmp 12)), (.some (44, .false))⟩, ⟨(.some 46), (.strO .neq (.tmp 45) (.const (.string ⟨#[]⟩))), (.some (44, .false))⟩, ⟨(.some 47), (.pick (.tmp 44) (.const (.bool .true)) (.tmp 46)), (.some (40, .true))⟩, ⟨(.some 48), (.pick (.tmp 40) (.tmp 47) (.const (.bool .false))), (.some (37, .false))⟩, ⟨(.some 49), (.pick (.tmp 37) (.const (.bool .true)) (.tmp 48)), .none⟩, ⟨(.some 50), (.mov (.tmp 49)), .none⟩, ⟨(.some 51), (.mov (.tmp 16)), (.some (50, .false))⟩, ⟨(.some 52), (.cmpI .neq (.tmp 51) (.const (.int .i64 0))), (.some (50, .false))⟩, ⟨(.some 53), (.mov (.tmp 52)), (.some (50, .false))⟩, ⟨(.some 54), (.load .true 520 (.tmp 14)), (.some (53, .true))⟩, ⟨(.some 55), (.load .true 520 (.tmp 5)), (.some (53, .true))⟩, ⟨(.some 56), (.eqA .true [(520, .int)] (.tmp 54) (.tmp 55)), (.some (53, .true))⟩, ⟨(.some 57), (.mov (.tmp 56)), (.some (53, .true))⟩, ⟨(.some 58), (.mov (.tmp 15)), (.some (57, .false))⟩, ⟨(.some 59), (.strO .neq (.tmp 58) (.const (.string ⟨#[]⟩))), (.some (57, .false))⟩, ⟨(.some 60), (.pick (.tmp 57) (.const (.bool .true)) (.tmp 59)), (.some (53, .true))⟩, ⟨(.some 61), (.pick (.tmp 53) (.tmp 60) (.const (.bool .false))), (.some (50, .false))⟩, ⟨(.some 62), (.pick (.tmp 50) (.const (.bool .true)) (.tmp 61)), .none⟩]
def p7_7 : List PO := [⟨(.some 10), (.mov (.const (.bool .false))), .none⟩]
def p7_8 : List PO := [⟨(.some 63), (.mov (.tmp 13)), .none⟩, ⟨(.some 64), (.cmpI .eql (.tmp 63) (.const (.int .i64 0))), .none⟩]
def p7_9 : List PO := [⟨(.some 65), (.load .true 520 (.tmp 11)), .none⟩, ⟨(.some 17), (.alloc [(512, (.int .u8 0)), (8, (.int .u64 0))]), .none⟩, ⟨.none, (.store 520 (.tmp 17) (.tmp 65)), .none⟩]
def p7_10 : List PO := [⟨(.some 66), (.fld 2 (.tmp 6)), .none⟩, ⟨(.some 67), (.load .false 1 (.tmp 66)), .none⟩, ⟨(.some 68), (.fld 2 (.tmp 6)), .none⟩, ⟨(.some 69), (.load .false 1 (.tmp 68)), .none⟩, ⟨(.some 70), (.fld 2 (.tmp 6)), .none⟩, ⟨(.some 71), (.load .false 1 (.tmp 70)), .none⟩, ⟨(.some 72), (.fld 0 (.tmp 5)), .none⟩, ⟨(.some 73), (.ixA 256 1 (.tmp 72) (.tmp 71)), .none⟩, ⟨(.some 74), (.load .false 1 (.tmp 73)), .none⟩, ⟨(.some 75), (.fld 2 (.tmp 6)), .none⟩, ⟨(.some 76), (.load .false 1 (.tmp 75)), .none⟩, ⟨(.some 77), (.fld 256 (.tmp 5)), .none⟩, ⟨(.some 78), (.ixA 256 1 (.tmp 77) (.tmp 76)), .none⟩, ⟨(.some 79), (.load .false 1 (.tmp 78)), .none⟩, ⟨(.some 80), (.fld 0 (.tmp 17)), .none⟩, ⟨(.some 81), (.ixA 256 1 (.tmp 80) (.tmp 67)), .none⟩, ⟨.none, (.store 1 (.tmp 81) (.tmp 74)), .none⟩, ⟨(.some 82), (.fld 256 (.tmp 17)), .none⟩, ⟨(.some 83), (.ixA 256 1 (.tmp 82) (.tmp 69)), .none⟩, ⟨.none, (.store 1 (.tmp 83) (.tmp 79)), .none⟩]
def p7_11 : List PO := [⟨(.some 84), (.load .true 520 (.tmp 17)), .none⟩, ⟨(.some 85), (.load .true 520 (.tmp 5)), .none⟩, ⟨(.some 86), (.eqA .true [(520, .int)] (.tmp 84) (.tmp 85)), .none⟩, ⟨(.some 87), (.mov (.tmp 86)), .none⟩, ⟨(.some 88), (.fld 1 (.tmp 6)), (.some (87, .false))⟩, ⟨(.some 89), (.load .false 1 (.tmp 88)), (.some (87, .false))⟩, ⟨(.some 90), (.cmpI .geq (.tmp 89) (.const (.int .i64 253))), (.some (87, .false))⟩, ⟨(.some 91), (.mov (.tmp 90)), (.some (87, .false))⟩, ⟨(.some 92), (.fld 256 (.tmp 11)), (.some (91, .true))⟩, ⟨(.some 93), (.load .true 256 (.tmp 92)), (.some (91, .true))⟩, ⟨(.some 94), (.fld 256 (.tmp 5)), (.some (91, .true))⟩, ⟨(.some 95), (.load .true 256 (.tmp 94)), (.some (91, .true))⟩, ⟨(.some 96), (.eqA .true [(256, .int)] (.tmp 93) (.tmp 95)), (.some (91, .true))⟩, ⟨(.some 97), (.pick (.tmp 91) (.tmp 96) (.const (.bool .false))), (.some (87, .false))⟩, ⟨(.some 98), (.pick (.tmp 87) (.const (.bool .true)) (.tmp 97)), .none⟩, ⟨(.some 99), (.mov (.tmp 98)), .none⟩, ⟨(.some 100), (.fld 1 (.tmp 6)), (.some (99, .false))⟩, ⟨(.some 101), (.load .false 1 (.tmp 100)), (.some (99, .false))⟩, ⟨(.some 102), (.cmpI .lss (.tmp 101) (.const (.int .i64 253))), (.some (99, .false))⟩, ⟨(.some 103), (.mov (.tmp 102)), (.some (99, .false))⟩, ⟨(.some 104), (.fld 0 (.tmp 11)), (.some (103, .true))⟩, ⟨(.some 105), (.load .true 256 (.tmp 104)), (.some (103, .true))⟩, ⟨(.some 106), (.fld 0 (.tmp 5)), (.some (103, .true))⟩, ⟨(.some 107), (.load .true 256 (.tmp 106)), (.some (103, .true))⟩, ⟨(.some 108), (.eqA .true [(256, .int)] (.tmp 105) (.tmp 107)), (.some (103, .true))⟩, ⟨(.some 109), (.pick (.tmp 103) (.tmp 108) (.const (.bool .false))), (.some (99, .false))⟩, ⟨(.some 110), (.pick (.tmp 99) (.const (.bool .true)) (.tmp 109)), .none⟩, ⟨(.some 111), (.mov (.tmp 110)), .none⟩, ⟨(.some 112), (.load .true 520 (.tmp 11)), (.some (111, .false))⟩, ⟨(.some 113), (.call 13 [(.tmp 112)]), (.some (111, .false))⟩, ⟨(.some 114), (.cmpI .neq (.tmp 113) (.const (.int .i64 0))), (.some (111, .false))⟩, ⟨(.some 115), (.pick (.tmp 111) (.const (.bool .true)) (.tmp 114)), .none⟩]
def p7_12 : List PO := [⟨(.some 10), (.mov (.const (.bool .false))), .none⟩]
def p7_13 : List PO := [⟨(.some 116), (.mov (.tmp 16)), .none⟩, ⟨(.some 117), (.cmpI .eql (.tmp 116) (.const (.int .i64 0))), .none⟩]
def p7_14 : List PO := [⟨(.some 118), (.load .true 520 (.tmp 14)), .none⟩, ⟨(.some 18), (.alloc [(512, (.int .u8 0)), (8, (.int .u64 0))]), .none⟩, ⟨.none, (.store 520 (.tmp 18) (.tmp 118)), .none⟩]
def p7_15 : List PO := [⟨(.some 119), (.mov (.tmp 3)), .none⟩, ⟨(.some 120), (.mov (.tmp 3)), .none⟩, ⟨(.some 121), (.mov (.tmp 3)), .none⟩, ⟨(.some 122), (.fld 0 (.tmp 5)), .none⟩, ⟨(.some 123), (.ixA 256 1 (.tmp 122) (.tmp 121)), .none⟩, ⟨(.some 124), (.load .false 1 (.tmp 123)), .none⟩, ⟨(.some 125), (.mov (.tmp 3)), .none⟩, ⟨(.some 126), (.fld 256 (.tmp 5)), .none⟩, ⟨(.some 127), (.ixA 256 1 (.tmp 126) (.tmp 125)), .none⟩, ⟨(.some 128), (.load .false 1 (.tmp 127)), .none⟩, ⟨(.some 129), (.fld 0 (.tmp 18)), .none⟩, ⟨(.some 130), (.ixA 256 1 (.tmp 129) (.tmp 119)), .none⟩, ⟨.none, (.store 1 (.tmp 130) (.tmp 124)), .none⟩, ⟨(.some 131), (.fld 256 (.tmp 18)), .none⟩, ⟨(.some 132), (.ixA 256 1 (.tmp 131) (.tmp 120)), .none⟩, ⟨.none, (.store 1 (.tmp 132) (.tmp 128)), .none⟩]
def p7_16 : List PO := [⟨(.some 133), (.load .true 520 (.tmp 18)), .none⟩, ⟨(.some 134), (.load .true 520 (.tmp 5)), .none⟩, ⟨(.some 135), (.eqA .false [(520, .int)] (.tmp 133) (.tmp 134)), .none⟩, ⟨(.some 136), (.mov (.tmp 135)), .none⟩, ⟨(.some 137), (.load .true 520 (.tmp 14)), (.some (136, .true))⟩, ⟨(.some 138), (.call 13 [(.tmp 137)]), (.some (136, .true))⟩, ⟨(.some 139), (.cmpI .eql (.tmp 138) (.const (.int .i64 0))), (.some (136, .true))⟩, ⟨(.some 140), (.pick (.tmp 136) (.tmp 139) (.const (.bool .false))), .none⟩, ⟨(.some 10), (.mov (.tmp 140)), .none⟩]
def p7_17 : List PO := [⟨(.some 10), (.mov (.const (.bool .true))), .none⟩]
def c7_1 : PCode := (.keep [3, 5, 14, 16] [(48, .id 48), (120, .id 120)] [] (.seq (.seq (.reg p7_13) (.cond (.tmp 117) (.seq (.reg p7_14) (.seq (.regD p7_15 [(9, 12)]) (.seq (.reg p7_16) .ret))) .skip)) (.seq (.reg p7_17) .ret)))
def c7_2 : PCode := (.keep [3, 5, 6, 11, 13, 14, 16] [(48, .id 48), (56, .id 56), (96, .id 96), (120, .id 120)] [] (.seq (.seq (.reg p7_8) (.cond (.tmp 64) (.seq (.reg p7_9) (.seq (.regD p7_10 [(3, 16), (10, 16), (13, 16)]) (.seq (.reg p7_11) (.cond (.tmp 115) (.seq (.reg p7_12) .ret) .skip)))) .skip)) c7_1))
def c7_b : PCode := (.seq (.reg p7_3) (.seq (.reg p7_4) (.seq (.reg p7_5) (.seq (.seq (.reg p7_6) (.cond (.tmp 62) (.seq (.reg p7_7) .ret) .skip)) c7_2))))
def c7 : FCode := ⟨141, c7_b, [(.tmp 10)], some ([10], [], []), false⟩
theorem c7_ok : compF Go.Proofs.Try.prog [] 7 = some (eraseF c7) := by kernel_rfl
def codes : Nat → Option FCode
  | 7 => some c7
  | 8 => some c8
  | 9 => some c9
  | 10 => some c10
  | 11 => some c11
  | 12 => some c12
  | 13 => some c13
  | 14 => some c14
  | 15 => some c15
  | 16 => some c16
  | 17 => some c17
  | 18 => some c18
  | 19 => some c19
  | _ => none
theorem codes_ok : ∀ f fc, codes f = some fc → compF Go.Proofs.Try.prog [] f = some (eraseF fc) := by
  intro f fc h
  unfold codes at h
  split at h
  · cases h; exact c7_ok
  · cases h; exact c8_ok
  · cases h; exact c9_ok
  · cases h; exact c10_ok
  · cases h; exact c11_ok
  · cases h; exact c12_ok
  · cases h; exact c13_ok
  · cases h; exact c14_ok
  · cases h; exact c15_ok
  · cases h; exact c16_ok
  · cases h; exact c17_ok
  · cases h; exact c18_ok
  · cases h; exact c19_ok
  · cases h
theorem codes7 : codes 7 = some c7 := rfl
theorem codes8 : codes 8 = some c8 := rfl
theorem codes9 : codes 9 = some c9 := rfl
theorem codes10 : codes 10 = some c10 := rfl
theorem codes11 : codes 11 = some c11 := rfl
theorem codes12 : codes 12 = some c12 := rfl
theorem codes13 : codes 13 = some c13 := rfl
theorem codes14 : codes 14 = some c14 := rfl
theorem codes15 : codes 15 = some c15 := rfl
theorem codes16 : codes 16 = some c16 := rfl
theorem codes17 : codes 17 = some c17 := rfl
theorem codes18 : codes 18 = some c18 := rfl
theorem codes19 : codes 19 = some c19 := rfl
end Go.Proofs.Ytddnpgmmlfbhfaa.Pm
