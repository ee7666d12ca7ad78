/- The small machine's codes of some functions. Printed by dec.py. -/
import Derived.Test.YtioikkmmjljedaaGreatDoorPa
import Derived.Test.YtioikkmmjljedaaGreatDoorProg
namespace Go.Proofs.YtioikkmmjljedaaGreatDoor.Rw
open Go.Proofs.YtioikkmmjljedaaGreatDoor.Pm
set_option maxRecDepth 1000000
set_option maxHeartbeats 20000000
set_option linter.unusedVariables false
structure GPen where
  Flags : Int
  Fore : Int
  Back : Int
structure GCell where
  Rune : Int
  Pen : GPen
structure GGrid where
  Wide : Int
  High : Int
  Cells : List GCell
def e_GPen : Enc GPen := ⟨3, fun x => [.int .i64 x.Flags, .int .i64 x.Fore, .int .i64 x.Back], fun _ => rfl⟩
def e_GCell : Enc GCell := ⟨4, fun x => [.int .i64 x.Rune, .int .i64 x.Pen.Flags, .int .i64 x.Pen.Fore, .int .i64 x.Pen.Back], fun _ => rfl⟩
def p44_1 : List PO := [⟨(.some 2), (.box 3 (.tmp 0)), .none⟩, ⟨(.some 4), (.nilS 51 4), .none⟩]
def p44_2 : List PO := [⟨(.some 5), (.fld 2 (.tmp 2)), .none⟩, ⟨(.some 6), (.load .false 1 (.tmp 5)), .none⟩, ⟨(.some 7), (.mov (.tmp 1)), .none⟩, ⟨(.some 8), (.fld 0 (.tmp 2)), .none⟩, ⟨(.some 9), (.load .false 1 (.tmp 8)), .none⟩, ⟨(.some 10), (.arI .mul (.tmp 7) (.tmp 9)), .none⟩, ⟨(.some 11), (.mov (.tmp 1)), .none⟩, ⟨(.some 12), (.arI .add (.tmp 11) (.const (.int .i64 1))), .none⟩, ⟨(.some 13), (.fld 0 (.tmp 2)), .none⟩, ⟨(.some 14), (.load .false 1 (.tmp 13)), .none⟩, ⟨(.some 15), (.arI .mul (.tmp 12) (.tmp 14)), .none⟩, ⟨(.some 16), (.slS 51 4 (.tmp 6) (.some (.tmp 10)) (.some (.tmp 15))), .none⟩, ⟨(.some 4), (.mov (.tmp 16)), .none⟩]
def c44_b : PCode := (.seq (.reg p44_1) (.seq (.reg p44_2) .ret))
def c44 : FCode := ⟨17, c44_b, [(.tmp 4)], some ([4, 2000000], [], []), false⟩
theorem c44_ok : compF Go.Proofs.Tryz.prog [200005, 100010, 200013, 100015, 100023, 25, 100031, 38, 39, 40, 41, 43, 44, 52, 53, 55, 57, 59, 61, 62, 63, 64, 68, 69, 70, 71, 77, 79, 80, 82, 83, 85, 86, 88, 91, 92, 93, 95] 44 = some (eraseF c44) := by kernel_rfl
def p11_1 : List PO := [⟨(.some 2), (.nilS 51 4), .none⟩]
def p11_2 : List PO := [⟨(.some 3), (.mov (.tmp 0)), .none⟩, ⟨(.some 4), (.isN .false (.tmp 3)), .none⟩]
def p11_3 : List PO := [⟨(.some 2), (.nilS 51 4), .none⟩]
def p11_4 : List PO := [⟨(.some 5), (.bsl 51 4 0 [] []), .none⟩, ⟨(.some 6), (.mov (.tmp 0)), .none⟩, ⟨(.some 7), (.app 51 4 32 (.tmp 5) (.tmp 6)), .none⟩, ⟨(.some 2), (.mov (.tmp 7)), .none⟩]
def c11_b : PCode := (.seq (.reg p11_1) (.seq (.seq (.reg p11_2) (.cond (.tmp 4) (.seq (.reg p11_3) .ret) .skip)) (.seq (.reg p11_4) .ret)))
def c11 : FCode := ⟨8, c11_b, [(.tmp 2)], some ([2], [(97, (.slot 2 none))], []), true⟩
theorem c11_ok : compF Go.Proofs.Tryz.prog [200005, 100010, 200013, 100015, 100023, 25, 100031, 38, 39, 40, 41, 43, 44, 52, 53, 55, 57, 59, 61, 62, 63, 64, 68, 69, 70, 71, 77, 79, 80, 82, 83, 85, 86, 88, 91, 92, 93, 95] 11 = some (eraseF c11) := by kernel_rfl
def p33_1 : List PO := [⟨(.some 2), (.box 3 (.tmp 0)), .none⟩, ⟨(.some 4), (.nilS 51 4), .none⟩]
def p33_2 : List PO := [⟨(.some 5), (.load .true 3 (.tmp 2)), .none⟩, ⟨(.some 6), (.mov (.tmp 1)), .none⟩, ⟨(.some 7), (.callr 44 [(.tmp 5), (.tmp 6)]), .none⟩, ⟨(.some 8), (.call 11 [(.tmp 7)]), .none⟩, ⟨(.some 4), (.mov (.tmp 8)), .none⟩]
def c33_b : PCode := (.seq (.reg p33_1) (.seq (.reg p33_2) .ret))
def c33 : FCode := ⟨9, c33_b, [(.tmp 4)], some ([4], [(72, .id 72)], []), false⟩
theorem c33_ok : compF Go.Proofs.Tryz.prog [200005, 100010, 200013, 100015, 100023, 25, 100031, 38, 39, 40, 41, 43, 44, 52, 53, 55, 57, 59, 61, 62, 63, 64, 68, 69, 70, 71, 77, 79, 80, 82, 83, 85, 86, 88, 91, 92, 93, 95] 33 = some (eraseF c33) := by kernel_rfl
def codes : Nat → Option FCode
  | 11 => some c11
  | 33 => some c33
  | 44 => some c44
  | _ => none
theorem codes_ok : ∀ f fc, codes f = some fc → compF Go.Proofs.Tryz.prog [200005, 100010, 200013, 100015, 100023, 25, 100031, 38, 39, 40, 41, 43, 44, 52, 53, 55, 57, 59, 61, 62, 63, 64, 68, 69, 70, 71, 77, 79, 80, 82, 83, 85, 86, 88, 91, 92, 93, 95] f = some (eraseF fc) := by
  intro f fc h
  unfold codes at h
  split at h
  · cases h; exact c11_ok
  · cases h; exact c33_ok
  · cases h; exact c44_ok
  · cases h
theorem codes11 : codes 11 = some c11 := rfl
theorem codes33 : codes 33 = some c33 := rfl
theorem codes44 : codes 44 = some c44 := rfl
end Go.Proofs.YtioikkmmjljedaaGreatDoor.Rw
