/- Contracts of qneg.Valid, bytes, Hears. -/
import Derived.Test.YtddnpgmmlfbhfaaQnegB
import Derived.Deep.RegionWith
namespace Go.Proofs.Ytddnpgmmlfbhfaa.Qneg
open Go.ChangeShapes Go.WideShapes Go.ChangeAt Go.RowKit
open Go.Proofs.Ytddnpgmmlfbhfaa.Com Go.Proofs.Ytddnpgmmlfbhfaa.Row
set_option maxRecDepth 100000

/-- A message of three bytes. -/
def bytesS (us : Bool) (m o : Int) : List UInt8 := if m = 0 then [] else [255, UInt8.ofNat ((if us then 251 else 253) + m - 1).toNat, UInt8.ofNat o.toNat]

theorem bytes_none (us : Bool) (o : Int) (w : World) :
    Calls Try.prog 18 #[.bool us, .int .i64 0, .int .i64 o] w fun e w' => e = .returned (.string ⟨#[]⟩) ∧ Below w.heap.size w w' := by
  go_enter Try.func18, Try.ntmps18
  go_wp2
  go_ret
  exact ⟨rfl, Below.refl _ _⟩
theorem bytes_some (us : Bool) (m o : Int) (hm : 1 ≤ m ∧ m ≤ 2) (ho : 0 ≤ o ∧ o ≤ 255) (w : World) :
    Calls Try.prog 18 #[.bool us, .int .i64 m, .int .i64 o] w fun e w' => e = .returned (.string ⟨(bytesS us m o).toArray⟩) ∧ Below w.heap.size w w' := by
  obtain ⟨m1, m2⟩ := hm
  obtain ⟨o1, o2⟩ := ho
  have q : (m == 0) = false := by simp; omega
  have hS : bytesS us m o = [255, UInt8.ofNat ((if us then 251 else 253) + m - 1).toNat, UInt8.ofNat o.toNat] := by unfold bytesS; rw [if_neg (by omega)]
  have hV : bytesV (bytesS us m o) = [.int .u8 255, .int .u8 ((if us then 251 else 253) + m - 1), .int .u8 o] := by
    rw [hS]
    have e1 : ((UInt8.ofNat ((if us then 251 else 253) + m - 1).toNat).toNat : Int) = (if us then 251 else 253) + m - 1 := by
      rw [UInt8.toNat_ofNat']; cases us <;> simp <;> omega
    have e2 : ((UInt8.ofNat o.toNat).toNat : Int) = o := by rw [UInt8.toNat_ofNat']; omega
    simp only [bytesV, List.map_cons, List.map_nil, e1, e2]; rfl
  have hr := Rs.new w 5 (bytesV (bytesS us m o)) 3 (by rw [hV]; rfl) (by rw [hV]; simp [maxLen])
  have hconv := conv_bytes (P := Try.prog) _ 51 9 5 Try.underlying51 Try.underlying5 Try.underlying9 _ _ hr
  rw [hV] at hconv
  clear hr hV hS
  cases us
  all_goals
    simp only [Bool.false_eq_true, if_false, if_true] at hconv
    go_enter Try.func18, Try.ntmps18
    go_wp2
    go_ret
    exact ⟨rfl, below_alloc _ _⟩
theorem bytes_any (us : Bool) (m o : Int) (hm : 0 ≤ m ∧ m ≤ 2) (ho : 0 ≤ o ∧ o ≤ 255) (w : World) :
    Calls Try.prog 18 #[.bool us, .int .i64 m, .int .i64 o] w fun e w' => e = .returned (.string ⟨(bytesS us m o).toArray⟩) ∧ Below w.heap.size w w' := by
  by_cases h : m = 0
  · subst h; exact bytes_none us o w
  · exact bytes_some us m o (by omega) ho w

/-- A token's value. -/
def tokV (kind cmd opt : Int) (data : ByteArray) : Value := .agg #[.int .i64 kind, .int .i64 cmd, .int .i64 opt, .string data]
def validB (kind cmd opt : Int) (data : ByteArray) : Bool := decide (kind = 3 ∧ 251 ≤ cmd ∧ cmd ≤ 254 ∧ 0 ≤ opt ∧ opt ≤ 255 ∧ data.toList = [])
theorem valid_any (kind cmd opt : Int) (data : ByteArray) (w : World) :
    Calls Try.prog 16 #[tokV kind cmd opt data] w fun e w' => e = .returned (.bool (validB kind cmd opt data)) ∧ Below w.heap.size w w' := by
  unfold tokV
  by_cases h1 : kind = 3
  case neg =>
    have HV : Hid (validB kind cmd opt data = false) := by show _ = _; simp [validB, h1]
    have q1 : (kind == 3) = false := by simpa using h1
    go_enter Try.func16, Try.ntmps16
    go_wp2
    go_ret
    exact ⟨by rw [HV.out]; rfl, below_alloc _ _⟩
  subst h1
  by_cases h2 : 251 ≤ cmd
  case neg =>
    have HV : Hid (validB 3 cmd opt data = false) := by show _ = _; simp [validB, h2]
    go_enter Try.func16, Try.ntmps16
    go_wp2
    go_ret
    exact ⟨by rw [HV.out]; rfl, below_alloc _ _⟩
  by_cases h3 : cmd ≤ 254
  case neg =>
    have HV : Hid (validB 3 cmd opt data = false) := by show _ = _; simp [validB, h3]
    go_enter Try.func16, Try.ntmps16
    go_wp2
    go_ret
    exact ⟨by rw [HV.out]; rfl, below_alloc _ _⟩
  by_cases h4 : 0 ≤ opt
  case neg =>
    have HV : Hid (validB 3 cmd opt data = false) := by show _ = _; simp [validB, h4]
    go_enter Try.func16, Try.ntmps16
    go_wp2
    go_ret
    exact ⟨by rw [HV.out]; rfl, below_alloc _ _⟩
  by_cases h5 : opt ≤ 255
  case neg =>
    have HV : Hid (validB 3 cmd opt data = false) := by show _ = _; simp [validB, h5]
    go_enter Try.func16, Try.ntmps16
    go_wp2
    go_ret
    exact ⟨by rw [HV.out]; rfl, below_alloc _ _⟩
  have HV : Hid (validB 3 cmd opt data = data.toList.isEmpty) := by
    show _ = _
    rw [Bool.eq_iff_iff]; simp [validB, h2, h3, h4, h5]
  go_enter Try.func16, Try.ntmps16
  go_wp2
  go_ret

  exact ⟨by rw [HV.out]; rfl, below_alloc _ _⟩
end Go.Proofs.Ytddnpgmmlfbhfaa.Qneg
