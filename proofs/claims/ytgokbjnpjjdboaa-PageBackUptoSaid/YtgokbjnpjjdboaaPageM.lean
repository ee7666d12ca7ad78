/- The laws PageRunes and PageBack: the walks. -/
import Derived.Test.YtgokbjnpjjdboaaPageL
namespace Go.Proofs.Ytgokbjnpjjdboaa.Page
open Go.ChangeShapes Go.WideShapes Go.ChangeAt Go.RowKit
open Go.Proofs.Ytgokbjnpjjdboaa.Com Go.Proofs.Ytgokbjnpjjdboaa.Args
set_option maxRecDepth 100000

/-! ### plain facts -/
theorem inj1 : ∀ a : Fin 128, ∀ b : Fin 128, ofS 1 (a.1 : Int) = ofS 1 (b.1 : Int) → a = b := by decide +kernel
theorem inj3 : ∀ a : Fin 128, ∀ b : Fin 128, ofS 3 (a.1 : Int) = ofS 3 (b.1 : Int) → a = b := by decide +kernel
theorem inj4 : ∀ a : Fin 128, ∀ b : Fin 128, ofS 4 (a.1 : Int) = ofS 4 (b.1 : Int) → a = b := by decide +kernel
theorem inj (p : Int) (h0 : 1 ≤ p) (h1 : p ≤ 4) (a b : Nat) (ha : a < most p) (hb : b < most p) (h : ofS p a = ofS p b) : a = b := by
  have hp : p = 1 ∨ p = 2 ∨ p = 3 ∨ p = 4 := by omega
  rcases hp with rfl | rfl | rfl | rfl
  · simp [most] at ha hb; exact congrArg Fin.val (inj1 ⟨a, ha⟩ ⟨b, hb⟩ h)
  · simp [ofS] at h; omega
  · simp [most] at ha hb; exact congrArg Fin.val (inj3 ⟨a, ha⟩ ⟨b, hb⟩ h)
  · simp [most] at ha hb; exact congrArg Fin.val (inj4 ⟨a, ha⟩ ⟨b, hb⟩ h)
theorem byteS_of (p : Int) (h0 : 1 ≤ p) (h1 : p ≤ 4) (a : Nat) (ha : a < most p) : byteS p (ofS p a) = some a :=
  byteS_some p _ a ha (fun j hj h => by have := inj p h0 h1 j a (by omega) ha h; omega) rfl
theorem no655 : ∀ a : Fin 128, ofS 1 (a.1 : Int) ≠ 65533 ∧ ofS 3 (a.1 : Int) ≠ 65533 ∧ ofS 4 (a.1 : Int) ≠ 65533 := by decide +kernel
theorem byteS_655 (p : Int) (h0 : 1 ≤ p) (h1 : p ≤ 4) (h2 : p ≠ 2) : byteS p 65533 = none := by
  refine byteS_none p _ fun j hj => ?_
  have hm : most p = 128 := by unfold most; rw [if_neg h2]
  rw [hm] at hj
  have hp : p = 1 ∨ p = 3 ∨ p = 4 := by omega
  have := no655 ⟨j, hj⟩
  rcases hp with rfl | rfl | rfl
  · exact this.1
  · exact this.2.1
  · exact this.2.2
theorem of63 (p : Int) (h0 : 1 ≤ p) (h1 : p ≤ 4) : ofS p 63 = 63 := by
  have hp : p = 1 ∨ p = 2 ∨ p = 3 ∨ p = 4 := by omega
  rcases hp with rfl | rfl | rfl | rfl <;> decide
theorem byteS_63 (p : Int) (h0 : 1 ≤ p) (h1 : p ≤ 4) : byteS p 63 = some 63 := by
  have := byteS_of p h0 h1 63 (by unfold most; split <;> omega)
  have e := of63 p h0 h1
  rw [show ((63 : Nat) : Int) = 63 from rfl, e] at this
  exact this
theorem byteS_val (p r : Int) (k : Nat) (h : byteS p r = some k) : ofS p k = r := by
  unfold byteS at h
  have := List.find?_some h
  simpa using this

/-- A rune that is written and read: it is as it was, and not lost; or it is a question mark now, was none, and is lost. -/
theorem back_rune (p r : Int) (h0 : 1 ≤ p) (h1 : p ≤ 4) :
    (ofS p ((wb p r).toNat : Int) = r ∧ lost p r = 0) ∨ (ofS p ((wb p r).toNat : Int) ≠ r ∧ (wb p r).toNat = 63 ∧ lost p r = 1) := by
  cases h : byteS p r with
  | some j =>
    left
    have hj := byteS_lt p r j h
    have e1 : (wb p r).toNat = j := by unfold wb wbyte; rw [h]; simp; omega
    rw [e1]
    exact ⟨byteS_val p r j h, by unfold lost; rw [h]⟩
  | none =>
    right
    have e1 : (wb p r).toNat = 63 := by unfold wb wbyte; rw [h]; rfl
    rw [e1]
    refine ⟨fun hr => ?_, rfl, by unfold lost; rw [h]⟩
    have := of63 p h0 h1
    rw [show ((63 : Nat) : Int) = 63 from rfl] at hr
    rw [this] at hr
    rw [← hr, byteS_63 p h0 h1] at h
    cases h
/-- A byte that is read and written. -/
theorem back_byte (p : Int) (h0 : 1 ≤ p) (h1 : p ≤ 4) (b : Nat) (hb : b < 256) :
    (¬ (127 < b ∧ p ≠ 2) ∧ (wb p (ofS p b)).toNat = b ∧ lost p (ofS p b) = 0) ∨ ((127 < b ∧ p ≠ 2) ∧ lost p (ofS p b) = 1) := by
  by_cases h : 127 < b ∧ p ≠ 2
  · right
    have e : ofS p b = 65533 := by unfold ofS; rw [if_neg h.2, if_pos (by omega)]
    rw [e]
    exact ⟨h, by unfold lost; rw [byteS_655 p h0 h1 h.2]⟩
  · left
    have hm : b < most p := by
      unfold most
      by_cases h2 : p = 2
      · rw [if_pos h2]; exact hb
      · rw [if_neg h2]; have : ¬ 127 < b := fun h' => h ⟨h', h2⟩; omega
    have e := byteS_of p h0 h1 b hm
    refine ⟨h, by unfold wb wbyte; rw [e]; simp; omega, by unfold lost; rw [e]⟩

theorem write_bad (p : Int) (v : Value) (h : p < 1 ∨ 4 < p) (w : World) :
    Calls Try.prog 22 #[.int .i64 p, v] w fun e w' => e = .returned (.tuple #[.string ⟨#[]⟩, .int .i64 0, .int .i64 6]) ∧ Below w.heap.size w w' := by
  go_enter Try.func22, Try.ntmps22
  go_wp2_with (go_at_call 32; refine (known_no _ h _).mono ?_; rintro e w' ⟨rfl, rfl⟩)
  go_ret3
  exact ⟨rfl, Below.refl _ _⟩
end Go.Proofs.Ytgokbjnpjjdboaa.Page
