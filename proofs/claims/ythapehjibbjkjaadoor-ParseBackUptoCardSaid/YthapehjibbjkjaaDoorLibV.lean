/- utf8.ValidString, told to the small machine. -/
import Derived.Test.YthapehjibbjkjaaDoorLibU
import Derived.Shelf.Unicode.ValidAny
namespace Go.Proofs.YthapehjibbjkjaaDoor.Pm
open Go.RowKit
variable {P : Program} {W : World} {Φ : Nat → Phys} {f : Nat}
noncomputable def libValid (s : List UInt8) : Option Bool := if s.length ≤ 1000000000 then some (Lib.validD s) else none
theorem lok_Valid {T : World → Prop} (hT : ∀ w φ0, Later W Φ w φ0 → T w) (he : canEnter P f) (h : ∀ (s : ByteArray) (w : World), s.size ≤ 9223372036854775807 → T w → Calls P f #[.string s] w fun e w' => e = .returned (.bool (Lib.validD s.data.toList)) ∧ Below w.heap.size w w') : LibOk P W Φ (f, osB libValid) :=
  libok_osB he fun s z hz w φ0 hL => by
    unfold libValid at hz
    split at hz
    · rename_i hl
      cases hz
      have hs : (⟨s.toArray⟩ : ByteArray).size = s.length := by show s.toArray.size = _; simp
      exact h ⟨s.toArray⟩ w (by rw [hs]; omega) (hT w φ0 hL)
    · cases hz
end Go.Proofs.YthapehjibbjkjaaDoor.Pm
