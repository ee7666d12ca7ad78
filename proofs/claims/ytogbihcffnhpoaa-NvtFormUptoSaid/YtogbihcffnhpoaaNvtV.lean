/- The constant case nvtLives. -/
import Derived.Test.YtogbihcffnhpoaaNvtB
import Derived.Test.YtogbihcffnhpoaaArg
namespace Go.Proofs.Ytogbihcffnhpoaa.Nvt
open Go.ChangeShapes Go.WideShapes Go.ChangeAt Go.RowKit
open Go.Proofs.Ytogbihcffnhpoaa.Com Go.Proofs.Ytogbihcffnhpoaa.Args
set_option maxRecDepth 100000


theorem lives (w : World) : Calls Try.prog 5 #[] w fun e w' => e = .returned (.bool true) ∧ Below w.heap.size w w' := by
  have n1 := fun w => in_any false ⟨#[97, 13, 10, 98, 13, 0, 13]⟩ (by decide) w
  have n2 := fun w => out_any ⟨#[10, 13]⟩ (by decide) w
  rw [show inS false (⟨#[97, 13, 10, 98, 13, 0, 13]⟩ : ByteArray).data.toList = (true, [97, 10, 98, 13]) by decide] at n1
  rw [show outS (⟨#[10, 13]⟩ : ByteArray).data.toList = [13, 10, 13, 0] by decide] at n2
  have N1 := Lib.hid n1; have N2 := Lib.hid n2; clear n1 n2
  go_enter Try.func5, Try.ntmps5
  go_wp2_with fail
  refine (N1.out _).mono ?_; rintro e w1 ⟨rfl, hb1⟩
  go_wp2_with fail
  refine (N2.out _).mono ?_; rintro e w2 ⟨rfl, hb2⟩
  go_wp2_with fail
  go_ret
  exact ⟨rfl, hb1.trans (hb2.mono hb1.size)⟩

end Go.Proofs.Ytogbihcffnhpoaa.Nvt
