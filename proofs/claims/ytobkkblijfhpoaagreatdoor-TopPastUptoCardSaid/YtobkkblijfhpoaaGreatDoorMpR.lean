/- Code that does what other code says: put together out of its parts. No program is named here. -/
import Derived.Test.YtobkkblijfhpoaaGreatDoorPg
import Derived.Maps.RangeWalk
namespace Go.Proofs.YtobkkblijfhpoaaGreatDoor.Pm
open Go.RowKit
set_option linter.unusedVariables false
section
variable {P : Program} {N : Nat} {c c1 c2 : Code} {p p1 p2 : PCode}
theorem Refines.code {br : List Nat} (h : compC P br N c = some (erase p)) : Refines P N c p := @fun γ w0 φ0 E m hγ n st st' e a w Q he hr hQ => code_ok hγ n h he hr hQ
theorem Refines.seq (h1 : Refines P N c1 p1) (h2 : Refines P N c2 p2) : Refines P N (.seq c1 c2) (.seq p1 p2) := by
 intro γ w0 φ0 E m hγ n st st' e a w Q he hr hQ
 simp only [prun] at he
 refine wp_seq ?_
 split at he
 ·rename_i s hs
  exact h1 hγ n hs hr fun a' w' hr' => h2 hγ n he hr' hQ
 ·rename_i hne
  refine h1 hγ n he hr fun a' w' hr' => ?_
  cases e with
  | normal => exact absurd he (hne _)
  | exit id => exact hQ _ _ hr'
  | ret => exact hQ _ _ hr'
theorem Refines.keep {L : List Nat} {B : List (Nat × Loc)} {A : List NA} (h : Refines P N c p) : Refines P N c (.keep L B A p) := by
 intro γ w0 φ0 E m hγ n st st' e a w Q he hr hQ
 simp only [prun] at he
 exact h hγ n he (rel_keep L B A hr) hQ
end
end Go.Proofs.YtobkkblijfhpoaaGreatDoor.Pm
