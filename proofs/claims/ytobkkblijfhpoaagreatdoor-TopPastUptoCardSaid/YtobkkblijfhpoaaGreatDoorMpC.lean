/- client.New: its code on the small machine, the loop over a map in other words. -/
import Derived.Test.YtobkkblijfhpoaaGreatDoorMpB
namespace Go.Proofs.YtobkkblijfhpoaaGreatDoor.Mp
open Go Go.Proofs Go.RowKit Go.Proofs.YtobkkblijfhpoaaGreatDoor.Pm Go.Maps
set_option linter.unusedVariables false
section
variable {P : Program} {N : Nat} {c c1 c2 : Code} {p p1 p2 q : PCode}
theorem sq (hc : c = .seq c1 c2) (hp : p = .seq p1 p2) (h1 : Refines P N c1 p1) (h2 : Refines P N c2 p2) : Refines P N c p := by
 rw [hc, hp]; exact Refines.seq h1 h2
theorem kp {L : List Nat} {B : List (Nat × Pm.Loc)} {A : List NA} (hp : p = .keep L B A q) (h : Refines P N c q) : Refines P N c p := by
 rw [hp]; exact Refines.keep h
theorem rq (hp : p = q) (h : Refines P N c q) : Refines P N c p := by rw [hp]; exact h
end
theorem new_ok {br : List Nat} {fc : FCode} (hN : fc.N = 76) (hR : compR Go.Proofs.Tryz.prog Go.Proofs.Tryz.f11.results.toList = some fc.res) (h : Refines Go.Proofs.Tryz.prog 76 newBody fc.body) : OkF Go.Proofs.Tryz.prog br 11 fc :=
 ⟨Go.Proofs.Tryz.f11, newBody, by kernel_rfl, by kernel_rfl, by kernel_rfl, hN.trans (by kernel_rfl), h, hR⟩
end Go.Proofs.YtobkkblijfhpoaaGreatDoor.Mp
