/- The small machine: how its steps are read where numbers are known by what lies ahead. No program is named here. -/
import Derived.Test.YtobkkblijfhpoaaGreatDoorPk
namespace Go.Proofs.YtobkkblijfhpoaaGreatDoor.Pm
@[congr] theorem guardS_congr {b b' : Option Bool} (w : Bool) (x y : Prop) (h : b = b') : guardS b w x y = guardS b' w x y := by rw [h]
@[congr] theorem condB_congr {b b' : Option Bool} (x y : Prop) (h : b = b') : condB b x y = condB b' x y := by rw [h]
@[congr] theorem optS_congr {o o' : Option St} (K : St → Prop) (h : o = o') : optS o K = optS o' K := by rw [h]
@[congr] theorem optT_congr {o o' : Option (St × List (Nat × Bool))} (K : List (Nat × Bool) → St → Prop) (h : o = o') : optT o K = optT o' K := by rw [h]
section
variable {p : Prop} [Decidable p] {x y : Prop}
end
theorem outL_d {H : Nat → Cel} {m : Nat} : ∀ (l : List PV) (ids : List Nat), (∀ p ∈ l, ∃ x, p = .d x) → outL H m l ids = some (l, ids)
 | [], ids, _ => rfl
 | p :: l, ids, h => by
  obtain ⟨x, rfl⟩ := h p (by simp)
  simp only [outL, outV, outL_d l ids (fun q hq => h q (by simp [hq]))]
end Go.Proofs.YtobkkblijfhpoaaGreatDoor.Pm
