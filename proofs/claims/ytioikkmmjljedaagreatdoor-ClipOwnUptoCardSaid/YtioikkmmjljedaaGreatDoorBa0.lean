/- Small laws that all plain laws use. -/
import Derived.Test.YtioikkmmjljedaaGreatDoorPb
namespace Go.Proofs.YtioikkmmjljedaaGreatDoor.Pm
open Go.ChangeShapes Go.WideShapes Go.ChangeAt Go.RowKit
set_option linter.unusedVariables false
set_option linter.unusedSimpArgs false
/-- 'Option.bind_some', not by unfolding: the kernel must not look into 'cat?'. -/
theorem bs {α β : Type} (x : α) (f : α → Option β) : (some x).bind f = f x := by
  have h : ∀ y : Option α, y = some x → y.bind f = f x := fun y hy => by cases hy; simp
  exact h _ (by simp)
theorem cf {α : Type} (x y : α) : (bif false then x else y) = y := by
  have h : ∀ b : Bool, b = false → (bif b then x else y) = y := fun b hb => by cases hb; simp
  exact h _ (by simp)
theorem ct {α : Type} (x y : α) : (bif true then x else y) = x := by
  have h : ∀ b : Bool, b = true → (bif b then x else y) = x := fun b hb => by cases hb; simp
  exact h _ (by simp)
theorem i64w (n : Int) (h : -9223372036854775808 ≤ n ∧ n ≤ 9223372036854775807) : IntKind.i64.wrap n = n := IntWalk.i64_in n h
theorem idx_mid {α : Type} (pre : List α) (x : α) (t : List α) : idx (pre ++ x :: t) (pre.length : Int) = some x := by unfold idx; rw [if_pos (by omega)]; simp
theorem app_ok {α : Type} (b : Nat) (xs ys : List α) (h : (xs.length + ys.length) * b ≤ 140737488355328) : app? b xs ys = some (xs ++ ys) := by unfold app?; rw [if_pos h]
theorem wrap_nx {α : Type} (pre : List α) (x : α) (h : pre.length < 1000000000) : IntKind.i64.wrap ((pre.length : Int) + 1) = ((pre ++ [x]).length : Int) := by rw [i64w _ (by omega)]; simp
theorem lt_mid {α : Type} (pre : List α) (x : α) (t : List α) : decide ((pre.length : Int) < ((pre ++ x :: t).length : Int)) = true := decide_eq_true (by simp; omega)
theorem lt_end {α : Type} (pre : List α) : decide ((pre.length : Int) < ((pre ++ []).length : Int)) = false := decide_eq_false (by simp)
theorem cat_ok (xs ys : List UInt8) (h : xs.length + ys.length ≤ 1000000000) : cat? xs ys = some (xs ++ ys) := by
  unfold cat?
  rw [if_pos (by show ((xs.length + ys.length : Nat) : Int) ≤ 9223372036854775807; omega)]
theorem chk_ok {b : Bool} (h : b = true) : chk b = some () := by unfold chk; rw [if_pos h]
theorem u8_of {c : UInt8} {n : Nat} (h : c.toNat = n) (hn : n < 256) : c = UInt8.ofNat n := by
  apply UInt8.toNat.inj; rw [h]; simp; omega
end Go.Proofs.YtioikkmmjljedaaGreatDoor.Pm
