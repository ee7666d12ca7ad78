/- Contracts of package qneg: Hear, Ask, known, Valid, bytes. -/
import Derived.Test.YtddnpgmmlfbhfaaRow
import Derived.BigQuiet
namespace Go.Proofs.Ytddnpgmmlfbhfaa.Qneg
open Go.ChangeShapes Go.WideShapes Go.ChangeAt Go.RowKit
open Go.Proofs.Ytddnpgmmlfbhfaa.Com Go.Proofs.Ytddnpgmmlfbhfaa.Row
set_option maxRecDepth 100000

/-! ### what is computed -/
def hearS (s : Int) (on agree : Bool) : Int × Int × Bool :=
  if on then
    (if s = 0 then (if agree then (1, 1, false) else (0, 2, false))
     else if s = 1 ∨ s = 4 then (1, 0, false)
     else if s = 2 then (0, 0, true)
     else if s = 3 then (1, 0, true)
     else if s = 5 then (2, 2, false)
     else (s, 0, false))
  else
    (if s = 1 then (0, 2, false)
     else if s = 3 then (4, 1, false)
     else if s = 0 ∨ s = 2 ∨ s = 4 ∨ s = 5 then (0, 0, false)
     else (s, 0, false))
def askS (s : Int) (on : Bool) : Int × Int × Int :=
  if s < 0 ∨ 5 < s then (s, 0, 1)
  else if on then (if s = 0 then (4, 1, 0) else if s = 2 then (3, 0, 0) else if s = 5 then (4, 0, 0) else (s, 0, 7))
  else (if s = 1 then (2, 2, 0) else if s = 3 then (2, 0, 0) else if s = 4 then (5, 0, 0) else (s, 0, 7))
def knownB (s : Int) : Bool := decide (0 ≤ s) && decide (s ≤ 5)

theorem known_any (s : Int) (w : World) : Calls Try.prog 14 #[.int .i64 s] w fun e w' => e = .returned (.bool (knownB s)) ∧ w = w' := by
  by_cases h : 0 ≤ s
  · have HK : Hid (knownB s = decide (s ≤ 5)) := by show _ = _; simp [knownB, h]
    go_enter Try.func14, Try.ntmps14
    go_wp2
    go_ret
    exact ⟨by rw [HK.out]; rfl, rfl⟩
  · have HK : Hid (knownB s = false) := by show _ = _; simp [knownB]; omega
    go_enter Try.func14, Try.ntmps14
    go_wp2
    go_ret
    exact ⟨by rw [HK.out]; rfl, rfl⟩

/-- Outside of the six states no test says yes. -/
def Off (s : Int) : Prop := s ≠ 0 ∧ s ≠ 1 ∧ s ≠ 2 ∧ s ≠ 3 ∧ s ≠ 4 ∧ s ≠ 5

theorem hear_any (s : Int) (on agree : Bool) (w : World) :
    Calls Try.prog 8 #[.int .i64 s, .bool on, .bool agree] w fun e w' => e = .returned (.tuple #[.int .i64 (hearS s on agree).1, .int .i64 (hearS s on agree).2.1, .bool (hearS s on agree).2.2]) ∧ w = w' := by
  have hc : (s = 0 ∨ s = 1 ∨ s = 2 ∨ s = 3 ∨ s = 4 ∨ s = 5) ∨ Off s := by unfold Off; omega
  rcases hc with (rfl | rfl | rfl | rfl | rfl | rfl) | h
  iterate 6
    · cases on <;> cases agree
      all_goals
        go_enter Try.func8, Try.ntmps8
        go_wp2
        go_ret3
        exact ⟨rfl, rfl⟩
  · obtain ⟨h0, h1, h2, h3, h4, h5⟩ := h
    have HR : Hid (∀ on, hearS s on agree = (s, 0, false)) := by intro on; cases on <;> simp [hearS, h0, h1, h2, h3, h4, h5]
    have q0 : (s == 0) = false := by simpa using h0
    have q1 : (s == 1) = false := by simpa using h1
    have q2 : (s == 2) = false := by simpa using h2
    have q3 : (s == 3) = false := by simpa using h3
    have q4 : (s == 4) = false := by simpa using h4
    have q5 : (s == 5) = false := by simpa using h5
    clear h0 h1 h2 h3 h4 h5
    cases on
    all_goals
      go_enter Try.func8, Try.ntmps8
      go_wp2
      go_ret3
      exact ⟨by rw [HR.out]; rfl, rfl⟩

theorem ask_any (s : Int) (on : Bool) (w : World) :
    Calls Try.prog 10 #[.int .i64 s, .bool on] w fun e w' => e = .returned (.tuple #[.int .i64 (askS s on).1, .int .i64 (askS s on).2.1, .int .i64 (askS s on).2.2]) ∧ w = w' := by
  have hc : (s = 0 ∨ s = 1 ∨ s = 2 ∨ s = 3 ∨ s = 4 ∨ s = 5) ∨ (s < 0 ∨ 5 < s) := by omega
  rcases hc with (rfl | rfl | rfl | rfl | rfl | rfl) | h
  iterate 6
    · cases on
      all_goals
        go_enter Try.func10, Try.ntmps10
        go_wp2_with (go_at_call 14; refine (known_any _ _).mono ?_; rintro e w' ⟨rfl, rfl⟩)
        go_ret3
        exact ⟨rfl, rfl⟩
  · have HR : Hid (askS s on = (s, 0, 1)) := by show _ = _; simp [askS, h]
    have hk : knownB s = false := by simp [knownB]; omega
    go_enter Try.func10, Try.ntmps10
    go_wp2_with (go_at_call 14; refine (known_any _ _).mono ?_; rintro e w' ⟨rfl, rfl⟩)
    go_ret3
    exact ⟨by rw [HR.out]; rfl, rfl⟩
end Go.Proofs.Ytddnpgmmlfbhfaa.Qneg
