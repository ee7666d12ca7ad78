/- The laws QnegQuiet, QnegLast, QnegAnswered, QnegTwice: the walks. -/
import Derived.Test.YtddnpgmmlfbhfaaQnegF
import Derived.Test.YtddnpgmmlfbhfaaArg
namespace Go.Proofs.Ytddnpgmmlfbhfaa.Qneg
open Go.ChangeShapes Go.WideShapes Go.ChangeAt Go.RowKit
open Go.Proofs.Ytddnpgmmlfbhfaa.Com Go.Proofs.Ytddnpgmmlfbhfaa.Row Go.Proofs.Ytddnpgmmlfbhfaa.Args
set_option maxRecDepth 100000

theorem quiet_walk (v0 v1 : Value) (w : World) (h0 : Arg none Try.prog w 4 v0) (h1 : Arg none Try.prog w 4 v1) :
    Calls Try.prog 3 #[v0, v1] w fun e w' => e = .returned (.bool true) ∧ Below w.heap.size w w' := by
  obtain ⟨on, rfl⟩ := h0.bool Try.underlying4
  obtain ⟨agree, rfl⟩ := h1.bool Try.underlying4
  clear h0 h1
  cases on <;> cases agree
  all_goals
    go_enter Try.func3, Try.ntmps3
    go_wp2_with fail
    refine (hear_any _ _ _ _).mono ?_; rintro e w1 ⟨rfl, rfl⟩
    go_wp2_with fail
    refine (lives _).mono ?_; rintro e w2 ⟨rfl, hb⟩
    go_wp2_with fail
    go_ret
    exact ⟨rfl, hb⟩

theorem last_walk (v0 v1 : Value) (w : World) (h0 : Arg none Try.prog w 3 v0) (h1 : Arg none Try.prog w 4 v1) :
    Calls Try.prog 4 #[v0, v1] w fun e w' => e = .returned (.bool true) ∧ Below w.heap.size w w' := by
  obtain ⟨s, rfl, _⟩ := h0.int Try.underlying3
  obtain ⟨agree, rfl⟩ := h1.bool Try.underlying4
  clear h0 h1
  by_cases hs : s < 0 ∨ 5 < s
  · by_cases hs1 : s < 0
    · go_enter Try.func4, Try.ntmps4
      go_wp2_with fail
      refine (lives _).mono ?_; rintro e w1 ⟨rfl, hb⟩
      go_wp2_with fail
      refine (lives _).mono ?_; rintro e w2 ⟨rfl, hb2⟩
      go_wp2_with fail
      go_ret
      exact ⟨rfl, hb.trans (hb2.mono hb.size)⟩
    · have hs2 : 5 < s := by omega
      go_enter Try.func4, Try.ntmps4
      go_wp2_with fail
      refine (lives _).mono ?_; rintro e w1 ⟨rfl, hb⟩
      go_wp2_with fail
      refine (lives _).mono ?_; rintro e w2 ⟨rfl, hb2⟩
      go_wp2_with fail
      go_ret
      exact ⟨rfl, hb.trans (hb2.mono hb.size)⟩
  · have hc : s = 0 ∨ s = 1 ∨ s = 2 ∨ s = 3 ∨ s = 4 ∨ s = 5 := by omega
    rcases hc with rfl | rfl | rfl | rfl | rfl | rfl
    all_goals
      clear hs
      cases agree
    all_goals
      go_enter Try.func4, Try.ntmps4
      go_wp2_with fail
      refine (lives _).mono ?_; rintro e w1 ⟨rfl, hb⟩
      go_wp2_with fail
      refine (hear_any _ _ _ _).mono ?_; rintro e w2 ⟨rfl, rfl⟩
      try simp only [hearS, if_true, if_false, Bool.false_eq_true]
      try simp
      go_wp2_with fail
      refine (hear_any _ _ _ _).mono ?_; rintro e w3 ⟨rfl, rfl⟩
      try simp only [hearS, if_true, if_false, Bool.false_eq_true]
      try simp
      go_wp2_with fail
      go_ret
      exact ⟨rfl, hb⟩

theorem answered_walk (v0 : Value) (w : World) (h0 : Arg none Try.prog w 4 v0) :
    Calls Try.prog 5 #[v0] w fun e w' => e = .returned (.bool true) ∧ Below w.heap.size w w' := by
  obtain ⟨agree, rfl⟩ := h0.bool Try.underlying4
  clear h0
  have a1 : askS 0 true = (4, 1, 0) := rfl
  have a2 : askS 1 false = (2, 2, 0) := rfl
  have b1 : ∀ g, hearS 4 true g = (1, 0, false) := fun _ => rfl
  have b2 : ∀ g, hearS 4 false g = (0, 0, false) := fun _ => rfl
  have b3 : ∀ g, hearS 2 false g = (0, 0, false) := fun _ => rfl
  go_enter Try.func5, Try.ntmps5
  go_wp2_with fail
  refine (ask_any _ _ _).mono ?_; rintro e w1 ⟨rfl, rfl⟩
  rw [a1]; go_wp2_with fail
  refine (hear_any _ _ _ _).mono ?_; rintro e w1 ⟨rfl, rfl⟩
  rw [b1]; go_wp2_with fail
  refine (hear_any _ _ _ _).mono ?_; rintro e w1 ⟨rfl, rfl⟩
  rw [b2]; go_wp2_with fail
  refine (ask_any _ _ _).mono ?_; rintro e w1 ⟨rfl, rfl⟩
  rw [a2]; go_wp2_with fail
  refine (hear_any _ _ _ _).mono ?_; rintro e w1 ⟨rfl, rfl⟩
  rw [b3]; go_wp2_with fail
  refine (lives _).mono ?_; rintro e w2 ⟨rfl, hb⟩
  go_wp2_with fail
  go_ret
  exact ⟨rfl, hb⟩

/-- Asked twice: what is computed. -/
theorem twice_off (s : Int) (on : Bool) (h : s < 0 ∨ 5 < s) : askS s on = (s, 0, 1) := by simp [askS, h]

theorem twice_walk (v0 v1 : Value) (w : World) (h0 : Arg none Try.prog w 3 v0) (h1 : Arg none Try.prog w 4 v1) :
    Calls Try.prog 6 #[v0, v1] w fun e w' => e = .returned (.bool true) ∧ Below w.heap.size w w' := by
  obtain ⟨s, rfl, _⟩ := h0.int Try.underlying3
  obtain ⟨on, rfl⟩ := h1.bool Try.underlying4
  clear h0 h1
  have hc : (s < 0 ∨ 5 < s) ∨ (s = 0 ∨ s = 1 ∨ s = 2 ∨ s = 3 ∨ s = 4 ∨ s = 5) := by omega
  rcases hc with hs | hc
  · have hA := twice_off s on hs
    clear hs
    go_enter Try.func6, Try.ntmps6
    go_wp2_with fail
    refine (ask_any _ _ _).mono ?_; rintro e w1 ⟨rfl, rfl⟩
    rw [hA]; go_wp2_with fail
    refine (lives _).mono ?_; rintro e w1 ⟨rfl, hb⟩
    go_wp2_with fail
    refine (lives _).mono ?_; rintro e w2 ⟨rfl, hb2⟩
    go_wp2_with fail
    go_ret
    exact ⟨rfl, hb.trans (hb2.mono hb.size)⟩
  · rcases hc with rfl | rfl | rfl | rfl | rfl | rfl
    all_goals cases on
    all_goals
      go_enter Try.func6, Try.ntmps6
      go_wp2_with fail
      refine (ask_any _ _ _).mono ?_; rintro e w1 ⟨rfl, rfl⟩
      try simp only [askS, if_true, if_false, Bool.false_eq_true]
      try simp
      go_wp2_with fail
      refine (lives _).mono ?_; rintro e w1 ⟨rfl, hb⟩
      go_wp2_with fail
      first
        | (refine (lives _).mono ?_; rintro e w2 ⟨rfl, hb2⟩
           go_wp2_with fail
           go_ret
           exact ⟨rfl, hb.trans (hb2.mono hb.size)⟩)
        | (refine (ask_any _ _ _).mono ?_; rintro e w2 ⟨rfl, rfl⟩
           try simp only [askS, if_true, if_false, Bool.false_eq_true]
           try simp
           go_wp2_with fail
           refine (ask_any _ _ _).mono ?_; rintro e w3 ⟨rfl, rfl⟩
           try simp only [askS, if_true, if_false, Bool.false_eq_true]
           try simp
           go_wp2_with fail
           refine (ask_any _ _ _).mono ?_; rintro e w4 ⟨rfl, rfl⟩
           try simp only [askS, if_true, if_false, Bool.false_eq_true]
           try simp
           go_wp2_with fail
           go_ret
           exact ⟨rfl, hb⟩)
end Go.Proofs.Ytddnpgmmlfbhfaa.Qneg
