/- Press: PressOne, PressSafe. -/
import Derived.Test.YtakmihemhmdpkaaDoorP1Q
import Derived.Test.YtakmihemhmdpkaaDoorP1U
import Derived.Test.YtakmihemhmdpkaaDoorP1K
import Derived.Lib.LaidU8T
import Derived.MakeChecks
import Derived.LaidSub
import Derived.Test.YtakmihemhmdpkaaDoorRows
namespace Go.Proofs.YtakmihemhmdpkaaDoor.Pm
open Go.Proofs.YtakmihemhmdpkaaDoor.Args
open Go.ChangeShapes Go.WideShapes Go.ChangeAt Go.RowKit
set_option linter.unusedVariables false
set_option linter.unusedSimpArgs false
set_option maxRecDepth 100000
theorem lives : f20 = some true := by
  unfold f20
  have h := Ky.named 1 4 0 (by omega) (by omega)
  rw [show GKey.mk 1 0 4 = ⟨((1 : Nat) : Int), 0, ((4 : Nat) : Int)⟩ from rfl, h, bs]
  rfl
theorem key_all (a1 a2 a3 : Int) : ∃ s e, f19 ⟨a1, 0, a2⟩ a3 = some (s, e) ∧ (e = 0 → 0 ≤ a2 ∧ a2 ≤ 7) := by
  by_cases h0 : a2 < 0
  · refine ⟨[], 1, ?_, by omega⟩
    unfold f19
    simp only
    rw [decide_eq_true h0, ct]
  by_cases h7 : 7 < a2
  · refine ⟨[], 1, ?_, by omega⟩
    unfold f19
    simp only
    rw [decide_eq_false h0, cf, decide_eq_true h7, ct]
  rcases Ky.valid ⟨a1, 0, a2⟩ a3 (by simp only; omega) with ⟨h1, h2⟩ | ⟨_, h2⟩
  · by_cases hn : 1 ≤ a1 ∧ a1 ≤ 22
    · obtain ⟨n, rfl⟩ := Int.eq_ofNat_of_zero_le (show 0 ≤ a1 by omega)
      obtain ⟨m, rfl⟩ := Int.eq_ofNat_of_zero_le (show 0 ≤ a2 by omega)
      exact ⟨_, _, Ky.named n m a3 (by omega) (by omega), fun _ => by omega⟩
    · have hr := h1.1
      simp only at hr
      obtain ⟨z, _, e⟩ := Ky.alone ⟨a1, 0, a2⟩ a3
      exact ⟨_, _, h2.trans ((Ky.other ⟨a1, 0, a2⟩ a3 (by simp only; omega)).trans e), fun _ => by omega⟩
  · exact ⟨[], 1, h2, by omega⟩
noncomputable def tchk (n m : Nat) (b : Bool) : Bool :=
  (decide ((feedP (nilP 0) (Ut.feedU (Ky.tab n m b)).1).1.State = 0) && (decide ((feedP (nilP 0) (Ut.feedU (Ky.tab n m b)).1).1.Mark = 0) && (decide ((feedP (nilP 0) (Ut.feedU (Ky.tab n m b)).1).1.Inter = ([] : List UInt8)) && (decide ((feedP (nilP 0) (Ut.feedU (Ky.tab n m b)).1).1.Args = ([] : List UInt8)) && (decide ((feedP (nilP 0) (Ut.feedU (Ky.tab n m b)).1).1.Text = ([] : List UInt8)) && true)))))
  && (decide (f8_j2 0 (m : Int) 0 (Ky.tab n m b) (feedP (nilP 0) (Ut.feedU (Ky.tab n m b)).1).2 = some true) && (decide ((Ky.tab n m b).length ≤ 100) && decide ((Ut.feedU (Ky.tab n m b)).1.length ≤ 100)))
theorem chk_all : ((List.range 22).all fun n => (List.range 8).all fun m => [false, true].all fun b => tchk (n + 1) m b) = true := by kernel_rfl
theorem pressOne (a1 a2 a3 : Int) : f8 a1 a2 a3 = some true := by
  unfold f8
  obtain ⟨s, e, h, he⟩ := key_all a1 a2 a3
  rw [h, bs, lives, bs, bs, Bool.not_true, cf]
  simp only
  by_cases h0 : e = 0
  · rw [decide_eq_true h0, Bool.not_true, cf]
    by_cases h1 : a1 < 1
    · rw [decide_eq_true h1, ct]
    rw [decide_eq_false h1, cf]
    by_cases h22 : 22 < a1
    · rw [decide_eq_true h22, ct]
    rw [decide_eq_false h22, cf]
    have hm := he h0
    obtain ⟨n, rfl⟩ := Int.eq_ofNat_of_zero_le (show 0 ≤ a1 by omega)
    obtain ⟨m, rfl⟩ := Int.eq_ofNat_of_zero_le (show 0 ≤ a2 by omega)
    rw [Ky.named n m a3 (by omega) (by omega)] at h
    cases h
    generalize (!decide (bitI .and .i64 a3 16 = 0)) = b
    have hc : tchk n m b = true := by
      have c1 := List.all_eq_true.1 chk_all (n - 1) (List.mem_range.2 (by omega))
      have c2 := List.all_eq_true.1 c1 m (List.mem_range.2 (by omega))
      have c3 := List.all_eq_true.1 c2 b (by cases b <;> simp)
      rwa [show n - 1 + 1 = n by omega] at c3
    unfold tchk at hc
    obtain ⟨c1, hc⟩ := (Bool.and_eq_true _ _).mp hc
    obtain ⟨c2, hc⟩ := (Bool.and_eq_true _ _).mp hc
    obtain ⟨c3, c4⟩ := (Bool.and_eq_true _ _).mp hc
    have c2 := of_decide_eq_true c2
    have c3 := of_decide_eq_true c3
    have c4 := of_decide_eq_true c4
    unfold f8_j0
    rw [Ut.feed_ok [] _ (by simp; omega) (.inl rfl), bs, List.nil_append]
    unfold f8_j1
    simp only
    rw [show GParser.mk 0 0 [] [] [] = nilP 0 from rfl, feed_ok (nilP 0) _ (by omega) (nil_okP 0 (by omega) (by omega) (by omega)), bs]
    simp only [decide_true, Bool.not_true, cond_false]
    rw [c1, Bool.not_true, cf]
    exact c2
  · rw [decide_eq_false h0, Bool.not_false, ct]
theorem maxcell {w : World} (hsh : w.ShapedOpen Go.Proofs.Tryd.prog) : ∃ m, w.cell? ⟨2, 0, none⟩ = some (.int .i64 m) :=
  cell_of_shapedOpen_int (t := 3) (zero := #[.int .i64 0]) hsh (of_decide_eq_true (by kernel_rfl)) (by kernel_rfl) rfl (by kernel_rfl) (by kernel_rfl) (by kernel_rfl)
theorem u8tabs {l : List (String × DataW Unit)} {w : World} (hL : laidMetH Go.Proofs.Tryd.prog l w) (h1 : ("unicode/utf8.first", Lib.firstData) ∈ l.filter fun x => x.2.handleName?.isNone) (h2 : ("unicode/utf8.acceptRanges", Lib.acceptData) ∈ l.filter fun x => x.2.handleName?.isNone) : Lib.Utf8Tabs 0 1 w := by
  have h := (laidMetH_iff.1 hL).1
  exact utf8Tabs_of_readsT (ρ := Go.Proofs.Tryd.lays197_ren) { Go.Proofs.Tryd.lays197 with } ⟨by kernel_rfl, by kernel_rfl, by kernel_rfl, by kernel_rfl, by kernel_rfl, by kernel_rfl, by kernel_rfl⟩ (Lib.laidMet.reads h h1) (Lib.laidMet.reads h h2)
theorem mem_nth {α : Type} {l : List α} {x : α} (i : Nat) (h : l[i]? = some x) : x ∈ l := List.mem_of_getElem? h
theorem PressOne_walk (v0 v1 v2 : Value) (w : World) (h0 : Arg (some 1048576) Go.Proofs.Tryd.prog w 3 v0) (h1 : Arg (some 1048576) Go.Proofs.Tryd.prog w 3 v1) (h2 : Arg (some 1048576) Go.Proofs.Tryd.prog w 3 v2) (hsh : w.ShapedOpen Go.Proofs.Tryd.prog) (hL : laidMetH Go.Proofs.Tryd.prog Rows.pressOneUptoRow.laid w) : Calls Go.Proofs.Tryd.prog 8 #[v0, v1, v2] w fun e w' => e = .returned (.bool true) ∧ Below w.heap.size w w' :=
  PressOne_calls (some 1048576) (fun a b c _ _ _ => pressOne a b c) v0 v1 v2 w h0 h1 h2 (maxcell hsh) (u8tabs hL (mem_nth 4 (by kernel_rfl)) (mem_nth 3 (by kernel_rfl)))
end Go.Proofs.YtakmihemhmdpkaaDoor.Pm
