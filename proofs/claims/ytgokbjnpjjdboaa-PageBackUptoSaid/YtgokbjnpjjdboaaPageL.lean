/- The laws of package page: PageSame, PageBack, PageRunes: the walks. -/
import Derived.Test.YtgokbjnpjjdboaaPageB
import Derived.Test.YtgokbjnpjjdboaaEqInt
import Derived.Test.YtgokbjnpjjdboaaArg
namespace Go.Proofs.Ytgokbjnpjjdboaa.Page
open Go.ChangeShapes Go.WideShapes Go.ChangeAt Go.RowKit
open Go.Proofs.Ytgokbjnpjjdboaa.Com Go.Proofs.Ytgokbjnpjjdboaa.Args
set_option maxRecDepth 100000

/-! ### PageSame -/
/-- The runes of one byte in the first k pages. -/
def pages (b : Int) (k : Nat) : List Int := (List.range k).map fun j => ofS ((j : Nat) + 1 : Int) b
theorem pages_snoc (b : Int) (k : Nat) : pages b (k+1) = pages b k ++ [ofS ((k : Nat) + 1 : Int) b] := by simp [pages, List.range_succ]
theorem pages_len (b : Int) (k : Nat) : (pages b k).length = k := by simp [pages]
theorem pages_four (b : Int) (h : b < 95) : pages b 4 = [b, b, b, if b = 35 then 163 else b] := by
  simp [pages, List.range_succ, ofS]
  refine ⟨?_, ?_⟩
  · omega
  · constructor
    · omega
    · omega

theorem same_walk (v0 : Value) (w : World) (h0 : Arg none Try.prog w 5 v0) :
    Calls Try.prog 5 #[v0] w fun e w' => e = .returned (.bool true) ∧ Below w.heap.size w w' := by
  obtain ⟨b, rfl, hwf⟩ := h0.int Try.underlying5
  obtain ⟨b0, b1⟩ := wf_u8 hwf
  clear h0 hwf
  obtain ⟨i0, hi, hz0, hz1, hz2⟩ := info_parts infoInt
  go_enter Try.func5, Try.ntmps5
  go_wp2_with fail
  go_loopw [3, 4] (fun v p wr => ∃ k : Nat, k ≤ 4 ∧ p = .int .i64 ((k : Nat) + 1 : Int) ∧ Own wr w.heap.size 3 v (ints (pages b k)) ∧ Below w.heap.size w wr) (fun _ p _ => (5 - intOf p).toNat)
  case atStart => exact ⟨0, Nat.zero_le _, rfl, Own.nil _ _ _, Below.refl _ _⟩
  case round =>
    obtain ⟨k, hk, rfl, hown, hb⟩ := hrel
    by_cases hlt : k < 4
    · have HT : Hid (ints (pages b (k+1)) = ints (pages b k) ++ [.int .i64 (ofS ((k : Nat) + 1 : Int) b)]) := by
        show _ = _; rw [pages_snoc]; simp [ints]
      have hl : (ints (pages b k)).length = k := by simp [ints, pages_len]
      have HL := Lib.hid hl; clear hl
      go_wp2_with fail
      refine (rune_ok _ _ (by omega) (by omega) b0 b1 _).mono ?_; rintro e w1 ⟨rfl, hb1⟩
      generalize ofS ((k : Nat) + 1 : Int) b = r at *
      have hown1 := hown.keep hb1
      have L1 := hb.trans (hb1.mono hb.size)
      have hsz1 := L1.size
      clear hown hb hb1
      go_wp2_with (at_builtin; refine wpList_append_own _ rfl _ _ 35 rfl w.heap.size 3 i0 (.int .i64 0) 1 8 Try.underlying35 hi hz0 hz1 hz2 rfl (by decide) _ _ _ rfl (hown1.alloc _) ⟨w1.heap.size, 0, none⟩ 1 1 [.int .i64 r] rfl rfl (cell_one_new _ _ _) (fun x hx => by simp at hx; subst hx; rfl) (by rw [HL.out]; unfold maxLen; omega) (by rw [HL.out]; omega) (by simp; omega) ?_; intro v' w2 hown2 hgrow _)
      have L2 := below_app L1 (Nat.le_refl _) hown1 hgrow
      have hown3 : Own w2 w.heap.size 3 v' (ints (pages b (k+1))) := by
        unfold Own; rw [HT.out]; simpa using hown2
      clear hown1 hown2 hgrow L1
      go_wp2_with fail
      go_roundw
      case rel => exact ⟨k + 1, by omega, by go_num, hown3, L2⟩
      case measure => simp [intOf]; omega
    · obtain rfl : k = 4 := by omega
      have hr := hown.rs
      have hl : (ints (pages b 4)).length = 4 := by simp [ints, pages_len]
      rcases hr with ⟨h', _⟩ | ⟨g, off, cap, rfl, hc1, hc2, hcell⟩
      · rw [h'] at hl; simp at hl
      rw [hl] at hc1 ⊢
      clear hown hlt hk
      by_cases hbig : 95 ≤ b
      · clear hcell hl
        go_wp2_with fail
        refine (lives _).mono ?_; rintro e w1 ⟨rfl, hb1⟩
        go_wp2_with fail
        go_ret
        exact ⟨rfl, hb.trans (hb1.mono hb.size)⟩
      · have hp4 := pages_four b (by omega)
        rw [hp4] at hcell
        have g0 := hcell 0 _ rfl
        have g1 := hcell 1 _ rfl
        have g2 := hcell 2 _ rfl
        have g3 := hcell 3 _ rfl
        have HR : Hid (∀ wx, Below wr.heap.size wr wx → Rs wx (.slice (some ⟨g, off, none⟩) 3 cap) (EqInt.ints [b, b, b])) := fun wx hx =>
          .inr ⟨g, off, cap, rfl, by simp [EqInt.ints]; omega, hc2, fun i x hxi => by
            match i, hxi with
            | 0, hxi => simp [EqInt.ints] at hxi; subst hxi; exact cell_keep g0 hx
            | 1, hxi => simp [EqInt.ints] at hxi; subst hxi; exact cell_keep g1 hx
            | 2, hxi => simp [EqInt.ints] at hxi; subst hxi; exact cell_keep g2 hx⟩
        clear hcell hp4 hl g0 g1 g2
        go_wp2_with fail
        refine (lives _).mono ?_; rintro e w1 ⟨rfl, hb1⟩
        have L1 := hb.trans (hb1.mono hb.size)
        have g4 := cell_keep g3 hb1
        go_wp2_with fail
        have L2 := L1.alloc L1.size (.cells #[.int .i64 b, .int .i64 b, .int .i64 b] 3)
        have r1 := HR.out _ (hb1.alloc hb1.size (.cells #[.int .i64 b, .int .i64 b, .int .i64 b] 3))
        have r2 := Rs.new w1 3 (EqInt.ints [b, b, b]) 3 rfl (by simp [EqInt.ints, maxLen])
        have g5 := cell_keep g4 (below_alloc w1 (.cells #[.int .i64 b, .int .i64 b, .int .i64 b] 3))
        refine (EqInt.eq_ints _ _ [b, b, b] [b, b, b] _ r1 r2).mono ?_; rintro e w2 ⟨rfl, hb2⟩
        have g6 := cell_keep g5 hb2
        have L3 := L2.trans (hb2.mono L2.size)
        clear r1 r2 g5 g4 g3 hb1 hb2 HR L1
        by_cases h35 : b = 35
        · subst h35
          simp at g6
          go_wp2_with fail
          go_ret
          exact ⟨rfl, L3⟩
        · have q1 : (b == 35) = false := by simpa using h35
          have q2 : (b != 35) = true := by simpa using h35
          rw [if_neg h35] at g6
          clear h35
          go_wp2_with fail
          go_ret
          exact ⟨rfl, L3⟩
end Go.Proofs.Ytgokbjnpjjdboaa.Page
