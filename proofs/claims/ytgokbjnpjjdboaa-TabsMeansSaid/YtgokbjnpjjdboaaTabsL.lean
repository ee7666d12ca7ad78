/- The laws of package tabs: TabsSteps, TabsMeans. -/
import Derived.Test.YtgokbjnpjjdboaaTabsA
import Derived.Test.YtgokbjnpjjdboaaOpen
namespace Go.Proofs.Ytgokbjnpjjdboaa.Tabs
open Go.ChangeShapes Go.WideShapes Go.ChangeAt Go.RowKit
open Go.Proofs.Ytgokbjnpjjdboaa.Open
set_option maxRecDepth 100000

theorem open_stops {w : World} {v : Value} (h : Arg Try.prog w 25 v) : ∃ b : Nat → Int, v = arr4 b := by
  obtain ⟨cs, rfl, hr⟩ := h.agg (.inl ⟨_, Try.underlying25⟩)
  obtain ⟨hl, hf⟩ := hr.struct Try.underlying25
  have e4 : Try.prog.cellsOf 23 = 4 := by kernel_rfl
  have e1 : Try.prog.cellsOf 22 = 1 := by kernel_rfl
  have h0 : Rd Try.prog w 23 ((cs.toList.drop 0).take (Try.prog.cellsOf 23)) := hf 0 _ rfl
  rw [show Try.prog.cellsOf 25 = 4 by kernel_rfl] at hl
  rw [e4] at h0
  obtain ⟨_, ha⟩ := h0.array Try.underlying23
  rw [e1] at ha
  obtain ⟨l⟩ := cs
  match l, hl with
  | [c0, c1, c2, c3], _ =>
    obtain ⟨n0, k0, _⟩ := (ha 0 (by omega)).int Try.underlying22
    obtain ⟨n1, k1, _⟩ := (ha 1 (by omega)).int Try.underlying22
    obtain ⟨n2, k2, _⟩ := (ha 2 (by omega)).int Try.underlying22
    obtain ⟨n3, k3, _⟩ := (ha 3 (by omega)).int Try.underlying22
    simp at k0 k1 k2 k3
    subst k0 k1 k2 k3
    exact ⟨fun k => match k with | 0 => n0 | 1 => n1 | 2 => n2 | _ => n3, rfl⟩

/-! ### plain laws -/
theorem nextL_range (s : Int → Bool) (wide : Int) : ∀ (f : Nat) (x n : Int), (wide - x).toNat = f → x < wide → x ≤ nextL s wide f x n ∧ nextL s wide f x n < wide
  | 0, x, n, h, hx => by omega
  | f+1, x, n, h, hx => by
    rw [nextL]
    by_cases h1 : wide ≤ x + 1
    · rw [if_pos h1]; omega
    · have ih := fun m => nextL_range s wide f (x+1) m (by omega) (by omega)
      rw [if_neg h1]
      split
      · split
        · omega
        · have := ih (n-1); omega
      · have := ih n; omega
theorem nextL_add (s : Int → Bool) (wide : Int) : ∀ (f : Nat) (x n m : Int), (wide - x).toNat = f → x < wide → 1 ≤ n → 0 ≤ m →
    nextV s (nextL s wide f x n) m wide = nextL s wide f x (n + m)
  | 0, x, n, m, h, hx, _, _ => by omega
  | f+1, x, n, m, h, hx, hn, hm => by
    rw [nextL, nextL]
    by_cases h1 : wide ≤ x + 1
    · rw [if_pos h1, if_pos h1, nextV]
      split
      · rfl
      · rw [nextL_1 s wide (wide - 1) m (by omega) (by omega)]
    · have ih := fun k hk => nextL_add s wide f (x+1) k m (by omega) (by omega) hk hm
      rw [if_neg h1, if_neg h1]
      by_cases hs : s (x+1) = true
      · rw [if_pos hs, if_pos hs]
        by_cases hn1 : n - 1 = 0
        · rw [if_pos hn1, nextV]
          by_cases hm0 : m ≤ 0
          · rw [if_pos hm0, if_pos (by omega)]
          · rw [if_neg hm0, if_neg (by omega), show n + m - 1 = m by omega, show (wide - (x+1)).toNat = f by omega]
        · rw [if_neg hn1, if_neg (by omega), ih (n-1) (by omega), show n - 1 + m = n + m - 1 by omega]
      · rw [if_neg hs, if_neg hs, ih n hn]
theorem nextV_range (s : Int → Bool) (col n wide : Int) (h : col < wide) : col ≤ nextV s col n wide ∧ nextV s col n wide < wide := by
  unfold nextV
  split
  · omega
  · exact nextL_range s wide _ col n rfl h
theorem nextV_add (s : Int → Bool) (col n m wide : Int) (h : col < wide) (hn : 0 ≤ n) (hm : 0 ≤ m) : nextV s (nextV s col n wide) m wide = nextV s col (n + m) wide := by
  by_cases h0 : n ≤ 0
  · obtain rfl : n = 0 := by omega
    rw [show (0 : Int) + m = m by omega]
    simp [nextV]
  · rw [show nextV s col n wide = nextL s wide (wide - col).toNat col n by rw [nextV, if_neg h0], nextL_add s wide _ col n m rfl h (by omega) hm, nextV, if_neg (by omega)]

theorem backL_range (s : Int → Bool) : ∀ (f : Nat) (x n : Int), (x + 1).toNat = f → 0 ≤ x → backL s f x n ≤ x ∧ 0 ≤ backL s f x n
  | 0, x, n, h, hx => by omega
  | f+1, x, n, h, hx => by
    rw [backL]
    by_cases h1 : x - 1 < 0
    · rw [if_pos h1]; omega
    · have ih := fun m => backL_range s f (x-1) m (by omega) (by omega)
      rw [if_neg h1]
      split
      · split
        · omega
        · have := ih (n-1); omega
      · have := ih n; omega
theorem backL_add (s : Int → Bool) : ∀ (f : Nat) (x n m : Int), (x + 1).toNat = f → 0 ≤ x → 1 ≤ n → 0 ≤ m →
    backV s (backL s f x n) m = backL s f x (n + m)
  | 0, x, n, m, h, hx, _, _ => by omega
  | f+1, x, n, m, h, hx, hn, hm => by
    rw [backL, backL]
    by_cases h1 : x - 1 < 0
    · rw [if_pos h1, if_pos h1, backV]
      split
      · rfl
      · rw [backL_1 s 0 m (by omega) (by omega)]
    · have ih := fun k hk => backL_add s f (x-1) k m (by omega) (by omega) hk hm
      rw [if_neg h1, if_neg h1]
      by_cases hs : s (x-1) = true
      · rw [if_pos hs, if_pos hs]
        by_cases hn1 : n - 1 = 0
        · rw [if_pos hn1, backV]
          by_cases hm0 : m ≤ 0
          · rw [if_pos hm0, if_pos (by omega)]
          · rw [if_neg hm0, if_neg (by omega), show n + m - 1 = m by omega, show (x - 1 + 1).toNat = f by omega]
        · rw [if_neg hn1, if_neg (by omega), ih (n-1) (by omega), show n - 1 + m = n + m - 1 by omega]
      · rw [if_neg hs, if_neg hs, ih n hn]
theorem backV_range (s : Int → Bool) (col n : Int) (h : 0 ≤ col) : backV s col n ≤ col ∧ 0 ≤ backV s col n := by
  unfold backV
  split
  · omega
  · exact backL_range s _ col n rfl h
theorem backV_add (s : Int → Bool) (col n m : Int) (h : 0 ≤ col) (hn : 0 ≤ n) (hm : 0 ≤ m) : backV s (backV s col n) m = backV s col (n + m) := by
  by_cases h0 : n ≤ 0
  · obtain rfl : n = 0 := by omega
    rw [show (0 : Int) + m = m by omega]
    simp [backV]
  · rw [show backV s col n = backL s (col + 1).toNat col n by rw [backV, if_neg h0], backL_add s _ col n m rfl h (by omega) hm, backV, if_neg (by omega)]

/-! ### TabsSteps -/
/-- Two numbers are handed back. -/
def Two (w : World) (e : Ending) (w' : World) : Prop := ∃ x y : Int, e = .returned (.tuple #[.int .i64 x, .int .i64 y]) ∧ Below w.heap.size w w'
theorem next_two (b : Nat → Int) (col n wide : Int) (w : World) : Calls Try.prog 15 #[arr4 b, .int .i64 col, .int .i64 n, .int .i64 wide] w (Two w) := by
  by_cases h : nextBad col n wide
  · exact (next_bad b col n wide h w).mono fun _ _ ⟨h1, h2⟩ => ⟨_, _, h1, h2⟩
  · exact (next_ok b col n wide h w).mono fun _ _ ⟨h1, h2⟩ => ⟨_, _, h1, h2⟩
theorem back_two (b : Nat → Int) (col n : Int) (w : World) : Calls Try.prog 16 #[arr4 b, .int .i64 col, .int .i64 n] w (Two w) := by
  by_cases h : backBad col n
  · exact (back_bad b col n h w).mono fun _ _ ⟨h1, h2⟩ => ⟨_, _, h1, h2⟩
  · exact (back_ok b col n h w).mono fun _ _ ⟨h1, h2⟩ => ⟨_, _, h1, h2⟩

/-- The box at block k holds the stops. -/
def Box (w : World) (k : Nat) (b : Nat → Int) : Prop :=
  k < w.heap.size ∧ w.cell? ⟨k, 0, none⟩ = some (.int .u64 (b 0)) ∧ w.cell? ⟨k, 1, none⟩ = some (.int .u64 (b 1)) ∧ w.cell? ⟨k, 2, none⟩ = some (.int .u64 (b 2)) ∧ w.cell? ⟨k, 3, none⟩ = some (.int .u64 (b 3))
theorem Box.keep {w w' : World} {k : Nat} {b : Nat → Int} (h : Box w k b) (hb : Below w.heap.size w w') : Box w' k b := by
  obtain ⟨h0, h1, h2, h3, h4⟩ := h
  exact ⟨Nat.lt_of_lt_of_le h0 hb.size, (bcell hb _ _ h0).trans h1, (bcell hb _ _ h0).trans h2, (bcell hb _ _ h0).trans h3, (bcell hb _ _ h0).trans h4⟩
theorem Box.new (w : World) (b : Nat → Int) (t : TypeId) : Box (w.alloc (.cells #[.int .u64 (b 0), .int .u64 (b 1), .int .u64 (b 2), .int .u64 (b 3)] t)) w.heap.size b :=
  ⟨by simp, by simp, by simp, by simp, by simp⟩

set_option maxHeartbeats 1000000 in
theorem steps_walk (v0 v1 v2 v3 v4 : Value) (w : World) (h0 : Arg Try.prog w 25 v0) (h1 : Arg Try.prog w 3 v1) (h2 : Arg Try.prog w 3 v2) (h3 : Arg Try.prog w 3 v3) (h4 : Arg Try.prog w 3 v4) :
    Calls Try.prog 3 #[v0, v1, v2, v3, v4] w fun e w' => e = .returned (.bool true) ∧ Below w.heap.size w w' := by
  obtain ⟨b, rfl⟩ := open_stops h0
  obtain ⟨col, rfl, _⟩ := h1.int Try.underlying3
  obtain ⟨n, rfl, _⟩ := h2.int Try.underlying3
  obtain ⟨m, rfl, _⟩ := h3.int Try.underlying3
  obtain ⟨wide, rfl, _⟩ := h4.int Try.underlying3
  clear h0 h1 h2 h3 h4
  unfold arr4
  have L0 : Below w.heap.size w (w.alloc (.cells #[.int .u64 (b 0), .int .u64 (b 1), .int .u64 (b 2), .int .u64 (b 3)] 25)) := (Below.refl _ _).alloc (Nat.le_refl _) _
  by_cases hbig : 1000 < n ∨ 1000 < m
  · go_enter Try.func3, Try.ntmps3
    go_wp2_with fail
    refine (lives _).mono ?_; rintro e w1 ⟨rfl, hb⟩
    have L1 := L0.trans (hb.mono L0.size)
    go_wp2_with fail
    all_goals
      refine (lives _).mono ?_; rintro e w2 ⟨rfl, hb2⟩
      go_wp2_with fail
      go_ret
      exact ⟨rfl, L1.trans (hb2.mono L1.size)⟩
  · obtain ⟨g1, g2⟩ : n ≤ 1000 ∧ m ≤ 1000 := by omega
    clear hbig
    have d1 : decide (1000 < n) = false := decide_eq_false (by omega)
    have d2 : decide (1000 < m) = false := decide_eq_false (by omega)
    have B0 := Box.new w b 25
    -- the second half, alike on all ways: whatever the first half came to
    go_enter Try.func3, Try.ntmps3
    go_wp2_with fail
    refine (lives _).mono ?_; rintro e w1 ⟨rfl, hb⟩
    have B1 := B0.keep hb; have L1 := L0.trans (hb.mono L0.size); have ⟨_, c10, c11, c12, c13⟩ := B1
    clear hb B0
    go_wp2_with fail
    by_cases q1 : nextBad col n wide
    case' pos =>
      refine (next_bad b col n wide q1 _).mono ?_; rintro e w2 ⟨rfl, hb⟩
      have B2 := B1.keep hb; have L2 := L1.trans (hb.mono L1.size); have ⟨_, c20, c21, c22, c23⟩ := B2
      clear hb B1 c10 c11 c12 c13
      go_wp2_with fail
      clear q1
      refine (next_two b _ _ _ _).mono ?_; rintro e w3 ⟨x1, y1, rfl, hb⟩
      have B3 := B2.keep hb; have L3 := L2.trans (hb.mono L2.size); have ⟨_, c30, c31, c32, c33⟩ := B3
      clear hb B2 c20 c21 c22 c23
      go_wp2_with fail
      refine (next_two b _ _ _ _).mono ?_; rintro e w4 ⟨x2, y2, rfl, hb⟩
      have B4 := B3.keep hb; have L4 := L3.trans (hb.mono L3.size); have ⟨_, c40, c41, c42, c43⟩ := B4
      clear hb B3 c30 c31 c32 c33
      go_wp2_with fail
    case' neg =>
      by_cases q2 : nextBad (nextV (hasB b) col n wide) m wide
      case' pos =>
        refine (next_ok b col n wide q1 _).mono ?_; rintro e w2 ⟨rfl, hb⟩
        have B2 := B1.keep hb; have L2 := L1.trans (hb.mono L1.size); have ⟨_, c20, c21, c22, c23⟩ := B2
        clear hb B1 c10 c11 c12 c13
        go_wp2_with fail
        refine (next_bad b _ _ _ q2 _).mono ?_; rintro e w3 ⟨rfl, hb⟩
        have B3 := B2.keep hb; have L3 := L2.trans (hb.mono L2.size); have ⟨_, c30, c31, c32, c33⟩ := B3
        clear hb B2 c20 c21 c22 c23
        go_wp2_with fail
        clear q1 q2
        refine (next_two b _ _ _ _).mono ?_; rintro e w4 ⟨x2, y2, rfl, hb⟩
        have B4 := B3.keep hb; have L4 := L3.trans (hb.mono L3.size); have ⟨_, c40, c41, c42, c43⟩ := B4
        clear hb B3 c30 c31 c32 c33
        go_wp2_with fail
      case' neg =>
        have HA : Hid (nextV (hasB b) (nextV (hasB b) col n wide) m wide = nextV (hasB b) col (n + m) wide) := nextV_add _ _ _ _ _ (by unfold nextBad at q1; omega) (by unfold nextBad at q1; omega) (by unfold nextBad at q2; omega)
        have r1 : col ≤ nextV (hasB b) col n wide := (nextV_range _ _ _ _ (by unfold nextBad at q1; omega)).1
        have r2 : nextV (hasB b) col n wide < wide := (nextV_range _ _ _ _ (by unfold nextBad at q1; omega)).2
        have q3 : ¬ nextBad col (n + m) wide := by unfold nextBad at *; omega
        have i1 : 0 ≤ n + m := by unfold nextBad at *; omega
        refine (next_ok b col n wide q1 _).mono ?_; rintro e w2 ⟨rfl, hb⟩
        have B2 := B1.keep hb; have L2 := L1.trans (hb.mono L1.size); have ⟨_, c20, c21, c22, c23⟩ := B2
        clear hb B1 c10 c11 c12 c13
        go_wp2_with fail
        refine (next_ok b _ _ _ q2 _).mono ?_; rintro e w3 ⟨rfl, hb⟩
        have B3 := B2.keep hb; have L3 := L2.trans (hb.mono L2.size); have ⟨_, c30, c31, c32, c33⟩ := B3
        clear hb B2 c20 c21 c22 c23
        go_wp2_with fail
        rw [HA.out]
        refine (next_ok b _ _ _ q3 _).mono ?_; rintro e w4 ⟨rfl, hb⟩
        have B4 := B3.keep hb; have L4 := L3.trans (hb.mono L3.size); have ⟨_, c40, c41, c42, c43⟩ := B4
        clear hb B3 c30 c31 c32 c33
        go_wp2_with fail
    all_goals
      by_cases q1 : backBad col n
      · refine (back_bad b col n q1 _).mono ?_; rintro e w5 ⟨rfl, hb⟩
        have B5 := B4.keep hb; have L5 := L4.trans (hb.mono L4.size); have ⟨_, c50, c51, c52, c53⟩ := B5
        clear hb B4 c40 c41 c42 c43
        go_wp2_with fail
        clear q1
        refine (back_two b _ _ _).mono ?_; rintro e w6 ⟨x5, y5, rfl, hb⟩
        have B6 := B5.keep hb; have L6 := L5.trans (hb.mono L5.size); have ⟨_, c60, c61, c62, c63⟩ := B6
        clear hb B5 c50 c51 c52 c53
        go_wp2_with fail
        refine (back_two b _ _ _).mono ?_; rintro e w7 ⟨x6, y6, rfl, hb⟩
        have B7 := B6.keep hb; have L7 := L6.trans (hb.mono L6.size); have ⟨_, c70, c71, c72, c73⟩ := B7
        clear hb B6 c60 c61 c62 c63
        go_wp2_with fail
        go_ret
        exact ⟨rfl, L7⟩
      · by_cases q2 : backBad (backV (hasB b) col n) m
        · refine (back_ok b col n q1 _).mono ?_; rintro e w5 ⟨rfl, hb⟩
          have B5 := B4.keep hb; have L5 := L4.trans (hb.mono L4.size); have ⟨_, c50, c51, c52, c53⟩ := B5
          clear hb B4 c40 c41 c42 c43
          go_wp2_with fail
          refine (back_bad b _ _ q2 _).mono ?_; rintro e w6 ⟨rfl, hb⟩
          have B6 := B5.keep hb; have L6 := L5.trans (hb.mono L5.size); have ⟨_, c60, c61, c62, c63⟩ := B6
          clear hb B5 c50 c51 c52 c53
          go_wp2_with fail
          clear q1 q2
          refine (back_two b _ _ _).mono ?_; rintro e w7 ⟨x6, y6, rfl, hb⟩
          have B7 := B6.keep hb; have L7 := L6.trans (hb.mono L6.size); have ⟨_, c70, c71, c72, c73⟩ := B7
          clear hb B6 c60 c61 c62 c63
          go_wp2_with fail
          go_ret
          exact ⟨rfl, L7⟩
        · have HB : Hid (backV (hasB b) (backV (hasB b) col n) m = backV (hasB b) col (n + m)) := backV_add _ _ _ _ (by unfold backBad at q1; omega) (by unfold backBad at q1; omega) (by unfold backBad at q2; omega)
          have r3 : backV (hasB b) col n ≤ col := (backV_range _ _ _ (by unfold backBad at q1; omega)).1
          have q3 : ¬ backBad col (n + m) := by unfold backBad at *; omega
          have i2 : 0 ≤ n + m := by unfold backBad at *; omega
          refine (back_ok b col n q1 _).mono ?_; rintro e w5 ⟨rfl, hb⟩
          have B5 := B4.keep hb; have L5 := L4.trans (hb.mono L4.size); have ⟨_, c50, c51, c52, c53⟩ := B5
          clear hb B4 c40 c41 c42 c43
          go_wp2_with fail
          refine (back_ok b _ _ q2 _).mono ?_; rintro e w6 ⟨rfl, hb⟩
          have B6 := B5.keep hb; have L6 := L5.trans (hb.mono L5.size); have ⟨_, c60, c61, c62, c63⟩ := B6
          clear hb B5 c50 c51 c52 c53
          go_wp2_with fail
          rw [HB.out]
          refine (back_ok b _ _ q3 _).mono ?_; rintro e w7 ⟨rfl, hb⟩
          have B7 := B6.keep hb; have L7 := L6.trans (hb.mono L6.size); have ⟨_, c70, c71, c72, c73⟩ := B7
          clear hb B6 c60 c61 c62 c63
          go_wp2_with fail
          go_ret
          exact ⟨rfl, L7⟩
end Go.Proofs.Ytgokbjnpjjdboaa.Tabs
