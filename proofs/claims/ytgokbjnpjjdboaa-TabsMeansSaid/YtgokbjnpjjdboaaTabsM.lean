/- The law TabsMeans: a stop that is put in is where the next step ends; taken out it is passed by. -/
import Derived.Test.YtgokbjnpjjdboaaTabsL
import Derived.Lib.SmallJoins
namespace Go.Proofs.Ytgokbjnpjjdboaa.Tabs
open Go.ChangeShapes Go.WideShapes Go.ChangeAt Go.RowKit
open Go.Proofs.Ytgokbjnpjjdboaa.Open
set_option maxRecDepth 100000

theorem bit_nat (x j : Nat) : (x / 2 ^ j &&& 1 = 1) ↔ x.testBit j = true := by
  rw [Nat.and_one_is_mod, Nat.testBit_eq_decide_div_mod_eq]; simp
theorem hasB_nat (b : Nat → Int) (c : Int) (h0 : 0 ≤ b (c / 64).toNat) (h1 : b (c / 64).toNat < 18446744073709551616) :
    hasB b c = (b (c / 64).toNat).toNat.testBit (c % 64).toNat := by
  unfold hasB
  generalize b (c / 64).toNat = x at *
  obtain ⟨n, rfl⟩ := Int.eq_ofNat_of_zero_le h0
  generalize (c % 64).toNat = j
  have hj : ((n : Int) / 2 ^ j) = ((n / 2 ^ j : Nat) : Int) := by simp
  have hlt : n / 2 ^ j < 18446744073709551616 := Nat.lt_of_le_of_lt (Nat.div_le_self _ _) (by omega)
  rw [hj, show (1 : Int) = ((1 : Nat) : Int) from rfl, u64_and_nat _ _ hlt (by omega), Bool.eq_iff_iff]
  simp only [beq_iff_eq, Int.toNat_natCast]
  rw [← bit_nat]
  omega
theorem two_pow_lt (j : Nat) (h : j < 64) : 2 ^ j < 18446744073709551616 := by
  have := Nat.pow_lt_pow_right (a := 2) (by omega) h
  simpa using this
theorem wrap_pow (j : Nat) (h : j < 64) : IntKind.u64.wrap (2 ^ j) = ((2 ^ j : Nat) : Int) := by
  have := two_pow_lt j h
  rw [IntKind.wrap_u64]
  have e : (2 : Int) ^ j = ((2 ^ j : Nat) : Int) := by simp
  rw [e]; exact Int.emod_eq_of_lt (Int.natCast_nonneg _) (by omega)
theorem upd_nat (n j : Nat) (c : Int) (hj : (c % 64).toNat = j) (hn : n < 18446744073709551616) (on : Bool) :
    ∃ m : Nat, upd (n : Int) c on = (m : Int) ∧ m < 18446744073709551616 ∧ m.testBit j = on := by
  have hj64 : j < 64 := by omega
  have hp := two_pow_lt j hj64
  have e1 : clr (n : Int) c = ((n &&& (18446744073709551615 - 2 ^ j) : Nat) : Int) := by
    unfold clr
    rw [hj, wrap_pow j hj64, u64_andNot_nat _ _ hn hp]
  have hm : n &&& (18446744073709551615 - 2 ^ j) < 18446744073709551616 := Nat.lt_of_le_of_lt Nat.and_le_left hn
  cases on
  · refine ⟨_, e1, hm, ?_⟩
    rw [Nat.testBit_and, show (18446744073709551615 - 2 ^ j : Nat) = 2 ^ 64 - (2 ^ j + 1) by omega, Nat.testBit_two_pow_sub_succ (by omega), Nat.testBit_two_pow_self]
    simp
  · have e2 : upd (n : Int) c true = (((n &&& (18446744073709551615 - 2 ^ j)) ||| 2 ^ j : Nat) : Int) := by
      show setb (clr (n : Int) c) c = _
      rw [e1]
      unfold setb
      rw [hj, wrap_pow j hj64, u64_or_nat _ _ hm hp]
    refine ⟨_, e2, ?_, ?_⟩
    · have := Nat.or_lt_two_pow (n := 64) (x := n &&& (18446744073709551615 - 2 ^ j)) (y := 2 ^ j) (by omega) (by omega)
      simpa using this
    · rw [Nat.testBit_or, Nat.testBit_two_pow_self]; simp
theorem hasB_set (b : Nat → Int) (c : Int) (h0 : 0 ≤ b (c / 64).toNat) (h1 : b (c / 64).toNat < 18446744073709551616) (on : Bool) : hasB (setB b c on) c = on := by
  obtain ⟨n, hn⟩ := Int.eq_ofNat_of_zero_le h0
  obtain ⟨m, e, hm, ht⟩ := upd_nat n (c % 64).toNat c rfl (by omega) on
  have hs : setB b c on (c / 64).toNat = (m : Int) := by unfold setB; rw [if_pos rfl, hn, e]
  rw [hasB_nat _ _ (by omega) (by omega), hs]
  simpa using ht

theorem open_stops2 {w : World} {v : Value} (h : Arg Try.prog w 25 v) : ∃ b : Nat → Int, v = arr4 b ∧ ∀ k, 0 ≤ b k ∧ b k < 18446744073709551616 := by
  obtain ⟨cs, rfl, hr⟩ := h.agg (.inl ⟨_, Try.underlying25⟩)
  obtain ⟨hl, hf⟩ := hr.struct Try.underlying25
  have e4 : Try.prog.cellsOf 23 = 4 := by kernel_rfl
  have e1 : Try.prog.cellsOf 22 = 1 := by kernel_rfl
  have h0 : Rd Try.prog w 23 ((cs.toList.drop 0).take (Try.prog.cellsOf 23)) := hf 0 _ rfl
  rw [show Try.prog.cellsOf 25 = 4 by kernel_rfl] at hl
  rw [e4] at h0
  obtain ⟨_, ha⟩ := h0.array Try.underlying23
  rw [e1] at ha
  obtain ⟨l⟩ := cs
  match l, hl with
  | [c0, c1, c2, c3], _ =>
    obtain ⟨n0, k0, w0⟩ := (ha 0 (by omega)).int Try.underlying22
    obtain ⟨n1, k1, w1⟩ := (ha 1 (by omega)).int Try.underlying22
    obtain ⟨n2, k2, w2⟩ := (ha 2 (by omega)).int Try.underlying22
    obtain ⟨n3, k3, w3⟩ := (ha 3 (by omega)).int Try.underlying22
    simp at k0 k1 k2 k3
    subst k0 k1 k2 k3
    simp [Lit.wf, IntKind.min, IntKind.max, IntKind.signed, IntKind.bits] at w0 w1 w2 w3
    refine ⟨fun k => match k with | 0 => n0 | 1 => n1 | 2 => n2 | _ => n3, rfl, fun k => ?_⟩
    match k with
    | 0 => simp only []; omega
    | 1 => simp only []; omega
    | 2 => simp only []; omega
    | _+3 => simp only []; omega

theorem next_at (s : Int → Bool) (col wide : Int) (h : col < wide) (hs : s col = true) : nextV s (col - 1) 1 wide = col := by
  rw [nextV, if_neg (by omega), nextL_2 s wide (col - 1) 1 (by omega) (by rw [show col - 1 + 1 = col by omega]; exact hs) (by omega)]
  omega
theorem next_past (s : Int → Bool) (col wide : Int) (h : col < wide) (hs : s col = false) : nextV s (col - 1) 1 wide = nextV s col 1 wide := by
  rw [nextV, if_neg (by omega), nextL_4 s wide (col - 1) 1 (by omega) (by rw [show col - 1 + 1 = col by omega]; exact hs), show col - 1 + 1 = col by omega, nextV, if_neg (by omega)]
theorem nextL_gt (s : Int → Bool) (wide : Int) (x n : Int) (h : x + 1 < wide) : x < nextL s wide (wide - x).toNat x n := by
  obtain ⟨f, hf⟩ : ∃ f, (wide - x).toNat = f + 1 := ⟨(wide - x).toNat - 1, by omega⟩
  have ih := fun m => nextL_range s wide f (x+1) m (by omega) h
  rw [hf, nextL, if_neg (by omega)]
  split
  · split
    · omega
    · have := ih (n-1); omega
  · have := ih n; omega

theorem means_walk (v0 v1 v2 : Value) (w : World) (h0 : Arg Try.prog w 25 v0) (h1 : Arg Try.prog w 3 v1) (h2 : Arg Try.prog w 3 v2) :
    Calls Try.prog 4 #[v0, v1, v2] w fun e w' => e = .returned (.bool true) ∧ Below w.heap.size w w' := by
  obtain ⟨b, rfl, hw⟩ := open_stops2 h0
  obtain ⟨col, rfl, _⟩ := h1.int Try.underlying3
  obtain ⟨wide, rfl, _⟩ := h2.int Try.underlying3
  clear h0 h1 h2
  unfold arr4
  have L0 : Below w.heap.size w (w.alloc (.cells #[.int .u64 (b 0), .int .u64 (b 1), .int .u64 (b 2), .int .u64 (b 3)] 25)) := (Below.refl _ _).alloc (Nat.le_refl _) _
  have B0 := Box.new w b 25
  by_cases hbad : col < 0 ∨ 255 < col
  · clear hw
    go_enter Try.func4, Try.ntmps4
    go_wp2_with fail
    refine (set_bad b col true hbad _).mono ?_; rintro e w1 ⟨rfl, hb⟩
    replace B0 := B0.keep hb
    have L1 := L0.trans (hb.mono L0.size)
    clear hb
    have ⟨zp, p0, p1, p2, p3⟩ := B0
    unfold arr4
    go_wp2_with fail
    have L1' := L1.alloc L1.size (.cells #[.int .u64 (b 0), .int .u64 (b 1), .int .u64 (b 2), .int .u64 (b 3)] 25)
    refine (set_bad b col false hbad _).mono ?_; rintro e w2 ⟨rfl, hb⟩
    have L2 := L1'.trans (hb.mono L1'.size)
    clear hb p0 p1 p2 p3 zp B0
    unfold arr4
    go_wp2_with fail
    have L2' := L2.alloc L2.size (.cells #[.int .u64 (b 0), .int .u64 (b 1), .int .u64 (b 2), .int .u64 (b 3)] 25)
    refine (lives _).mono ?_; rintro e w3 ⟨rfl, hb⟩
    have L3 := L2'.trans (hb.mono L2'.size)
    clear hb
    go_wp2_with fail
    refine (lives _).mono ?_; rintro e w4 ⟨rfl, hb⟩
    have L4 := L3.trans (hb.mono L3.size)
    clear hb
    go_wp2_with fail
    go_ret
    exact ⟨rfl, L4⟩
  · have i0 : 0 ≤ col := by omega
    have i1 : col ≤ 255 := by omega
    clear hbad
    have hs1 := Lib.hid (hasB_set b col (hw _).1 (hw _).2 true)
    have hs2 := Lib.hid (hasB_set b col (hw _).1 (hw _).2 false)
    clear hw
    by_cases hout : col < 1 ∨ wide < 1 ∨ 160 < wide ∨ wide - 1 ≤ col
    · go_enter Try.func4, Try.ntmps4
      go_wp2_with fail
      refine (set_ok b col true i0 i1 _).mono ?_; rintro e w1 ⟨rfl, hb⟩
      replace B0 := B0.keep hb
      have L1 := L0.trans (hb.mono L0.size)
      clear hb
      have ⟨zp, p0, p1, p2, p3⟩ := B0
      generalize setB b col true = b' at *
      unfold arr4
      go_wp2_with fail
      have L1' := L1.alloc L1.size (.cells #[.int .u64 (b' 0), .int .u64 (b' 1), .int .u64 (b' 2), .int .u64 (b' 3)] 25)
      refine (set_ok b col false i0 i1 _).mono ?_; rintro e w2 ⟨rfl, hb⟩
      have L2 := L1'.trans (hb.mono L1'.size)
      clear hb p0 p1 p2 p3 zp B0
      generalize setB b col false = b'' at *
      unfold arr4
      go_wp2_with fail
      have L2' := L2.alloc L2.size (.cells #[.int .u64 (b'' 0), .int .u64 (b'' 1), .int .u64 (b'' 2), .int .u64 (b'' 3)] 25)
      refine (lives _).mono ?_; rintro e w3 ⟨rfl, hb⟩
      have L3 := L2'.trans (hb.mono L2'.size)
      clear hb
      go_wp2_with fail
      all_goals
        refine (lives _).mono ?_; rintro e w4 ⟨rfl, hb⟩
        have L4 := L3.trans (hb.mono L3.size)
        clear hb
        go_wp2_with fail
        go_ret
        exact ⟨rfl, L4⟩
    · have j0 : 1 ≤ col := by omega
      have j1 : 1 ≤ wide := by omega
      have j2 : wide ≤ 160 := by omega
      have j3 : col < wide - 1 := by omega
      clear hout
      have k1 := Lib.hid (next_at _ col wide (by omega) hs1.out)
      have k2 := Lib.hid (next_past _ col wide (by omega) hs2.out)
      have q1 : ¬ nextBad (col - 1) 1 wide := by unfold nextBad; omega
      have q2 : ¬ nextBad col 1 wide := by unfold nextBad; omega
      have k3 : col < nextV (hasB (setB b col false)) col 1 wide := by
        rw [nextV, if_neg (by omega)]
        exact nextL_gt _ wide col 1 (by omega)
      clear hs1 hs2
      go_enter Try.func4, Try.ntmps4
      go_wp2_with fail
      refine (set_ok b col true i0 i1 _).mono ?_; rintro e w1 ⟨rfl, hb⟩
      replace B0 := B0.keep hb
      have L1 := L0.trans (hb.mono L0.size)
      clear hb
      have ⟨zp, p0, p1, p2, p3⟩ := B0
      generalize setB b col true = b' at *
      have A1 := Box.new w1 b' 25
      unfold arr4
      go_wp2_with fail
      have L1' := L1.alloc L1.size (.cells #[.int .u64 (b' 0), .int .u64 (b' 1), .int .u64 (b' 2), .int .u64 (b' 3)] 25)
      refine (set_ok b col false i0 i1 _).mono ?_; rintro e w2 ⟨rfl, hb⟩
      have L2 := L1'.trans (hb.mono L1'.size)
      replace A1 := A1.keep hb
      clear hb p0 p1 p2 p3 zp B0
      generalize setB b col false = b'' at *
      have A2 := Box.new w2 b'' 25
      replace A1 := A1.keep (Joins.below_alloc1 w2 (.cells #[.int .u64 (b'' 0), .int .u64 (b'' 1), .int .u64 (b'' 2), .int .u64 (b'' 3)] 25))
      unfold arr4
      go_wp2_with fail
      have L2' := L2.alloc L2.size (.cells #[.int .u64 (b'' 0), .int .u64 (b'' 1), .int .u64 (b'' 2), .int .u64 (b'' 3)] 25)
      refine (lives _).mono ?_; rintro e w3 ⟨rfl, hb⟩
      have L3 := L2'.trans (hb.mono L2'.size)
      replace A1 := A1.keep hb; replace A2 := A2.keep hb
      have ⟨_, a0, a1, a2, a3⟩ := A1; have ⟨_, d0, d1, d2, d3⟩ := A2
      clear hb
      go_wp2_with fail
      refine (next_ok b' _ _ _ q1 _).mono ?_; rintro e w4 ⟨rfl, hb⟩
      have L4 := L3.trans (hb.mono L3.size)
      replace A2 := A2.keep hb
      clear hb a0 a1 a2 a3 A1 d0 d1 d2 d3
      have ⟨_, d0, d1, d2, d3⟩ := A2
      rw [k1.out]
      go_wp2_with fail
      refine (next_ok b'' _ _ _ q1 _).mono ?_; rintro e w5 ⟨rfl, hb⟩
      have L5 := L4.trans (hb.mono L4.size)
      replace A2 := A2.keep hb
      clear hb d0 d1 d2 d3
      have ⟨_, d0, d1, d2, d3⟩ := A2
      rw [k2.out]
      go_wp2_with fail
      refine (next_ok b'' _ _ _ q2 _).mono ?_; rintro e w6 ⟨rfl, hb⟩
      have L6 := L5.trans (hb.mono L5.size)
      clear hb d0 d1 d2 d3
      go_wp2_with fail
      go_ret
      exact ⟨rfl, L6⟩
end Go.Proofs.Ytgokbjnpjjdboaa.Tabs
