/- Mask: what is written is read. -/
import Derived.Test.YtanhpibphkblnaaDoorMkP
namespace Go.Proofs.YtanhpibphkblnaaDoor.Pm
open Go.Proofs.YtanhpibphkblnaaDoor.Args
open Go.ChangeShapes Go.WideShapes Go.ChangeAt Go.RowKit
set_option linter.unusedVariables false
set_option linter.unusedSimpArgs false
set_option maxRecDepth 100000
/-- Bit c of a text: the byte c / 8, its bit 7 - c % 8. -/
def bitS (s : List UInt8) (c : Nat) : Bool := (s.getD (c / 8) 0).toNat.testBit (7 - c % 8)
theorem wbit (x : UInt8) (k : Nat) (h : k < 8) : decide (((x &&& wOf k).toNat : Int) = 0) = !x.toNat.testBit (7 - k) := by
  have hx := x.toNat_lt
  rw [UInt8.toNat_and, wOf_nat k h]
  by_cases hb : x.toNat.testBit (7 - k) = true
  · rw [hb]
    have : x.toNat &&& 2 ^ (7 - k) ≠ 0 := by
      intro e
      have := congrArg (fun n => n.testBit (7 - k)) e
      simp only [Nat.testBit_and, Nat.testBit_two_pow, Nat.zero_testBit, hb, decide_true, Bool.and_true] at this
      cases this
    exact decide_eq_false (by omega)
  · have hb' : x.toNat.testBit (7 - k) = false := Bool.eq_false_iff.2 hb
    rw [hb']
    have : x.toNat &&& 2 ^ (7 - k) = 0 := by
      apply Nat.eq_of_testBit_eq
      intro i
      rw [Nat.testBit_and, Nat.testBit_two_pow, Nat.zero_testBit]
      by_cases hi : 7 - k = i
      · subst hi; rw [hb']; rfl
      · rw [decide_eq_false hi, Bool.and_false]
    exact decide_eq_true (by rw [this]; rfl)
theorem idx_get (l : List UInt8) (i : Nat) (h : i < l.length) : idx l (i : Int) = some (l.getD i 0) := by
  rw [idx_of l i h, List.getD_eq_getElem?_getD, List.getElem?_eq_getElem h]; rfl
/-- What has been read of a text, up to a bit. -/
def upTo (s : List UInt8) (m : GMask) (n : Nat) : Prop := inW m ∧ ∀ c, c < 256 → has m c = (decide (c < n) && bitS s c)
theorem upTo_step (s : List UInt8) (m : GMask) (n : Nat) (hn : n < 256) (h : upTo s m n) : upTo s (if bitS s n then setN m n else m) (n + 1) := by
  obtain ⟨h1, h2⟩ := h
  cases hb : bitS s n with
  | false =>
    refine ⟨by simpa using h1, fun c hc => ?_⟩
    simp only [Bool.false_eq_true, if_false]
    rw [h2 c hc]
    by_cases hcn : c = n
    · subst hcn; rw [hb]; simp
    · by_cases h3 : c < n
      · rw [decide_eq_true h3, decide_eq_true (show c < n + 1 by omega)]
      · rw [decide_eq_false h3, decide_eq_false (show ¬ c < n + 1 by omega)]
  | true =>
    obtain ⟨h3, h4⟩ := setN_ok m n hn h1
    refine ⟨by simpa using h3, fun c hc => ?_⟩
    simp only [if_true]
    rw [h4 c hc, h2 c hc]
    by_cases hcn : c = n
    · subst hcn; rw [hb]; simp
    · rw [decide_eq_false hcn, Bool.or_false]
      by_cases h3 : c < n
      · rw [decide_eq_true h3, decide_eq_true (show c < n + 1 by omega)]
      · rw [decide_eq_false h3, decide_eq_false (show ¬ c < n + 1 by omega)]
theorem inner (s : List UInt8) (p : GMask) (i : Nat) (hi : i < s.length) (h32 : s.length ≤ 32) (m : GMask) (hm : upTo s m (8 * i)) :
    ∃ m', loopO (f18_l1_l4 s) (p, m, (i : Int), (i : Int), 0) = some (p, m', (i : Int)) ∧ upTo s m' (8 * i + 8) := by
  obtain ⟨r, h1, h2⟩ := loopO_ind (body := f18_l1_l4 s) (fun n x => ∃ (k : Nat) (m' : GMask), x = (p, m', (i : Int), (i : Int), (k : Int)) ∧ k ≤ 8 ∧ n = 8 - k ∧ upTo s m' (8 * i + k)) (fun r => ∃ m', r = (p, m', (i : Int)) ∧ upTo s m' (8 * i + 8)) (by
    rintro n x ⟨k, m', rfl, hk, rfl, hu⟩
    unfold f18_l1_l4 f18_l1_l4_j5 f18_l1_l4_j6
    by_cases hlt : k < 8
    · rw [decide_eq_true (p := (p, m', (i : Int), (i : Int), (k : Int)).2.2.2.2 < 8) (by show (k : Int) < 8; omega)]
      simp only [cond_true]
      rw [idx_get s i hi]
      simp only [Option.bind_some, chk_nat]
      have hmin : min ((k : Int)).toNat 8 = k := by simp; omega
      rw [hmin, show u8 (((128 : UInt8).toNat / 2 ^ k : Nat) : Int) = wOf k from rfl, wbit _ k hlt]
      have hst := upTo_step s m' (8 * i + k) (by omega) hu
      have hbit : bitS s (8 * i + k) = (s.getD i 0).toNat.testBit (7 - k) := by
        unfold bitS
        rw [show (8 * i + k) / 8 = i by omega, show (8 * i + k) % 8 = k by omega]
      rw [hbit] at hst
      rw [i64w (8 * (i : Int)) (by omega), i64w (8 * (i : Int) + (k : Int)) (by omega), i64w ((k : Int) + 1) (by omega)]
      rw [show 8 * (i : Int) + (k : Int) = ((8 * i + k : Nat) : Int) by omega]
      have td : Int.tdiv ((8 * i + k : Nat) : Int) 64 = (((8 * i + k) / 64 : Nat) : Int) := by rw [Int.tdiv_eq_ediv_of_nonneg (by omega)]; rfl
      have tm : Int.tmod ((8 * i + k : Nat) : Int) 64 = (((8 * i + k) % 64 : Nat) : Int) := by rw [Int.tmod_eq_emod_of_nonneg (by omega)]; rfl
      have hmin2 : min ((((8 * i + k) % 64 : Nat) : Int)).toNat 64 = (8 * i + k) % 64 := by simp; omega
      rw [td, tm, i64w _ (by omega), inR_nat _ 4 (by omega), hmin2]
      left
      cases hb : (s.getD i 0).toNat.testBit (7 - k) with
      | false =>
        rw [hb] at hst
        exact ⟨_, 8 - (k + 1), rfl, by omega, k + 1, m', rfl, by omega, rfl, by simpa [Nat.add_assoc] using hst⟩
      | true =>
        rw [hb] at hst
        simp only [Bool.not_true, Bool.not_false, cond_true, Option.bind_some, chk_nat]
        exact ⟨_, 8 - (k + 1), rfl, by omega, k + 1, setN m' (8 * i + k), rfl, by omega, rfl, by simpa [Nat.add_assoc] using hst⟩
    · rw [decide_eq_false (p := (p, m', (i : Int), (i : Int), (k : Int)).2.2.2.2 < 8) (by show ¬ (k : Int) < 8; omega)]
      have : k = 8 := by omega
      subst this
      exact .inr ⟨_, rfl, m', rfl, hu⟩) (n := 8) (x := (p, m, (i : Int), (i : Int), 0)) ⟨0, m, rfl, by omega, rfl, hm⟩
  obtain ⟨m', rfl, h3⟩ := h2
  exact ⟨m', h1, h3⟩
/-- Read. -/
theorem f18_eq (s : List UInt8) (h : s.length ≤ 32) : ∃ m, f18 s = some (m, 0) ∧ inW m ∧ ∀ c, c < 256 → has m c = bitS s c := by
  unfold f18
  rw [decide_eq_false (by omega)]
  simp only [cond_false]
  unfold f18_j0
  obtain ⟨r, h1, h2⟩ := loopO_ind (body := f18_l1 s) (fun n x => ∃ (i : Nat) (m' : GMask), x = (zeroM, m', (i : Int)) ∧ i ≤ s.length ∧ n = s.length - i ∧ upTo s m' (8 * i)) (fun r => ∃ m', r = (zeroM, m') ∧ upTo s m' (8 * s.length)) (by
    rintro n x ⟨i, m', rfl, hi, rfl, hu⟩
    unfold f18_l1 f18_l1_j2 f18_l1_j3
    by_cases hlt : i < s.length
    · rw [decide_eq_true (p := (zeroM, m', (i : Int)).2.2 < (s.length : Int)) (by show (i : Int) < (s.length : Int); omega)]
      obtain ⟨m2, e, hu2⟩ := inner s zeroM i hlt h m' hu
      simp only [cond_true]
      rw [e]
      simp only [Option.bind_some]
      rw [i64w ((i : Int) + 1) (by omega)]
      exact .inl ⟨_, s.length - (i + 1), rfl, by omega, i + 1, m2, rfl, by omega, rfl, by rw [show 8 * (i + 1) = 8 * i + 8 by omega]; exact hu2⟩
    · rw [decide_eq_false (p := (zeroM, m', (i : Int)).2.2 < (s.length : Int)) (by show ¬ (i : Int) < (s.length : Int); omega)]
      have : i = s.length := by omega
      subst this
      exact .inr ⟨_, rfl, m', rfl, hu⟩) (n := s.length) (x := (zeroM, zeroM, 0)) ⟨0, zeroM, rfl, by omega, rfl, zero_ok.1, fun c hc => by rw [zero_ok.2 c]; simp⟩
  obtain ⟨m', rfl, hw, hb⟩ := h2
  refine ⟨m', ?_, hw, fun c hc => ?_⟩
  · rw [show ((⟨fun _ => 0⟩ : GMask), (⟨fun _ => 0⟩ : GMask), (0 : Int)) = (zeroM, zeroM, 0) from rfl]
    rw [h1]; rfl
  · rw [hb c hc]
    by_cases h3 : c < 8 * s.length
    · rw [decide_eq_true h3, Bool.true_and]
    · rw [decide_eq_false h3, Bool.false_and]
      unfold bitS
      rw [List.getD_eq_getElem?_getD, List.getElem?_eq_none (by omega)]
      simp
/-- The same bits. -/
theorem row_same (m m' : GMask) (h : inW m) (h' : inW m') (hb : ∀ c, c < 256 → has m c = has m' c) : rowEq 4 m.Bits m'.Bits = true := by
  unfold rowEq
  rw [List.all_eq_true]
  intro i hi
  have hi := List.mem_range.1 hi
  obtain ⟨n, e1, l1⟩ := h i hi
  obtain ⟨n', e2, l2⟩ := h' i hi
  have : n = n' := by
    apply Nat.eq_of_testBit_eq
    intro j
    by_cases hj : j < 64
    · have := hb (64 * i + j) (by omega)
      unfold has at this
      rw [show (64 * i + j) / 64 = i by omega, show (64 * i + j) % 64 = j by omega, e1, e2] at this
      simpa using this
    · have hp : 18446744073709551616 ≤ 2 ^ j := by
        have := Nat.pow_le_pow_right (show 0 < 2 by decide) (show 64 ≤ j by omega)
        omega
      rw [Nat.testBit_lt_two_pow (Nat.lt_of_lt_of_le l1 hp), Nat.testBit_lt_two_pow (Nat.lt_of_lt_of_le l2 hp)]
  exact decide_eq_true (by rw [e1, e2, this])
/-- A text without zeros at its end: what it is, and its bits. -/
theorem trim_split (l : List UInt8) : ∃ k, l = Lib.trimRightB l 0 ++ List.replicate k 0 := by
  unfold Lib.trimRightB
  have key : ∀ r : List UInt8, ∃ k, r = List.replicate k 0 ++ r.dropWhile (· == 0) := by
    intro r
    induction r with
    | nil => exact ⟨0, rfl⟩
    | cons x t ih =>
      by_cases h : x = 0
      · subst h
        obtain ⟨k, hk⟩ := ih
        exact ⟨k + 1, by rw [List.dropWhile_cons_of_pos (by simp), List.replicate_succ, List.cons_append, ← hk]⟩
      · exact ⟨0, by rw [List.dropWhile_cons_of_neg (by simpa using h)]; rfl⟩
  obtain ⟨k, hk⟩ := key l.reverse
  refine ⟨k, ?_⟩
  have := congrArg List.reverse hk
  rw [List.reverse_reverse, List.reverse_append, List.reverse_replicate] at this
  exact this
theorem trim_last (l : List UInt8) : Lib.trimRightB l 0 = [] ∨ ∃ t x, Lib.trimRightB l 0 = t ++ [x] ∧ x ≠ 0 := by
  unfold Lib.trimRightB
  cases h : l.reverse.dropWhile (· == 0) with
  | nil => exact .inl rfl
  | cons x t =>
    right
    refine ⟨t.reverse, x, by simp, fun e => ?_⟩
    have := List.head_dropWhile_not (· == (0 : UInt8)) (l := l.reverse) (by rw [h]; simp)
    simp only [h, List.head_cons, e] at this
    simp at this
theorem trim_uniq (a b : List UInt8) (ha : a = [] ∨ ∃ t x, a = t ++ [x] ∧ x ≠ 0) (hb : b = [] ∨ ∃ t x, b = t ++ [x] ∧ x ≠ 0) (h : ∀ i, a.getD i 0 = b.getD i 0) : a = b := by
  have hlen : ∀ a b : List UInt8, (a = [] ∨ ∃ t x, a = t ++ [x] ∧ x ≠ 0) → (∀ i, a.getD i 0 = b.getD i 0) → a.length ≤ b.length := by
    intro a b ha h
    rcases ha with rfl | ⟨t, x, rfl, hx⟩
    · simp
    · by_cases hl : (t ++ [x]).length ≤ b.length
      · exact hl
      · have := h t.length
        rw [List.getD_eq_getElem?_getD, List.getD_eq_getElem?_getD, List.getElem?_eq_none (l := b) (by simp at hl; omega)] at this
        simp at this
        exact absurd this hx
  have l1 := hlen a b ha h
  have l2 := hlen b a hb fun i => (h i).symm
  apply List.ext_getElem (by omega)
  intro i h1 h2
  have := h i
  rwa [List.getD_eq_getElem?_getD, List.getD_eq_getElem?_getD, List.getElem?_eq_getElem h1, List.getElem?_eq_getElem h2] at this
theorem getD_pad (a : List UInt8) (k i : Nat) : (a ++ List.replicate k 0).getD i 0 = a.getD i 0 := by
  rw [List.getD_eq_getElem?_getD, List.getD_eq_getElem?_getD]
  by_cases h : i < a.length
  · rw [List.getElem?_append_left h]
  · rw [List.getElem?_append_right (by omega), List.getElem?_eq_none (l := a) (by omega)]
    by_cases h2 : i - a.length < k
    · rw [List.getElem?_replicate_of_lt h2]; rfl
    · rw [List.getElem?_eq_none (by simp; omega)]
theorem bitS_pad (a : List UInt8) (k c : Nat) : bitS (a ++ List.replicate k 0) c = bitS a c := by unfold bitS; rw [getD_pad]
theorem bitS_arr (a : Nat → UInt8) (c : Nat) (h : c < 256) : bitS ((List.range 32).map a) c = bitA a c := by
  unfold bitS bitA
  rw [List.getD_eq_getElem?_getD, List.getElem?_map, List.getElem?_range (show c / 8 < 32 by omega)]; rfl
theorem trim_len (l : List UInt8) : (Lib.trimRightB l 0).length ≤ l.length := by
  obtain ⟨k, hk⟩ := trim_split l
  have := congrArg List.length hk
  rw [List.length_append] at this
  omega
/-- What is written. -/
theorem write_ok (m : GMask) (h : inW m) : ∃ t, f17 m = some t ∧ t.length ≤ 32 ∧ (t = [] ∨ ∃ u x, t = u ++ [x] ∧ x ≠ 0) ∧ ∀ c, c < 256 → bitS t c = has m c := by
  obtain ⟨a, e, ha⟩ := f17_eq m h
  refine ⟨_, e, ?_, trim_last _, fun c hc => ?_⟩
  · have := trim_len ((List.range 32).map a); simpa using this
  · obtain ⟨k, hk⟩ := trim_split ((List.range 32).map a)
    rw [← bitS_pad _ k, ← hk, bitS_arr a c hc, ha c hc]
theorem trim_eq (s : List UInt8) (h : s.length ≤ 9223372036854775807) : libTrimRight s [0] = some (Lib.trimRightB s 0) := by
  unfold libTrimRight
  simp only
  rw [if_pos ⟨by decide, h⟩]
theorem rep_zero (n : Nat) : Lib.repeatL [0] n = List.replicate n 0 := by
  induction n with
  | zero => rfl
  | succ n ih => rw [Lib.repeatL, ih]; rfl
theorem back_tail (a : GMask) (s : List UInt8) (hs : s.length ≤ 9223372036854775807) : f4_j1 a s = some true := by
  unfold f4_j1
  by_cases hl : s.length ≤ 32
  · obtain ⟨m, e, hw, hb⟩ := f18_eq s hl
    obtain ⟨t, e2, ht, hlast, hbt⟩ := write_ok m hw
    rw [e]
    simp only [Option.bind_some, decide_true, Bool.not_true, cond_false, cond_true]
    rw [e2, trim_eq s hs]
    simp only [Option.bind_some]
    have : t = Lib.trimRightB s 0 := by
      refine trim_uniq _ _ hlast (trim_last s) fun i => ?_
      obtain ⟨k, hk⟩ := trim_split s
      have : (Lib.trimRightB s 0).getD i 0 = s.getD i 0 := by conv => rhs; rw [hk]
                                                              rw [getD_pad]
      rw [this]
      by_cases hi : i < 32
      · apply byte_eq
        intro k hk
        have h1 := hbt (8 * i + k) (by omega)
        rw [hb _ (by omega)] at h1
        unfold bitS at h1
        rw [show (8 * i + k) / 8 = i by omega, show (8 * i + k) % 8 = k by omega] at h1
        exact h1
      · rw [List.getD_eq_getElem?_getD, List.getD_eq_getElem?_getD, List.getElem?_eq_none (l := t) (by omega), List.getElem?_eq_none (l := s) (by omega)]
    rw [decide_eq_true this]; rfl
  · unfold f18
    rw [decide_eq_true (by omega)]
    simp only [cond_true, Option.bind_some]
    rfl
theorem maskBack (a : GMask) (s : List UInt8) (ha : inW a) (hs : s.length ≤ 9223372036854775807) : f4 a s = some true := by
  obtain ⟨t, e, ht, hlast, hbt⟩ := write_ok a ha
  obtain ⟨m1, e1, w1, b1⟩ := f18_eq t ht
  obtain ⟨wo, bo⟩ := ofS_ok (bl a 256)
  have hlen := bl_len a 256
  unfold f4
  rw [e]
  simp only [Option.bind_some]
  rw [e1, lives]
  simp only [Option.bind_some, Bool.not_true, cond_false, decide_true]
  rw [row_same m1 a w1 ha fun c hc => by rw [b1 c hc, hbt c hc]]
  simp only [Bool.and_self, Bool.not_true, cond_false]
  rw [decide_eq_false (show ¬ 32 < (t.length : Int) by omega)]
  have hsuf : libHasSuffix t [0] = some false := by
    unfold libHasSuffix
    rw [if_pos (by omega)]
    simp only [Option.some.injEq]
    unfold Lib.hasSuffix
    rcases hlast with rfl | ⟨u, x, rfl, hx⟩
    · rfl
    · apply Bool.eq_false_iff.2
      intro hh
      have := List.isSuffixOf_iff_suffix.1 hh
      obtain ⟨p, hp⟩ := this
      have := congrArg List.getLast? hp
      simp at this
      exact hx this.symm
  rw [hsuf]
  simp only [cond_false, Option.bind_some]
  rw [f13_eq a ha]
  simp only [Option.bind_some]
  rw [f12_eq _ (by omega)]
  simp only [Option.bind_some]
  rw [row_same _ a wo ha fun c hc => by
    rw [bo c hc]
    have : ((bl a 256).any fun b => decide (c = b.toNat)) = has a c := by
      cases hh : has a c with
      | true =>
        rw [List.any_eq_true]
        refine ⟨u8 (c : Int), (bl_mem a _).2 (by rw [u8n c hc]; exact hh), decide_eq_true (u8n c hc).symm⟩
      | false =>
        apply Bool.eq_false_iff.2
        intro h2
        obtain ⟨b, hb, he⟩ := List.any_eq_true.1 h2
        have he := of_decide_eq_true he
        have := (bl_mem a b).1 hb
        rw [← he, hh] at this
        cases this
    exact this]
  simp only [Bool.and_self, Bool.not_true, cond_false]
  unfold f4_j0
  have hrep : libRepeat [0] (IntKind.i64.wrap (32 - (t.length : Int))) = some (List.replicate (32 - t.length) 0) := by
    rw [i64w _ (by omega)]
    unfold libRepeat
    have e3 : (32 - (t.length : Int)).toNat = 32 - t.length := by omega
    rw [if_pos ⟨by omega, by omega, by rw [e3]; simp; omega⟩, e3, rep_zero]
  rw [hrep]
  simp only [Option.bind_some]
  have hcat : cat? t (List.replicate (32 - t.length) 0) = some (t ++ List.replicate (32 - t.length) 0) := by
    unfold cat?
    rw [if_pos (by show ((t.length + (List.replicate (32 - t.length) (0 : UInt8)).length : Nat) : Int) ≤ 9223372036854775807; rw [List.length_replicate]; omega)]
  rw [hcat]
  simp only [Option.bind_some]
  obtain ⟨m2, e2, w2, b2⟩ := f18_eq (t ++ List.replicate (32 - t.length) 0) (by simp; omega)
  rw [e2]
  simp only [Option.bind_some, decide_true, Bool.not_true, cond_false]
  rw [row_same m2 a w2 ha fun c hc => by rw [b2 c hc, bitS_pad, hbt c hc]]
  simp only [Bool.and_self, Bool.not_true, cond_false]
  exact back_tail a s hs
theorem u64_wf (n : Int) (h : (Lit.int .u64 n).wf = true) : 0 ≤ n ∧ n < 18446744073709551616 := by
  simp [Lit.wf, IntKind.min, IntKind.max, IntKind.signed, IntKind.bits] at h; omega
theorem MaskBack_walk (v0 v1 : Value) (w : World) (h0 : Arg none Go.Proofs.Tryd.prog w 25 v0) (h1 : Arg none Go.Proofs.Tryd.prog w 9 v1) : Calls Go.Proofs.Tryd.prog 4 #[v0, v1] w fun e w' => e = .returned (.bool true) ∧ Below w.heap.size w w' :=
  MaskBack_calls none (fun a s ha hs => maskBack a s (fun i hi => by
    have hw := ha i hi
    obtain ⟨h1, h2⟩ := u64_wf _ hw
    exact ⟨(a.Bits i).toNat, (Int.toNat_of_nonneg h1).symm, by omega⟩) hs.1) v0 v1 w h0 h1
end Go.Proofs.YtanhpibphkblnaaDoor.Pm
