/- Utf: what Feed tells; UtfLeft, UtfCuts, UtfBack. -/
import Derived.Test.YtakmihemhmdpkaaDoorDP2Z
import Derived.Test.YtakmihemhmdpkaaDoorBas
import Derived.Lib.LaidU8T
import Derived.MakeChecks
import Derived.LaidSub
import Derived.Test.YtakmihemhmdpkaaDoorRows
namespace Go.Proofs.YtakmihemhmdpkaaDoor.Pm.Ut
open Go.Proofs.YtakmihemhmdpkaaDoor.Args
open Go.ChangeShapes Go.WideShapes Go.ChangeAt Go.RowKit
set_option linter.unusedVariables false
set_option linter.unusedSimpArgs false
set_option maxRecDepth 100000
abbrev Str := List UInt8
theorem inR_nat (i n : Nat) (h : i < n) : inR (i : Int) n = some i := by unfold inR; rw [if_pos (by omega)]; simp
/-- How many bytes follow a first one, and the bounds of the second. -/
def need (c : UInt8) : Nat × UInt8 × UInt8 :=
  if 194 ≤ c.toNat ∧ c.toNat ≤ 223 then (1, 128, 191) else if c.toNat = 224 then (2, 160, 191) else if c.toNat = 237 then (2, 128, 159) else if 225 ≤ c.toNat ∧ c.toNat ≤ 239 then (2, 128, 191) else if c.toNat = 240 then (3, 144, 191) else if c.toNat = 244 then (3, 128, 143) else if 241 ≤ c.toNat ∧ c.toNat ≤ 243 then (3, 128, 191) else (0, 0, 0)
theorem need_ok (c : UInt8) : f70 c = some (((need c).1 : Int), (need c).2.1, (need c).2.2) := by
  unfold f70 need
  by_cases h1 : 194 ≤ c.toNat ∧ c.toNat ≤ 223
  · rw [decide_eq_true (by omega), ct, decide_eq_true (by omega), ct, if_pos h1]; rfl
  have e0 : f70_j0 c = some (((if c.toNat = 224 then (2, 160, 191) else if c.toNat = 237 then (2, 128, 159) else if 225 ≤ c.toNat ∧ c.toNat ≤ 239 then (2, 128, 191) else if c.toNat = 240 then (3, 144, 191) else if c.toNat = 244 then (3, 128, 143) else if 241 ≤ c.toNat ∧ c.toNat ≤ 243 then (3, 128, 191) else (0, 0, 0) : Nat × UInt8 × UInt8).1 : Int), (if c.toNat = 224 then (2, 160, 191) else if c.toNat = 237 then (2, 128, 159) else if 225 ≤ c.toNat ∧ c.toNat ≤ 239 then (2, 128, 191) else if c.toNat = 240 then (3, 144, 191) else if c.toNat = 244 then (3, 128, 143) else if 241 ≤ c.toNat ∧ c.toNat ≤ 243 then (3, 128, 191) else (0, 0, 0) : Nat × UInt8 × UInt8).2) := by
    unfold f70_j0
    by_cases h2 : c.toNat = 224
    · rw [decide_eq_true (by omega), ct, if_pos h2]; rfl
    rw [decide_eq_false (by omega), cf, if_neg h2]
    by_cases h3 : c.toNat = 237
    · rw [decide_eq_true (by omega), ct, if_pos h3]; rfl
    rw [decide_eq_false (by omega), cf, if_neg h3]
    by_cases h4 : 225 ≤ c.toNat ∧ c.toNat ≤ 239
    · rw [decide_eq_true (by omega), ct, decide_eq_true (by omega), ct, if_pos h4]; rfl
    rw [if_neg h4]
    have e1 : f70_j1 c = some (((if c.toNat = 240 then (3, 144, 191) else if c.toNat = 244 then (3, 128, 143) else if 241 ≤ c.toNat ∧ c.toNat ≤ 243 then (3, 128, 191) else (0, 0, 0) : Nat × UInt8 × UInt8).1 : Int), (if c.toNat = 240 then (3, 144, 191) else if c.toNat = 244 then (3, 128, 143) else if 241 ≤ c.toNat ∧ c.toNat ≤ 243 then (3, 128, 191) else (0, 0, 0) : Nat × UInt8 × UInt8).2) := by
      unfold f70_j1
      by_cases h5 : c.toNat = 240
      · rw [decide_eq_true (by omega), ct, if_pos h5]; rfl
      rw [decide_eq_false (by omega), cf, if_neg h5]
      by_cases h6 : c.toNat = 244
      · rw [decide_eq_true (by omega), ct, if_pos h6]; rfl
      rw [decide_eq_false (by omega), cf, if_neg h6]
      by_cases h7 : 241 ≤ c.toNat
      · rw [decide_eq_true (by omega), ct]
        by_cases h8 : c.toNat ≤ 243
        · rw [decide_eq_true (by omega), ct, if_pos ⟨h7, h8⟩]; rfl
        · rw [decide_eq_false (by omega), cf, if_neg (by omega)]; rfl
      · rw [decide_eq_false (by omega), cf, if_neg (by omega)]; rfl
    by_cases h5 : 225 ≤ c.toNat
    · rw [decide_eq_true (by omega), ct, decide_eq_false (by omega), cf, e1]
    · rw [decide_eq_false (by omega), cf, e1]
  rw [if_neg h1]
  by_cases h2 : 194 ≤ c.toNat
  · rw [decide_eq_true (by omega), ct, decide_eq_false (by omega), cf, e0]
  · rw [decide_eq_false (by omega), cf, e0]
/-- How many of them are there. -/
def run : Nat → UInt8 → UInt8 → Str → Nat
  | n + 1, lo, hi, b :: t => if lo.toNat ≤ b.toNat ∧ b.toNat ≤ hi.toNat then 1 + run n 128 191 t else 0
  | _, _, _, _ => 0
theorem run_le : ∀ (n : Nat) (lo hi : UInt8) (t : Str), run n lo hi t ≤ n ∧ run n lo hi t ≤ t.length
  | 0, _, _, t => by simp [run]
  | n + 1, _, _, [] => by simp [run]
  | n + 1, lo, hi, b :: t => by
    have := run_le n 128 191 t
    unfold run
    split
    · simp; omega
    · simp
theorem run_app (v : Str) : ∀ (n : Nat) (lo hi : UInt8) (t : Str), run n lo hi t = n ∨ run n lo hi t < t.length → run n lo hi (t ++ v) = run n lo hi t
  | 0, _, _, t, _ => by simp [run]
  | n + 1, lo, hi, [], h => by simp [run] at h
  | n + 1, lo, hi, b :: t, h => by
    have ih := run_app v n 128 191 t
    rw [List.cons_append]
    unfold run at h ⊢
    by_cases hb : lo.toNat ≤ b.toNat ∧ b.toNat ≤ hi.toNat
    · rw [if_pos hb] at h
      rw [if_pos hb, if_pos hb, ih (by simp at h; omega)]
    · rw [if_neg hb, if_neg hb]
def longest : Str → Nat × Bool
  | [] => (0, false)
  | c :: t => if (need c).1 = 0 then (0, false) else (1 + run (need c).1 (need c).2.1 (need c).2.2 t, decide (run (need c).1 (need c).2.1 (need c).2.2 t = (need c).1))
theorem longest_cons (c : UInt8) (t : Str) : longest (c :: t) = if (need c).1 = 0 then (0, false) else (1 + run (need c).1 (need c).2.1 (need c).2.2 t, decide (run (need c).1 (need c).2.1 (need c).2.2 t = (need c).1)) := rfl
theorem need_le (c : UInt8) : (need c).1 ≤ 3 := by
  unfold need
  repeat' split
  all_goals simp
theorem run_loop (a1 : Str) (hl : a1.length ≤ 100000000) (N : Nat) (hN : N ≤ 3) : ∀ (m : Nat) (t pre : Str) (lo hi : UInt8), a1 = pre ++ t → N + 1 = pre.length + m →
    loopO (f45_l1 a1) ((N : Int), lo, hi, (pre.length : Int)) = some ((N : Int), ((pre.length + run m lo hi t : Nat) : Int))
  | 0, t, pre, lo, hi, e, hm => loopO_done (by
      unfold f45_l1
      simp only
      rw [decide_eq_false (by omega), cf]
      simp [run])
  | m + 1, [], pre, lo, hi, e, hm => loopO_done (by
      unfold f45_l1
      simp only
      rw [decide_eq_true (by omega), ct, e, lt_end, cf]; rfl)
  | m + 1, b :: t, pre, lo, hi, e, hm => by
    have hp : pre.length < 1000000000 := by rw [e] at hl; simp at hl; omega
    have hx : idx a1 (pre.length : Int) = some b := by rw [e]; exact idx_mid pre b t
    have hlt : decide ((pre.length : Int) < (a1.length : Int)) = true := by rw [e]; exact lt_mid pre b t
    unfold run
    by_cases hb : lo.toNat ≤ b.toNat ∧ b.toNat ≤ hi.toNat
    · have ih := run_loop a1 hl N hN m t (pre ++ [b]) 128 191 (by rw [e]; simp) (by simp; omega)
      rw [if_pos hb, show pre.length + (1 + run m 128 191 t) = (pre ++ [b]).length + run m 128 191 t by simp; omega]
      refine loopO_next ?_ ih
      unfold f45_l1
      simp only
      rw [decide_eq_true (by omega), ct, hlt, ct, hx, bs, bs, decide_eq_true (by omega), ct, decide_eq_true (by omega), ct, wrap_nx pre b hp]
    · rw [if_neg hb]
      refine loopO_done ?_
      unfold f45_l1
      simp only
      rw [decide_eq_true (by omega), ct, hlt, ct, hx, bs, bs]
      by_cases h1 : lo.toNat ≤ b.toNat
      · rw [decide_eq_true (by omega), ct, decide_eq_false (by omega), cf]; rfl
      · rw [decide_eq_false (by omega), cf]; rfl
theorem longest_ok (c : UInt8) (t : Str) (hl : (c :: t).length ≤ 100000000) : f45 (c :: t) = some (((longest (c :: t)).1 : Int), (longest (c :: t)).2) := by
  unfold f45
  rw [show idx (c :: t) 0 = some c from idx_mid [] c t, bs, need_ok, bs]
  rw [longest_cons]
  by_cases h0 : (need c).1 = 0
  · rw [if_pos h0]
    simp only
    rw [decide_eq_true (by omega), ct]; rfl
  · rw [if_neg h0]
    simp only
    rw [decide_eq_false (by omega), cf]
    unfold f45_j0
    have h := run_loop (c :: t) hl (need c).1 (need_le c) (need c).1 t [c] (need c).2.1 (need c).2.2 rfl (by simp; omega)
    rw [show ((([c] : Str).length : Nat) : Int) = 1 from rfl] at h
    rw [h, bs]
    simp only
    have hr := run_le (need c).1 (need c).2.1 (need c).2.2 t
    generalize run (need c).1 (need c).2.1 (need c).2.2 t = r at *
    by_cases hw : r = (need c).1
    · rw [decide_eq_true hw, decide_eq_true (by simp; omega), ct]; rfl
    · rw [decide_eq_false hw, decide_eq_false (by simp; omega), cf]; rfl
theorem longest_le (s : Str) : (longest s).1 ≤ s.length := by
  cases s with
  | nil => simp [longest]
  | cons c t =>
    rw [longest_cons]
    have := run_le (need c).1 (need c).2.1 (need c).2.2 t
    split
    · simp
    · simp; omega
theorem longest_app (s v : Str) (h : (longest s).2 = true ∨ (longest s).1 < s.length) : longest (s ++ v) = longest s := by
  cases s with
  | nil => simp [longest] at h
  | cons c t =>
    rw [List.cons_append, longest_cons c (t ++ v), longest_cons c t]
    rw [longest_cons] at h
    by_cases h0 : (need c).1 = 0
    · rw [if_pos h0, if_pos h0]
    · rw [if_neg h0] at h
      rw [if_neg h0, if_neg h0, run_app v _ _ _ t (by
        rcases h with h | h
        · exact .inl (of_decide_eq_true h)
        · simp at h; exact .inr (by omega))]
theorem longest_part (s : Str) (h0 : s ≠ []) (h1 : (longest s).2 = false) (h2 : (longest s).1 = s.length) : s.length ≤ 3 := by
  cases s with
  | nil => simp
  | cons c t =>
    rw [longest_cons] at h1 h2
    by_cases hn : (need c).1 = 0
    · rw [if_pos hn] at h2; simp at h2
    · rw [if_neg hn] at h1 h2
      have := of_decide_eq_false h1
      have := run_le (need c).1 (need c).2.1 (need c).2.2 t
      have := need_le c
      simp only [List.length_cons] at h2 ⊢
      omega
/-- The rune of a whole encoding. -/
def decW : Str → Int
  | c :: b1 :: t => if c.toNat ≤ 223 then ((c.toNat % 32 * 64 + b1.toNat % 64 : Nat) : Int) else match t with
    | b2 :: t2 => if c.toNat ≤ 239 then ((c.toNat % 16 * 4096 + b1.toNat % 64 * 64 + b2.toNat % 64 : Nat) : Int) else match t2 with
      | b3 :: _ => ((c.toNat % 8 * 262144 + b1.toNat % 64 * 4096 + b2.toNat % 64 * 64 + b3.toNat % 64 : Nat) : Int)
      | [] => 0
    | [] => 0
  | _ => 0
/-- A whole one has two, three or four bytes. -/
theorem whole_cases (s : Str) (h : (longest s).2 = true) :
    (∃ c b1 t, s = c :: b1 :: t ∧ (longest s).1 = 2 ∧ 194 ≤ c.toNat ∧ c.toNat ≤ 223 ∧ 128 ≤ b1.toNat ∧ b1.toNat ≤ 191) ∨
    (∃ c b1 b2 t, s = c :: b1 :: b2 :: t ∧ (longest s).1 = 3 ∧ 224 ≤ c.toNat ∧ c.toNat ≤ 239 ∧ 128 ≤ b1.toNat ∧ b1.toNat ≤ 191 ∧ (c.toNat = 224 → 160 ≤ b1.toNat) ∧ (c.toNat = 237 → b1.toNat ≤ 159) ∧ 128 ≤ b2.toNat ∧ b2.toNat ≤ 191) ∨
    (∃ c b1 b2 b3 t, s = c :: b1 :: b2 :: b3 :: t ∧ (longest s).1 = 4 ∧ 240 ≤ c.toNat ∧ c.toNat ≤ 244 ∧ 128 ≤ b1.toNat ∧ b1.toNat ≤ 191 ∧ (c.toNat = 240 → 144 ≤ b1.toNat) ∧ (c.toNat = 244 → b1.toNat ≤ 143) ∧ 128 ≤ b2.toNat ∧ b2.toNat ≤ 191 ∧ 128 ≤ b3.toNat ∧ b3.toNat ≤ 191) := by
  cases s with
  | nil => simp [longest] at h
  | cons c t =>
    have key : ∀ (n : Nat) (lo hi : UInt8), need c = (n, lo, hi) → n ≠ 0 → run n lo hi t = n ∧ (longest (c :: t)).1 = 1 + n := by
      intro n lo hi e hn
      rw [longest_cons] at h ⊢
      rw [e] at h ⊢
      simp only at h ⊢
      rw [if_neg hn] at h ⊢
      have := of_decide_eq_true h
      exact ⟨this, by rw [this]⟩
    have one : ∀ (n : Nat) (lo hi : UInt8) (t : Str), run (n + 1) lo hi t = n + 1 → ∃ b u, t = b :: u ∧ lo.toNat ≤ b.toNat ∧ b.toNat ≤ hi.toNat ∧ run n 128 191 u = n := by
      intro n lo hi t ht
      cases t with
      | nil => simp [run] at ht
      | cons b u =>
        unfold run at ht
        by_cases hb : lo.toNat ≤ b.toNat ∧ b.toNat ≤ hi.toNat
        · rw [if_pos hb] at ht; exact ⟨b, u, rfl, hb.1, hb.2, by omega⟩
        · rw [if_neg hb] at ht; omega
    have k191 : (191 : UInt8).toNat = 191 := rfl
    have k128 : (128 : UInt8).toNat = 128 := rfl
    have k160 : (160 : UInt8).toNat = 160 := rfl
    have k159 : (159 : UInt8).toNat = 159 := rfl
    have k144 : (144 : UInt8).toNat = 144 := rfl
    have k143 : (143 : UInt8).toNat = 143 := rfl
    have e3 : ∀ lo hi, need c = (2, lo, hi) → ∃ b1 b2 u, t = b1 :: b2 :: u ∧ (longest (c :: t)).1 = 3 ∧ lo.toNat ≤ b1.toNat ∧ b1.toNat ≤ hi.toNat ∧ 128 ≤ b2.toNat ∧ b2.toNat ≤ 191 := by
      intro lo hi e
      obtain ⟨q1, q2⟩ := key 2 lo hi e (by omega)
      obtain ⟨b, u, rfl, g1, g2, g3⟩ := one 1 lo hi t q1
      obtain ⟨b2, u2, rfl, g4, g5, _⟩ := one 0 128 191 u g3
      exact ⟨b, b2, u2, rfl, q2, g1, g2, g4, g5⟩
    have e4 : ∀ lo hi, need c = (3, lo, hi) → ∃ b1 b2 b3 u, t = b1 :: b2 :: b3 :: u ∧ (longest (c :: t)).1 = 4 ∧ lo.toNat ≤ b1.toNat ∧ b1.toNat ≤ hi.toNat ∧ 128 ≤ b2.toNat ∧ b2.toNat ≤ 191 ∧ 128 ≤ b3.toNat ∧ b3.toNat ≤ 191 := by
      intro lo hi e
      obtain ⟨q1, q2⟩ := key 3 lo hi e (by omega)
      obtain ⟨b, u, rfl, g1, g2, g3⟩ := one 2 lo hi t q1
      obtain ⟨b2, u2, rfl, g4, g5, g6⟩ := one 1 128 191 u g3
      obtain ⟨b3, u3, rfl, g7, g8, _⟩ := one 0 128 191 u2 g6
      exact ⟨b, b2, b3, u3, rfl, q2, g1, g2, g4, g5, g7, g8⟩
    by_cases h1 : 194 ≤ c.toNat ∧ c.toNat ≤ 223
    · obtain ⟨q1, q2⟩ := key 1 128 191 (by unfold need; rw [if_pos h1]) (by omega)
      obtain ⟨b, u, rfl, g1, g2, _⟩ := one 0 128 191 t q1
      exact .inl ⟨c, b, u, rfl, q2, h1.1, h1.2, g1, g2⟩
    by_cases h2 : c.toNat = 224
    · obtain ⟨b1, b2, u, rfl, q, g⟩ := e3 160 191 (by unfold need; rw [if_neg h1, if_pos h2])
      exact .inr (.inl ⟨c, b1, b2, u, rfl, q, by omega, by omega, by omega, by omega, by omega, by omega, by omega, by omega⟩)
    by_cases h3 : c.toNat = 237
    · obtain ⟨b1, b2, u, rfl, q, g⟩ := e3 128 159 (by unfold need; rw [if_neg h1, if_neg h2, if_pos h3])
      exact .inr (.inl ⟨c, b1, b2, u, rfl, q, by omega, by omega, by omega, by omega, by omega, by omega, by omega, by omega⟩)
    by_cases h4 : 225 ≤ c.toNat ∧ c.toNat ≤ 239
    · obtain ⟨b1, b2, u, rfl, q, g⟩ := e3 128 191 (by unfold need; rw [if_neg h1, if_neg h2, if_neg h3, if_pos h4])
      exact .inr (.inl ⟨c, b1, b2, u, rfl, q, by omega, by omega, by omega, by omega, by omega, by omega, by omega, by omega⟩)
    by_cases h5 : c.toNat = 240
    · obtain ⟨b1, b2, b3, u, rfl, q, g⟩ := e4 144 191 (by unfold need; rw [if_neg h1, if_neg h2, if_neg h3, if_neg h4, if_pos h5])
      exact .inr (.inr ⟨c, b1, b2, b3, u, rfl, q, by omega, by omega, by omega, by omega, by omega, by omega, by omega, by omega, by omega, by omega⟩)
    by_cases h6 : c.toNat = 244
    · obtain ⟨b1, b2, b3, u, rfl, q, g⟩ := e4 128 143 (by unfold need; rw [if_neg h1, if_neg h2, if_neg h3, if_neg h4, if_neg h5, if_pos h6])
      exact .inr (.inr ⟨c, b1, b2, b3, u, rfl, q, by omega, by omega, by omega, by omega, by omega, by omega, by omega, by omega, by omega, by omega⟩)
    by_cases h7 : 241 ≤ c.toNat ∧ c.toNat ≤ 243
    · obtain ⟨b1, b2, b3, u, rfl, q, g⟩ := e4 128 191 (by unfold need; rw [if_neg h1, if_neg h2, if_neg h3, if_neg h4, if_neg h5, if_neg h6, if_pos h7])
      exact .inr (.inr ⟨c, b1, b2, b3, u, rfl, q, by omega, by omega, by omega, by omega, by omega, by omega, by omega, by omega, by omega, by omega⟩)
    have : need c = (0, 0, 0) := by unfold need; rw [if_neg h1, if_neg h2, if_neg h3, if_neg h4, if_neg h5, if_neg h6, if_neg h7]
    rw [longest_cons] at h
    rw [this] at h
    simp at h
theorem dec_app (s v : Str) (h : (longest s).2 = true) : decW (s ++ v) = decW s := by
  rcases whole_cases s h with ⟨c, b1, t, rfl, _, h1, h2, _⟩ | ⟨c, b1, b2, t, rfl, _, h1, h2, _⟩ | ⟨c, b1, b2, b3, t, rfl, _, h1, h2, _⟩
  · simp only [List.cons_append, decW]
    rw [if_pos h2, if_pos h2]
  · simp only [List.cons_append, decW]
    rw [if_neg (by omega), if_pos h2, if_neg (by omega), if_pos h2]
  · simp only [List.cons_append, decW]
abbrev isRune (c : Int) : Prop := (0 ≤ c ∧ c ≤ 55295) ∨ (57344 ≤ c ∧ c ≤ 1114111)
theorem dec_rune (s : Str) (h : (longest s).2 = true) : isRune (decW s) := by
  unfold isRune
  rcases whole_cases s h with ⟨c, b1, t, rfl, _, h1, h2, _⟩ | ⟨c, b1, b2, t, rfl, _, h1, h2, _⟩ | ⟨c, b1, b2, b3, t, rfl, _, h1, h2, _⟩
  · simp only [decW]
    rw [if_pos h2]
    omega
  · simp only [decW]
    rw [if_neg (by omega), if_pos h2]
    omega
  · simp only [decW]
    rw [if_neg (by omega), if_neg (by omega)]
    omega
theorem dec_ok (s : Str) (h : (longest s).2 = true) : ∃ k, libDecodeRune s = some (decW s, k) := by
  unfold libDecodeRune
  rw [Lib.decode_at]
  rcases whole_cases s h with ⟨c, b1, t, rfl, _, h1, h2, h3, h4⟩ | ⟨c, b1, b2, t, rfl, _, h1, h2, h3, h4, h5, h6, h7, h8⟩ | ⟨c, b1, b2, b3, t, rfl, _, h1, h2, h3, h4, h5, h6, h7, h8, h9, h10⟩
  · refine ⟨2, ?_⟩
    rw [if_neg (by simp)]
    have g0 : (⟨(c :: b1 :: t).toArray⟩ : ByteArray).get! 0 = c := rfl
    have g1 : (⟨(c :: b1 :: t).toArray⟩ : ByteArray).get! (0 + 1) = b1 := rfl
    have gs : (⟨(c :: b1 :: t).toArray⟩ : ByteArray).size = t.length + 2 := by show (c :: b1 :: t).toArray.size = _; simp
    rw [g0, g1, gs]
    generalize ((⟨(c :: b1 :: t).toArray⟩ : ByteArray).get! (0 + 2)).toNat = x2
    generalize ((⟨(c :: b1 :: t).toArray⟩ : ByteArray).get! (0 + 3)).toNat = x3
    unfold Lib.decodeN
    rw [if_neg (by omega), if_pos ⟨by omega, by omega, by omega⟩, if_pos (by omega)]
    simp only [decW]
    rw [if_pos h2]; rfl
  · refine ⟨3, ?_⟩
    rw [if_neg (by simp)]
    have g0 : (⟨(c :: b1 :: b2 :: t).toArray⟩ : ByteArray).get! 0 = c := rfl
    have g1 : (⟨(c :: b1 :: b2 :: t).toArray⟩ : ByteArray).get! (0 + 1) = b1 := rfl
    have g2 : (⟨(c :: b1 :: b2 :: t).toArray⟩ : ByteArray).get! (0 + 2) = b2 := rfl
    have gs : (⟨(c :: b1 :: b2 :: t).toArray⟩ : ByteArray).size = t.length + 3 := by show (c :: b1 :: b2 :: t).toArray.size = _; simp
    rw [g0, g1, g2, gs]
    generalize ((⟨(c :: b1 :: b2 :: t).toArray⟩ : ByteArray).get! (0 + 3)).toNat = x3
    unfold Lib.decodeN
    rw [if_neg (by omega), if_neg (by omega), if_pos ⟨by omega, ⟨by omega, by omega⟩, by omega, by omega⟩, if_pos (by omega)]
    simp only [decW]
    rw [if_neg (by omega), if_pos h2]; rfl
  · refine ⟨4, ?_⟩
    rw [if_neg (by simp)]
    have g0 : (⟨(c :: b1 :: b2 :: b3 :: t).toArray⟩ : ByteArray).get! 0 = c := rfl
    have g1 : (⟨(c :: b1 :: b2 :: b3 :: t).toArray⟩ : ByteArray).get! (0 + 1) = b1 := rfl
    have g2 : (⟨(c :: b1 :: b2 :: b3 :: t).toArray⟩ : ByteArray).get! (0 + 2) = b2 := rfl
    have g3 : (⟨(c :: b1 :: b2 :: b3 :: t).toArray⟩ : ByteArray).get! (0 + 3) = b3 := rfl
    have gs : (⟨(c :: b1 :: b2 :: b3 :: t).toArray⟩ : ByteArray).size = t.length + 4 := by show (c :: b1 :: b2 :: b3 :: t).toArray.size = _; simp
    rw [g0, g1, g2, g3, gs]
    unfold Lib.decodeN
    rw [if_neg (by omega), if_neg (by omega), if_neg (by omega), if_pos ⟨by omega, ⟨by omega, by omega⟩, ⟨by omega, by omega⟩, by omega, by omega⟩, if_pos (by omega)]
    simp only [decW]
    rw [if_neg (by omega), if_neg (by omega)]; rfl
/-- Feed. -/
def feedF : Nat → Str → List Int × Str
  | n + 1, c :: t => if c.toNat < 128 then ((c.toNat : Int) :: (feedF n t).1, (feedF n t).2)
    else if (longest (c :: t)).2 = true then (decW (c :: t) :: (feedF n ((c :: t).drop (longest (c :: t)).1)).1, (feedF n ((c :: t).drop (longest (c :: t)).1)).2)
    else if 0 < (longest (c :: t)).1 ∧ (longest (c :: t)).1 = (c :: t).length then ([], c :: t)
    else (65533 :: (feedF n ((c :: t).drop (max (longest (c :: t)).1 1))).1, (feedF n ((c :: t).drop (max (longest (c :: t)).1 1))).2)
  | _, s => ([], s)
theorem whole_two (s : Str) (h : (longest s).2 = true) : 2 ≤ (longest s).1 := by
  rcases whole_cases s h with ⟨c, b1, t, _, e, _⟩ | ⟨c, b1, b2, t, _, e, _⟩ | ⟨c, b1, b2, b3, t, _, e, _⟩ <;> omega
theorem feed_fuel : ∀ (n m : Nat) (s : Str), s.length ≤ n → s.length ≤ m → feedF n s = feedF m s
  | n, m, [], hn, hm => by cases n <;> cases m <;> rfl
  | 0, m, c :: t, hn, hm => by simp at hn
  | n, 0, c :: t, hn, hm => by simp at hm
  | n + 1, m + 1, c :: t, hn, hm => by
    simp only [List.length_cons] at hn hm
    have h1 := feed_fuel n m t (by omega) (by omega)
    have hd : ∀ k, 1 ≤ k → feedF n ((c :: t).drop k) = feedF m ((c :: t).drop k) := fun k hk => feed_fuel n m _ (by simp; omega) (by simp; omega)
    unfold feedF
    rw [h1, hd (max (longest (c :: t)).1 1) (by omega)]
    by_cases hw : (longest (c :: t)).2 = true
    · rw [hd (longest (c :: t)).1 (by have := whole_two _ hw; omega)]
    · rw [if_neg hw, if_neg hw]
def feedU (s : Str) : List Int × Str := feedF s.length s
theorem feedU_nil : feedU [] = ([], []) := rfl
theorem feedU_low (c : UInt8) (t : Str) (h : c.toNat < 128) : feedU (c :: t) = ((c.toNat : Int) :: (feedU t).1, (feedU t).2) := by
  unfold feedU
  rw [List.length_cons]
  conv => lhs; unfold feedF
  rw [if_pos h]
theorem feedU_whole (c : UInt8) (t : Str) (h : ¬ c.toNat < 128) (hw : (longest (c :: t)).2 = true) : feedU (c :: t) = (decW (c :: t) :: (feedU ((c :: t).drop (longest (c :: t)).1)).1, (feedU ((c :: t).drop (longest (c :: t)).1)).2) := by
  have h2 := whole_two _ hw
  unfold feedU
  rw [List.length_cons]
  conv => lhs; unfold feedF
  rw [if_neg h, if_pos hw, feed_fuel t.length ((c :: t).drop (longest (c :: t)).1).length _ (by simp; omega) (Nat.le_refl _)]
theorem feedU_stop (c : UInt8) (t : Str) (h : ¬ c.toNat < 128) (hw : (longest (c :: t)).2 = false) (hs : 0 < (longest (c :: t)).1 ∧ (longest (c :: t)).1 = (c :: t).length) : feedU (c :: t) = ([], c :: t) := by
  unfold feedU
  rw [List.length_cons]
  unfold feedF
  rw [if_neg h, if_neg (by rw [hw]; simp), if_pos hs]
theorem feedU_bad (c : UInt8) (t : Str) (h : ¬ c.toNat < 128) (hw : (longest (c :: t)).2 = false) (hs : ¬ (0 < (longest (c :: t)).1 ∧ (longest (c :: t)).1 = (c :: t).length)) : feedU (c :: t) = (65533 :: (feedU ((c :: t).drop (max (longest (c :: t)).1 1))).1, (feedU ((c :: t).drop (max (longest (c :: t)).1 1))).2) := by
  unfold feedU
  rw [List.length_cons]
  conv => lhs; unfold feedF
  rw [if_neg h, if_neg (by rw [hw]; simp), if_neg hs, feed_fuel t.length ((c :: t).drop (max (longest (c :: t)).1 1)).length _ (by simp; omega) (Nat.le_refl _)]
/-- Induction along Feed. -/
theorem feed_ind {P : Str → Prop} (h0 : P []) (hlow : ∀ c t, c.toNat < 128 → P t → P (c :: t))
    (hw : ∀ c t, ¬ c.toNat < 128 → (longest (c :: t)).2 = true → P ((c :: t).drop (longest (c :: t)).1) → P (c :: t))
    (hs : ∀ c t, ¬ c.toNat < 128 → (longest (c :: t)).2 = false → (0 < (longest (c :: t)).1 ∧ (longest (c :: t)).1 = (c :: t).length) → P (c :: t))
    (hb : ∀ c t, ¬ c.toNat < 128 → (longest (c :: t)).2 = false → ¬ (0 < (longest (c :: t)).1 ∧ (longest (c :: t)).1 = (c :: t).length) → P ((c :: t).drop (max (longest (c :: t)).1 1)) → P (c :: t)) : ∀ (n : Nat) (s : Str), s.length ≤ n → P s
  | _, [], _ => h0
  | 0, c :: t, hn => by simp at hn
  | n + 1, c :: t, hn => by
    simp only [List.length_cons] at hn
    by_cases h : c.toNat < 128
    · exact hlow c t h (feed_ind h0 hlow hw hs hb n t (by omega))
    by_cases hwh : (longest (c :: t)).2 = true
    · have := whole_two _ hwh
      exact hw c t h hwh (feed_ind h0 hlow hw hs hb n _ (by simp; omega))
    rw [Bool.not_eq_true] at hwh
    by_cases hst : 0 < (longest (c :: t)).1 ∧ (longest (c :: t)).1 = (c :: t).length
    · exact hs c t h hwh hst
    · exact hb c t h hwh hst (feed_ind h0 hlow hw hs hb n _ (by simp; omega))
theorem feed_cut (v : Str) (s : Str) : feedU (s ++ v) = ((feedU s).1 ++ (feedU ((feedU s).2 ++ v)).1, (feedU ((feedU s).2 ++ v)).2) := by
  refine feed_ind (P := fun s => feedU (s ++ v) = ((feedU s).1 ++ (feedU ((feedU s).2 ++ v)).1, (feedU ((feedU s).2 ++ v)).2)) ?_ ?_ ?_ ?_ ?_ s.length s (Nat.le_refl _)
  · rw [feedU_nil]; rfl
  · intro c t h ih
    rw [List.cons_append, feedU_low c _ h, feedU_low c t h, ih]; rfl
  · intro c t h hw ih
    have ea := longest_app (c :: t) v (.inl hw)
    have ed := dec_app (c :: t) v hw
    have hl := longest_le (c :: t)
    rw [List.cons_append] at ea ed
    rw [List.cons_append, feedU_whole c (t ++ v) h (by rw [ea]; exact hw), feedU_whole c t h hw, ea, ed]
    have edr : (c :: (t ++ v)).drop (longest (c :: t)).1 = (c :: t).drop (longest (c :: t)).1 ++ v := by
      rw [← List.cons_append, List.drop_append_of_le_length hl]
    rw [edr, ih]; rfl
  · intro c t h hw hs
    rw [feedU_stop c t h hw hs]; rfl
  · intro c t h hw hs ih
    have hl := longest_le (c :: t)
    have ea : longest (c :: (t ++ v)) = longest (c :: t) := by
      by_cases hlt : (longest (c :: t)).1 < (c :: t).length
      · have := longest_app (c :: t) v (.inr hlt)
        rwa [List.cons_append] at this
      · exfalso
        exact hs ⟨by simp only [List.length_cons] at hlt hl; omega, by omega⟩
    have hs2 : ¬ (0 < (longest (c :: (t ++ v))).1 ∧ (longest (c :: (t ++ v))).1 = (c :: (t ++ v)).length) := by
      rw [ea]
      intro ⟨g1, g2⟩
      simp only [List.length_cons, List.length_append] at g2 hl
      exact hs ⟨g1, by simp only [List.length_cons]; omega⟩
    rw [List.cons_append, feedU_bad c (t ++ v) h (by rw [ea]; exact hw) hs2, feedU_bad c t h hw hs, ea]
    have edr : (c :: (t ++ v)).drop (max (longest (c :: t)).1 1) = (c :: t).drop (max (longest (c :: t)).1 1) ++ v := by
      rw [← List.cons_append, List.drop_append_of_le_length (by simp only [List.length_cons] at hl ⊢; omega)]
    rw [edr, ih]; rfl
/-- What is left is a beginning; runes are runes; no more than bytes. -/
theorem feed_left (s : Str) : ((feedU s).2 = [] ∨ ((longest (feedU s).2).2 = false ∧ (longest (feedU s).2).1 = (feedU s).2.length)) ∧ (∀ c ∈ (feedU s).1, isRune c) ∧ (feedU s).1.length + (feedU s).2.length ≤ s.length := by
  refine feed_ind (P := fun s => ((feedU s).2 = [] ∨ ((longest (feedU s).2).2 = false ∧ (longest (feedU s).2).1 = (feedU s).2.length)) ∧ (∀ c ∈ (feedU s).1, isRune c) ∧ (feedU s).1.length + (feedU s).2.length ≤ s.length) ?_ ?_ ?_ ?_ ?_ s.length s (Nat.le_refl _)
  · exact ⟨.inl rfl, fun c hc => by rw [feedU_nil] at hc; simp at hc, by simp [feedU_nil]⟩
  · intro c t h ⟨h1, h2, h3⟩
    rw [feedU_low c t h]
    refine ⟨h1, fun x hx => ?_, by simp only [List.length_cons]; omega⟩
    rcases List.mem_cons.1 hx with rfl | hx
    · unfold isRune; omega
    · exact h2 x hx
  · intro c t h hw ⟨h1, h2, h3⟩
    have hl := longest_le (c :: t)
    have h2' := whole_two _ hw
    rw [feedU_whole c t h hw]
    refine ⟨h1, fun x hx => ?_, by simp only [List.length_drop] at h3; simp only [List.length_cons] at h3 hl ⊢; omega⟩
    rcases List.mem_cons.1 hx with rfl | hx
    · exact dec_rune _ hw
    · exact h2 x hx
  · intro c t h hw hs
    rw [feedU_stop c t h hw hs]
    exact ⟨.inr ⟨hw, hs.2⟩, by simp, by simp⟩
  · intro c t h hw hs ⟨h1, h2, h3⟩
    have hl := longest_le (c :: t)
    rw [feedU_bad c t h hw hs]
    refine ⟨h1, fun x hx => ?_, by simp only [List.length_drop] at h3; simp only [List.length_cons] at h3 hl ⊢; omega⟩
    rcases List.mem_cons.1 hx with rfl | hx
    · unfold isRune; omega
    · exact h2 x hx
theorem sub_drop (s : Str) (k : Nat) (h : k ≤ s.length) : sub? s (k : Int) (s.length : Int) = some (s.drop k) := by
  unfold sub?
  rw [if_pos (by omega)]
  simp
theorem sub_take (s : Str) (k : Nat) (h : k ≤ s.length) : sub? s 0 (k : Int) = some (s.take k) := by
  unfold sub?
  rw [if_pos (by omega)]
  simp
theorem feed_loop (a1 a2 : Str) : ∀ (n : Nat) (s : Str), s.length ≤ n → s.length ≤ 10000000 → ∀ out : List Int, out.length + s.length ≤ 10000000 →
    loopO (f21_l1 a1 a2) (s, out) = some (if (feedU s).2 = [] then .inl (out ++ (feedU s).1) else .inr ((feedU s).2, out ++ (feedU s).1, 0)) := by
  intro n s hn
  refine feed_ind (P := fun s => s.length ≤ 10000000 → ∀ out : List Int, out.length + s.length ≤ 10000000 → loopO (f21_l1 a1 a2) (s, out) = some (if (feedU s).2 = [] then .inl (out ++ (feedU s).1) else .inr ((feedU s).2, out ++ (feedU s).1, 0))) ?_ ?_ ?_ ?_ ?_ n s hn
  · intro _ out ho
    refine loopO_done ?_
    unfold f21_l1
    simp only [decide_true, Bool.not_true, cond_false]
    rw [feedU_nil, if_pos rfl, List.append_nil]
  · intro c t h ih hl out ho
    simp only [List.length_cons] at hl ho
    have ih := ih (by omega) (out ++ [(c.toNat : Int)]) (by simp; omega)
    rw [feedU_low c t h]
    rw [show out ++ [(c.toNat : Int)] ++ (feedU t).1 = out ++ ((c.toNat : Int) :: (feedU t).1) by simp] at ih
    refine loopO_next ?_ ih
    unfold f21_l1 f21_l1_j2
    simp only
    have hd := sub_drop (c :: t) 1 (by simp)
    rw [decide_eq_false (by simp), Bool.not_false, ct, show idx (c :: t) 0 = some c from idx_mid [] c t, bs, decide_eq_true (by omega), ct, bs, app_ok 8 _ _ (by simp; omega), bs, show (1 : Int) = ((1 : Nat) : Int) from rfl, hd, bs]; rfl
  · intro c t h hw ih hl out ho
    have hle := longest_le (c :: t)
    have h2 := whole_two _ hw
    obtain ⟨k, hk⟩ := dec_ok (c :: t) hw
    have hr := dec_rune _ hw
    have ih := ih (by simp only [List.length_drop]; omega) (out ++ [decW (c :: t)]) (by simp only [List.length_drop, List.length_append, List.length_cons, List.length_nil] at ho hl ⊢; omega)
    rw [feedU_whole c t h hw]
    rw [show out ++ [decW (c :: t)] ++ (feedU ((c :: t).drop (longest (c :: t)).1)).1 = out ++ (decW (c :: t) :: (feedU ((c :: t).drop (longest (c :: t)).1)).1) by simp] at ih
    refine loopO_next ?_ ih
    unfold f21_l1 f21_l1_j2 f21_l1_j3
    simp only
    have hd := sub_drop (c :: t) (longest (c :: t)).1 hle
    unfold isRune at hr
    rw [decide_eq_false (by simp), Bool.not_false, ct, show idx (c :: t) 0 = some c from idx_mid [] c t, bs, decide_eq_false (by omega), cf, longest_ok c t (by omega), bs]
    simp only
    rw [hw, ct, hk, bs]
    simp only
    rw [i64w _ (by omega), app_ok 8 _ _ (by simp; omega), bs, if_neg (by omega), hd, bs]
  · intro c t h hw hs hl out ho
    rw [feedU_stop c t h hw hs, if_neg (by simp)]
    refine loopO_done ?_
    unfold f21_l1 f21_l1_j2 f21_l1_j3
    simp only
    rw [decide_eq_false (by simp), Bool.not_false, ct, show idx (c :: t) 0 = some c from idx_mid [] c t, bs, decide_eq_false (by omega), cf, longest_ok c t (by omega), bs]
    simp only
    rw [hw, cf, decide_eq_true (by omega), ct, decide_eq_true (by rw [hs.2]), ct, List.append_nil]
  · intro c t h hw hs ih hl out ho
    have hle := longest_le (c :: t)
    have ih := ih (by simp only [List.length_drop]; omega) (out ++ [65533]) (by simp only [List.length_drop, List.length_append, List.length_cons, List.length_nil] at ho hl ⊢; omega)
    rw [feedU_bad c t h hw hs]
    rw [show out ++ [65533] ++ (feedU ((c :: t).drop (max (longest (c :: t)).1 1))).1 = out ++ (65533 :: (feedU ((c :: t).drop (max (longest (c :: t)).1 1))).1) by simp] at ih
    refine loopO_next ?_ ih
    have hd := sub_drop (c :: t) (max (longest (c :: t)).1 1) (by simp only [List.length_cons] at hle ⊢; omega)
    have hmx : (if 1 > ((longest (c :: t)).1 : Int) then (1 : Int) else ((longest (c :: t)).1 : Int)) = ((max (longest (c :: t)).1 1 : Nat) : Int) := by
      by_cases h1 : 1 > ((longest (c :: t)).1 : Int)
      · rw [if_pos h1]; omega
      · rw [if_neg h1]; omega
    have hap : app? 8 out [65533] = some (out ++ [65533]) := app_ok 8 _ _ (by simp; omega)
    unfold f21_l1 f21_l1_j2 f21_l1_j3
    simp only
    rw [decide_eq_false (by simp), Bool.not_false, ct, show idx (c :: t) 0 = some c from idx_mid [] c t, bs, decide_eq_false (by omega), cf, longest_ok c t (by omega), bs]
    simp only
    rw [hw, cf]
    unfold f21_l1_j4 f21_l1_j5
    rw [hap, bs, hmx, hd, bs]
    by_cases h0 : 0 < (longest (c :: t)).1
    · rw [decide_eq_true (by omega), ct, decide_eq_false (fun hh => hs ⟨h0, by omega⟩), cf]
    · rw [decide_eq_false (by omega), cf]
/-- Check. -/
def okU (s : Str) : Prop := s = [] ∨ ((longest s).2 = false ∧ (longest s).1 = s.length)
theorem check_ok (s : Str) (hl : s.length ≤ 10000000) (h : okU s) : f44 s = some 0 := by
  unfold f44
  rcases h with rfl | ⟨h1, h2⟩
  · rw [decide_eq_true rfl, ct]
  · cases s with
    | nil => rw [decide_eq_true rfl, ct]
    | cons c t =>
      rw [decide_eq_false (by simp), cf]
      unfold f44_j0
      rw [longest_ok c t (by omega), bs, h1, cf]
      simp only
      rw [decide_eq_true (by rw [h2]), Bool.not_true, cf]
theorem check_bad (s : Str) (hl : s.length ≤ 10000000) (h : ¬ okU s) : f44 s = some 4 := by
  unfold f44
  cases s with
  | nil => exact absurd (.inl rfl) h
  | cons c t =>
    rw [decide_eq_false (by simp), cf]
    unfold f44_j0
    rw [longest_ok c t (by omega), bs]
    simp only
    cases hw : (longest (c :: t)).2 with
    | true => rw [ct]
    | false =>
      rw [cf, decide_eq_false (fun hh => h (.inr ⟨hw, by omega⟩)), Bool.not_false, ct]
theorem feed_ok (p s : Str) (hl : p.length + s.length ≤ 10000000) (h : okU p) : f21 p s = some ((feedU (p ++ s)).2, (feedU (p ++ s)).1, 0) := by
  unfold f21
  rw [check_ok p (by omega) h, bs, decide_eq_true rfl, Bool.not_true, cf]
  unfold f21_j0
  rw [cat_ok p s (by omega), bs, feed_loop p s (p ++ s).length (p ++ s) (Nat.le_refl _) (by simp; omega) [] (by simp; omega), bs]
  by_cases h0 : (feedU (p ++ s)).2 = []
  · rw [if_pos h0, Sum.elim_inl, h0]; rfl
  · rw [if_neg h0, Sum.elim_inr]; rfl
theorem feed_no (p s : Str) (hl : p.length ≤ 10000000) (h : ¬ okU p) : f21 p s = some ([], [], 4) := by
  unfold f21
  rw [check_bad p hl h, bs, decide_eq_false (by decide), Bool.not_false, ct]
/-- Encode. -/
def encR (r : Int) : Str :=
  bif decide (IntKind.u32.wrap r ≤ 127) then [u8 r] else
  bif decide (IntKind.u32.wrap r ≤ 2047) then [(192 : UInt8) ||| u8 (Int.fdiv r (2 ^ 6)), (128 : UInt8) ||| (u8 r &&& (63 : UInt8))] else
  bif (bif decide (IntKind.u32.wrap r < 55296) then true else (decide (57343 < IntKind.u32.wrap r) && decide (IntKind.u32.wrap r ≤ 65535))) then [(224 : UInt8) ||| u8 (Int.fdiv r (2 ^ 12)), (128 : UInt8) ||| (u8 (Int.fdiv r (2 ^ 6)) &&& (63 : UInt8)), (128 : UInt8) ||| (u8 r &&& (63 : UInt8))] else
  bif (decide (65535 < IntKind.u32.wrap r) && decide (IntKind.u32.wrap r ≤ 1114111)) then [(240 : UInt8) ||| u8 (Int.fdiv r (2 ^ 18)), (128 : UInt8) ||| (u8 (Int.fdiv r (2 ^ 12)) &&& (63 : UInt8)), (128 : UInt8) ||| (u8 (Int.fdiv r (2 ^ 6)) &&& (63 : UInt8)), (128 : UInt8) ||| (u8 r &&& (63 : UInt8))] else [239, 191, 189]
theorem encR_len (r : Int) : (encR r).length ≤ 4 := by
  unfold encR
  generalize decide (IntKind.u32.wrap r ≤ 127) = b1
  generalize decide (IntKind.u32.wrap r ≤ 2047) = b2
  generalize (bif decide (IntKind.u32.wrap r < 55296) then true else (decide (57343 < IntKind.u32.wrap r) && decide (IntKind.u32.wrap r ≤ 65535))) = b3
  generalize (decide (65535 < IntKind.u32.wrap r) && decide (IntKind.u32.wrap r ≤ 1114111)) = b4
  cases b1 <;> cases b2 <;> cases b3 <;> cases b4 <;> simp
theorem encR_ok (r : Int) (o : Str) (h : o.length ≤ 100000000) : f72 r o = some (o ++ encR r) := by
  have ap1 : ∀ a : UInt8, app? 1 o [a] = some (o ++ [a]) := fun a => app_ok 1 _ _ (by simp; omega)
  have ap2 : ∀ a b : UInt8, app? 1 o [a, b] = some (o ++ [a, b]) := fun a b => app_ok 1 _ _ (by simp; omega)
  have ap3 : ∀ a b c : UInt8, app? 1 o [a, b, c] = some (o ++ [a, b, c]) := fun a b c => app_ok 1 _ _ (by simp; omega)
  have ap4 : ∀ a b c d : UInt8, app? 1 o [a, b, c, d] = some (o ++ [a, b, c, d]) := fun a b c d => app_ok 1 _ _ (by simp; omega)
  unfold f72 encR f95 f95_j0
  simp only [ap1, ap2, ap3, ap4, bs]
  generalize decide (IntKind.u32.wrap r ≤ 127) = b1
  generalize decide (IntKind.u32.wrap r ≤ 2047) = b2
  generalize decide (IntKind.u32.wrap r < 55296) = b3
  generalize decide (57343 < IntKind.u32.wrap r) = b4
  generalize decide (IntKind.u32.wrap r ≤ 65535) = b5
  generalize decide (65535 < IntKind.u32.wrap r) = b6
  generalize decide (IntKind.u32.wrap r ≤ 1114111) = b7
  cases b1 <;> cases b2 <;> cases b3 <;> cases b4 <;> cases b5 <;> cases b6 <;> cases b7 <;> rfl
def fixR (c : Int) : Int := if c < 0 ∨ 1114111 < c ∨ (55296 ≤ c ∧ c ≤ 57343) then 65533 else c
theorem fix_rune (c : Int) : isRune (fixR c) := by
  unfold isRune fixR
  split <;> omega
theorem enc_loop (a1 : List Int) (hl : a1.length ≤ 2000000) : ∀ (suf pre : List Int) (o : Str), a1 = pre ++ suf → o.length ≤ 4 * pre.length →
    loopO (f48_l0 a1) (o, (pre.length : Int)) = some (o ++ suf.flatMap fun c => encR (fixR c))
  | [], pre, o, e, ho => loopO_done (by
      subst e
      unfold f48_l0 f48_l0_j1
      simp only [lt_end, cond_false]
      simp)
  | c :: t, pre, o, e, ho => by
    have hp : pre.length < 1000000000 := by rw [e] at hl; simp at hl; omega
    have hp2 : pre.length ≤ 2000000 := by rw [e] at hl; simp at hl; omega
    have hx : idx a1 (pre.length : Int) = some c := by rw [e]; exact idx_mid pre c t
    have hlt : decide ((pre.length : Int) < (a1.length : Int)) = true := by rw [e]; exact lt_mid pre c t
    have hel := encR_len (fixR c)
    have ih := enc_loop a1 hl t (pre ++ [c]) (o ++ encR (fixR c)) (by rw [e]; simp) (by simp; omega)
    rw [List.flatMap_cons, ← List.append_assoc]
    refine loopO_next ?_ ih
    have hw := wrap_nx pre c hp
    have h32 : ∀ x : Int, 0 ≤ x ∧ x ≤ 1114111 → IntKind.i32.wrap x = x := fun x hx => IntWalk.i32_in x (by omega)
    unfold f48_l0 f48_l0_j1 f48_l0_j2
    simp only [hlt, cond_true]
    rw [hx, bs]
    unfold fixR
    by_cases a : c < 0
    · rw [decide_eq_true a, ct, if_pos (.inl a), encR_ok _ _ (by omega), bs, hw]
    · rw [decide_eq_false a, cf]
      by_cases b : 1114111 < c
      · rw [decide_eq_true b, ct, if_pos (.inr (.inl b)), encR_ok _ _ (by omega), bs, hw]
      · rw [decide_eq_false b, cf]
        by_cases d : 55296 ≤ c
        · rw [decide_eq_true d, ct]
          by_cases f : c ≤ 57343
          · rw [decide_eq_true f, ct, if_pos (.inr (.inr ⟨d, f⟩)), encR_ok _ _ (by omega), bs, hw]
          · rw [decide_eq_false f, cf, if_neg (by omega), h32 c (by omega), encR_ok _ _ (by omega), bs, hw]
        · rw [decide_eq_false d, cf, if_neg (by omega), h32 c (by omega), encR_ok _ _ (by omega), bs, hw]
theorem enc_ok (l : List Int) (hl : l.length ≤ 2000000) : f48 l = some (l.flatMap fun c => encR (fixR c)) := by
  unfold f48
  have := enc_loop l hl l [] [] rfl (by simp)
  rw [show ((([] : List Int).length : Nat) : Int) = 0 from rfl] at this
  rw [this, bs]; rfl
theorem b192 : ∀ x : UInt8, x.toNat < 32 → ((192 : UInt8) ||| x).toNat = 192 + x.toNat := by
  have h : ∀ n : Fin 32, ((192 : UInt8) ||| UInt8.ofNat n.val).toNat = 192 + n.val := by decide
  intro x hx
  have := h ⟨x.toNat, hx⟩
  rwa [show UInt8.ofNat x.toNat = x by simp] at this
theorem b224 : ∀ x : UInt8, x.toNat < 16 → ((224 : UInt8) ||| x).toNat = 224 + x.toNat := by
  have h : ∀ n : Fin 16, ((224 : UInt8) ||| UInt8.ofNat n.val).toNat = 224 + n.val := by decide
  intro x hx
  have := h ⟨x.toNat, hx⟩
  rwa [show UInt8.ofNat x.toNat = x by simp] at this
theorem b240 : ∀ x : UInt8, x.toNat < 8 → ((240 : UInt8) ||| x).toNat = 240 + x.toNat := by
  have h : ∀ n : Fin 8, ((240 : UInt8) ||| UInt8.ofNat n.val).toNat = 240 + n.val := by decide
  intro x hx
  have := h ⟨x.toNat, hx⟩
  rwa [show UInt8.ofNat x.toNat = x by simp] at this
theorem b128 : ∀ x : UInt8, ((128 : UInt8) ||| (x &&& 63)).toNat = 128 + x.toNat % 64 := by
  have h : ∀ n : Fin 256, ((128 : UInt8) ||| (UInt8.ofNat n.val &&& 63)).toNat = 128 + n.val % 64 := by decide
  intro x
  have := h ⟨x.toNat, x.toNat_lt⟩
  rwa [show UInt8.ofNat x.toNat = x by simp] at this
theorem u8_nat (r : Nat) : (u8 (r : Int)).toNat = r % 256 := by
  unfold u8
  have : ((r : Int) % 256).toNat = r % 256 := by omega
  rw [this]; simp
theorem fd (r k : Nat) : Int.fdiv (r : Int) (2 ^ k) = ((r / 2 ^ k : Nat) : Int) := by
  rw [Int.fdiv_eq_ediv_of_nonneg _ (by have := Int.pow_pos (n := 2) (m := k) (by omega); omega)]
  norm_cast
theorem feed_enc (r : Nat) (h : isRune (r : Int)) (t : Str) : feedU (encR (r : Int) ++ t) = ((r : Int) :: (feedU t).1, (feedU t).2) := by
  unfold isRune at h
  have hw : IntKind.u32.wrap (r : Int) = (r : Int) := IntWalk.u32_in _ (by omega)
  unfold encR
  rw [hw, fd, fd, fd]
  have k0 := u8_nat r
  have k6 := u8_nat (r / 2 ^ 6)
  have k12 := u8_nat (r / 2 ^ 12)
  have k18 := u8_nat (r / 2 ^ 18)
  simp only [Nat.reducePow] at k6 k12 k18 ⊢
  by_cases h1 : r ≤ 127
  · rw [decide_eq_true (by omega), ct, List.cons_append, List.nil_append, feedU_low _ _ (by rw [k0]; omega), k0]
    rw [show r % 256 = r by omega]
  rw [decide_eq_false (by omega), cf]
  by_cases h2 : r ≤ 2047
  · rw [decide_eq_true (by omega), ct]
    have c0 := b192 (u8 ((r / 64 : Nat) : Int)) (by rw [k6]; omega)
    have c1 := b128 (u8 (r : Int))
    rw [k6] at c0
    rw [k0] at c1
    generalize (192 : UInt8) ||| u8 ((r / 64 : Nat) : Int) = x0 at *
    generalize (128 : UInt8) ||| (u8 (r : Int) &&& (63 : UInt8)) = x1 at *
    have hn : need x0 = (1, 128, 191) := by unfold need; rw [if_pos (by omega)]
    have k191 : (191 : UInt8).toNat = 191 := rfl
    have k128 : (128 : UInt8).toNat = 128 := rfl
    have hl : longest (x0 :: x1 :: t) = (2, true) := by
      rw [longest_cons]
      rw [hn]
      simp only
      rw [if_neg (by omega)]
      unfold run
      rw [if_pos (by omega)]
      simp [run]
    rw [List.cons_append, List.cons_append, List.nil_append, feedU_whole _ _ (by omega) (by rw [hl]), hl]
    simp only [decW, List.drop_succ_cons, List.drop_zero]
    rw [if_pos (by omega), show x0.toNat % 32 * 64 + x1.toNat % 64 = r by omega]
  rw [decide_eq_false (by omega), cf]
  by_cases h3 : r ≤ 65535
  · have hb : (bif decide ((r : Int) < 55296) then true else (decide (57343 < (r : Int)) && decide ((r : Int) ≤ 65535))) = true := by
      by_cases g : r < 55296
      · rw [decide_eq_true (by omega), ct]
      · rw [decide_eq_false (by omega), cf, decide_eq_true (by omega), decide_eq_true (by omega)]; rfl
    rw [hb, ct]
    have c0 := b224 (u8 ((r / 4096 : Nat) : Int)) (by rw [k12]; omega)
    have c1 := b128 (u8 ((r / 64 : Nat) : Int))
    have c2 := b128 (u8 (r : Int))
    rw [k12] at c0
    rw [k6] at c1
    rw [k0] at c2
    generalize (224 : UInt8) ||| u8 ((r / 4096 : Nat) : Int) = x0 at *
    generalize (128 : UInt8) ||| (u8 ((r / 64 : Nat) : Int) &&& (63 : UInt8)) = x1 at *
    generalize (128 : UInt8) ||| (u8 (r : Int) &&& (63 : UInt8)) = x2 at *
    have k191 : (191 : UInt8).toNat = 191 := rfl
    have k128 : (128 : UInt8).toNat = 128 := rfl
    have k160 : (160 : UInt8).toNat = 160 := rfl
    have k159 : (159 : UInt8).toNat = 159 := rfl
    have hl : longest (x0 :: x1 :: x2 :: t) = (3, true) := by
      have hr : ∃ lo hi, need x0 = (2, lo, hi) ∧ lo.toNat ≤ x1.toNat ∧ x1.toNat ≤ hi.toNat := by
        unfold need
        rw [if_neg (by omega)]
        by_cases g1 : x0.toNat = 224
        · rw [if_pos g1]; exact ⟨_, _, rfl, by omega, by omega⟩
        rw [if_neg g1]
        by_cases g2 : x0.toNat = 237
        · rw [if_pos g2]; exact ⟨_, _, rfl, by omega, by omega⟩
        rw [if_neg g2, if_pos (by omega)]; exact ⟨_, _, rfl, by omega, by omega⟩
      obtain ⟨lo, hi, hn, g1, g2⟩ := hr
      rw [longest_cons]
      rw [hn]
      simp only
      rw [if_neg (by omega)]
      unfold run
      rw [if_pos ⟨g1, g2⟩]
      unfold run
      rw [if_pos (by omega)]
      simp [run]
    rw [List.cons_append, List.cons_append, List.cons_append, List.nil_append, feedU_whole _ _ (by omega) (by rw [hl]), hl]
    simp only [decW, List.drop_succ_cons, List.drop_zero]
    rw [if_neg (by omega), if_pos (by omega), show x0.toNat % 16 * 4096 + x1.toNat % 64 * 64 + x2.toNat % 64 = r by omega]
  · have hb : (bif decide ((r : Int) < 55296) then true else (decide (57343 < (r : Int)) && decide ((r : Int) ≤ 65535))) = false := by
      rw [decide_eq_false (by omega), cf, decide_eq_true (by omega), decide_eq_false (by omega)]; rfl
    rw [hb, cf, decide_eq_true (by omega), decide_eq_true (by omega), Bool.and_self, ct]
    have c0 := b240 (u8 ((r / 262144 : Nat) : Int)) (by rw [k18]; omega)
    have c1 := b128 (u8 ((r / 4096 : Nat) : Int))
    have c2 := b128 (u8 ((r / 64 : Nat) : Int))
    have c3 := b128 (u8 (r : Int))
    rw [k18] at c0
    rw [k12] at c1
    rw [k6] at c2
    rw [k0] at c3
    generalize (240 : UInt8) ||| u8 ((r / 262144 : Nat) : Int) = x0 at *
    generalize (128 : UInt8) ||| (u8 ((r / 4096 : Nat) : Int) &&& (63 : UInt8)) = x1 at *
    generalize (128 : UInt8) ||| (u8 ((r / 64 : Nat) : Int) &&& (63 : UInt8)) = x2 at *
    generalize (128 : UInt8) ||| (u8 (r : Int) &&& (63 : UInt8)) = x3 at *
    have k191 : (191 : UInt8).toNat = 191 := rfl
    have k128 : (128 : UInt8).toNat = 128 := rfl
    have k144 : (144 : UInt8).toNat = 144 := rfl
    have k143 : (143 : UInt8).toNat = 143 := rfl
    have hl : longest (x0 :: x1 :: x2 :: x3 :: t) = (4, true) := by
      have hr : ∃ lo hi, need x0 = (3, lo, hi) ∧ lo.toNat ≤ x1.toNat ∧ x1.toNat ≤ hi.toNat := by
        unfold need
        rw [if_neg (by omega), if_neg (by omega), if_neg (by omega), if_neg (by omega)]
        by_cases g1 : x0.toNat = 240
        · rw [if_pos g1]; exact ⟨_, _, rfl, by omega, by omega⟩
        rw [if_neg g1]
        by_cases g2 : x0.toNat = 244
        · rw [if_pos g2]; exact ⟨_, _, rfl, by omega, by omega⟩
        rw [if_neg g2, if_pos (by omega)]; exact ⟨_, _, rfl, by omega, by omega⟩
      obtain ⟨lo, hi, hn, g1, g2⟩ := hr
      rw [longest_cons]
      rw [hn]
      simp only
      rw [if_neg (by omega)]
      unfold run
      rw [if_pos ⟨g1, g2⟩]
      unfold run
      rw [if_pos (by omega)]
      unfold run
      rw [if_pos (by omega)]
      simp [run]
    rw [List.cons_append, List.cons_append, List.cons_append, List.cons_append, List.nil_append, feedU_whole _ _ (by omega) (by rw [hl]), hl]
    simp only [decW, List.drop_succ_cons, List.drop_zero]
    rw [if_neg (by omega), if_neg (by omega), show x0.toNat % 8 * 262144 + x1.toNat % 64 * 4096 + x2.toNat % 64 * 64 + x3.toNat % 64 = r by omega]
theorem feed_all : ∀ l : List Int, feedU (l.flatMap fun c => encR (fixR c)) = (l.map fixR, [])
  | [] => rfl
  | c :: t => by
    have ih := feed_all t
    have hr := fix_rune c
    rw [List.flatMap_cons]
    obtain ⟨n, hn⟩ := Int.eq_ofNat_of_zero_le (show 0 ≤ fixR c by unfold isRune at hr; omega)
    rw [hn] at hr ⊢
    rw [feed_enc n hr, ih, List.map_cons, hn]
end Go.Proofs.YtakmihemhmdpkaaDoor.Pm.Ut
