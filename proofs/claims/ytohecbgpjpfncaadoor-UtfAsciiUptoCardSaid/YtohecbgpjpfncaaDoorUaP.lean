/- Utf: what Feed tells; UtfAscii. -/
import Derived.Test.YtohecbgpjpfncaaDoorDUaZ
import Derived.Test.YtohecbgpjpfncaaDoorBas
import Derived.Lib.LaidU8T
import Derived.MakeChecks
import Derived.LaidSub
import Derived.Test.YtohecbgpjpfncaaDoorRows
namespace Go.Proofs.YtohecbgpjpfncaaDoor.Pm
open Go.Proofs.YtohecbgpjpfncaaDoor.Args
open Go.ChangeShapes Go.WideShapes Go.ChangeAt Go.RowKit
set_option linter.unusedVariables false
set_option linter.unusedSimpArgs false
set_option maxRecDepth 100000
abbrev Str := List UInt8
theorem inR_nat (i n : Nat) (h : i < n) : inR (i : Int) n = some i := by unfold inR; rw [if_pos (by omega)]; simp
/-- How many bytes follow a first one, and the bounds of the second. -/
def need (c : UInt8) : Nat × UInt8 × UInt8 :=
  if 194 ≤ c.toNat ∧ c.toNat ≤ 223 then (1, 128, 191) else if c.toNat = 224 then (2, 160, 191) else if c.toNat = 237 then (2, 128, 159) else if 225 ≤ c.toNat ∧ c.toNat ≤ 239 then (2, 128, 191) else if c.toNat = 240 then (3, 144, 191) else if c.toNat = 244 then (3, 128, 143) else if 241 ≤ c.toNat ∧ c.toNat ≤ 243 then (3, 128, 191) else (0, 0, 0)
theorem need_ok (c : UInt8) : f22 c = some (((need c).1 : Int), (need c).2.1, (need c).2.2) := by
  unfold f22 need
  by_cases h1 : 194 ≤ c.toNat ∧ c.toNat ≤ 223
  · rw [decide_eq_true (by omega), ct, decide_eq_true (by omega), ct, if_pos h1]; rfl
  have e0 : f22_j0 c = some (((if c.toNat = 224 then (2, 160, 191) else if c.toNat = 237 then (2, 128, 159) else if 225 ≤ c.toNat ∧ c.toNat ≤ 239 then (2, 128, 191) else if c.toNat = 240 then (3, 144, 191) else if c.toNat = 244 then (3, 128, 143) else if 241 ≤ c.toNat ∧ c.toNat ≤ 243 then (3, 128, 191) else (0, 0, 0) : Nat × UInt8 × UInt8).1 : Int), (if c.toNat = 224 then (2, 160, 191) else if c.toNat = 237 then (2, 128, 159) else if 225 ≤ c.toNat ∧ c.toNat ≤ 239 then (2, 128, 191) else if c.toNat = 240 then (3, 144, 191) else if c.toNat = 244 then (3, 128, 143) else if 241 ≤ c.toNat ∧ c.toNat ≤ 243 then (3, 128, 191) else (0, 0, 0) : Nat × UInt8 × UInt8).2) := by
    unfold f22_j0
    by_cases h2 : c.toNat = 224
    · rw [decide_eq_true (by omega), ct, if_pos h2]; rfl
    rw [decide_eq_false (by omega), cf, if_neg h2]
    by_cases h3 : c.toNat = 237
    · rw [decide_eq_true (by omega), ct, if_pos h3]; rfl
    rw [decide_eq_false (by omega), cf, if_neg h3]
    by_cases h4 : 225 ≤ c.toNat ∧ c.toNat ≤ 239
    · rw [decide_eq_true (by omega), ct, decide_eq_true (by omega), ct, if_pos h4]; rfl
    rw [if_neg h4]
    have e1 : f22_j1 c = some (((if c.toNat = 240 then (3, 144, 191) else if c.toNat = 244 then (3, 128, 143) else if 241 ≤ c.toNat ∧ c.toNat ≤ 243 then (3, 128, 191) else (0, 0, 0) : Nat × UInt8 × UInt8).1 : Int), (if c.toNat = 240 then (3, 144, 191) else if c.toNat = 244 then (3, 128, 143) else if 241 ≤ c.toNat ∧ c.toNat ≤ 243 then (3, 128, 191) else (0, 0, 0) : Nat × UInt8 × UInt8).2) := by
      unfold f22_j1
      by_cases h5 : c.toNat = 240
      · rw [decide_eq_true (by omega), ct, if_pos h5]; rfl
      rw [decide_eq_false (by omega), cf, if_neg h5]
      by_cases h6 : c.toNat = 244
      · rw [decide_eq_true (by omega), ct, if_pos h6]; rfl
      rw [decide_eq_false (by omega), cf, if_neg h6]
      by_cases h7 : 241 ≤ c.toNat
      · rw [decide_eq_true (by omega), ct]
        by_cases h8 : c.toNat ≤ 243
        · rw [decide_eq_true (by omega), ct, if_pos ⟨h7, h8⟩]; rfl
        · rw [decide_eq_false (by omega), cf, if_neg (by omega)]; rfl
      · rw [decide_eq_false (by omega), cf, if_neg (by omega)]; rfl
    by_cases h5 : 225 ≤ c.toNat
    · rw [decide_eq_true (by omega), ct, decide_eq_false (by omega), cf, e1]
    · rw [decide_eq_false (by omega), cf, e1]
  rw [if_neg h1]
  by_cases h2 : 194 ≤ c.toNat
  · rw [decide_eq_true (by omega), ct, decide_eq_false (by omega), cf, e0]
  · rw [decide_eq_false (by omega), cf, e0]
/-- How many of them are there. -/
def run : Nat → UInt8 → UInt8 → Str → Nat
  | n + 1, lo, hi, b :: t => if lo.toNat ≤ b.toNat ∧ b.toNat ≤ hi.toNat then 1 + run n 128 191 t else 0
  | _, _, _, _ => 0
theorem run_le : ∀ (n : Nat) (lo hi : UInt8) (t : Str), run n lo hi t ≤ n ∧ run n lo hi t ≤ t.length
  | 0, _, _, t => by simp [run]
  | n + 1, _, _, [] => by simp [run]
  | n + 1, lo, hi, b :: t => by
    have := run_le n 128 191 t
    unfold run
    split
    · simp; omega
    · simp
theorem run_app (v : Str) : ∀ (n : Nat) (lo hi : UInt8) (t : Str), run n lo hi t = n ∨ run n lo hi t < t.length → run n lo hi (t ++ v) = run n lo hi t
  | 0, _, _, t, _ => by simp [run]
  | n + 1, lo, hi, [], h => by simp [run] at h
  | n + 1, lo, hi, b :: t, h => by
    have ih := run_app v n 128 191 t
    rw [List.cons_append]
    unfold run at h ⊢
    by_cases hb : lo.toNat ≤ b.toNat ∧ b.toNat ≤ hi.toNat
    · rw [if_pos hb] at h
      rw [if_pos hb, if_pos hb, ih (by simp at h; omega)]
    · rw [if_neg hb, if_neg hb]
def longest : Str → Nat × Bool
  | [] => (0, false)
  | c :: t => if (need c).1 = 0 then (0, false) else (1 + run (need c).1 (need c).2.1 (need c).2.2 t, decide (run (need c).1 (need c).2.1 (need c).2.2 t = (need c).1))
theorem longest_cons (c : UInt8) (t : Str) : longest (c :: t) = if (need c).1 = 0 then (0, false) else (1 + run (need c).1 (need c).2.1 (need c).2.2 t, decide (run (need c).1 (need c).2.1 (need c).2.2 t = (need c).1)) := rfl
theorem need_le (c : UInt8) : (need c).1 ≤ 3 := by
  unfold need
  repeat' split
  all_goals simp
theorem run_loop (a1 : Str) (hl : a1.length ≤ 100000000) (N : Nat) (hN : N ≤ 3) : ∀ (m : Nat) (t pre : Str) (lo hi : UInt8), a1 = pre ++ t → N + 1 = pre.length + m →
    loopO (f17_l1 a1) ((N : Int), lo, hi, (pre.length : Int)) = some ((N : Int), ((pre.length + run m lo hi t : Nat) : Int))
  | 0, t, pre, lo, hi, e, hm => loopO_done (by
      unfold f17_l1
      simp only
      rw [decide_eq_false (by omega), cf]
      simp [run])
  | m + 1, [], pre, lo, hi, e, hm => loopO_done (by
      unfold f17_l1
      simp only
      rw [decide_eq_true (by omega), ct, e, lt_end, cf]; rfl)
  | m + 1, b :: t, pre, lo, hi, e, hm => by
    have hp : pre.length < 1000000000 := by rw [e] at hl; simp at hl; omega
    have hx : idx a1 (pre.length : Int) = some b := by rw [e]; exact idx_mid pre b t
    have hlt : decide ((pre.length : Int) < (a1.length : Int)) = true := by rw [e]; exact lt_mid pre b t
    unfold run
    by_cases hb : lo.toNat ≤ b.toNat ∧ b.toNat ≤ hi.toNat
    · have ih := run_loop a1 hl N hN m t (pre ++ [b]) 128 191 (by rw [e]; simp) (by simp; omega)
      rw [if_pos hb, show pre.length + (1 + run m 128 191 t) = (pre ++ [b]).length + run m 128 191 t by simp; omega]
      refine loopO_next ?_ ih
      unfold f17_l1
      simp only
      rw [decide_eq_true (by omega), ct, hlt, ct, hx, bs, bs, decide_eq_true (by omega), ct, decide_eq_true (by omega), ct, wrap_nx pre b hp]
    · rw [if_neg hb]
      refine loopO_done ?_
      unfold f17_l1
      simp only
      rw [decide_eq_true (by omega), ct, hlt, ct, hx, bs, bs]
      by_cases h1 : lo.toNat ≤ b.toNat
      · rw [decide_eq_true (by omega), ct, decide_eq_false (by omega), cf]; rfl
      · rw [decide_eq_false (by omega), cf]; rfl
theorem longest_ok (c : UInt8) (t : Str) (hl : (c :: t).length ≤ 100000000) : f17 (c :: t) = some (((longest (c :: t)).1 : Int), (longest (c :: t)).2) := by
  unfold f17
  rw [show idx (c :: t) 0 = some c from idx_mid [] c t, bs, need_ok, bs]
  rw [longest_cons]
  by_cases h0 : (need c).1 = 0
  · rw [if_pos h0]
    simp only
    rw [decide_eq_true (by omega), ct]; rfl
  · rw [if_neg h0]
    simp only
    rw [decide_eq_false (by omega), cf]
    unfold f17_j0
    have h := run_loop (c :: t) hl (need c).1 (need_le c) (need c).1 t [c] (need c).2.1 (need c).2.2 rfl (by simp; omega)
    rw [show ((([c] : Str).length : Nat) : Int) = 1 from rfl] at h
    rw [h, bs]
    simp only
    have hr := run_le (need c).1 (need c).2.1 (need c).2.2 t
    generalize run (need c).1 (need c).2.1 (need c).2.2 t = r at *
    by_cases hw : r = (need c).1
    · rw [decide_eq_true hw, decide_eq_true (by simp; omega), ct]; rfl
    · rw [decide_eq_false hw, decide_eq_false (by simp; omega), cf]; rfl
theorem longest_le (s : Str) : (longest s).1 ≤ s.length := by
  cases s with
  | nil => simp [longest]
  | cons c t =>
    rw [longest_cons]
    have := run_le (need c).1 (need c).2.1 (need c).2.2 t
    split
    · simp
    · simp; omega
theorem longest_app (s v : Str) (h : (longest s).2 = true ∨ (longest s).1 < s.length) : longest (s ++ v) = longest s := by
  cases s with
  | nil => simp [longest] at h
  | cons c t =>
    rw [List.cons_append, longest_cons c (t ++ v), longest_cons c t]
    rw [longest_cons] at h
    by_cases h0 : (need c).1 = 0
    · rw [if_pos h0, if_pos h0]
    · rw [if_neg h0] at h
      rw [if_neg h0, if_neg h0, run_app v _ _ _ t (by
        rcases h with h | h
        · exact .inl (of_decide_eq_true h)
        · simp at h; exact .inr (by omega))]
theorem longest_part (s : Str) (h0 : s ≠ []) (h1 : (longest s).2 = false) (h2 : (longest s).1 = s.length) : s.length ≤ 3 := by
  cases s with
  | nil => simp
  | cons c t =>
    rw [longest_cons] at h1 h2
    by_cases hn : (need c).1 = 0
    · rw [if_pos hn] at h2; simp at h2
    · rw [if_neg hn] at h1 h2
      have := of_decide_eq_false h1
      have := run_le (need c).1 (need c).2.1 (need c).2.2 t
      have := need_le c
      simp only [List.length_cons] at h2 ⊢
      omega
/-- The rune of a whole encoding. -/
def decW : Str → Int
  | c :: b1 :: t => if c.toNat ≤ 223 then ((c.toNat % 32 * 64 + b1.toNat % 64 : Nat) : Int) else match t with
    | b2 :: t2 => if c.toNat ≤ 239 then ((c.toNat % 16 * 4096 + b1.toNat % 64 * 64 + b2.toNat % 64 : Nat) : Int) else match t2 with
      | b3 :: _ => ((c.toNat % 8 * 262144 + b1.toNat % 64 * 4096 + b2.toNat % 64 * 64 + b3.toNat % 64 : Nat) : Int)
      | [] => 0
    | [] => 0
  | _ => 0
/-- A whole one has two, three or four bytes. -/
theorem whole_cases (s : Str) (h : (longest s).2 = true) :
    (∃ c b1 t, s = c :: b1 :: t ∧ (longest s).1 = 2 ∧ 194 ≤ c.toNat ∧ c.toNat ≤ 223 ∧ 128 ≤ b1.toNat ∧ b1.toNat ≤ 191) ∨
    (∃ c b1 b2 t, s = c :: b1 :: b2 :: t ∧ (longest s).1 = 3 ∧ 224 ≤ c.toNat ∧ c.toNat ≤ 239 ∧ 128 ≤ b1.toNat ∧ b1.toNat ≤ 191 ∧ (c.toNat = 224 → 160 ≤ b1.toNat) ∧ (c.toNat = 237 → b1.toNat ≤ 159) ∧ 128 ≤ b2.toNat ∧ b2.toNat ≤ 191) ∨
    (∃ c b1 b2 b3 t, s = c :: b1 :: b2 :: b3 :: t ∧ (longest s).1 = 4 ∧ 240 ≤ c.toNat ∧ c.toNat ≤ 244 ∧ 128 ≤ b1.toNat ∧ b1.toNat ≤ 191 ∧ (c.toNat = 240 → 144 ≤ b1.toNat) ∧ (c.toNat = 244 → b1.toNat ≤ 143) ∧ 128 ≤ b2.toNat ∧ b2.toNat ≤ 191 ∧ 128 ≤ b3.toNat ∧ b3.toNat ≤ 191) := by
  cases s with
  | nil => simp [longest] at h
  | cons c t =>
    have key : ∀ (n : Nat) (lo hi : UInt8), need c = (n, lo, hi) → n ≠ 0 → run n lo hi t = n ∧ (longest (c :: t)).1 = 1 + n := by
      intro n lo hi e hn
      rw [longest_cons] at h ⊢
      rw [e] at h ⊢
      simp only at h ⊢
      rw [if_neg hn] at h ⊢
      have := of_decide_eq_true h
      exact ⟨this, by rw [this]⟩
    have one : ∀ (n : Nat) (lo hi : UInt8) (t : Str), run (n + 1) lo hi t = n + 1 → ∃ b u, t = b :: u ∧ lo.toNat ≤ b.toNat ∧ b.toNat ≤ hi.toNat ∧ run n 128 191 u = n := by
      intro n lo hi t ht
      cases t with
      | nil => simp [run] at ht
      | cons b u =>
        unfold run at ht
        by_cases hb : lo.toNat ≤ b.toNat ∧ b.toNat ≤ hi.toNat
        · rw [if_pos hb] at ht; exact ⟨b, u, rfl, hb.1, hb.2, by omega⟩
        · rw [if_neg hb] at ht; omega
    have k191 : (191 : UInt8).toNat = 191 := rfl
    have k128 : (128 : UInt8).toNat = 128 := rfl
    have k160 : (160 : UInt8).toNat = 160 := rfl
    have k159 : (159 : UInt8).toNat = 159 := rfl
    have k144 : (144 : UInt8).toNat = 144 := rfl
    have k143 : (143 : UInt8).toNat = 143 := rfl
    have e3 : ∀ lo hi, need c = (2, lo, hi) → ∃ b1 b2 u, t = b1 :: b2 :: u ∧ (longest (c :: t)).1 = 3 ∧ lo.toNat ≤ b1.toNat ∧ b1.toNat ≤ hi.toNat ∧ 128 ≤ b2.toNat ∧ b2.toNat ≤ 191 := by
      intro lo hi e
      obtain ⟨q1, q2⟩ := key 2 lo hi e (by omega)
      obtain ⟨b, u, rfl, g1, g2, g3⟩ := one 1 lo hi t q1
      obtain ⟨b2, u2, rfl, g4, g5, _⟩ := one 0 128 191 u g3
      exact ⟨b, b2, u2, rfl, q2, g1, g2, g4, g5⟩
    have e4 : ∀ lo hi, need c = (3, lo, hi) → ∃ b1 b2 b3 u, t = b1 :: b2 :: b3 :: u ∧ (longest (c :: t)).1 = 4 ∧ lo.toNat ≤ b1.toNat ∧ b1.toNat ≤ hi.toNat ∧ 128 ≤ b2.toNat ∧ b2.toNat ≤ 191 ∧ 128 ≤ b3.toNat ∧ b3.toNat ≤ 191 := by
      intro lo hi e
      obtain ⟨q1, q2⟩ := key 3 lo hi e (by omega)
      obtain ⟨b, u, rfl, g1, g2, g3⟩ := one 2 lo hi t q1
      obtain ⟨b2, u2, rfl, g4, g5, g6⟩ := one 1 128 191 u g3
      obtain ⟨b3, u3, rfl, g7, g8, _⟩ := one 0 128 191 u2 g6
      exact ⟨b, b2, b3, u3, rfl, q2, g1, g2, g4, g5, g7, g8⟩
    by_cases h1 : 194 ≤ c.toNat ∧ c.toNat ≤ 223
    · obtain ⟨q1, q2⟩ := key 1 128 191 (by unfold need; rw [if_pos h1]) (by omega)
      obtain ⟨b, u, rfl, g1, g2, _⟩ := one 0 128 191 t q1
      exact .inl ⟨c, b, u, rfl, q2, h1.1, h1.2, g1, g2⟩
    by_cases h2 : c.toNat = 224
    · obtain ⟨b1, b2, u, rfl, q, g⟩ := e3 160 191 (by unfold need; rw [if_neg h1, if_pos h2])
      exact .inr (.inl ⟨c, b1, b2, u, rfl, q, by omega, by omega, by omega, by omega, by omega, by omega, by omega, by omega⟩)
    by_cases h3 : c.toNat = 237
    · obtain ⟨b1, b2, u, rfl, q, g⟩ := e3 128 159 (by unfold need; rw [if_neg h1, if_neg h2, if_pos h3])
      exact .inr (.inl ⟨c, b1, b2, u, rfl, q, by omega, by omega, by omega, by omega, by omega, by omega, by omega, by omega⟩)
    by_cases h4 : 225 ≤ c.toNat ∧ c.toNat ≤ 239
    · obtain ⟨b1, b2, u, rfl, q, g⟩ := e3 128 191 (by unfold need; rw [if_neg h1, if_neg h2, if_neg h3, if_pos h4])
      exact .inr (.inl ⟨c, b1, b2, u, rfl, q, by omega, by omega, by omega, by omega, by omega, by omega, by omega, by omega⟩)
    by_cases h5 : c.toNat = 240
    · obtain ⟨b1, b2, b3, u, rfl, q, g⟩ := e4 144 191 (by unfold need; rw [if_neg h1, if_neg h2, if_neg h3, if_neg h4, if_pos h5])
      exact .inr (.inr ⟨c, b1, b2, b3, u, rfl, q, by omega, by omega, by omega, by omega, by omega, by omega, by omega, by omega, by omega, by omega⟩)
    by_cases h6 : c.toNat = 244
    · obtain ⟨b1, b2, b3, u, rfl, q, g⟩ := e4 128 143 (by unfold need; rw [if_neg h1, if_neg h2, if_neg h3, if_neg h4, if_neg h5, if_pos h6])
      exact .inr (.inr ⟨c, b1, b2, b3, u, rfl, q, by omega, by omega, by omega, by omega, by omega, by omega, by omega, by omega, by omega, by omega⟩)
    by_cases h7 : 241 ≤ c.toNat ∧ c.toNat ≤ 243
    · obtain ⟨b1, b2, b3, u, rfl, q, g⟩ := e4 128 191 (by unfold need; rw [if_neg h1, if_neg h2, if_neg h3, if_neg h4, if_neg h5, if_neg h6, if_pos h7])
      exact .inr (.inr ⟨c, b1, b2, b3, u, rfl, q, by omega, by omega, by omega, by omega, by omega, by omega, by omega, by omega, by omega, by omega⟩)
    have : need c = (0, 0, 0) := by unfold need; rw [if_neg h1, if_neg h2, if_neg h3, if_neg h4, if_neg h5, if_neg h6, if_neg h7]
    rw [longest_cons] at h
    rw [this] at h
    simp at h
theorem dec_app (s v : Str) (h : (longest s).2 = true) : decW (s ++ v) = decW s := by
  rcases whole_cases s h with ⟨c, b1, t, rfl, _, h1, h2, _⟩ | ⟨c, b1, b2, t, rfl, _, h1, h2, _⟩ | ⟨c, b1, b2, b3, t, rfl, _, h1, h2, _⟩
  · simp only [List.cons_append, decW]
    rw [if_pos h2, if_pos h2]
  · simp only [List.cons_append, decW]
    rw [if_neg (by omega), if_pos h2, if_neg (by omega), if_pos h2]
  · simp only [List.cons_append, decW]
abbrev isRune (c : Int) : Prop := (0 ≤ c ∧ c ≤ 55295) ∨ (57344 ≤ c ∧ c ≤ 1114111)
theorem dec_rune (s : Str) (h : (longest s).2 = true) : isRune (decW s) := by
  unfold isRune
  rcases whole_cases s h with ⟨c, b1, t, rfl, _, h1, h2, _⟩ | ⟨c, b1, b2, t, rfl, _, h1, h2, _⟩ | ⟨c, b1, b2, b3, t, rfl, _, h1, h2, _⟩
  · simp only [decW]
    rw [if_pos h2]
    omega
  · simp only [decW]
    rw [if_neg (by omega), if_pos h2]
    omega
  · simp only [decW]
    rw [if_neg (by omega), if_neg (by omega)]
    omega
theorem dec_ok (s : Str) (h : (longest s).2 = true) : ∃ k, libDecodeRune s = some (decW s, k) := by
  unfold libDecodeRune
  rw [Lib.decode_at]
  rcases whole_cases s h with ⟨c, b1, t, rfl, _, h1, h2, h3, h4⟩ | ⟨c, b1, b2, t, rfl, _, h1, h2, h3, h4, h5, h6, h7, h8⟩ | ⟨c, b1, b2, b3, t, rfl, _, h1, h2, h3, h4, h5, h6, h7, h8, h9, h10⟩
  · refine ⟨2, ?_⟩
    rw [if_neg (by simp)]
    have g0 : (⟨(c :: b1 :: t).toArray⟩ : ByteArray).get! 0 = c := rfl
    have g1 : (⟨(c :: b1 :: t).toArray⟩ : ByteArray).get! (0 + 1) = b1 := rfl
    have gs : (⟨(c :: b1 :: t).toArray⟩ : ByteArray).size = t.length + 2 := by show (c :: b1 :: t).toArray.size = _; simp
    rw [g0, g1, gs]
    generalize ((⟨(c :: b1 :: t).toArray⟩ : ByteArray).get! (0 + 2)).toNat = x2
    generalize ((⟨(c :: b1 :: t).toArray⟩ : ByteArray).get! (0 + 3)).toNat = x3
    unfold Lib.decodeN
    rw [if_neg (by omega), if_pos ⟨by omega, by omega, by omega⟩, if_pos (by omega)]
    simp only [decW]
    rw [if_pos h2]; rfl
  · refine ⟨3, ?_⟩
    rw [if_neg (by simp)]
    have g0 : (⟨(c :: b1 :: b2 :: t).toArray⟩ : ByteArray).get! 0 = c := rfl
    have g1 : (⟨(c :: b1 :: b2 :: t).toArray⟩ : ByteArray).get! (0 + 1) = b1 := rfl
    have g2 : (⟨(c :: b1 :: b2 :: t).toArray⟩ : ByteArray).get! (0 + 2) = b2 := rfl
    have gs : (⟨(c :: b1 :: b2 :: t).toArray⟩ : ByteArray).size = t.length + 3 := by show (c :: b1 :: b2 :: t).toArray.size = _; simp
    rw [g0, g1, g2, gs]
    generalize ((⟨(c :: b1 :: b2 :: t).toArray⟩ : ByteArray).get! (0 + 3)).toNat = x3
    unfold Lib.decodeN
    rw [if_neg (by omega), if_neg (by omega), if_pos ⟨by omega, ⟨by omega, by omega⟩, by omega, by omega⟩, if_pos (by omega)]
    simp only [decW]
    rw [if_neg (by omega), if_pos h2]; rfl
  · refine ⟨4, ?_⟩
    rw [if_neg (by simp)]
    have g0 : (⟨(c :: b1 :: b2 :: b3 :: t).toArray⟩ : ByteArray).get! 0 = c := rfl
    have g1 : (⟨(c :: b1 :: b2 :: b3 :: t).toArray⟩ : ByteArray).get! (0 + 1) = b1 := rfl
    have g2 : (⟨(c :: b1 :: b2 :: b3 :: t).toArray⟩ : ByteArray).get! (0 + 2) = b2 := rfl
    have g3 : (⟨(c :: b1 :: b2 :: b3 :: t).toArray⟩ : ByteArray).get! (0 + 3) = b3 := rfl
    have gs : (⟨(c :: b1 :: b2 :: b3 :: t).toArray⟩ : ByteArray).size = t.length + 4 := by show (c :: b1 :: b2 :: b3 :: t).toArray.size = _; simp
    rw [g0, g1, g2, g3, gs]
    unfold Lib.decodeN
    rw [if_neg (by omega), if_neg (by omega), if_neg (by omega), if_pos ⟨by omega, ⟨by omega, by omega⟩, ⟨by omega, by omega⟩, by omega, by omega⟩, if_pos (by omega)]
    simp only [decW]
    rw [if_neg (by omega), if_neg (by omega)]; rfl
/-- Feed. -/
def feedF : Nat → Str → List Int × Str
  | n + 1, c :: t => if c.toNat < 128 then ((c.toNat : Int) :: (feedF n t).1, (feedF n t).2)
    else if (longest (c :: t)).2 = true then (decW (c :: t) :: (feedF n ((c :: t).drop (longest (c :: t)).1)).1, (feedF n ((c :: t).drop (longest (c :: t)).1)).2)
    else if 0 < (longest (c :: t)).1 ∧ (longest (c :: t)).1 = (c :: t).length then ([], c :: t)
    else (65533 :: (feedF n ((c :: t).drop (max (longest (c :: t)).1 1))).1, (feedF n ((c :: t).drop (max (longest (c :: t)).1 1))).2)
  | _, s => ([], s)
theorem whole_two (s : Str) (h : (longest s).2 = true) : 2 ≤ (longest s).1 := by
  rcases whole_cases s h with ⟨c, b1, t, _, e, _⟩ | ⟨c, b1, b2, t, _, e, _⟩ | ⟨c, b1, b2, b3, t, _, e, _⟩ <;> omega
theorem feed_fuel : ∀ (n m : Nat) (s : Str), s.length ≤ n → s.length ≤ m → feedF n s = feedF m s
  | n, m, [], hn, hm => by cases n <;> cases m <;> rfl
  | 0, m, c :: t, hn, hm => by simp at hn
  | n, 0, c :: t, hn, hm => by simp at hm
  | n + 1, m + 1, c :: t, hn, hm => by
    simp only [List.length_cons] at hn hm
    have h1 := feed_fuel n m t (by omega) (by omega)
    have hd : ∀ k, 1 ≤ k → feedF n ((c :: t).drop k) = feedF m ((c :: t).drop k) := fun k hk => feed_fuel n m _ (by simp; omega) (by simp; omega)
    unfold feedF
    rw [h1, hd (max (longest (c :: t)).1 1) (by omega)]
    by_cases hw : (longest (c :: t)).2 = true
    · rw [hd (longest (c :: t)).1 (by have := whole_two _ hw; omega)]
    · rw [if_neg hw, if_neg hw]
def feedU (s : Str) : List Int × Str := feedF s.length s
theorem feedU_nil : feedU [] = ([], []) := rfl
theorem feedU_low (c : UInt8) (t : Str) (h : c.toNat < 128) : feedU (c :: t) = ((c.toNat : Int) :: (feedU t).1, (feedU t).2) := by
  unfold feedU
  rw [List.length_cons]
  conv => lhs; unfold feedF
  rw [if_pos h]
theorem feedU_whole (c : UInt8) (t : Str) (h : ¬ c.toNat < 128) (hw : (longest (c :: t)).2 = true) : feedU (c :: t) = (decW (c :: t) :: (feedU ((c :: t).drop (longest (c :: t)).1)).1, (feedU ((c :: t).drop (longest (c :: t)).1)).2) := by
  have h2 := whole_two _ hw
  unfold feedU
  rw [List.length_cons]
  conv => lhs; unfold feedF
  rw [if_neg h, if_pos hw, feed_fuel t.length ((c :: t).drop (longest (c :: t)).1).length _ (by simp; omega) (Nat.le_refl _)]
theorem feedU_stop (c : UInt8) (t : Str) (h : ¬ c.toNat < 128) (hw : (longest (c :: t)).2 = false) (hs : 0 < (longest (c :: t)).1 ∧ (longest (c :: t)).1 = (c :: t).length) : feedU (c :: t) = ([], c :: t) := by
  unfold feedU
  rw [List.length_cons]
  unfold feedF
  rw [if_neg h, if_neg (by rw [hw]; simp), if_pos hs]
theorem feedU_bad (c : UInt8) (t : Str) (h : ¬ c.toNat < 128) (hw : (longest (c :: t)).2 = false) (hs : ¬ (0 < (longest (c :: t)).1 ∧ (longest (c :: t)).1 = (c :: t).length)) : feedU (c :: t) = (65533 :: (feedU ((c :: t).drop (max (longest (c :: t)).1 1))).1, (feedU ((c :: t).drop (max (longest (c :: t)).1 1))).2) := by
  unfold feedU
  rw [List.length_cons]
  conv => lhs; unfold feedF
  rw [if_neg h, if_neg (by rw [hw]; simp), if_neg hs, feed_fuel t.length ((c :: t).drop (max (longest (c :: t)).1 1)).length _ (by simp; omega) (Nat.le_refl _)]
/-- Induction along Feed. -/
theorem feed_ind {P : Str → Prop} (h0 : P []) (hlow : ∀ c t, c.toNat < 128 → P t → P (c :: t))
    (hw : ∀ c t, ¬ c.toNat < 128 → (longest (c :: t)).2 = true → P ((c :: t).drop (longest (c :: t)).1) → P (c :: t))
    (hs : ∀ c t, ¬ c.toNat < 128 → (longest (c :: t)).2 = false → (0 < (longest (c :: t)).1 ∧ (longest (c :: t)).1 = (c :: t).length) → P (c :: t))
    (hb : ∀ c t, ¬ c.toNat < 128 → (longest (c :: t)).2 = false → ¬ (0 < (longest (c :: t)).1 ∧ (longest (c :: t)).1 = (c :: t).length) → P ((c :: t).drop (max (longest (c :: t)).1 1)) → P (c :: t)) : ∀ (n : Nat) (s : Str), s.length ≤ n → P s
  | _, [], _ => h0
  | 0, c :: t, hn => by simp at hn
  | n + 1, c :: t, hn => by
    simp only [List.length_cons] at hn
    by_cases h : c.toNat < 128
    · exact hlow c t h (feed_ind h0 hlow hw hs hb n t (by omega))
    by_cases hwh : (longest (c :: t)).2 = true
    · have := whole_two _ hwh
      exact hw c t h hwh (feed_ind h0 hlow hw hs hb n _ (by simp; omega))
    rw [Bool.not_eq_true] at hwh
    by_cases hst : 0 < (longest (c :: t)).1 ∧ (longest (c :: t)).1 = (c :: t).length
    · exact hs c t h hwh hst
    · exact hb c t h hwh hst (feed_ind h0 hlow hw hs hb n _ (by simp; omega))
theorem feed_cut (v : Str) (s : Str) : feedU (s ++ v) = ((feedU s).1 ++ (feedU ((feedU s).2 ++ v)).1, (feedU ((feedU s).2 ++ v)).2) := by
  refine feed_ind (P := fun s => feedU (s ++ v) = ((feedU s).1 ++ (feedU ((feedU s).2 ++ v)).1, (feedU ((feedU s).2 ++ v)).2)) ?_ ?_ ?_ ?_ ?_ s.length s (Nat.le_refl _)
  · rw [feedU_nil]; rfl
  · intro c t h ih
    rw [List.cons_append, feedU_low c _ h, feedU_low c t h, ih]; rfl
  · intro c t h hw ih
    have ea := longest_app (c :: t) v (.inl hw)
    have ed := dec_app (c :: t) v hw
    have hl := longest_le (c :: t)
    rw [List.cons_append] at ea ed
    rw [List.cons_append, feedU_whole c (t ++ v) h (by rw [ea]; exact hw), feedU_whole c t h hw, ea, ed]
    have edr : (c :: (t ++ v)).drop (longest (c :: t)).1 = (c :: t).drop (longest (c :: t)).1 ++ v := by
      rw [← List.cons_append, List.drop_append_of_le_length hl]
    rw [edr, ih]; rfl
  · intro c t h hw hs
    rw [feedU_stop c t h hw hs]; rfl
  · intro c t h hw hs ih
    have hl := longest_le (c :: t)
    have ea : longest (c :: (t ++ v)) = longest (c :: t) := by
      by_cases hlt : (longest (c :: t)).1 < (c :: t).length
      · have := longest_app (c :: t) v (.inr hlt)
        rwa [List.cons_append] at this
      · exfalso
        exact hs ⟨by simp only [List.length_cons] at hlt hl; omega, by omega⟩
    have hs2 : ¬ (0 < (longest (c :: (t ++ v))).1 ∧ (longest (c :: (t ++ v))).1 = (c :: (t ++ v)).length) := by
      rw [ea]
      intro ⟨g1, g2⟩
      simp only [List.length_cons, List.length_append] at g2 hl
      exact hs ⟨g1, by simp only [List.length_cons]; omega⟩
    rw [List.cons_append, feedU_bad c (t ++ v) h (by rw [ea]; exact hw) hs2, feedU_bad c t h hw hs, ea]
    have edr : (c :: (t ++ v)).drop (max (longest (c :: t)).1 1) = (c :: t).drop (max (longest (c :: t)).1 1) ++ v := by
      rw [← List.cons_append, List.drop_append_of_le_length (by simp only [List.length_cons] at hl ⊢; omega)]
    rw [edr, ih]; rfl
/-- What is left is a beginning; runes are runes; no more than bytes. -/
theorem feed_left (s : Str) : ((feedU s).2 = [] ∨ ((longest (feedU s).2).2 = false ∧ (longest (feedU s).2).1 = (feedU s).2.length)) ∧ (∀ c ∈ (feedU s).1, isRune c) ∧ (feedU s).1.length + (feedU s).2.length ≤ s.length := by
  refine feed_ind (P := fun s => ((feedU s).2 = [] ∨ ((longest (feedU s).2).2 = false ∧ (longest (feedU s).2).1 = (feedU s).2.length)) ∧ (∀ c ∈ (feedU s).1, isRune c) ∧ (feedU s).1.length + (feedU s).2.length ≤ s.length) ?_ ?_ ?_ ?_ ?_ s.length s (Nat.le_refl _)
  · exact ⟨.inl rfl, fun c hc => by rw [feedU_nil] at hc; simp at hc, by simp [feedU_nil]⟩
  · intro c t h ⟨h1, h2, h3⟩
    rw [feedU_low c t h]
    refine ⟨h1, fun x hx => ?_, by simp only [List.length_cons]; omega⟩
    rcases List.mem_cons.1 hx with rfl | hx
    · unfold isRune; omega
    · exact h2 x hx
  · intro c t h hw ⟨h1, h2, h3⟩
    have hl := longest_le (c :: t)
    have h2' := whole_two _ hw
    rw [feedU_whole c t h hw]
    refine ⟨h1, fun x hx => ?_, by simp only [List.length_drop] at h3; simp only [List.length_cons] at h3 hl ⊢; omega⟩
    rcases List.mem_cons.1 hx with rfl | hx
    · exact dec_rune _ hw
    · exact h2 x hx
  · intro c t h hw hs
    rw [feedU_stop c t h hw hs]
    exact ⟨.inr ⟨hw, hs.2⟩, by simp, by simp⟩
  · intro c t h hw hs ⟨h1, h2, h3⟩
    have hl := longest_le (c :: t)
    rw [feedU_bad c t h hw hs]
    refine ⟨h1, fun x hx => ?_, by simp only [List.length_drop] at h3; simp only [List.length_cons] at h3 hl ⊢; omega⟩
    rcases List.mem_cons.1 hx with rfl | hx
    · unfold isRune; omega
    · exact h2 x hx
theorem sub_drop (s : Str) (k : Nat) (h : k ≤ s.length) : sub? s (k : Int) (s.length : Int) = some (s.drop k) := by
  unfold sub?
  rw [if_pos (by omega)]
  simp
theorem sub_take (s : Str) (k : Nat) (h : k ≤ s.length) : sub? s 0 (k : Int) = some (s.take k) := by
  unfold sub?
  rw [if_pos (by omega)]
  simp
theorem feed_loop (a1 a2 : Str) : ∀ (n : Nat) (s : Str), s.length ≤ n → s.length ≤ 10000000 → ∀ out : List Int, out.length + s.length ≤ 10000000 →
    loopO (f7_l1 a1 a2) (s, out) = some (if (feedU s).2 = [] then .inl (out ++ (feedU s).1) else .inr ((feedU s).2, out ++ (feedU s).1, 0)) := by
  intro n s hn
  refine feed_ind (P := fun s => s.length ≤ 10000000 → ∀ out : List Int, out.length + s.length ≤ 10000000 → loopO (f7_l1 a1 a2) (s, out) = some (if (feedU s).2 = [] then .inl (out ++ (feedU s).1) else .inr ((feedU s).2, out ++ (feedU s).1, 0))) ?_ ?_ ?_ ?_ ?_ n s hn
  · intro _ out ho
    refine loopO_done ?_
    unfold f7_l1
    simp only [decide_true, Bool.not_true, cond_false]
    rw [feedU_nil, if_pos rfl, List.append_nil]
  · intro c t h ih hl out ho
    simp only [List.length_cons] at hl ho
    have ih := ih (by omega) (out ++ [(c.toNat : Int)]) (by simp; omega)
    rw [feedU_low c t h]
    rw [show out ++ [(c.toNat : Int)] ++ (feedU t).1 = out ++ ((c.toNat : Int) :: (feedU t).1) by simp] at ih
    refine loopO_next ?_ ih
    unfold f7_l1 f7_l1_j2
    simp only
    have hd := sub_drop (c :: t) 1 (by simp)
    rw [decide_eq_false (by simp), Bool.not_false, ct, show idx (c :: t) 0 = some c from idx_mid [] c t, bs, decide_eq_true (by omega), ct, bs, app_ok 8 _ _ (by simp; omega), bs, show (1 : Int) = ((1 : Nat) : Int) from rfl, hd, bs]; rfl
  · intro c t h hw ih hl out ho
    have hle := longest_le (c :: t)
    have h2 := whole_two _ hw
    obtain ⟨k, hk⟩ := dec_ok (c :: t) hw
    have hr := dec_rune _ hw
    have ih := ih (by simp only [List.length_drop]; omega) (out ++ [decW (c :: t)]) (by simp only [List.length_drop, List.length_append, List.length_cons, List.length_nil] at ho hl ⊢; omega)
    rw [feedU_whole c t h hw]
    rw [show out ++ [decW (c :: t)] ++ (feedU ((c :: t).drop (longest (c :: t)).1)).1 = out ++ (decW (c :: t) :: (feedU ((c :: t).drop (longest (c :: t)).1)).1) by simp] at ih
    refine loopO_next ?_ ih
    unfold f7_l1 f7_l1_j2 f7_l1_j3
    simp only
    have hd := sub_drop (c :: t) (longest (c :: t)).1 hle
    unfold isRune at hr
    rw [decide_eq_false (by simp), Bool.not_false, ct, show idx (c :: t) 0 = some c from idx_mid [] c t, bs, decide_eq_false (by omega), cf, longest_ok c t (by omega), bs]
    simp only
    rw [hw, ct, hk, bs]
    simp only
    rw [i64w _ (by omega), app_ok 8 _ _ (by simp; omega), bs, if_neg (by omega), hd, bs]
  · intro c t h hw hs hl out ho
    rw [feedU_stop c t h hw hs, if_neg (by simp)]
    refine loopO_done ?_
    unfold f7_l1 f7_l1_j2 f7_l1_j3
    simp only
    rw [decide_eq_false (by simp), Bool.not_false, ct, show idx (c :: t) 0 = some c from idx_mid [] c t, bs, decide_eq_false (by omega), cf, longest_ok c t (by omega), bs]
    simp only
    rw [hw, cf, decide_eq_true (by omega), ct, decide_eq_true (by rw [hs.2]), ct, List.append_nil]
  · intro c t h hw hs ih hl out ho
    have hle := longest_le (c :: t)
    have ih := ih (by simp only [List.length_drop]; omega) (out ++ [65533]) (by simp only [List.length_drop, List.length_append, List.length_cons, List.length_nil] at ho hl ⊢; omega)
    rw [feedU_bad c t h hw hs]
    rw [show out ++ [65533] ++ (feedU ((c :: t).drop (max (longest (c :: t)).1 1))).1 = out ++ (65533 :: (feedU ((c :: t).drop (max (longest (c :: t)).1 1))).1) by simp] at ih
    refine loopO_next ?_ ih
    have hd := sub_drop (c :: t) (max (longest (c :: t)).1 1) (by simp only [List.length_cons] at hle ⊢; omega)
    have hmx : (if 1 > ((longest (c :: t)).1 : Int) then (1 : Int) else ((longest (c :: t)).1 : Int)) = ((max (longest (c :: t)).1 1 : Nat) : Int) := by
      by_cases h1 : 1 > ((longest (c :: t)).1 : Int)
      · rw [if_pos h1]; omega
      · rw [if_neg h1]; omega
    have hap : app? 8 out [65533] = some (out ++ [65533]) := app_ok 8 _ _ (by simp; omega)
    unfold f7_l1 f7_l1_j2 f7_l1_j3
    simp only
    rw [decide_eq_false (by simp), Bool.not_false, ct, show idx (c :: t) 0 = some c from idx_mid [] c t, bs, decide_eq_false (by omega), cf, longest_ok c t (by omega), bs]
    simp only
    rw [hw, cf]
    unfold f7_l1_j4 f7_l1_j5
    rw [hap, bs, hmx, hd, bs]
    by_cases h0 : 0 < (longest (c :: t)).1
    · rw [decide_eq_true (by omega), ct, decide_eq_false (fun hh => hs ⟨h0, by omega⟩), cf]
    · rw [decide_eq_false (by omega), cf]
/-- Check. -/
def okU (s : Str) : Prop := s = [] ∨ ((longest s).2 = false ∧ (longest s).1 = s.length)
theorem check_ok (s : Str) (hl : s.length ≤ 10000000) (h : okU s) : f11 s = some 0 := by
  unfold f11
  rcases h with rfl | ⟨h1, h2⟩
  · rw [decide_eq_true rfl, ct]
  · cases s with
    | nil => rw [decide_eq_true rfl, ct]
    | cons c t =>
      rw [decide_eq_false (by simp), cf]
      unfold f11_j0
      rw [longest_ok c t (by omega), bs, h1, cf]
      simp only
      rw [decide_eq_true (by rw [h2]), Bool.not_true, cf]
theorem check_bad (s : Str) (hl : s.length ≤ 10000000) (h : ¬ okU s) : f11 s = some 4 := by
  unfold f11
  cases s with
  | nil => exact absurd (.inl rfl) h
  | cons c t =>
    rw [decide_eq_false (by simp), cf]
    unfold f11_j0
    rw [longest_ok c t (by omega), bs]
    simp only
    cases hw : (longest (c :: t)).2 with
    | true => rw [ct]
    | false =>
      rw [cf, decide_eq_false (fun hh => h (.inr ⟨hw, by omega⟩)), Bool.not_false, ct]
theorem feed_ok (p s : Str) (hl : p.length + s.length ≤ 10000000) (h : okU p) : f7 p s = some ((feedU (p ++ s)).2, (feedU (p ++ s)).1, 0) := by
  unfold f7
  rw [check_ok p (by omega) h, bs, decide_eq_true rfl, Bool.not_true, cf]
  unfold f7_j0
  rw [cat_ok p s (by omega), bs, feed_loop p s (p ++ s).length (p ++ s) (Nat.le_refl _) (by simp; omega) [] (by simp; omega), bs]
  by_cases h0 : (feedU (p ++ s)).2 = []
  · rw [if_pos h0, Sum.elim_inl, h0]; rfl
  · rw [if_neg h0, Sum.elim_inr]; rfl
theorem feed_no (p s : Str) (hl : p.length ≤ 10000000) (h : ¬ okU p) : f7 p s = some ([], [], 4) := by
  unfold f7
  rw [check_bad p hl h, bs, decide_eq_false (by decide), Bool.not_false, ct]
theorem eq_loop (l : List Int) : ∀ (suf pre : List Int), pre ++ suf = l → l.length ≤ 100000000 → loopO (f12_l1 l l) (pre.length : Int) = some (.inl ())
  | [], pre, e, h => loopO_done (by
      subst e
      unfold f12_l1 f12_l1_j2
      simp only [lt_end, cond_false])
  | x :: t, pre, e, h => by
    have hx : l = pre ++ x :: t := e.symm
    refine loopO_next ?_ (eq_loop l t (pre ++ [x]) (by simp [hx]) h)
    have hp : pre.length < 1000000000 := by rw [hx] at h; simp at h; omega
    rw [hx]
    unfold f12_l1 f12_l1_j2 f12_l1_j3
    simp only [lt_mid, cond_true, idx_mid, Option.bind_some, decide_true, Bool.and_self, Bool.not_true, cond_false]
    rw [wrap_nx pre x hp]
theorem f12_same (l : List Int) (h : l.length ≤ 100000000) : f12 l l = some true := by
  unfold f12
  rw [decide_eq_true rfl]
  simp only [Bool.not_true, cond_false]
  unfold f12_j0
  have := eq_loop l l [] rfl h
  rw [show ((0 : Int)) = (([] : List Int).length : Int) from rfl, this]; rfl
theorem clone_i (l : List Int) (h : l.length ≤ 10000000) : f13 l = some l := by
  unfold f13
  rw [app_ok 8 [] l (by simp; omega), bs]; rfl
/-- Encode. -/
def encR (r : Int) : Str :=
  bif decide (IntKind.u32.wrap r ≤ 127) then [u8 r] else
  bif decide (IntKind.u32.wrap r ≤ 2047) then [(192 : UInt8) ||| u8 (Int.fdiv r (2 ^ 6)), (128 : UInt8) ||| (u8 r &&& (63 : UInt8))] else
  bif (bif decide (IntKind.u32.wrap r < 55296) then true else (decide (57343 < IntKind.u32.wrap r) && decide (IntKind.u32.wrap r ≤ 65535))) then [(224 : UInt8) ||| u8 (Int.fdiv r (2 ^ 12)), (128 : UInt8) ||| (u8 (Int.fdiv r (2 ^ 6)) &&& (63 : UInt8)), (128 : UInt8) ||| (u8 r &&& (63 : UInt8))] else
  bif (decide (65535 < IntKind.u32.wrap r) && decide (IntKind.u32.wrap r ≤ 1114111)) then [(240 : UInt8) ||| u8 (Int.fdiv r (2 ^ 18)), (128 : UInt8) ||| (u8 (Int.fdiv r (2 ^ 12)) &&& (63 : UInt8)), (128 : UInt8) ||| (u8 (Int.fdiv r (2 ^ 6)) &&& (63 : UInt8)), (128 : UInt8) ||| (u8 r &&& (63 : UInt8))] else [239, 191, 189]
theorem encR_len (r : Int) : (encR r).length ≤ 4 := by
  unfold encR
  generalize decide (IntKind.u32.wrap r ≤ 127) = b1
  generalize decide (IntKind.u32.wrap r ≤ 2047) = b2
  generalize (bif decide (IntKind.u32.wrap r < 55296) then true else (decide (57343 < IntKind.u32.wrap r) && decide (IntKind.u32.wrap r ≤ 65535))) = b3
  generalize (decide (65535 < IntKind.u32.wrap r) && decide (IntKind.u32.wrap r ≤ 1114111)) = b4
  cases b1 <;> cases b2 <;> cases b3 <;> cases b4 <;> simp
theorem encR_ok (r : Int) (o : Str) (h : o.length ≤ 100000000) : f20 r o = some (o ++ encR r) := by
  have ap1 : ∀ a : UInt8, app? 1 o [a] = some (o ++ [a]) := fun a => app_ok 1 _ _ (by simp; omega)
  have ap2 : ∀ a b : UInt8, app? 1 o [a, b] = some (o ++ [a, b]) := fun a b => app_ok 1 _ _ (by simp; omega)
  have ap3 : ∀ a b c : UInt8, app? 1 o [a, b, c] = some (o ++ [a, b, c]) := fun a b c => app_ok 1 _ _ (by simp; omega)
  have ap4 : ∀ a b c d : UInt8, app? 1 o [a, b, c, d] = some (o ++ [a, b, c, d]) := fun a b c d => app_ok 1 _ _ (by simp; omega)
  unfold f20 encR f24 f24_j0
  simp only [ap1, ap2, ap3, ap4, bs]
  generalize decide (IntKind.u32.wrap r ≤ 127) = b1
  generalize decide (IntKind.u32.wrap r ≤ 2047) = b2
  generalize decide (IntKind.u32.wrap r < 55296) = b3
  generalize decide (57343 < IntKind.u32.wrap r) = b4
  generalize decide (IntKind.u32.wrap r ≤ 65535) = b5
  generalize decide (65535 < IntKind.u32.wrap r) = b6
  generalize decide (IntKind.u32.wrap r ≤ 1114111) = b7
  cases b1 <;> cases b2 <;> cases b3 <;> cases b4 <;> cases b5 <;> cases b6 <;> cases b7 <;> rfl
def fixR (c : Int) : Int := if c < 0 ∨ 1114111 < c ∨ (55296 ≤ c ∧ c ≤ 57343) then 65533 else c
theorem fix_rune (c : Int) : isRune (fixR c) := by
  unfold isRune fixR
  split <;> omega
theorem enc_loop (a1 : List Int) (hl : a1.length ≤ 2000000) : ∀ (suf pre : List Int) (o : Str), a1 = pre ++ suf → o.length ≤ 4 * pre.length →
    loopO (f14_l0 a1) (o, (pre.length : Int)) = some (o ++ suf.flatMap fun c => encR (fixR c))
  | [], pre, o, e, ho => loopO_done (by
      subst e
      unfold f14_l0 f14_l0_j1
      simp only [lt_end, cond_false]
      simp)
  | c :: t, pre, o, e, ho => by
    have hp : pre.length < 1000000000 := by rw [e] at hl; simp at hl; omega
    have hp2 : pre.length ≤ 2000000 := by rw [e] at hl; simp at hl; omega
    have hx : idx a1 (pre.length : Int) = some c := by rw [e]; exact idx_mid pre c t
    have hlt : decide ((pre.length : Int) < (a1.length : Int)) = true := by rw [e]; exact lt_mid pre c t
    have hel := encR_len (fixR c)
    have ih := enc_loop a1 hl t (pre ++ [c]) (o ++ encR (fixR c)) (by rw [e]; simp) (by simp; omega)
    rw [List.flatMap_cons, ← List.append_assoc]
    refine loopO_next ?_ ih
    have hw := wrap_nx pre c hp
    have h32 : ∀ x : Int, 0 ≤ x ∧ x ≤ 1114111 → IntKind.i32.wrap x = x := fun x hx => IntWalk.i32_in x (by omega)
    unfold f14_l0 f14_l0_j1 f14_l0_j2
    simp only [hlt, cond_true]
    rw [hx, bs]
    unfold fixR
    by_cases a : c < 0
    · rw [decide_eq_true a, ct, if_pos (.inl a), encR_ok _ _ (by omega), bs, hw]
    · rw [decide_eq_false a, cf]
      by_cases b : 1114111 < c
      · rw [decide_eq_true b, ct, if_pos (.inr (.inl b)), encR_ok _ _ (by omega), bs, hw]
      · rw [decide_eq_false b, cf]
        by_cases d : 55296 ≤ c
        · rw [decide_eq_true d, ct]
          by_cases f : c ≤ 57343
          · rw [decide_eq_true f, ct, if_pos (.inr (.inr ⟨d, f⟩)), encR_ok _ _ (by omega), bs, hw]
          · rw [decide_eq_false f, cf, if_neg (by omega), h32 c (by omega), encR_ok _ _ (by omega), bs, hw]
        · rw [decide_eq_false d, cf, if_neg (by omega), h32 c (by omega), encR_ok _ _ (by omega), bs, hw]
theorem enc_ok (l : List Int) (hl : l.length ≤ 2000000) : f14 l = some (l.flatMap fun c => encR (fixR c)) := by
  unfold f14
  have := enc_loop l hl l [] [] rfl (by simp)
  rw [show ((([] : List Int).length : Nat) : Int) = 0 from rfl] at this
  rw [this, bs]; rfl
theorem b192 : ∀ x : UInt8, x.toNat < 32 → ((192 : UInt8) ||| x).toNat = 192 + x.toNat := by
  have h : ∀ n : Fin 32, ((192 : UInt8) ||| UInt8.ofNat n.val).toNat = 192 + n.val := by decide
  intro x hx
  have := h ⟨x.toNat, hx⟩
  rwa [show UInt8.ofNat x.toNat = x by simp] at this
theorem b224 : ∀ x : UInt8, x.toNat < 16 → ((224 : UInt8) ||| x).toNat = 224 + x.toNat := by
  have h : ∀ n : Fin 16, ((224 : UInt8) ||| UInt8.ofNat n.val).toNat = 224 + n.val := by decide
  intro x hx
  have := h ⟨x.toNat, hx⟩
  rwa [show UInt8.ofNat x.toNat = x by simp] at this
theorem b240 : ∀ x : UInt8, x.toNat < 8 → ((240 : UInt8) ||| x).toNat = 240 + x.toNat := by
  have h : ∀ n : Fin 8, ((240 : UInt8) ||| UInt8.ofNat n.val).toNat = 240 + n.val := by decide
  intro x hx
  have := h ⟨x.toNat, hx⟩
  rwa [show UInt8.ofNat x.toNat = x by simp] at this
theorem b128 : ∀ x : UInt8, ((128 : UInt8) ||| (x &&& 63)).toNat = 128 + x.toNat % 64 := by
  have h : ∀ n : Fin 256, ((128 : UInt8) ||| (UInt8.ofNat n.val &&& 63)).toNat = 128 + n.val % 64 := by decide
  intro x
  have := h ⟨x.toNat, x.toNat_lt⟩
  rwa [show UInt8.ofNat x.toNat = x by simp] at this
theorem u8_nat (r : Nat) : (u8 (r : Int)).toNat = r % 256 := by
  unfold u8
  have : ((r : Int) % 256).toNat = r % 256 := by omega
  rw [this]; simp
theorem fd (r k : Nat) : Int.fdiv (r : Int) (2 ^ k) = ((r / 2 ^ k : Nat) : Int) := by
  rw [Int.fdiv_eq_ediv_of_nonneg _ (by have := Int.pow_pos (n := 2) (m := k) (by omega); omega)]
  norm_cast
theorem feed_enc (r : Nat) (h : isRune (r : Int)) (t : Str) : feedU (encR (r : Int) ++ t) = ((r : Int) :: (feedU t).1, (feedU t).2) := by
  unfold isRune at h
  have hw : IntKind.u32.wrap (r : Int) = (r : Int) := IntWalk.u32_in _ (by omega)
  unfold encR
  rw [hw, fd, fd, fd]
  have k0 := u8_nat r
  have k6 := u8_nat (r / 2 ^ 6)
  have k12 := u8_nat (r / 2 ^ 12)
  have k18 := u8_nat (r / 2 ^ 18)
  simp only [Nat.reducePow] at k6 k12 k18 ⊢
  by_cases h1 : r ≤ 127
  · rw [decide_eq_true (by omega), ct, List.cons_append, List.nil_append, feedU_low _ _ (by rw [k0]; omega), k0]
    rw [show r % 256 = r by omega]
  rw [decide_eq_false (by omega), cf]
  by_cases h2 : r ≤ 2047
  · rw [decide_eq_true (by omega), ct]
    have c0 := b192 (u8 ((r / 64 : Nat) : Int)) (by rw [k6]; omega)
    have c1 := b128 (u8 (r : Int))
    rw [k6] at c0
    rw [k0] at c1
    generalize (192 : UInt8) ||| u8 ((r / 64 : Nat) : Int) = x0 at *
    generalize (128 : UInt8) ||| (u8 (r : Int) &&& (63 : UInt8)) = x1 at *
    have hn : need x0 = (1, 128, 191) := by unfold need; rw [if_pos (by omega)]
    have k191 : (191 : UInt8).toNat = 191 := rfl
    have k128 : (128 : UInt8).toNat = 128 := rfl
    have hl : longest (x0 :: x1 :: t) = (2, true) := by
      rw [longest_cons]
      rw [hn]
      simp only
      rw [if_neg (by omega)]
      unfold run
      rw [if_pos (by omega)]
      simp [run]
    rw [List.cons_append, List.cons_append, List.nil_append, feedU_whole _ _ (by omega) (by rw [hl]), hl]
    simp only [decW, List.drop_succ_cons, List.drop_zero]
    rw [if_pos (by omega), show x0.toNat % 32 * 64 + x1.toNat % 64 = r by omega]
  rw [decide_eq_false (by omega), cf]
  by_cases h3 : r ≤ 65535
  · have hb : (bif decide ((r : Int) < 55296) then true else (decide (57343 < (r : Int)) && decide ((r : Int) ≤ 65535))) = true := by
      by_cases g : r < 55296
      · rw [decide_eq_true (by omega), ct]
      · rw [decide_eq_false (by omega), cf, decide_eq_true (by omega), decide_eq_true (by omega)]; rfl
    rw [hb, ct]
    have c0 := b224 (u8 ((r / 4096 : Nat) : Int)) (by rw [k12]; omega)
    have c1 := b128 (u8 ((r / 64 : Nat) : Int))
    have c2 := b128 (u8 (r : Int))
    rw [k12] at c0
    rw [k6] at c1
    rw [k0] at c2
    generalize (224 : UInt8) ||| u8 ((r / 4096 : Nat) : Int) = x0 at *
    generalize (128 : UInt8) ||| (u8 ((r / 64 : Nat) : Int) &&& (63 : UInt8)) = x1 at *
    generalize (128 : UInt8) ||| (u8 (r : Int) &&& (63 : UInt8)) = x2 at *
    have k191 : (191 : UInt8).toNat = 191 := rfl
    have k128 : (128 : UInt8).toNat = 128 := rfl
    have k160 : (160 : UInt8).toNat = 160 := rfl
    have k159 : (159 : UInt8).toNat = 159 := rfl
    have hl : longest (x0 :: x1 :: x2 :: t) = (3, true) := by
      have hr : ∃ lo hi, need x0 = (2, lo, hi) ∧ lo.toNat ≤ x1.toNat ∧ x1.toNat ≤ hi.toNat := by
        unfold need
        rw [if_neg (by omega)]
        by_cases g1 : x0.toNat = 224
        · rw [if_pos g1]; exact ⟨_, _, rfl, by omega, by omega⟩
        rw [if_neg g1]
        by_cases g2 : x0.toNat = 237
        · rw [if_pos g2]; exact ⟨_, _, rfl, by omega, by omega⟩
        rw [if_neg g2, if_pos (by omega)]; exact ⟨_, _, rfl, by omega, by omega⟩
      obtain ⟨lo, hi, hn, g1, g2⟩ := hr
      rw [longest_cons]
      rw [hn]
      simp only
      rw [if_neg (by omega)]
      unfold run
      rw [if_pos ⟨g1, g2⟩]
      unfold run
      rw [if_pos (by omega)]
      simp [run]
    rw [List.cons_append, List.cons_append, List.cons_append, List.nil_append, feedU_whole _ _ (by omega) (by rw [hl]), hl]
    simp only [decW, List.drop_succ_cons, List.drop_zero]
    rw [if_neg (by omega), if_pos (by omega), show x0.toNat % 16 * 4096 + x1.toNat % 64 * 64 + x2.toNat % 64 = r by omega]
  · have hb : (bif decide ((r : Int) < 55296) then true else (decide (57343 < (r : Int)) && decide ((r : Int) ≤ 65535))) = false := by
      rw [decide_eq_false (by omega), cf, decide_eq_true (by omega), decide_eq_false (by omega)]; rfl
    rw [hb, cf, decide_eq_true (by omega), decide_eq_true (by omega), Bool.and_self, ct]
    have c0 := b240 (u8 ((r / 262144 : Nat) : Int)) (by rw [k18]; omega)
    have c1 := b128 (u8 ((r / 4096 : Nat) : Int))
    have c2 := b128 (u8 ((r / 64 : Nat) : Int))
    have c3 := b128 (u8 (r : Int))
    rw [k18] at c0
    rw [k12] at c1
    rw [k6] at c2
    rw [k0] at c3
    generalize (240 : UInt8) ||| u8 ((r / 262144 : Nat) : Int) = x0 at *
    generalize (128 : UInt8) ||| (u8 ((r / 4096 : Nat) : Int) &&& (63 : UInt8)) = x1 at *
    generalize (128 : UInt8) ||| (u8 ((r / 64 : Nat) : Int) &&& (63 : UInt8)) = x2 at *
    generalize (128 : UInt8) ||| (u8 (r : Int) &&& (63 : UInt8)) = x3 at *
    have k191 : (191 : UInt8).toNat = 191 := rfl
    have k128 : (128 : UInt8).toNat = 128 := rfl
    have k144 : (144 : UInt8).toNat = 144 := rfl
    have k143 : (143 : UInt8).toNat = 143 := rfl
    have hl : longest (x0 :: x1 :: x2 :: x3 :: t) = (4, true) := by
      have hr : ∃ lo hi, need x0 = (3, lo, hi) ∧ lo.toNat ≤ x1.toNat ∧ x1.toNat ≤ hi.toNat := by
        unfold need
        rw [if_neg (by omega), if_neg (by omega), if_neg (by omega), if_neg (by omega)]
        by_cases g1 : x0.toNat = 240
        · rw [if_pos g1]; exact ⟨_, _, rfl, by omega, by omega⟩
        rw [if_neg g1]
        by_cases g2 : x0.toNat = 244
        · rw [if_pos g2]; exact ⟨_, _, rfl, by omega, by omega⟩
        rw [if_neg g2, if_pos (by omega)]; exact ⟨_, _, rfl, by omega, by omega⟩
      obtain ⟨lo, hi, hn, g1, g2⟩ := hr
      rw [longest_cons]
      rw [hn]
      simp only
      rw [if_neg (by omega)]
      unfold run
      rw [if_pos ⟨g1, g2⟩]
      unfold run
      rw [if_pos (by omega)]
      unfold run
      rw [if_pos (by omega)]
      simp [run]
    rw [List.cons_append, List.cons_append, List.cons_append, List.cons_append, List.nil_append, feedU_whole _ _ (by omega) (by rw [hl]), hl]
    simp only [decW, List.drop_succ_cons, List.drop_zero]
    rw [if_neg (by omega), if_neg (by omega), show x0.toNat % 8 * 262144 + x1.toNat % 64 * 4096 + x2.toNat % 64 * 64 + x3.toNat % 64 = r by omega]
theorem feed_all : ∀ l : List Int, feedU (l.flatMap fun c => encR (fixR c)) = (l.map fixR, [])
  | [] => rfl
  | c :: t => by
    have ih := feed_all t
    have hr := fix_rune c
    rw [List.flatMap_cons]
    obtain ⟨n, hn⟩ := Int.eq_ofNat_of_zero_le (show 0 ≤ fixR c by unfold isRune at hr; omega)
    rw [hn] at hr ⊢
    rw [feed_enc n hr, ih, List.map_cons, hn]
theorem lives : f8 = some true := by
  unfold f8
  rw [feed_ok [226] _ (by simp) (.inr (by decide)), bs]
  rw [show feedU ([226] ++ [130, 172, 226, 97, 240, 159]) = ([8364, 65533, 97], [240, 159]) from by decide]
  simp only [decide_true, cond_true]
  rw [f12_same _ (by simp), bs, ct, enc_ok _ (by simp), bs]
  rfl
/-- UtfAscii. -/
def big (c : Int) : Bool := decide (128 ≤ c)
theorem big_ok (c : Int) : f16 c = some (big c) := by
  unfold f16 big
  cases decide (128 ≤ c) <;> rfl
theorem find_loop (l : List Int) (hl : l.length ≤ 100000000) : ∀ suf pre : List Int, l = pre ++ suf →
    (∃ a z t, suf = a ++ z :: t ∧ (∀ x ∈ a, big x = false) ∧ big z = true ∧ loopO (f21_l0 l) (pre.length : Int) = some (.inr ((pre.length + a.length : Nat) : Int))) ∨ ((∀ x ∈ suf, big x = false) ∧ loopO (f21_l0 l) (pre.length : Int) = some (.inl ()))
  | [], pre, e => .inr ⟨by simp, loopO_done (by
      subst e
      unfold f21_l0 f21_l0_j1
      simp only [lt_end, cond_false])⟩
  | z :: t, pre, e => by
    have hp : pre.length < 1000000000 := by rw [e] at hl; simp at hl; omega
    have hx : idx l (pre.length : Int) = some z := by rw [e]; exact idx_mid pre z t
    have hlt : decide ((pre.length : Int) < (l.length : Int)) = true := by rw [e]; exact lt_mid pre z t
    cases hz : big z with
    | true =>
      refine .inl ⟨[], z, t, rfl, by simp, hz, loopO_done ?_⟩
      unfold f21_l0 f21_l0_j1 f21_l0_j2
      simp only [hlt, cond_true]
      rw [hx, bs, big_ok, bs, hz, ct]; rfl
    | false =>
      have hs : f21_l0 l (pre.length : Int) = some (.inl ((pre ++ [z]).length : Int)) := by
        unfold f21_l0 f21_l0_j1 f21_l0_j2
        simp only [hlt, cond_true]
        rw [hx, bs, big_ok, bs, hz, cf, wrap_nx pre z hp]
      rcases find_loop l hl t (pre ++ [z]) (by rw [e]; simp) with ⟨a, y, u, h1, h2, h3, h4⟩ | ⟨h1, h2⟩
      · refine .inl ⟨z :: a, y, u, by rw [h1]; rfl, fun x hx => ?_, h3, ?_⟩
        · rcases List.mem_cons.1 hx with rfl | hx
          · exact hz
          · exact h2 x hx
        · have := loopO_next hs h4
          rw [this]
          congr 3
          simp; omega
      · refine .inr ⟨fun x hx => ?_, loopO_next hs h2⟩
        rcases List.mem_cons.1 hx with rfl | hx
        · exact hz
        · exact h1 x hx
/-- What stays: the small ones, moved to the front. -/
theorem del_loop (a1 : List Int) : ∀ (n : Nat) (k g r : List Int), r.length = n → (k ++ g ++ r).length ≤ 100000000 → 1 ≤ g.length →
    ∃ g', loopO (f15_l2 a1) (k ++ g ++ r, (k.length : Int), ((k.length + g.length : Nat) : Int)) = some (k ++ r.filter (fun c => !big c) ++ g', ((k ++ r.filter (fun c => !big c)).length : Int))
  | 0, k, g, r, hr, hl, hg => by
    have : r = [] := List.eq_nil_of_length_eq_zero hr
    subst this
    refine ⟨g, loopO_done ?_⟩
    unfold f15_l2
    simp only
    rw [decide_eq_false (by simp), cf]
    simp
  | n + 1, k, g, [], hr, hl, hg => by simp at hr
  | n + 1, k, g, z :: r, hr, hl, hg => by
    have hr' : r.length = n := by simpa using hr
    simp only [List.length_append, List.length_cons] at hl
    have hi : inR ((k.length + g.length : Nat) : Int) (k ++ g ++ z :: r).length = some (k.length + g.length) := inR_nat _ _ (by simp; try omega)
    have hgt : (k ++ g ++ z :: r)[k.length + g.length]? = some z := by
      rw [List.getElem?_append_right (by simp)]; simp
    have hw : IntKind.i64.wrap (((k.length + g.length : Nat) : Int) + 1) = ((k.length + g.length + 1 : Nat) : Int) := by rw [i64w _ (by omega)]; omega
    have hlt : decide (((k.length + g.length : Nat) : Int) < ((k ++ g ++ z :: r).length : Int)) = true := decide_eq_true (by simp; try omega)
    cases hz : big z with
    | true =>
      obtain ⟨g', h⟩ := del_loop a1 n k (g ++ [z]) r hr' (by simp; try omega) (by simp; try omega)
      refine ⟨g', ?_⟩
      rw [List.filter_cons_of_neg (by simp [hz])]
      have e : k ++ (g ++ [z]) ++ r = k ++ g ++ z :: r := by simp
      rw [e, show k.length + (g ++ [z]).length = k.length + g.length + 1 by simp; try omega] at h
      refine loopO_next ?_ h
      unfold f15_l2 f15_l2_j3
      simp only
      rw [hlt, ct, hi, bs, hgt, bs, big_ok, bs, hz, Bool.not_true, cf, hw]
    | false =>
      obtain ⟨y, g2, rfl⟩ : ∃ y g2, g = y :: g2 := by
        cases g with
        | nil => simp at hg
        | cons y g2 => exact ⟨y, g2, rfl⟩
      obtain ⟨g', h⟩ := del_loop a1 n (k ++ [z]) (g2 ++ [z]) r hr' (by simp at hl ⊢; omega) (by simp)
      refine ⟨g', ?_⟩
      rw [List.filter_cons_of_pos (by simp [hz])]
      have e : k ++ [z] ++ (g2 ++ [z]) ++ r = k ++ z :: (g2 ++ z :: r) := by simp
      have eq : k ++ [z] ++ r.filter (fun c => !big c) = k ++ z :: r.filter (fun c => !big c) := by simp
      rw [e, eq, show (k ++ [z]).length + (g2 ++ [z]).length = k.length + (y :: g2).length + 1 by simp; try omega] at h
      refine loopO_next ?_ h
      have hik : inR (k.length : Int) (k ++ y :: g2 ++ z :: r).length = some k.length := inR_nat _ _ (by simp; try omega)
      have hgk : (k ++ y :: g2 ++ z :: r)[k.length]? = some y := by
        rw [List.append_assoc, List.getElem?_append_right (by simp)]; simp
      have hsk : (k ++ y :: g2 ++ z :: r).set k.length z = k ++ z :: (g2 ++ z :: r) := by
        rw [List.append_assoc, List.set_append_right _ _ (by simp)]; simp
      have hwk : IntKind.i64.wrap ((k.length : Int) + 1) = ((k ++ [z]).length : Int) := by rw [i64w _ (by omega)]; simp
      unfold f15_l2 f15_l2_j3
      simp only
      rw [hlt, ct, hi, bs, hgt, bs, big_ok, bs, hz, Bool.not_false, ct, hik, bs, hgk, bs, hsk, bs, hw, hwk]
theorem del_ok (l : List Int) (hl : l.length ≤ 10000000) : f15 l = some (l.filter fun c => !big c) := by
  unfold f15 f21
  rcases find_loop l (by omega) l [] rfl with ⟨a, z, t, h1, h2, h3, h4⟩ | ⟨h1, h2⟩
  · rw [show ((([] : List Int).length : Nat) : Int) = 0 from rfl] at h4
    rw [h4, bs, Sum.elim_inr, bs, decide_eq_false (by omega), cf]
    unfold f15_j0
    subst h1
    simp only [List.length_append, List.length_cons] at hl
    obtain ⟨g', h⟩ := del_loop (a ++ z :: t) t.length a [z] t rfl (by simp; try omega) (by simp)
    have e : a ++ [z] ++ t = a ++ z :: t := by simp
    have hw : IntKind.i64.wrap (((([] : List Int).length + a.length : Nat) : Int) + 1) = ((a.length + [z].length : Nat) : Int) := by rw [i64w _ (by simp; try omega)]; simp
    rw [e] at h
    have h0 : ((([] : List Int).length + a.length : Nat) : Int) = (a.length : Int) := by simp
    rw [hw, h0, h, bs]
    have hfa : a.filter (fun c => !big c) = a := List.filter_eq_self.2 fun x hx => by simp [h2 x hx]
    rw [List.filter_append, hfa, List.filter_cons_of_neg (by simp [h3])]
    generalize hk : a ++ t.filter (fun c => !big c) = k
    have hkl : k.length ≤ 10000000 := by
      rw [← hk, List.length_append]
      have := List.length_filter_le (fun c => !big c) t
      omega
    unfold f15_j1
    simp only
    have hc : ((k.length : Int)).toNat + ((((k ++ g').length : Int)).toNat - ((k.length : Int)).toNat) = (k ++ g').length := by simp; omega
    rw [chk_ok (by simp; omega), bs, chk_ok (decide_eq_true (by rw [hc]; exact Nat.le_refl _)), bs, bs]
    have hs : sub? (clrL (k ++ g') ((k.length : Int)).toNat ((((k ++ g').length : Int)).toNat - ((k.length : Int)).toNat) 0) 0 (k.length : Int) = some k := by
      have hlen := clrL_len (xs := k ++ g') (l := ((k.length : Int)).toNat) (n := (((k ++ g').length : Int)).toNat - ((k.length : Int)).toNat) (z := (0 : Int)) (by rw [hc]; exact Nat.le_refl _)
      unfold sub?
      rw [if_pos (by rw [hlen]; simp; omega)]
      unfold clrL
      simp
    rw [hs, bs]
  · rw [show ((([] : List Int).length : Nat) : Int) = 0 from rfl] at h2
    rw [h2, bs, Sum.elim_inl, bs, decide_eq_true rfl, ct]
    congr 1
    exact (List.filter_eq_self.2 fun x hx => by simp [h1 x hx]).symm
def low (s : Str) : List Int := (s.filter fun b => decide (b.toNat < 128)).map fun b => (b.toNat : Int)
theorem low_app (a b : Str) : low (a ++ b) = low a ++ low b := by simp [low]
theorem run_high : ∀ (n : Nat) (lo hi : UInt8) (t : Str), 128 ≤ lo.toNat → ∀ x ∈ t.take (run n lo hi t), 128 ≤ x.toNat
  | 0, lo, hi, t, h => by simp [run]
  | n + 1, lo, hi, [], h => by simp [run]
  | n + 1, lo, hi, b :: t, h => by
    unfold run
    by_cases hb : lo.toNat ≤ b.toNat ∧ b.toNat ≤ hi.toNat
    · rw [if_pos hb, Nat.add_comm, List.take_succ_cons]
      intro x hx
      rcases List.mem_cons.1 hx with rfl | hx
      · omega
      · exact run_high n 128 191 t (by decide) x hx
    · rw [if_neg hb]; simp
theorem long_high (c : UInt8) (t : Str) (hc : ¬ c.toNat < 128) (k : Nat) (hk : k ≤ max (longest (c :: t)).1 1) : ∀ x ∈ (c :: t).take k, 128 ≤ x.toNat := by
  intro x hx
  have hx : x ∈ (c :: t).take (max (longest (c :: t)).1 1) := by
    have := List.take_subset_take_left (l := c :: t) hk
    exact this hx
  rw [longest_cons] at hx
  by_cases h0 : (need c).1 = 0
  · rw [if_pos h0] at hx
    simp at hx
    subst hx; omega
  · rw [if_neg h0] at hx
    simp only at hx
    rw [Nat.max_eq_left (by omega), Nat.add_comm, List.take_succ_cons] at hx
    rcases List.mem_cons.1 hx with rfl | hx
    · omega
    · refine run_high _ _ _ t ?_ x hx
      unfold need
      repeat' split
      all_goals first | decide | (exfalso; rename_i g1 g2 g3 g4 g5 g6 g7; apply h0; unfold need; rw [if_neg g1, if_neg g2, if_neg g3, if_neg g4, if_neg g5, if_neg g6, if_neg g7])
theorem low_high (s : Str) (h : ∀ x ∈ s, 128 ≤ x.toNat) : low s = [] := by
  unfold low
  rw [List.filter_eq_nil_iff.2 (fun x hx => by have := h x hx; simp; omega)]; rfl
theorem low_drop (c : UInt8) (t : Str) (hc : ¬ c.toNat < 128) (k : Nat) (hk : k ≤ max (longest (c :: t)).1 1) : low ((c :: t).drop k) = low (c :: t) := by
  have := low_app ((c :: t).take k) ((c :: t).drop k)
  rw [List.take_append_drop, low_high _ (long_high c t hc k hk)] at this
  rw [this]; rfl
theorem dec_big (s : Str) (h : (longest s).2 = true) : 128 ≤ decW s := by
  rcases whole_cases s h with ⟨c, b1, t, rfl, _, h1, h2, h3⟩ | ⟨c, b1, b2, t, rfl, _, h1, h2, h3, h4, h5, h6, h7⟩ | ⟨c, b1, b2, b3, t, rfl, _, h1, h2, h3, h4, h5, h6, h7⟩
  · simp only [decW]
    rw [if_pos h2]
    omega
  · simp only [decW]
    rw [if_neg (by omega), if_pos h2]
    omega
  · simp only [decW]
    rw [if_neg (by omega), if_neg (by omega)]
    omega
theorem feed_low (s : Str) : (feedU s).1.filter (fun c => !big c) = low s := by
  refine feed_ind (P := fun s => (feedU s).1.filter (fun c => !big c) = low s) ?_ ?_ ?_ ?_ ?_ s.length s (Nat.le_refl _)
  · rfl
  · intro c t h ih
    rw [feedU_low c t h]
    have hb : big (c.toNat : Int) = false := decide_eq_false (by omega)
    rw [List.filter_cons_of_pos (by simp [hb]), ih]
    unfold low
    rw [List.filter_cons_of_pos (by simpa using h)]; rfl
  · intro c t h hw ih
    have hb : big (decW (c :: t)) = true := decide_eq_true (dec_big _ hw)
    rw [feedU_whole c t h hw, List.filter_cons_of_neg (by simp [hb]), ih, low_drop c t h _ (by omega)]
  · intro c t h hw hs
    rw [feedU_stop c t h hw hs]
    have := long_high c t h (c :: t).length (by omega)
    rw [List.take_length] at this
    rw [low_high _ this]; rfl
  · intro c t h hw hs ih
    rw [feedU_bad c t h hw hs, List.filter_cons_of_neg (by decide), ih, low_drop c t h _ (Nat.le_refl _)]
theorem part_high (p : Str) (h : okU p) : low p = [] := by
  rcases h with rfl | ⟨h1, h2⟩
  · rfl
  · cases p with
    | nil => rfl
    | cons c t =>
      by_cases hc : c.toNat < 128
      · exfalso
        rw [longest_cons] at h2
        have : need c = (0, 0, 0) := by unfold need; rw [if_neg (by omega), if_neg (by omega), if_neg (by omega), if_neg (by omega), if_neg (by omega), if_neg (by omega), if_neg (by omega)]
        rw [this] at h2
        simp at h2
      · have := long_high c t hc (c :: t).length (by omega)
        rw [List.take_length] at this
        exact low_high _ this
theorem want_loop (a1 a2 : Str) (l : List Int) (hl : a2.length ≤ 10000000) : ∀ (suf pre : Str) (w : List Int), a2 = pre ++ suf → w.length ≤ pre.length →
    loopO (f6_l1 a1 a2) (l, w, (pre.length : Int)) = some (l, w ++ low suf)
  | [], pre, w, e, hw => loopO_done (by
      subst e
      unfold f6_l1 f6_l1_j2
      simp only [lt_end, cond_false]
      simp [low])
  | c :: t, pre, w, e, hw => by
    have hp : pre.length < 1000000000 := by rw [e] at hl; simp at hl; omega
    have hp2 : pre.length ≤ 10000000 := by rw [e] at hl; simp at hl; omega
    have hx : idx a2 (pre.length : Int) = some c := by rw [e]; exact idx_mid pre c t
    have hlt : decide ((pre.length : Int) < (a2.length : Int)) = true := by rw [e]; exact lt_mid pre c t
    by_cases hc : c.toNat < 128
    · have ih := want_loop a1 a2 l hl t (pre ++ [c]) (w ++ [(c.toNat : Int)]) (by rw [e]; simp) (by simp; try omega)
      have el : low (c :: t) = (c.toNat : Int) :: low t := by unfold low; rw [List.filter_cons_of_pos (by simpa using hc)]; rfl
      rw [el, show w ++ (c.toNat : Int) :: low t = w ++ [(c.toNat : Int)] ++ low t by simp]
      refine loopO_next ?_ ih
      unfold f6_l1 f6_l1_j2 f6_l1_j3
      simp only [hlt, cond_true]
      rw [hx, bs, decide_eq_true (by omega), ct, bs, app_ok 8 _ _ (by simp; try omega), bs, wrap_nx pre c hp]
    · have ih := want_loop a1 a2 l hl t (pre ++ [c]) w (by rw [e]; simp) (by simp; try omega)
      have el : low (c :: t) = low t := by unfold low; rw [List.filter_cons_of_neg (by simpa using hc)]
      rw [el]
      refine loopO_next ?_ ih
      unfold f6_l1 f6_l1_j2 f6_l1_j3
      simp only [hlt, cond_true]
      rw [hx, bs, decide_eq_false (by omega), cf, wrap_nx pre c hp]
theorem utfAscii (p s : Str) (hp : p.length ≤ 2000000) (hs : s.length ≤ 2000000) : f6 p s = some true := by
  unfold f6
  by_cases h : okU p
  · obtain ⟨g1, g2, g3⟩ := feed_left (p ++ s)
    simp only [List.length_append] at g3
    rw [feed_ok p s (by omega) h, bs, lives, bs, Bool.not_true, cf, decide_eq_true rfl, Bool.not_true, cf]
    unfold f6_j0
    simp only
    have hw := want_loop p s (feedU (p ++ s)).1 (by omega) s [] [] rfl (by simp)
    rw [show ((([] : Str).length : Nat) : Int) = 0 from rfl, List.nil_append] at hw
    have hf := feed_low (p ++ s)
    rw [low_app, part_high p h, List.nil_append] at hf
    have hl2 : (low s).length ≤ s.length := by
      unfold low
      rw [List.length_map]
      exact List.length_filter_le _ _
    rw [hw, bs]
    simp only
    rw [clone_i _ (by omega), bs, del_ok _ (by omega), bs, hf, f12_same _ (by omega), bs]
  · rw [feed_no p s (by omega) h, bs, lives, bs, Bool.not_true, cf, decide_eq_false (show ¬ ((([] : Str), ([] : List Int), (4 : Int)).2.2 = 0) by show ¬ ((4 : Int) = 0); decide), Bool.not_false, ct, bs]
theorem u8tabs {l : List (String × DataW Unit)} {w : World} (hL : laidMetH Go.Proofs.Tryd.prog l w) (e : (l.filter fun x => x.2.handleName?.isNone) = [("unicode/utf8.acceptRanges", Lib.acceptData), ("unicode/utf8.first", Lib.firstData)]) : Lib.Utf8Tabs 0 1 w := by
  have h2 := (laidMetH_iff.1 hL).1
  rw [e] at h2
  exact utf8Tabs_of_readsT (ρ := Go.Proofs.Tryd.lays197_ren) { Go.Proofs.Tryd.lays197 with } ⟨by kernel_rfl, by kernel_rfl, by kernel_rfl, by kernel_rfl, by kernel_rfl, by kernel_rfl, by kernel_rfl⟩ (Lib.laidMet.reads h2 (.tail _ (.head _))) (Lib.laidMet.reads h2 (.head _))
theorem fitS {s : Str} (h : s.length ≤ maxLen ∧ FitN (some 1048576) s.length 1) : s.length ≤ 2000000 := by
  have := h.2
  unfold FitN at this
  omega
theorem UtfAscii_walk (v0 v1 : Value) (w : World) (h0 : Arg (some 1048576) Go.Proofs.Tryd.prog w 9 v0) (h1 : Arg (some 1048576) Go.Proofs.Tryd.prog w 9 v1) (hsh : w.ShapedOpen Go.Proofs.Tryd.prog) (hL : laidMetH Go.Proofs.Tryd.prog Rows.utfAsciiUptoRow.laid w) : Calls Go.Proofs.Tryd.prog 6 #[v0, v1] w fun e w' => e = .returned (.bool true) ∧ Below w.heap.size w w' :=
  UtfAscii_calls (some 1048576) (fun a b ha hb => utfAscii a b (fitS ha) (fitS hb)) v0 v1 w h0 h1 (u8tabs hL (by kernel_rfl))
end Go.Proofs.YtohecbgpjpfncaaDoor.Pm
