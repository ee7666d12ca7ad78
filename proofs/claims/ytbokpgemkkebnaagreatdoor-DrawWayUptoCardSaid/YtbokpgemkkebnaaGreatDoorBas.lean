/- Small laws that all plain laws use. -/
import Derived.Test.YtbokpgemkkebnaaGreatDoorLib1
namespace Go.Proofs.YtbokpgemkkebnaaGreatDoor.Pm
open Go.ChangeShapes Go.WideShapes Go.ChangeAt Go.RowKit
set_option linter.unusedVariables false
set_option linter.unusedSimpArgs false
theorem bs {α β : Type} (x : α) (f : α → Option β) : (some x).bind f = f x := by
 have h : ∀ y : Option α, y = some x → y.bind f = f x := fun y hy => by cases hy; simp
 exact h _ (by simp)
theorem cf {α : Type} (x y : α) : (bif false then x else y) = y := by
 have h : ∀ b : Bool, b = false → (bif b then x else y) = y := fun b hb => by cases hb; simp
 exact h _ (by simp)
theorem ct {α : Type} (x y : α) : (bif true then x else y) = x := by
 have h : ∀ b : Bool, b = true → (bif b then x else y) = x := fun b hb => by cases hb; simp
 exact h _ (by simp)
theorem i64w (n : Int) (h : -9223372036854775808 ≤ n ∧ n ≤ 9223372036854775807) : IntKind.i64.wrap n = n := IntWalk.i64_in n h
theorem idx_mid {α : Type} (pre : List α) (x : α) (t : List α) : idx (pre ++ x :: t) (pre.length : Int) = some x := by unfold idx; rw [if_pos (by omega)]; simp
theorem app_ok {α : Type} (b : Nat) (xs ys : List α) (h : (xs.length + ys.length) * b ≤ 140737488355328) : app? b xs ys = some (xs ++ ys) := by unfold app?; rw [if_pos h]
theorem wrap_nx {α : Type} (pre : List α) (x : α) (h : pre.length < 1000000000) : IntKind.i64.wrap ((pre.length : Int) + 1) = ((pre ++ [x]).length : Int) := by rw [i64w _ (by omega)]; simp
theorem lt_mid {α : Type} (pre : List α) (x : α) (t : List α) : decide ((pre.length : Int) < ((pre ++ x :: t).length : Int)) = true := decide_eq_true (by simp; omega)
theorem lt_end {α : Type} (pre : List α) : decide ((pre.length : Int) < ((pre ++ []).length : Int)) = false := decide_eq_false (by simp)
theorem cat_ok (xs ys : List UInt8) (h : xs.length + ys.length ≤ 1000000000) : cat? xs ys = some (xs ++ ys) := by
 unfold cat?
 rw [if_pos (by show ((xs.length + ys.length : Nat) : Int) ≤ 9223372036854775807; omega)]
theorem chk_ok {b : Bool} (h : b = true) : chk b = some () := by unfold chk; rw [if_pos h]
theorem u8_of {c : UInt8} {n : Nat} (h : c.toNat = n) (hn : n < 256) : c = UInt8.ofNat n := by
 apply UInt8.toNat.inj; rw [h]; simp; omega
def splitC (c : UInt8) : List UInt8 → List (List UInt8)
 | [] => [[]]
 | b :: t => if b = c then [] :: splitC c t else match splitC c t with
  | h :: r => (b :: h) :: r
  | [] => [[b]]
theorem splitC_eq (c b : UInt8) (t : List UInt8) : splitC c (b :: t) = if b = c then [] :: splitC c t else match splitC c t with
  | h :: r => (b :: h) :: r
  | [] => [[b]] := rfl
theorem splitC_ne (c : UInt8) : ∀ s, ∃ h r, splitC c s = h :: r
 | [] => ⟨_, _, rfl⟩
 | b :: t => by
  obtain ⟨h, r, e⟩ := splitC_ne c t
  unfold splitC
  split
  ·exact ⟨_, _, rfl⟩
  ·rw [e]; exact ⟨_, _, rfl⟩
theorem splitC_len (c : UInt8) : ∀ s, (splitC c s).length ≤ s.length + 1
 | [] => by simp [splitC]
 | b :: t => by
  have := splitC_len c t
  obtain ⟨h, r, e⟩ := splitC_ne c t
  rw [e] at this
  unfold splitC
  split
  ·rw [e]; simp at this ⊢; omega
  ·rw [e]; simp at this ⊢; omega
theorem splitC_part (c : UInt8) : ∀ s, ∀ w ∈ splitC c s, w.length ≤ s.length ∧ (∀ b ∈ w, b ≠ c ∧ b ∈ s)
 | [], w, h => by simp [splitC] at h; subst h; simp
 | b :: t, w, h => by
  have ih := splitC_part c t
  obtain ⟨h', r, e⟩ := splitC_ne c t
  unfold splitC at h
  rw [e] at ih
  split at h
  ·rcases List.mem_cons.1 h with rfl | h
   ·simp
   ·rw [e] at h
    obtain ⟨i1, i2⟩ := ih w h
    exact ⟨by simp; omega, fun x hx => ⟨(i2 x hx).1, List.mem_cons_of_mem _ (i2 x hx).2⟩⟩
  ·rename_i hb
   rw [e] at h
   rcases List.mem_cons.1 h with rfl | h
   ·obtain ⟨i1, i2⟩ := ih h' (by simp)
    refine ⟨by simp; omega, fun x hx => ?_⟩
    rcases List.mem_cons.1 hx with rfl | hx
    ·exact ⟨hb, by simp⟩
    ·exact ⟨(i2 x hx).1, List.mem_cons_of_mem _ (i2 x hx).2⟩
   ·obtain ⟨i1, i2⟩ := ih w (by simp [h])
    exact ⟨by simp; omega, fun x hx => ⟨(i2 x hx).1, List.mem_cons_of_mem _ (i2 x hx).2⟩⟩
theorem splitC_app (c : UInt8) : ∀ a b : List UInt8, splitC c (a ++ c :: b) = splitC c a ++ splitC c b
 | [], b => by simp [splitC]
 | x :: a, b => by
  have ih := splitC_app c a b
  obtain ⟨h, r, e⟩ := splitC_ne c a
  rw [List.cons_append]
  rw [splitC_eq c x (a ++ c :: b), splitC_eq c x a]
  by_cases hx : x = c
  ·rw [if_pos hx, if_pos hx, ih]; rfl
  ·rw [if_neg hx, if_neg hx, ih, e]; rfl
theorem splitC_one (c : UInt8) : ∀ s : List UInt8, (∀ b ∈ s, b ≠ c) → splitC c s = [s]
 | [], _ => rfl
 | b :: t, h => by
  have ih := splitC_one c t (fun x hx => h x (List.mem_cons_of_mem _ hx))
  unfold splitC
  rw [if_neg (h b (by simp)), ih]
theorem sk_cons (b c : UInt8) (h : b ≠ c) (t : List UInt8) (k : Nat) : ∃ x r, Lib.splitK [c] 0 k t = x :: r ∧ Lib.splitK [c] 0 k (b :: t) = (b :: x) :: r := by
 cases k with
 | zero => exact ⟨t, [], rfl, rfl⟩
 | succ k =>
  have hge := Lib.indexByte_ge t c
  have hi : Lib.index (b :: t) [c] = if Lib.index t [c] = -1 then -1 else Lib.index t [c] + 1 := by
   rw [Lib.index_one, Lib.index_one, Lib.indexByte, if_neg (by simpa using h)]
   by_cases hm : Lib.indexByte t c = -1
   ·rw [if_pos (by simpa using hm), if_pos hm]
   ·rw [if_neg (by simpa using hm), if_neg hm]
  unfold Lib.splitK
  rw [hi]
  by_cases hm : Lib.index t [c] = -1
  ·rw [if_pos hm, if_pos (beq_iff_eq.2 hm), if_pos (by rfl)]
   exact ⟨_, _, rfl, rfl⟩
  ·have hnn : 0 ≤ Lib.index t [c] := by rw [Lib.index_one] at hm ⊢; omega
   rw [if_neg hm, if_neg (by simpa using hm), if_neg (by simp; omega)]
   obtain ⟨i, hi2⟩ := Int.eq_ofNat_of_zero_le hnn
   rw [hi2, show ((i : Int) + 1).toNat = i + 1 by omega, show (i : Int).toNat = i by omega]
   refine ⟨_, _, rfl, ?_⟩
   simp [show i + 1 + 1 = (i + 1) + 1 from rfl]
theorem sk_hit (c : UInt8) (t : List UInt8) (k : Nat) : Lib.splitK [c] 0 (k + 1) (c :: t) = [] :: Lib.splitK [c] 0 k t := by
 have hi : Lib.index (c :: t) [c] = 0 := by rw [Lib.index_one, Lib.indexByte, if_pos (by simp)]
 rw [Lib.splitK, hi, if_neg (by decide)]
 simp
theorem sk_all (c : UInt8) : ∀ s : List UInt8, Lib.splitK [c] 0 (Lib.count s [c]) s = splitC c s
 | [] => by rw [Lib.count_one]; rfl
 | b :: t => by
  have ih := sk_all c t
  unfold splitC
  by_cases h : b = c
  ·subst h
   rw [Lib.count_cons_eq, Nat.add_comm 1, sk_hit, ih, if_pos rfl]
  ·obtain ⟨x, r, h1, h2⟩ := sk_cons b c h t (Lib.count t [c])
   rw [Lib.count_cons_ne b c t h, h2, if_neg h, ← ih, h1]
theorem split_ok (s : List UInt8) (c : UInt8) (h : s.length ≤ 1000000000) : libSplit s [c] = some (splitC c s) := by
 unfold libSplit
 rw [if_pos ⟨by omega, by simp⟩]
 exact congrArg some (sk_all c s)
theorem join_split (c : UInt8) : ∀ (x : List UInt8) (xs : List (List UInt8)), (∀ w ∈ x :: xs, ∀ b ∈ w, b ≠ c) → splitC c (Lib.join (x :: xs) [c]) = x :: xs
 | x, [], h => by rw [Lib.join_one]; exact splitC_one c x (h x (by simp))
 | x, y :: ys, h => by
  have e : Lib.join (x :: y :: ys) [c] = x ++ c :: Lib.join (y :: ys) [c] := by
   rw [Lib.join_cons, Lib.join_cons]; simp [Lib.joinTail]
  rw [e, splitC_app, join_split c y ys (fun w hw => h w (List.mem_cons_of_mem _ hw)), splitC_one c x (h x (by simp))]
  rfl
theorem join_len (c : UInt8) (k : Nat) : ∀ (x : List UInt8) (xs : List (List UInt8)), (∀ w ∈ x :: xs, w.length ≤ k) → (Lib.join (x :: xs) [c]).length ≤ (xs.length + 1) * (k + 1)
 | x, [], h => by rw [Lib.join_one]; have := h x (by simp); simp; omega
 | x, y :: ys, h => by
  have ih := join_len c k y ys (fun w hw => h w (List.mem_cons_of_mem _ hw))
  have e : Lib.join (x :: y :: ys) [c] = x ++ c :: Lib.join (y :: ys) [c] := by
   rw [Lib.join_cons, Lib.join_cons]; simp [Lib.joinTail]
  have := h x (by simp)
  rw [e, List.length_append, List.length_cons, List.length_cons, Nat.succ_mul]; omega
theorem join_mem (c : UInt8) : ∀ (x : List UInt8) (xs : List (List UInt8)), ∀ b ∈ Lib.join (x :: xs) [c], b = c ∨ ∃ w ∈ x :: xs, b ∈ w
 | x, [], b, h => by rw [Lib.join_one] at h; exact .inr ⟨x, by simp, h⟩
 | x, y :: ys, b, h => by
  have e : Lib.join (x :: y :: ys) [c] = x ++ c :: Lib.join (y :: ys) [c] := by
   rw [Lib.join_cons, Lib.join_cons]; simp [Lib.joinTail]
  rw [e] at h
  rcases List.mem_append.1 h with h | h
  ·exact .inr ⟨x, by simp, h⟩
  ·rcases List.mem_cons.1 h with h | h
   ·exact .inl h
   ·rcases join_mem c y ys b h with h | ⟨w, hw, hb⟩
    ·exact .inl h
    ·exact .inr ⟨w, List.mem_cons_of_mem _ hw, hb⟩
theorem trim_all (s cs : List UInt8) (h : ∀ b ∈ s, b ∈ cs) : Lib.trimS s cs = [] := by
 have hd : ∀ l : List UInt8, (∀ b ∈ l, b ∈ cs) → l.dropWhile (cs.contains ·) = [] := fun l => by
  induction l with
  | nil => intro _; rfl
  | cons a l ih =>
   intro hl
   rw [List.dropWhile_cons_of_pos (by simpa using hl a (by simp))]
   exact ih fun b hb => hl b (by simp [hb])
 unfold Lib.trimS Lib.trimLeftS Lib.trimRightS
 rw [hd s.reverse (fun b hb => h b (by simpa using hb))]
 rfl
end Go.Proofs.YtbokpgemkkebnaaGreatDoor.Pm
