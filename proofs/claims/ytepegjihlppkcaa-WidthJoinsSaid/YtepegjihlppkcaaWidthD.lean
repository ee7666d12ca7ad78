/- width: the constant case; the law WidthFills. -/
import Derived.Test.YtepegjihlppkcaaWidthC
import Derived.Test.YtepegjihlppkcaaEqInt
import Derived.Test.YtepegjihlppkcaaArg
namespace Go.Proofs.Ytepegjihlppkcaa.Width
open Go.ChangeShapes Go.WideShapes Go.ChangeAt Go.RowKit
open Go.Proofs.Ytepegjihlppkcaa.Com Go.Proofs.Ytepegjihlppkcaa.Row Go.Proofs.Ytepegjihlppkcaa.Args
set_option maxRecDepth 100000

theorem lives (w : World) : Calls Try.prog 13 #[] w fun e w' => e = .returned (.bool true) ∧ Below w.heap.size w w' := by
  have e1 : ofS 97 = 1 := by decide
  have e2 : ofS 20013 = 2 := by decide
  have e3 : ofS 769 = 0 := by decide
  have e4 : sumS [97, 20013] = 3 := by decide
  have HR := fun W => Rs.new W 3 (iv [97, 20013]) 2 rfl (by simp [iv, maxLen])
  have H4 := Lib.hid e4
  have HRH := Lib.hid HR
  clear e4 HR
  go_enter Try.func13, Try.ntmps13
  go_wp2_with fail
  refine (of_any _ _).mono ?_; rintro e w1 ⟨rfl, hb1⟩
  rw [e1]; go_wp2_with fail
  refine (of_any _ _).mono ?_; rintro e w2 ⟨rfl, hb2⟩
  rw [e2]; go_wp2_with fail
  refine (of_any _ _).mono ?_; rintro e w3 ⟨rfl, hb3⟩
  rw [e3]; go_wp2_with fail
  refine (sum_any _ [97, 20013] _ (HRH.out w3) (by decide)).mono ?_; rintro e w4 ⟨rfl, hb4⟩
  rw [H4.out]; go_wp2_with fail
  go_ret
  have L3 := (hb1.trans (hb2.mono hb1.size)).trans (hb3.mono (hb1.trans (hb2.mono hb1.size)).size)
  exact ⟨rfl, (L3.trans ((below_alloc w3 _).mono L3.size)).trans (hb4.mono (by have := L3.size; simp; omega))⟩

theorem own_nilcap {w : World} {B : Nat} {e : TypeId} {v : Value} {xs : List Value} (h : Own w B e v xs) : ∀ c, v = .slice none 0 c → c = 0 := by
  intro c hc
  subst hc
  rcases h.2 with ⟨h, _⟩ | ⟨k, cap, cur, h, _⟩
  · simpa using h
  · simp at h
theorem cutS_all (n : Int) : ∀ (xs : List Int) (s : Int), s + sumS xs ≤ n → cutS n xs s = (xs.length, s + sumS xs)
  | [], s, _ => by simp [cutS, sumS]
  | x :: xs, s, h => by
    have e : sumS (x :: xs) = ofS x + sumS xs := by simp [sumS]
    rw [e] at h
    have := sumS_rng xs
    rw [cutS, if_neg (by omega), cutS_all n xs (s + ofS x) (by omega), e]
    simp only [List.length_cons, Prod.mk.injEq, true_and]
    omega
theorem sum_rep : ∀ j : Nat, sumS (List.replicate j 32) = j
  | 0 => rfl
  | j+1 => by
    have e : sumS (List.replicate (j+1) 32) = ofS 32 + sumS (List.replicate j 32) := by simp [sumS, List.replicate_succ]
    rw [e, sum_rep j, show ofS 32 = 1 by decide]; push_cast; omega
theorem fill_sum (n : Int) (h : 0 ≤ n) (xs : List Int) : sumS (fillS n xs) = n := by
  obtain ⟨_, _, h3, h4⟩ := cutS_le n xs 0 h
  unfold fillS
  rw [sumS_app, sum_rep]
  omega
theorem fill_again (n : Int) (h : 0 ≤ n) (xs : List Int) : fillS n (fillS n xs) = fillS n xs := by
  have hs := fill_sum n h xs
  generalize fillS n xs = ys at *
  unfold fillS
  rw [cutS_all n ys 0 (by omega), hs]
  simp
theorem fill_len (n : Int) (h : 0 ≤ n) (xs : List Int) : (fillS n xs).length ≤ xs.length + n.toNat := by
  obtain ⟨h1, h2, _, _⟩ := cutS_le n xs 0 h
  unfold fillS
  simp; omega
theorem cInt : Try.prog.cellsOf 3 = 1 := by kernel_rfl
theorem bInt : Try.prog.bytesOf 3 = 8 := by kernel_rfl
theorem ints_arg {w : World} {v : Value} (h : Arg none Try.prog w 22 v) : ∃ xs, Rs w v (iv xs) ∧ (∀ c, v = .slice none 0 c → c = 0) ∧ FitN none xs.length 8 := by
  obtain ⟨v', rfl, hr, _⟩ := h.slice Try.underlying22
  have hnc : ∀ c, v = .slice none 0 c → c = 0 := by
    intro c hc
    subst hc
    rcases hr.slice Try.underlying22 with h1 | ⟨a, l, c', h1, _⟩
    · simpa using h1
    · simp at h1
  obtain ⟨xs, h1, _, h2⟩ := hr.ints Try.underlying22 Try.underlying3 cInt
  rw [bInt] at h2
  exact ⟨xs, h1, hnc, h2⟩
end Go.Proofs.Ytepegjihlppkcaa.Width
