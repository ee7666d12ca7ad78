/- Contracts of package width: Sum, cut. -/
import Derived.Test.YtepegjihlppkcaaWidthA
namespace Go.Proofs.Ytepegjihlppkcaa.Width
open Go.ChangeShapes Go.WideShapes Go.ChangeAt Go.RowKit
open Go.Proofs.Ytepegjihlppkcaa.Com Go.Proofs.Ytepegjihlppkcaa.Row
set_option maxRecDepth 100000

def iv (xs : List Int) : List Value := xs.map (Value.int .i64)
theorem iv_len (xs : List Int) : (iv xs).length = xs.length := by simp [iv]
def sumS (xs : List Int) : Int := (xs.map ofS).sum
theorem sumS_app (a b : List Int) : sumS (a ++ b) = sumS a + sumS b := by simp [sumS]
theorem sumS_step (xs : List Int) (j : Nat) (x : Int) (h : xs[j]? = some x) : sumS (xs.take (j + 1)) = sumS (xs.take j) + ofS x := by
  rw [List.take_add_one, h, sumS_app]; simp [sumS]
theorem sumS_rng : ∀ xs : List Int, 0 ≤ sumS xs ∧ sumS xs ≤ 2 * xs.length
  | [] => by simp [sumS]
  | x :: xs => by
    have := sumS_rng xs
    have := ofS_rng x
    have e : sumS (x :: xs) = ofS x + sumS xs := by simp [sumS]
    rw [e, List.length_cons]; omega
/-- The cells of a slice of numbers. -/
theorem rs_at {w : World} {b off c L : Nat} {xs : List Int} (h : Rs w (.slice (some ⟨b, off, none⟩) L c) (iv xs)) (j : Nat) (x : Int) (hj : xs[j]? = some x) : w.cell? ⟨b, off + j, none⟩ = some (.int .i64 x) := by
  rcases h with ⟨hx, a, cap, h1⟩ | ⟨b', off', cap, h1, _, _, hc⟩
  · have : xs = [] := by simpa [iv] using hx
    subst this; simp at hj
  · simp at h1
    obtain ⟨⟨rfl, rfl⟩, _, rfl⟩ := h1
    exact hc j _ (by simp [iv, hj])

theorem sum_any (v : Value) (xs : List Int) (w : World) (hv : Rs w v (iv xs)) (hm : xs.length ≤ 140737488355328) :
    Calls Try.prog 14 #[v] w fun e w' => e = .returned (.int .i64 (sumS xs)) ∧ Below w.heap.size w w' := by
  obtain ⟨L, hL⟩ : ∃ L, L = xs.length := ⟨_, rfl⟩
  have hsh : (L = 0 ∧ ∃ a c, v = .slice a 0 c) ∨ ∃ b off c, v = .slice (some ⟨b, off, none⟩) L c ∧ ∀ j x, xs[j]? = some x → w.cell? ⟨b, off + j, none⟩ = some (.int .i64 x) := by
    rcases hv with ⟨hx, a, cap, h1⟩ | ⟨b', off', cap, h1, _, _, hc⟩
    · have : xs = [] := by simpa [iv] using hx
      exact .inl ⟨by rw [hL, this]; rfl, _, _, h1⟩
    · exact .inr ⟨b', off', cap, by rw [h1, hL, iv_len], fun j x hj => hc j _ (by simp [iv, hj])⟩
  have HL := Lib.hid hL
  rw [← hL] at hm
  clear hL hv
  rcases hsh with ⟨rfl, a, c, rfl⟩ | ⟨b, off, c, rfl, hc⟩
  · have HS : Hid (sumS xs = 0) := by
      show _ = _
      have : xs = [] := List.length_eq_zero_iff.1 HL.out.symm
      rw [this]; rfl
    go_enter Try.func14, Try.ntmps14
    go_wp2_with fail
    go_loopw [3, 8] (fun s i wr => s = .int .i64 0 ∧ i = .int .i64 0 ∧ wr = w) (fun _ _ _ => 0)
    case atStart => exact ⟨rfl, rfl, rfl⟩
    case round =>
      obtain ⟨rfl, rfl, rfl⟩ := hrel
      go_wp2_with fail
      go_ret
      exact ⟨by rw [HS.out]; rfl, Below.refl _ _⟩
  · have HC := Lib.hid hc
    clear hc
    go_enter Try.func14, Try.ntmps14
    go_wp2_with fail
    go_loopw [3, 8] (fun s i wr => ∃ (j : Nat) (t : Int), j ≤ L ∧ i = .int .i64 j ∧ s = .int .i64 t ∧ Hid (sumS (xs.take j) = t) ∧ Below w.heap.size w wr) (fun _ i _ => L - (intOf i).toNat)
    case atStart => exact ⟨0, 0, Nat.zero_le _, rfl, rfl, rfl, Below.refl _ _⟩
    case round =>
      obtain ⟨j, t, hj, rfl, rfl, HT, hb⟩ := hrel
      have ht := sumS_rng (xs.take j)
      rw [HT.out, List.length_take] at ht
      by_cases hlt : j < L
      · have hp : xs[j]? = some xs[j] := List.getElem?_eq_getElem (by have := HL.out; omega)
        have HS := Lib.hid (sumS_step xs j _ hp)
        have c0 := cell_keep (HC.out j _ hp) hb
        generalize xs[j] = x at *
        go_wp2_with fail
        refine (of_any x _).mono ?_; rintro e w1 ⟨rfl, hb1⟩
        replace hb := hb.trans (hb1.mono hb.size)
        have hx := ofS_rng x
        rw [HT.out] at HS
        have HS' : Hid (sumS (xs.take (j + 1)) = t + ofS x) := HS
        have r1 : IntKind.i64.wrap (t + ofS x) = t + ofS x := IntWalk.i64_in _ (by omega)
        generalize ofS x = y at *
        go_wp2_with fail
        go_roundw
        case rel => exact ⟨j + 1, t + y, by omega, by simp, rfl, HS', hb⟩
        case measure => show L - ((j : Int) + 1).toNat < L - (j : Int).toNat; omega
      · obtain rfl : j = L := by omega
        have HR : Hid (sumS xs = t) := by show _ = _; rw [← HT.out, List.take_of_length_le (by have := HL.out; omega)]
        clear HT ht
        go_wp2_with fail
        go_ret
        exact ⟨by rw [HR.out]; rfl, hb⟩

/-! ### cut -/
/-- How many of them fit, and how wide these are; s is there already. -/
def cutS (n : Int) : List Int → Int → Nat × Int
  | [], s => (0, s)
  | x :: xs, s => if n < s + ofS x then (0, s) else ((cutS n xs (s + ofS x)).1 + 1, (cutS n xs (s + ofS x)).2)
theorem cutS_stop (n : Int) (xs : List Int) (j : Nat) (x s : Int) (hp : xs[j]? = some x) (h : n < s + ofS x) : cutS n (xs.drop j) s = (0, s) := by
  have hj : j < xs.length := by
    rcases Nat.lt_or_ge j xs.length with h | h
    · exact h
    · simp [h] at hp
  rw [List.drop_eq_getElem_cons hj]
  have : xs[j] = x := by simpa [hj] using hp
  rw [this, cutS, if_pos h]
theorem cutS_go (n : Int) (xs : List Int) (j : Nat) (x s : Int) (hp : xs[j]? = some x) (h : ¬ n < s + ofS x) : cutS n (xs.drop j) s = ((cutS n (xs.drop (j + 1)) (s + ofS x)).1 + 1, (cutS n (xs.drop (j + 1)) (s + ofS x)).2) := by
  have hj : j < xs.length := by
    rcases Nat.lt_or_ge j xs.length with h | h
    · exact h
    · simp [h] at hp
  rw [List.drop_eq_getElem_cons hj]
  have : xs[j] = x := by simpa [hj] using hp
  rw [this, cutS, if_neg h]

theorem rs_shape {w : World} {v : Value} {xs : List Int} {L : Nat} (hL : L = xs.length) (hv : Rs w v (iv xs)) :
    (L = 0 ∧ ∃ a c, v = .slice a 0 c) ∨ ∃ b off c, v = .slice (some ⟨b, off, none⟩) L c ∧ L ≤ c ∧ c ≤ maxLen ∧ ∀ j x, xs[j]? = some x → w.cell? ⟨b, off + j, none⟩ = some (.int .i64 x) := by
  rcases hv with ⟨hx, a, cap, h1⟩ | ⟨b', off', cap, h1, h2, h3, hc⟩
  · have : xs = [] := by simpa [iv] using hx
    exact .inl ⟨by rw [hL, this]; rfl, _, _, h1⟩
  · exact .inr ⟨b', off', cap, by rw [h1, hL, iv_len], by rw [hL, ← iv_len]; exact h2, h3, fun j x hj => hc j _ (by simp [iv, hj])⟩

theorem cut_any (v : Value) (xs : List Int) (n : Int) (w : World) (hv : Rs w v (iv xs)) (hm : xs.length ≤ 140737488355328) :
    Calls Try.prog 35 #[v, .int .i64 n] w fun e w' => e = .returned (.tuple #[.int .i64 (cutS n xs 0).1, .int .i64 (cutS n xs 0).2]) ∧ Below w.heap.size w w' := by
  obtain ⟨L, hL⟩ : ∃ L, L = xs.length := ⟨_, rfl⟩
  have hsh := rs_shape hL hv
  have HL := Lib.hid hL
  rw [← hL] at hm
  clear hL hv
  rcases hsh with ⟨rfl, a, c, rfl⟩ | ⟨b, off, c, rfl, _, _, hc⟩
  · have HS : Hid (cutS n xs 0 = (0, 0)) := by
      show _ = _
      have : xs = [] := List.length_eq_zero_iff.1 HL.out.symm
      rw [this]; rfl
    go_enter Try.func35, Try.ntmps35
    go_wp2_with fail
    go_loopw [6, 11] (fun s i wr => s = .int .i64 0 ∧ i = .int .i64 0 ∧ wr = w) (fun _ _ _ => 0)
    case atStart => exact ⟨rfl, rfl, rfl⟩
    case round =>
      obtain ⟨rfl, rfl, rfl⟩ := hrel
      go_wp2_with fail
      go_ret2
      exact ⟨by rw [HS.out]; rfl, Below.refl _ _⟩
  · have HC := Lib.hid hc
    clear hc
    go_enter Try.func35, Try.ntmps35
    go_wp2_with fail
    go_loopw [6, 11] (fun s i wr => ∃ (j : Nat) (t : Int), j ≤ L ∧ i = .int .i64 j ∧ s = .int .i64 t ∧ (0 ≤ t ∧ t ≤ 2 * j) ∧ Hid (cutS n xs 0 = (j + (cutS n (xs.drop j) t).1, (cutS n (xs.drop j) t).2)) ∧ Below w.heap.size w wr) (fun _ i _ => L - (intOf i).toNat)
    case atStart => exact ⟨0, 0, Nat.zero_le _, rfl, rfl, by omega, (by show _ = _; simp), Below.refl _ _⟩
    case round =>
      obtain ⟨j, t, hj, rfl, rfl, ht, HT, hb⟩ := hrel
      by_cases hlt : j < L
      · have hp : xs[j]? = some xs[j] := List.getElem?_eq_getElem (by have := HL.out; omega)
        have HA := Lib.hid (cutS_stop n xs j _ t hp)
        have HB := Lib.hid (cutS_go n xs j _ t hp)
        have c0 := cell_keep (HC.out j _ hp) hb
        generalize xs[j] = x at *
        go_wp2_with fail
        refine (of_any x _).mono ?_; rintro e w1 ⟨rfl, hb1⟩
        replace hb := hb.trans (hb1.mono hb.size)
        have hx := ofS_rng x
        have r1 : IntKind.i64.wrap (t + ofS x) = t + ofS x := IntWalk.i64_in _ (by omega)
        by_cases hn : n < t + ofS x
        · have HR : Hid (cutS n xs 0 = (j, t)) := by show _ = _; rw [HT.out, HA.out hn]; rfl
          clear HA HB HT
          generalize ofS x = y at *
          go_wp2_with fail
          go_ret2
          exact ⟨by rw [HR.out]; rfl, hb⟩
        · have HR : Hid (cutS n xs 0 = ((j + 1 : Nat) + (cutS n (xs.drop (j + 1)) (t + ofS x)).1, (cutS n (xs.drop (j + 1)) (t + ofS x)).2)) := by
            show _ = _; rw [HT.out, HB.out (by omega)]; simp only []; congr 1; omega
          clear HA HB HT
          have hn' : t + ofS x ≤ n := by omega
          go_wp2_with fail
          refine (of_any x _).mono ?_; rintro e w2 ⟨rfl, hb2⟩
          replace hb := hb.trans (hb2.mono hb.size)
          generalize ofS x = y at *
          go_wp2_with fail
          go_roundw
          case rel => exact ⟨j + 1, t + y, by omega, by simp, rfl, by omega, HR, hb⟩
          case measure => show L - ((j : Int) + 1).toNat < L - (j : Int).toNat; omega
      · obtain rfl : j = L := by omega
        have HR : Hid (cutS n xs 0 = (j, t)) := by
          show _ = _
          rw [HT.out, List.drop_of_length_le (by have := HL.out; omega)]; rfl
        clear HT
        go_wp2_with fail
        go_ret2
        exact ⟨by rw [HR.out]; rfl, hb⟩
end Go.Proofs.Ytepegjihlppkcaa.Width
