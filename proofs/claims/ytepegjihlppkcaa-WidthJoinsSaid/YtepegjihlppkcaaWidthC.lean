/- Contracts of package width: Fill, the constant case. -/
import Derived.Test.YtepegjihlppkcaaWidthB
import Derived.Test.YtepegjihlppkcaaAppS
namespace Go.Proofs.Ytepegjihlppkcaa.Width
open Go.ChangeShapes Go.WideShapes Go.ChangeAt Go.RowKit
open Go.Proofs.Ytepegjihlppkcaa.Com Go.Proofs.Ytepegjihlppkcaa.Row
set_option maxRecDepth 100000

theorem infoInt : (Try.prog.info? 3).map (fun i => (i.zero, i.size, i.bytes)) = some (some (.int .i64 0), 1, 8) := by kernel_rfl
theorem iv_one (xs : List Int) : ∀ u ∈ iv xs, u.oneCell' = true := by
  intro u hu
  simp only [iv, List.mem_map] at hu
  obtain ⟨a, _, rfl⟩ := hu
  rfl
theorem cutS_le (n : Int) : ∀ (xs : List Int) (s : Int), s ≤ n → (cutS n xs s).1 ≤ xs.length ∧ s ≤ (cutS n xs s).2 ∧ (cutS n xs s).2 ≤ n ∧ (cutS n xs s).2 = s + sumS (xs.take (cutS n xs s).1)
  | [], s, h => by simp [cutS, sumS, h]
  | x :: xs, s, h => by
    rw [cutS]
    split
    · simp [sumS, h]
    · have hx := ofS_rng x
      obtain ⟨h1, h2, h3, h4⟩ := cutS_le n xs (s + ofS x) (by omega)
      refine ⟨by simpa using h1, by simp only []; omega, h3, ?_⟩
      simp only []
      rw [h4, List.take_succ_cons]
      simp [sumS]; omega
/-- What Fill hands back where it is not refused. -/
def fillS (n : Int) (xs : List Int) : List Int := xs.take (cutS n xs 0).1 ++ List.replicate (n - (cutS n xs 0).2).toNat 32
theorem rs_take {w : World} {b off c L k : Nat} {xs : List Int} (hL : L = xs.length) (hLc : L ≤ c) (hc : c ≤ maxLen) (hk : k ≤ L) (h : ∀ j x, xs[j]? = some x → w.cell? ⟨b, off + j, none⟩ = some (.int .i64 x)) :
    Rs w (.slice (some ⟨b, off, none⟩) k c) (iv (xs.take k)) := by
  have hl : (iv (xs.take k)).length = k := by simp [iv]; omega
  refine .inr ⟨b, off, c, by rw [hl], by rw [hl]; omega, hc, fun i x hx => ?_⟩
  simp only [iv, List.getElem?_map, Option.map_eq_some_iff] at hx
  obtain ⟨y, hy, rfl⟩ := hx
  refine h i y ?_
  rw [List.getElem?_take] at hy
  split at hy
  · exact hy
  · simp at hy

theorem fill_no (v : Value) (n : Int) (h : n < 0 ∨ 160 < n) (w : World) : Calls Try.prog 12 #[v, .int .i64 n] w fun e w' => e = .returned (.tuple #[.slice none 0 0, .int .i64 1]) ∧ w = w' := by
  by_cases h1 : n < 0
  · go_enter Try.func12, Try.ntmps12
    go_wp2_with fail
    go_ret2
    exact ⟨rfl, rfl⟩
  · have h2 : 160 < n := by omega
    go_enter Try.func12, Try.ntmps12
    go_wp2_with fail
    go_ret2
    exact ⟨rfl, rfl⟩
set_option maxHeartbeats 800000 in
theorem fill_ok (v : Value) (xs : List Int) (n : Int) (h0 : 0 ≤ n) (h1 : n ≤ 160) (w : World) (hv : Rs w v (iv xs)) (hnv : ∀ c, v = .slice none 0 c → c = 0) (hm : (xs.length + 160) * 8 ≤ 140737488355328) :
    Calls Try.prog 12 #[v, .int .i64 n] w fun e w' => ∃ v', e = .returned (.tuple #[v', .int .i64 0]) ∧ Own w' w.heap.size 3 v' (iv (fillS n xs)) ∧ Below w.heap.size w w' := by
  obtain ⟨i0, hi, hz0, hz1, hz2⟩ := info_parts infoInt
  obtain ⟨L, hL⟩ : ∃ L, L = xs.length := ⟨_, rfl⟩
  have hsh := rs_shape hL hv
  obtain ⟨c1, c2, c3, c4⟩ := cutS_le n xs 0 h0
  have HT := fun W (h : Rs W v (iv xs)) => cut_any v xs n W h (by omega)
  have hF : fillS n xs = xs.take (cutS n xs 0).1 ++ List.replicate (n - (cutS n xs 0).2).toNat 32 := rfl
  generalize cutS n xs 0 = ks at *
  obtain ⟨k, s⟩ := ks
  simp only [] at *
  have HF := Lib.hid hF
  have HTH := Lib.hid HT
  clear HT hF
  have hkm : (([] : List Value).length + (iv (xs.take k)).length) * 8 ≤ 140737488355328 := by simp [iv]; omega
  have HL := Lib.hid hL
  rcases hsh with ⟨hL0, a, c, rfl⟩ | ⟨b, off, c, rfl, hLc, hcm, hc⟩
  · obtain rfl : xs = [] := List.length_eq_zero_iff.1 (by omega)
    obtain rfl : k = 0 := by simpa using c1
    obtain rfl : s = 0 := by simpa [sumS] using c4
    have HV := Lib.hid hv
    clear hv c4 hL hL0
    have hnc := hnv
    have hone := iv_one []
    have h18 : 1 ≤ 8 := by decide
    have hac : (a = none ∧ c = 0) ∨ ∃ ad, a = some ad := by
      cases a with
      | none => exact .inl ⟨rfl, hnv c rfl⟩
      | some ad => exact .inr ⟨ad, rfl⟩
    clear hnv
    obtain ⟨N, hNs⟩ : ∃ N : Nat, n.toNat = N := ⟨_, rfl⟩
    have HB : Hid (fillS n [] = List.replicate N 32) := by show _ = _; rw [HF.out, ← hNs]; simp
    have hsN1 : n ≤ N := by omega
    have hsN2 : N ≤ n := by omega
    clear HF hNs c1 c2 c3 HL
    rcases hac with ⟨rfl, rfl⟩ | ⟨ad, rfl⟩
    all_goals
      go_enter Try.func12, Try.ntmps12
      go_wp2_with fail
      refine (HTH.out _ HV.out).mono ?_; rintro e w1 ⟨rfl, hb1⟩
      have hsrc := HV.out.keep hb1
      have hown := Own.nil w1 w.heap.size 3
      have hsz := hb1.size
      have hb1' := hb1
      clear hb1
      go_wp2_with (at_builtin; refine wpList_app_src rfl (.const (.slice none 0 0)) (.tmp 23) 22 3 rfl w.heap.size i0 _ 8 Try.underlying22 hi hz0 hz1 hz2 rfl _ [] rfl hown _ (iv []) rfl hsrc hnc hone h18 hkm hsz ?_; intro v1 w2 hown1 hb2)
      replace hown1 : Own w2 w.heap.size 3 v1 (iv []) := hown1
      have hb := hb1'.trans hb2
      clear hsrc hown hkm hb2 hnc
      go_loopw [7, 8] (fun t v wr => ∃ (j : Nat), j ≤ N ∧ t = .int .i64 j ∧ Own wr w.heap.size 3 v (iv (List.replicate j 32)) ∧ Below w.heap.size w wr) (fun t _ _ => (n - intOf t).toNat)
      case atStart => exact ⟨0, Nat.zero_le _, by simp, hown1, hb⟩
      case round =>
        obtain ⟨j, hj, rfl, hown, hbr⟩ := hrel
        by_cases hlt : j < N
        · have q : (j : Int) < n := by omega
          have hone32 : ∀ u ∈ [Value.int .i64 32], u.oneCell' = true := by intro u hu; simp at hu; subst hu; rfl
          have hjm : ((iv (List.replicate j 32)).length + [Value.int .i64 32].length) * 8 ≤ 140737488355328 := by simp [iv]; omega
          go_wp2_with (at_builtin; refine wpList_app rfl _ _ 22 3 rfl w.heap.size i0 _ 8 Try.underlying22 hi hz0 hz1 hz2 rfl _ _ rfl hown [.int .i64 32] 1 rfl rfl hone32 h18 hjm w hbr (Nat.le_refl _) ?_; intro v1 w2 hown1 hb2)
          rw [show iv (List.replicate j 32) ++ [Value.int .i64 32] = iv (List.replicate (j + 1) 32) by simp [iv, List.replicate_succ']] at hown1
          go_roundw
          case rel => exact ⟨j + 1, by omega, by simp, hown1, hb2⟩
          case measure => show (n - ((j : Int) + 1)).toNat < (n - (j : Int)).toNat; omega
        · obtain rfl : j = N := by omega
          have q : ¬ (j : Int) < n := by omega
          have q2 : n ≤ (j : Int) := by omega
          go_wp2_with fail
          go_ret2
          exact ⟨_, rfl, by rw [HB.out]; exact hown, hbr⟩
  · have HV := Lib.hid hv
    have HCC := Lib.hid hc
    clear hv hc
    have kL : k ≤ L := by omega
    clear c4 hL
    go_enter Try.func12, Try.ntmps12
    go_wp2_with fail
    refine (HTH.out _ HV.out).mono ?_; rintro e w1 ⟨rfl, hb1⟩
    have hsrc := (rs_take HL.out hLc hcm kL HCC.out).keep hb1
    have hone := iv_one (xs.take k)
    have hown := Own.nil w1 w.heap.size 3
    have hsz := hb1.size
    have hkc : k ≤ c := by omega
    have hb1' := hb1
    clear hb1
    have hnc : ∀ c', Value.slice (some ⟨b, off, none⟩) k c = .slice none 0 c' → c' = 0 := fun _ h => by simp at h
    have h18 : 1 ≤ 8 := by decide
    go_wp2_with (at_builtin; refine wpList_app_src rfl (.const (.slice none 0 0)) (.tmp 23) 22 3 rfl w.heap.size i0 _ 8 Try.underlying22 hi hz0 hz1 hz2 rfl _ [] rfl hown _ (iv (xs.take k)) rfl hsrc hnc hone h18 hkm hsz ?_; intro v1 w2 hown1 hb2)
    rw [List.nil_append] at hown1
    have hb := hb1'.trans (hb2)
    clear hsrc hnc hown hkm hb2
    have HB : Hid (fillS n xs = xs.take k ++ List.replicate (n - s).toNat 32) := HF
    clear HF
    have hlen : (iv (xs.take k)).length ≤ xs.length := by simp [iv]; omega
    obtain ⟨N, hNs⟩ : ∃ N : Nat, (n - s).toNat = N := ⟨_, rfl⟩
    rw [hNs] at HB
    have hsN1 : n ≤ s + N := by omega
    have hsN2 : s + N ≤ n := by omega
    clear hNs
    go_loopw [7, 8] (fun t v wr => ∃ (j : Nat), j ≤ N ∧ t = .int .i64 (s + j) ∧ Own wr w.heap.size 3 v (iv (xs.take k) ++ iv (List.replicate j 32)) ∧ Below w.heap.size w wr) (fun t _ _ => (n - intOf t).toNat)
    case atStart => exact ⟨0, Nat.zero_le _, by simp, by simpa [iv] using hown1, hb⟩
    case round =>
      obtain ⟨j, hj, rfl, hown, hbr⟩ := hrel
      by_cases hlt : j < N
      · have q : s + (j : Int) < n := by omega
        have hone32 : ∀ u ∈ [Value.int .i64 32], u.oneCell' = true := by intro u hu; simp at hu; subst hu; rfl
        have hjm : ((iv (xs.take k) ++ iv (List.replicate j 32)).length + [Value.int .i64 32].length) * 8 ≤ 140737488355328 := by simp [iv]; omega
        go_wp2_with (at_builtin; refine wpList_app rfl _ _ 22 3 rfl w.heap.size i0 _ 8 Try.underlying22 hi hz0 hz1 hz2 rfl _ _ rfl hown [.int .i64 32] 1 rfl rfl hone32 h18 hjm w hbr (Nat.le_refl _) ?_; intro v1 w2 hown1 hb2)
        rw [List.append_assoc, show iv (List.replicate j 32) ++ [Value.int .i64 32] = iv (List.replicate (j + 1) 32) by simp [iv, List.replicate_succ']] at hown1
        go_roundw
        case rel => exact ⟨j + 1, by omega, by simp; omega, hown1, hb2⟩
        case measure => show (n - (s + (j : Int) + 1)).toNat < (n - (s + (j : Int))).toNat; omega
      · obtain rfl : j = N := by omega
        have q : ¬ s + (j : Int) < n := by omega
        have q2 : n ≤ s + (j : Int) := by omega
        go_wp2_with fail
        go_ret2
        exact ⟨_, rfl, by rw [HB.out]; simpa [iv] using hown, hbr⟩
end Go.Proofs.Ytepegjihlppkcaa.Width
