/- Contracts of package find: Borders, In; the constant case; slices.Contains, slices.IsSorted. -/
import Derived.Test.YtepegjihlppkcaaFindB
import Derived.Test.YtepegjihlppkcaaEqInt
import Derived.Test.YtepegjihlppkcaaArg
namespace Go.Proofs.Ytepegjihlppkcaa.Find
open Go.ChangeShapes Go.WideShapes Go.ChangeAt Go.RowKit
open Go.Proofs.Ytepegjihlppkcaa.Com Go.Proofs.Ytepegjihlppkcaa.Slices Go.Proofs.Ytepegjihlppkcaa.FindP Go.Proofs.Ytepegjihlppkcaa.Args
set_option maxRecDepth 100000

theorem Borders_no (a : Option Addr) (L c : Nat) (h : L < 1 ∨ 200 < L) (w : World) : Calls Try.prog 27 #[.slice a L c] w fun e w' => e = .returned (.tuple #[.slice none 0 0, .int .i64 1]) ∧ w = w' := by
  go_enter Try.func27, Try.ntmps27
  go_wp2_with fail
  refine (check_no a L c h _).mono ?_; rintro e w1 ⟨rfl, rfl⟩
  go_wp2_with fail
  go_ret2
  exact ⟨rfl, rfl⟩
theorem Borders_ok (p : L) (a : Option Addr) (n c : Nat) (hn : n = p.length) (h1 : 1 ≤ n) (h2 : n ≤ 200) (w : World) (hv : Sl w 1 a n c (iv p)) :
    Calls Try.prog 27 #[.slice a n c] w fun e w' => ∃ v bs, e = .returned (.tuple #[v, .int .i64 0]) ∧ Bords p bs ∧ Own w' w.heap.size 3 v (iv (nv bs)) ∧ Below w.heap.size w w' := by
  have HB := Lib.hid (borders_any p a n c hn h1 h2 w hv)
  clear hv hn
  go_enter Try.func27, Try.ntmps27
  go_wp2_with fail
  refine (check_ok a n c h1 h2 _).mono ?_; rintro e w1 ⟨rfl, rfl⟩
  go_wp2_with fail
  refine HB.out.mono ?_; rintro e w1 ⟨v, bs, rfl, q1, q2, q3⟩
  go_wp2_with fail
  go_ret2
  exact ⟨v, bs, rfl, q1, q2, q3⟩
theorem In_no (v : Value) (a : Option Addr) (L c : Nat) (h : L < 1 ∨ 200 < L) (w : World) : Calls Try.prog 29 #[v, .slice a L c] w fun e w' => e = .returned (.tuple #[.slice none 0 0, .int .i64 1]) ∧ w = w' := by
  go_enter Try.func29, Try.ntmps29
  go_wp2_with fail
  refine (check_no a L c h _).mono ?_; rintro e w1 ⟨rfl, rfl⟩
  go_wp2_with fail
  go_ret2
  exact ⟨rfl, rfl⟩
theorem In_large (a1 : Option Addr) (N c1 : Nat) (a : Option Addr) (n c : Nat) (h1 : 1 ≤ n) (h2 : n ≤ 200) (h : 100000 < N) (w : World) : Calls Try.prog 29 #[.slice a1 N c1, .slice a n c] w fun e w' => e = .returned (.tuple #[.slice none 0 0, .int .i64 2]) ∧ w = w' := by
  go_enter Try.func29, Try.ntmps29
  go_wp2_with fail
  refine (check_ok a n c h1 h2 _).mono ?_; rintro e w1 ⟨rfl, rfl⟩
  go_wp2_with fail
  go_ret2
  exact ⟨rfl, rfl⟩
theorem In_ok (t p : L) (a1 a2 : Option Addr) (N n c1 c2 : Nat) (hN : N = t.length) (hN2 : N ≤ 100000) (hn : n = p.length) (h1 : 1 ≤ n) (h2 : n ≤ 200) (w : World) (ht : Sl w 1 a1 N c1 (iv t)) (hv : Sl w 1 a2 n c2 (iv p)) :
    Calls Try.prog 29 #[.slice a1 N c1, .slice a2 n c2] w fun e w' => ∃ v, e = .returned (.tuple #[v, .int .i64 0]) ∧ Own w' w.heap.size 3 v (iv (nv (occ p t))) ∧ Below w.heap.size w w' := by
  have HB := Lib.hid (in_any t p a1 a2 N n c1 c2 hN hN2 hn h1 h2 w ht hv)
  clear ht hv hN hn
  go_enter Try.func29, Try.ntmps29
  go_wp2_with fail
  refine (check_ok a2 n c2 h1 h2 _).mono ?_; rintro e w1 ⟨rfl, rfl⟩
  go_wp2_with fail
  refine HB.out.mono ?_; rintro e w1 ⟨v, rfl, q2, q3⟩
  go_wp2_with fail
  go_ret2
  exact ⟨v, rfl, q2, q3⟩

theorem bords_uniq {p : L} {bs cs : List Nat} (h : Bords p bs) (h' : Bords p cs) : bs = cs := by
  apply List.ext_getElem?
  intro i
  by_cases hi : i < p.length
  · have e1 : bs[i]? = some (bs[i]'(by rw [h.1]; exact hi)) := List.getElem?_eq_getElem _
    have e2 : cs[i]? = some (cs[i]'(by rw [h'.1]; exact hi)) := List.getElem?_eq_getElem _
    rw [e1, e2, (h.2 i _ e1).uniq (h'.2 i _ e2)]
  · rw [List.getElem?_eq_none (by rw [h.1]; omega), List.getElem?_eq_none (by rw [h'.1]; omega)]
theorem bords121 : Bords [1, 2, 1] [0, 0, 1] := by
  refine ⟨rfl, fun i k hk => ?_⟩
  match i, hk with
  | 0, hk => simp at hk; subst hk; exact ⟨by decide, by decide, by decide⟩
  | 1, hk => simp at hk; subst hk; exact ⟨by decide, by decide, by decide⟩
  | 2, hk => simp at hk; subst hk; exact ⟨by decide, by decide, by decide⟩
  | i+3, hk => simp at hk

theorem lives (w : World) : Calls Try.prog 28 #[] w fun e w' => e = .returned (.bool true) ∧ Below w.heap.size w w' := by
  have hA := Lib.hid (fun W => Sl.new W 3 (iv [1, 2, 1, 2, 1]) 5 rfl (by simp [iv, maxLen]))
  have hB := Lib.hid (fun W => Sl.new W 3 (iv [1, 2, 1]) 3 rfl (by simp [iv, maxLen]))
  have hC := Lib.hid (fun W => Rs.new W 3 (iv [0, 2]) 2 rfl (by simp [iv, maxLen]))
  have hD := Lib.hid (fun W => Rs.new W 3 (iv [0, 0, 1]) 3 rfl (by simp [iv, maxLen]))
  have e1 : occ [1, 2, 1] [1, 2, 1, 2, 1] = [0, 2] := by decide
  have E1 := Lib.hid e1
  clear e1
  go_enter Try.func28, Try.ntmps28
  go_wp2_with fail
  refine (In_ok [1, 2, 1, 2, 1] [1, 2, 1] _ _ 5 3 5 3 rfl (by decide) rfl (by decide) (by decide) _ ((hA.out w).keep (below_alloc _ _)) (by have := hB.out (w.alloc (.cells (iv [1, 2, 1, 2, 1]).toArray 3)); rw [show (w.alloc (.cells (iv [1, 2, 1, 2, 1]).toArray 3)).heap.size = w.heap.size + 1 by simp] at this; exact this)).mono ?_
  rintro e w1 ⟨v1, rfl, ho1, hb1⟩
  rw [E1.out] at ho1
  have L1 : Below w.heap.size w w1 := ((below_alloc w _).trans ((below_alloc _ _).mono (by simp))).trans (hb1.mono (by simp; omega))
  go_wp2_with fail
  refine (Borders_ok [1, 2, 1] _ 3 3 rfl (by decide) (by decide) _ (hB.out w1)).mono ?_
  rintro e w2 ⟨v2, bs, rfl, hbs, ho2, hb2⟩
  obtain rfl := bords_uniq hbs bords121
  have L2 : Below w.heap.size w w2 := (L1.trans ((below_alloc _ _).mono L1.size)).trans (hb2.mono (by have := L1.size; simp; omega))
  have r1 := (ho1.rs.keep (below_alloc w1 (.cells (iv [1, 2, 1]).toArray 3))).keep hb2
  have r2 := ho2.rs
  clear hbs
  go_wp2_with fail
  refine (EqInt.eq_ints v1 _ (nv [0, 2]) [0, 2] _ (r1.keep (below_alloc _ _)) (hC.out w2)).mono ?_
  rintro e w3 ⟨rfl, hb3⟩
  rw [decide_eq_true (show nv [0, 2] = [0, 2] from rfl)]
  have L3 : Below w.heap.size w w3 := (L2.trans ((below_alloc _ _).mono L2.size)).trans (hb3.mono (by have := L2.size; simp; omega))
  have r3 := (r2.keep (below_alloc w2 (.cells (iv [0, 2]).toArray 3))).keep hb3
  go_wp2_with fail
  refine (EqInt.eq_ints v2 _ (nv [0, 0, 1]) [0, 0, 1] _ (r3.keep (below_alloc _ _)) (hD.out w3)).mono ?_
  rintro e w4 ⟨rfl, hb4⟩
  rw [decide_eq_true (show nv [0, 0, 1] = [0, 0, 1] from rfl)]
  have L4 : Below w.heap.size w w4 := (L3.trans ((below_alloc _ _).mono L3.size)).trans (hb4.mono (by have := L3.size; simp; omega))
  go_wp2_with fail
  go_ret
  exact ⟨rfl, L4⟩

/-! ### package slices -/
theorem idx_any (a : Option Addr) (n c : Nat) (xs : List Int) (x : Int) (w : World) (hv : Sl w 1 a n c (iv xs)) :
    Calls Try.prog 44 #[.slice a n c, .int .i64 x] w fun e w' => ∃ r : Int, e = .returned (.int .i64 r) ∧ Hid (0 ≤ r ↔ x ∈ xs) ∧ Below w.heap.size w w' := by
  have hn : n = xs.length := by have := hv.len; rw [iv_len] at this; omega
  have hc := hv.cap; have hle := hv.le
  have hm : n ≤ maxLen := by omega
  unfold maxLen at hm
  have HV := Lib.hid hv; have HN := Lib.hid hn
  clear hv hn hc hle
  go_enter Try.func44, Try.ntmps44
  go_wp2_with fail
  go_loopw [8] (fun i wr => ∃ k : Nat, k ≤ n ∧ i = .int .i64 k ∧ Hid (x ∉ xs.take k) ∧ Below w.heap.size w wr) (fun i _ => n - (intOf i).toNat)
  case atStart => exact ⟨0, Nat.zero_le _, rfl, by simp [Hid], Below.refl _ _⟩
  case round =>
    obtain ⟨k, hk, rfl, HT, hb⟩ := hrel
    by_cases hlt : k < n
    · obtain ⟨y, hy⟩ : ∃ y, xs[k]? = some y := ⟨_, List.getElem?_eq_getElem (show k < xs.length by have := HN.out; omega)⟩
      obtain ⟨b, o, rfl, hc⟩ := HV.out.at_ (by omega)
      have cy := cell_keep (hc k _ (iv_get hy)) hb
      have HY := Lib.hid hy
      clear hy hc
      by_cases hxy : x = y
      · have HR : Hid (0 ≤ (k : Int) ↔ x ∈ xs) := ⟨fun _ => by rw [hxy]; exact List.mem_of_getElem? HY.out, fun _ => by omega⟩
        have q1 : (x == y) = true := by simp [hxy]
        clear hxy
        go_wp2_with fail
        all_goals (try go_quiet (fail))
        go_wp2_with fail
        go_ret
        exact ⟨k, rfl, HR, hb⟩
      · have HT2 : Hid (x ∉ xs.take (k + 1)) := by
          show _ ∉ _
          rw [List.take_add_one, HY.out]
          simp
          exact ⟨HT.out, hxy⟩
        have q1 : (x == y) = false := by simp [hxy]
        clear hxy
        go_wp2_with fail
        go_roundw
        case rel => exact ⟨k + 1, by omega, by go_num, HT2, hb⟩
        case measure => simp [intOf]; omega
    · have HR : Hid (0 ≤ (-1 : Int) ↔ x ∈ xs) := by
        refine ⟨fun h => by omega, fun h => ?_⟩
        have := HT.out
        rw [List.take_of_length_le (by have := HN.out; omega)] at this
        exact absurd h this
      go_wp2_with fail
      go_ret
      exact ⟨-1, rfl, HR, hb⟩
theorem contains_any (a : Option Addr) (n c : Nat) (xs : List Int) (x : Int) (w : World) (hv : Sl w 1 a n c (iv xs)) :
    Calls Try.prog 30 #[.slice a n c, .int .i64 x] w fun e w' => e = .returned (.bool (decide (x ∈ xs))) ∧ Below w.heap.size w w' := by
  have HI := Lib.hid (idx_any a n c xs x w hv)
  clear hv
  by_cases h : x ∈ xs
  · have HX := Lib.hid h
    rw [decide_eq_true h]
    clear h
    go_enter Try.func30, Try.ntmps30
    go_wp2_with fail
    refine HI.out.mono ?_; rintro e w1 ⟨r, rfl, HR, hb⟩
    have h0 : 0 ≤ r := HR.out.2 HX.out
    clear HR
    go_wp2_with fail
    go_ret
    exact ⟨rfl, hb⟩
  · have HX := Lib.hid h
    rw [decide_eq_false h]
    clear h
    go_enter Try.func30, Try.ntmps30
    go_wp2_with fail
    refine HI.out.mono ?_; rintro e w1 ⟨r, rfl, HR, hb⟩
    have h0 : decide (0 ≤ r) = false := decide_eq_false fun q => HX.out (HR.out.1 q)
    clear HR
    go_wp2_with fail
    go_ret
    exact ⟨rfl, hb⟩
theorem less_no (x y : Int) (h : y ≤ x) (w : World) : Calls Try.prog 45 #[.int .i64 x, .int .i64 y] w fun e w' => e = .returned (.bool false) ∧ w' = w := by
  have q1 : (x != x) = false := by simp
  have h' : ¬ x < y := by omega
  go_enter Try.func45, Try.ntmps45
  go_wp2
  go_ret
  exact ⟨rfl, rfl⟩
theorem sorted_yes (a : Option Addr) (n c : Nat) (xs : List Int) (w : World) (hv : Sl w 1 a n c (iv xs)) (hs : ∀ (i : Nat) x y, xs[i]? = some x → xs[i + 1]? = some y → x ≤ y) :
    Calls Try.prog 31 #[.slice a n c] w fun e w' => e = .returned (.bool true) ∧ Below w.heap.size w w' := by
  have hn : n = xs.length := by have := hv.len; rw [iv_len] at this; omega
  have hc := hv.cap; have hle := hv.le
  have hm : n ≤ maxLen := by omega
  unfold maxLen at hm
  have HV := Lib.hid hv; have HN := Lib.hid hn; have HS := Lib.hid hs
  clear hv hn hc hle hs
  go_enter Try.func31, Try.ntmps31
  go_wp2_with fail
  go_loopw [3] (fun i wr => ∃ k : Int, -1 ≤ k ∧ k < n ∧ i = .int .i64 k ∧ Below w.heap.size w wr) (fun i _ => (intOf i).toNat)
  case atStart => exact ⟨(n : Int) - 1, by omega, by omega, rfl, Below.refl _ _⟩
  case round =>
    obtain ⟨k, hk1, hk2, rfl, hb⟩ := hrel
    by_cases hlt : 0 < k
    · obtain ⟨j, rfl⟩ : ∃ j : Nat, k = ((j + 1 : Nat) : Int) := ⟨(k - 1).toNat, by omega⟩
      obtain ⟨y, hy⟩ : ∃ y, xs[j + 1]? = some y := ⟨_, List.getElem?_eq_getElem (show j + 1 < xs.length by have := HN.out; omega)⟩
      obtain ⟨x, hx⟩ : ∃ x, xs[j]? = some x := ⟨_, List.getElem?_eq_getElem (show j < xs.length by have := HN.out; omega)⟩
      have hxy := HS.out j x y hx hy
      obtain ⟨b, o, rfl, hc⟩ := HV.out.at_ (by omega)
      have cx := cell_keep (hc j _ (iv_get hx)) hb
      have cy := cell_keep (hc (j + 1) _ (iv_get hy)) hb
      have e1 : (((j + 1 : Nat) : Int) - 1).toNat = j := by omega
      have e2 : ((j + 1 : Nat) : Int).toNat = j + 1 := by omega
      have i1 : (0 : Int) ≤ ((j + 1 : Nat) : Int) - 1 := by omega
      have i2 : ((j + 1 : Nat) : Int) - 1 < n := by omega
      clear hx hy hc
      go_wp2_with fail
      go_quiet ((go_at_call 45; exact Calls.quiet_of_same (less_no _ _ hxy _)))
      go_wp2_with fail
      go_roundw
      case rel => exact ⟨j, by omega, by omega, by first | rfl | go_num, hb.trans (Joins.below_draws _ _ _)⟩
      case measure => simp [intOf]
    · go_wp2_with fail
      go_ret
      exact ⟨rfl, hb⟩
end Go.Proofs.Ytepegjihlppkcaa.Find
