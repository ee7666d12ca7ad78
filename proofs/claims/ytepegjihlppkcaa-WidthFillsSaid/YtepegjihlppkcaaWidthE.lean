/- The law WidthFills: the walk. -/
import Derived.Test.YtepegjihlppkcaaWidthD
namespace Go.Proofs.Ytepegjihlppkcaa.Width
open Go.ChangeShapes Go.WideShapes Go.ChangeAt Go.RowKit
open Go.Proofs.Ytepegjihlppkcaa.Com Go.Proofs.Ytepegjihlppkcaa.Row Go.Proofs.Ytepegjihlppkcaa.Args
set_option maxRecDepth 100000

theorem fills_walk (v0 v1 : Value) (w : World) (h0 : Arg none Try.prog w 22 v0) (h1 : Arg none Try.prog w 3 v1) :
    Calls Try.prog 3 #[v0, v1] w fun e w' => e = .returned (.bool true) ∧ Below w.heap.size w w' := by
  obtain ⟨xs, hv, hnc, hfit⟩ := ints_arg h0
  obtain ⟨n, rfl, _⟩ := h1.int Try.underlying3
  clear h0 h1
  have hlen : xs.length * 8 ≤ 140737488351232 := hfit
  clear hfit
  by_cases hn : n < 0 ∨ 160 < n
  · go_enter Try.func3, Try.ntmps3
    go_wp2_with fail
    refine (fill_no _ n hn _).mono ?_; rintro e w1 ⟨rfl, rfl⟩
    go_wp2_with fail
    refine (lives _).mono ?_; rintro e w2 ⟨rfl, hb2⟩
    go_wp2_with fail
    refine (lives _).mono ?_; rintro e w3 ⟨rfl, hb3⟩
    go_wp2_with fail
    go_ret
    exact ⟨rfl, hb2.trans (hb3.mono hb2.size)⟩
  · have n0 : 0 ≤ n := by omega
    have n1 : n ≤ 160 := by omega
    have F1 := Lib.hid (fun W h => fill_ok v0 xs n n0 n1 W h hnc (by omega))
    have hl := fill_len n n0 xs
    have hs := fill_sum n n0 xs
    have ha := fill_again n n0 xs
    generalize fillS n xs = ys at *
    have HS := Lib.hid hs; have HA := Lib.hid ha; have HV := Lib.hid hv
    have hl2 : (ys.length + 160) * 8 ≤ 140737488355328 := by omega
    have hl3 : ys.length ≤ 140737488355328 := by omega
    clear hn hs ha hv hnc hl
    go_enter Try.func3, Try.ntmps3
    go_wp2_with fail
    refine (F1.out _ HV.out).mono ?_; rintro e w1 ⟨v2, rfl, ho1, hb1⟩
    go_wp2_with fail
    refine (lives _).mono ?_; rintro e w2 ⟨rfl, hb2⟩
    have L2 := hb1.trans (hb2.mono hb1.size)
    have r1 := (ho1.rs).keep hb2
    have nc := own_nilcap ho1
    go_wp2_with fail
    refine (fill_ok v2 ys n n0 n1 _ r1 nc hl2).mono ?_; rintro e w3 ⟨v3, rfl, ho3, hb3⟩
    rw [HA.out] at ho3
    have L3 := L2.trans (hb3.mono L2.size)
    have r3 := r1.keep hb3
    have r4 := ho3.rs
    go_wp2_with fail
    refine (sum_any v2 ys _ r3 hl3).mono ?_; rintro e w4 ⟨rfl, hb4⟩
    have L4 := L3.trans (hb4.mono L3.size)
    rw [HS.out]
    go_wp2_with fail
    refine (EqInt.eq_ints v2 v3 ys ys _ (r3.keep hb4) (r4.keep hb4)).mono ?_; rintro e w5 ⟨rfl, hb5⟩
    have L5 := L4.trans (hb5.mono L4.size)
    rw [decide_eq_true rfl]
    go_wp2_with fail
    go_ret
    exact ⟨rfl, L5⟩
end Go.Proofs.Ytepegjihlppkcaa.Width
