/- Contracts of package slices at []int: Clone. -/
import Derived.Test.YtepegjihlppkcaaMem
import Derived.Test.YtepegjihlppkcaaReg
namespace Go.Proofs.Ytepegjihlppkcaa.Slices
open Go.ChangeShapes Go.WideShapes Go.ChangeAt Go.RowKit
open Go.Proofs.Ytepegjihlppkcaa.Com Go.Proofs.Ytepegjihlppkcaa.Reg
set_option maxRecDepth 100000

def iv (xs : List Int) : List Value := xs.map (Value.int .i64)
theorem iv_len (xs : List Int) : (iv xs).length = xs.length := by simp [iv]
theorem iv_get {xs : List Int} {i : Nat} {x : Int} (h : xs[i]? = some x) : (iv xs)[i]? = some (.int .i64 x) := by simp [iv, h]
theorem iv_take (xs : List Int) (k : Nat) : (iv xs).take k = iv (xs.take k) := by simp [iv, List.map_take]
theorem iv_drop (xs : List Int) (k : Nat) : (iv xs).drop k = iv (xs.drop k) := by simp [iv, List.map_drop]
theorem iv_app (xs ys : List Int) : iv (xs ++ ys) = iv xs ++ iv ys := by simp [iv]
theorem iv_set (xs : List Int) (i : Nat) (x : Int) : iv (xs.set i x) = (iv xs).set i (.int .i64 x) := by simp [iv, List.map_set]
theorem infoInt : (Try.prog.info? 3).map (fun i => (i.zero, i.size, i.bytes)) = some (some (.int .i64 0), 1, 8) := by kernel_rfl
theorem iv_one (xs : List Int) : ∀ u ∈ iv xs, u.oneCell' = true := by
  intro u hu
  simp only [iv, List.mem_map] at hu
  obtain ⟨a, _, rfl⟩ := hu
  rfl

theorem clone_any (ad : Option Addr) (L c : Nat) (xs : List Int) (w : World) (hv : Sl w 1 ad L c (iv xs)) (hm : xs.length * 8 ≤ 140737488355328) :
    Calls Try.prog 17 #[.slice ad L c] w fun e w' => ∃ v', e = .returned v' ∧ Own w' w.heap.size 3 v' (iv xs) ∧ Below w.heap.size w w' := by
  obtain ⟨i0, hi, hz0, hz1, hz2⟩ := info_parts infoInt
  have hL : L = xs.length := by have := hv.len; rw [iv_len] at this; omega
  cases ad with
  | none =>
    have h0 := hv.nil rfl
    have h1 := hv.le
    have e0 : xs = [] := List.eq_nil_of_length_eq_zero (by omega)
    subst e0
    obtain rfl : c = 0 := h0
    obtain rfl : L = 0 := by omega
    have q22 := fun (w : World) => Lib.run_eql_slice_nil (P := Try.prog) w 22 _ none 0 0 0 0 Try.underlying22
    clear hv hL
    go_enter Try.func17, Try.ntmps17
    go_wp2_with fail
    go_ret
    exact ⟨_, rfl, Own.nil _ _ _, Below.refl _ _⟩
  | some ad =>
    have q22 := fun (w : World) => Lib.run_eql_slice_nil (P := Try.prog) w 22 _ (some ad) L c 0 0 Try.underlying22
    have hr := hv.rs
    have hone := iv_one xs
    have h18 : 1 ≤ 8 := by decide
    have hnc := hv.nilcap
    have hkm : (([] : List Value).length + (iv xs).length) * 8 ≤ 140737488355328 := by simp [iv]; omega
    have hown : Own (w.alloc (.cells #[] 3)) w.heap.size 3 (.slice (some ⟨w.heap.size, 0, none⟩) 0 0) [] := World.ownsRow_made w #[] 0 (Nat.le_refl _) (Nat.zero_le _) (by simp)
    have hsz : w.heap.size ≤ (w.alloc (.cells #[] 3)).heap.size := by simp
    have hr2 := Lib.hid (hr.keep (below_alloc w (.cells #[] 3)))
    clear hv hL hr
    go_enter Try.func17, Try.ntmps17
    go_wp2_with (at_builtin; refine wpList_app_src rfl (.tmp 5) (.tmp 6) 22 3 rfl w.heap.size i0 _ 8 Try.underlying22 hi hz0 hz1 hz2 rfl _ [] rfl hown _ (iv xs) rfl hr2.out hnc hone h18 hkm hsz ?_; intro v1 w2 hown1 hb2)
    go_ret
    exact ⟨_, rfl, hown1, (below_alloc w _).trans hb2⟩
end Go.Proofs.Ytepegjihlppkcaa.Slices
