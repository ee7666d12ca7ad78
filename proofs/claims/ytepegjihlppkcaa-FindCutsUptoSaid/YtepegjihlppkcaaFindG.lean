/- The law FindCuts: its parts. -/
import Derived.Test.YtepegjihlppkcaaFindF
namespace Go.Proofs.Ytepegjihlppkcaa.Find
open Go.ChangeShapes Go.WideShapes Go.ChangeAt Go.RowKit
open Go.Proofs.Ytepegjihlppkcaa.Com Go.Proofs.Ytepegjihlppkcaa.Slices Go.Proofs.Ytepegjihlppkcaa.FindP Go.Proofs.Ytepegjihlppkcaa.Args Go.Proofs.Ytepegjihlppkcaa.Reg
set_option maxRecDepth 100000

theorem del_anyA (p : Int → Bool) (xs : List Int) (v : Value) (B g5 g3 : Nat) (w : World) (hown : Own w B 3 v (iv xs)) (hcall : ∀ x ∈ xs, ∀ W, Below B w W → Calls Try.prog 33 #[.int .i64 x, .pointer (some ⟨g5, 0, none⟩), .pointer (some ⟨g3, 0, none⟩)] W fun e w' => e = .returned (.bool (p x)) ∧ W = w') :
    Calls Try.prog 32 #[v, .func (.func 33) #[] #[.pointer (some ⟨g5, 0, none⟩), .pointer (some ⟨g3, 0, none⟩)]] w fun e w' => ∃ v2, e = .returned v2 ∧ Own w' B 3 v2 (iv (kept p xs)) ∧ Below B w w' := by
  obtain ⟨a, c, rfl, hs⟩ := hown.sl
  rw [iv_len] at hs
  simp only [iv_len] at hown ⊢
  rcases Own.row hown with ⟨rfl, h0, rfl⟩ | ⟨g, cur, rfl, _, _, _⟩
  · have e0 : xs = [] := List.eq_nil_of_length_eq_zero h0
    subst e0
    have HI := Lib.hid (idxfA p [] none 0 0 B g5 g3 w rfl hs hcall)
    clear hs hcall hown h0
    show Calls Try.prog 32 #[.slice none 0 0, _] w _
    go_enter Try.func32, Try.ntmps32
    go_wp2_with fail
    refine HI.out.mono ?_; rintro e w1 ⟨rfl, h | ⟨k, hk, _⟩⟩
    · obtain ⟨rfl, _⟩ := h
      go_wp2_with fail
      go_ret
      exact ⟨_, rfl, Own.nil _ _ _, Below.refl _ _⟩
    · omega
  · exact (delA p xs g xs.length c B g5 g3 w rfl hown hcall).mono fun e w' ⟨i, h1, h2, h3⟩ => ⟨_, h1, h2, h3⟩
theorem del_anyB (p : Int → Bool) (xs : List Int) (v : Value) (B g3 : Nat) (w : World) (hown : Own w B 3 v (iv xs)) (hcall : ∀ x ∈ xs, ∀ W, Below B w W → Calls Try.prog 34 #[.int .i64 x, .pointer (some ⟨g3, 0, none⟩)] W fun e w' => e = .returned (.bool (p x)) ∧ W = w') :
    Calls Try.prog 32 #[v, .func (.func 34) #[] #[.pointer (some ⟨g3, 0, none⟩)]] w fun e w' => ∃ v2, e = .returned v2 ∧ Own w' B 3 v2 (iv (kept p xs)) ∧ Below B w w' := by
  obtain ⟨a, c, rfl, hs⟩ := hown.sl
  rw [iv_len] at hs
  simp only [iv_len] at hown ⊢
  rcases Own.row hown with ⟨rfl, h0, rfl⟩ | ⟨g, cur, rfl, _, _, _⟩
  · have e0 : xs = [] := List.eq_nil_of_length_eq_zero h0
    subst e0
    have HI := Lib.hid (idxfB p [] none 0 0 B g3 w rfl hs hcall)
    clear hs hcall hown h0
    show Calls Try.prog 32 #[.slice none 0 0, _] w _
    go_enter Try.func32, Try.ntmps32
    go_wp2_with fail
    refine HI.out.mono ?_; rintro e w1 ⟨rfl, h | ⟨k, hk, _⟩⟩
    · obtain ⟨rfl, _⟩ := h
      go_wp2_with fail
      go_ret
      exact ⟨_, rfl, Own.nil _ _ _, Below.refl _ _⟩
    · omega
  · exact (delB p xs g xs.length c B g3 w rfl hown hcall).mono fun e w' ⟨i, h1, h2, h3⟩ => ⟨_, h1, h2, h3⟩
def pA (N M : Nat) (x : Int) : Bool := decide ((N : Int) < x + M)
def pB (N : Nat) (x : Int) : Bool := decide (x < (N : Int))
theorem fnA (x : Int) (g5 g3 : Nat) (ap aa : Option Addr) (M cp N ca : Nat) (W : World) (h5 : W.cell? ⟨g5, 0, none⟩ = some (.slice ap M cp)) (h3 : W.cell? ⟨g3, 0, none⟩ = some (.slice aa N ca)) (hx : 0 ≤ x) (hx2 : x ≤ 200000) (hM : M ≤ 200) :
    Calls Try.prog 33 #[.int .i64 x, .pointer (some ⟨g5, 0, none⟩), .pointer (some ⟨g3, 0, none⟩)] W fun e w' => e = .returned (.bool (pA N M x)) ∧ W = w' := by
  by_cases h : (N : Int) < x + M
  · have HR : Hid (pA N M x = true) := decide_eq_true h
    have z := decide_eq_true h
    go_enter Try.func33, Try.ntmps33
    go_wp2_with fail
    go_ret
    exact ⟨by rw [HR.out]; rfl, rfl⟩
  · have HR : Hid (pA N M x = false) := decide_eq_false h
    have z := decide_eq_false h
    go_enter Try.func33, Try.ntmps33
    go_wp2_with fail
    go_ret
    exact ⟨by rw [HR.out]; rfl, rfl⟩
theorem fnB (x : Int) (g3 : Nat) (aa : Option Addr) (N ca : Nat) (W : World) (h3 : W.cell? ⟨g3, 0, none⟩ = some (.slice aa N ca)) :
    Calls Try.prog 34 #[.int .i64 x, .pointer (some ⟨g3, 0, none⟩)] W fun e w' => e = .returned (.bool (pB N x)) ∧ W = w' := by
  by_cases h : x < (N : Int)
  · have HR : Hid (pB N x = true) := decide_eq_true h
    have z := decide_eq_true h
    go_enter Try.func34, Try.ntmps34
    go_wp2_with fail
    go_ret
    exact ⟨by rw [HR.out]; rfl, rfl⟩
  · have HR : Hid (pB N x = false) := decide_eq_false h
    have z := decide_eq_false h
    go_enter Try.func34, Try.ntmps34
    go_wp2_with fail
    go_ret
    exact ⟨by rw [HR.out]; rfl, rfl⟩
theorem front_eq (p a b : L) : kept (pA a.length p.length) (nv (occ p (a ++ b))) = nv (occ p a) := by
  rw [← cut_front p a b]
  unfold kept nv
  rw [List.filter_map]
  congr 1
  refine List.filter_congr fun i _ => ?_
  rw [Bool.eq_iff_iff]; simp [pA]; omega
theorem behind_eq (p a b : L) : (kept (pB a.length) (nv (occ p (a ++ b)))).map (fun x => x - (a.length : Int)) = nv (occ p b) := by
  rw [← cut_behind p a b]
  unfold kept nv
  rw [List.filter_map, List.map_map, List.map_map]
  have e : (List.filter ((fun x => !pB a.length x) ∘ fun (k : Nat) => (k : Int)) (occ p (a ++ b))) = (occ p (a ++ b)).filter fun i => decide (a.length ≤ i) := by
    refine List.filter_congr fun i _ => ?_
    rw [Bool.eq_iff_iff]; simp [pB]
  rw [e]
  refine List.map_congr_left fun i hi => ?_
  have := (List.mem_filter.1 hi).2
  simp at this ⊢; omega
theorem occ_le (p t : L) (x : Int) (hx : x ∈ nv (occ p t)) : 0 ≤ x ∧ x ≤ t.length := by
  simp only [nv, List.mem_map] at hx
  obtain ⟨i, hi, rfl⟩ := hx
  have := (mem_occ.1 hi).1
  omega
theorem In_any (t p : L) (a1 a2 : Option Addr) (N n c1 c2 : Nat) (hN : N = t.length) (hn : n = p.length) (h1 : 1 ≤ n) (h2 : n ≤ 200) (w : World) (ht : Sl w 1 a1 N c1 (iv t)) (hv : Sl w 1 a2 n c2 (iv p)) :
    Calls Try.prog 29 #[.slice a1 N c1, .slice a2 n c2] w fun e w' => ∃ v er, e = .returned (.tuple #[v, .int .i64 er]) ∧ Below w.heap.size w w' := by
  by_cases h : N ≤ 100000
  · exact (In_ok t p a1 a2 N n c1 c2 hN h hn h1 h2 w ht hv).mono fun e w' ⟨v, h3, _, h4⟩ => ⟨v, 0, h3, h4⟩
  · exact (In_large a1 N c1 a2 n c2 h1 h2 (by omega) w).mono fun e w' ⟨h3, h4⟩ => ⟨_, 2, h3, h4 ▸ Below.refl _ _⟩
end Go.Proofs.Ytepegjihlppkcaa.Find
