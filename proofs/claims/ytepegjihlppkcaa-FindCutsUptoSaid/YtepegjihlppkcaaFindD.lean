/- The law FindLess: the walk. -/
import Derived.Test.YtepegjihlppkcaaFindC
namespace Go.Proofs.Ytepegjihlppkcaa.Find
open Go.ChangeShapes Go.WideShapes Go.ChangeAt Go.RowKit
open Go.Proofs.Ytepegjihlppkcaa.Com Go.Proofs.Ytepegjihlppkcaa.Slices Go.Proofs.Ytepegjihlppkcaa.FindP Go.Proofs.Ytepegjihlppkcaa.Args
set_option maxRecDepth 100000

theorem cInt : Try.prog.cellsOf 3 = 1 := by kernel_rfl
theorem bInt : Try.prog.bytesOf 3 = 8 := by kernel_rfl
theorem ints_sl {w : World} {v : Value} (h : Arg none Try.prog w 22 v) : ∃ a c xs, v = .slice a xs.length c ∧ Sl w 1 a xs.length c (iv xs) ∧ xs.length * 8 ≤ 140737488351232 := by
  obtain ⟨v', rfl, hr, _⟩ := h.slice Try.underlying22
  have hm : (∀ c, v = .slice none 0 c → c = 0) ∧ ∀ a c, v = .slice a 0 c → c ≤ maxLen := by
    rcases hr.slice Try.underlying22 with q | ⟨a', l, c', q, _, q3, _⟩
    · simp at q; subst q
      exact ⟨fun c e => by injection e with _ _ e; omega, fun a c e => by injection e with _ _ e; omega⟩
    · simp at q; subst q
      exact ⟨fun c e => by simp at e, fun a c e => by injection e with _ _ e; omega⟩
  obtain ⟨xs, h1, _, h2⟩ := hr.ints Try.underlying22 Try.underlying3 cInt
  rw [bInt] at h2
  obtain ⟨a, c, e, hs⟩ := Sl.of_rs h1 hm.1 hm.2
  have e1 : (xs.map (Value.int .i64)).length = xs.length := by simp
  rw [e1] at e hs
  exact ⟨a, c, xs, e, hs, h2⟩
theorem nv_get {l : List Nat} {i : Nat} {x : Nat} (h : l[i]? = some x) : (nv l)[i]? = some (x : Int) := by simp [nv, h]
theorem nv_sorted (p t : L) (i : Nat) (x y : Int) (hx : (nv (occ p t))[i]? = some x) (hy : (nv (occ p t))[i + 1]? = some y) : x ≤ y := by
  simp only [nv, List.getElem?_map, Option.map_eq_some_iff] at hx hy
  obtain ⟨a, ha, rfl⟩ := hx
  obtain ⟨b, hb, rfl⟩ := hy
  have := List.pairwise_iff_getElem.1 (occ_sorted p t) i (i + 1) (List.getElem?_eq_some_iff.1 ha).1 (List.getElem?_eq_some_iff.1 hb).1 (by omega)
  rw [(List.getElem?_eq_some_iff.1 ha).2, (List.getElem?_eq_some_iff.1 hb).2] at this
  omega

set_option maxHeartbeats 4000000 in
theorem less_walk (v0 v1 v2 : Value) (w : World) (h0 : Arg none Try.prog w 22 v0) (h1 : Arg none Try.prog w 22 v1) (h2 : Arg none Try.prog w 3 v2) :
    Calls Try.prog 10 #[v0, v1, v2] w fun e w' => e = .returned (.bool true) ∧ Below w.heap.size w w' := by
  obtain ⟨a1, c1, t, rfl, ht, f1⟩ := ints_sl h0
  obtain ⟨a2, c2, p, rfl, hp, f2⟩ := ints_sl h1
  obtain ⟨n, rfl, _⟩ := h2.int Try.underlying3
  clear h0 h1 h2
  generalize hN' : t.length = N at *
  generalize hM' : p.length = M at *
  have hN := hN'.symm
  have hM := hM'.symm
  clear hN' hM'
  by_cases hm : M < 1 ∨ 200 < M
  · clear ht hp hN hM
    go_enter Try.func10, Try.ntmps10
    go_wp2_with fail
    refine (In_no _ a2 M c2 hm _).mono ?_; rintro e w1 ⟨rfl, rfl⟩
    go_wp2_with fail
    refine (lives _).mono ?_; rintro e w2 ⟨rfl, hb2⟩
    go_wp2_with fail
    refine (lives _).mono ?_; rintro e w3 ⟨rfl, hb3⟩
    go_wp2_with fail
    go_ret
    exact ⟨rfl, bt hb2 hb3⟩
  have m1 : 1 ≤ M := by omega
  have m2 : M ≤ 200 := by omega
  clear hm
  by_cases hn0 : 100000 < N
  · clear ht hp hN hM
    go_enter Try.func10, Try.ntmps10
    go_wp2_with fail
    refine (In_large a1 N c1 a2 M c2 m1 m2 hn0 _).mono ?_; rintro e w1 ⟨rfl, rfl⟩
    go_wp2_with fail
    refine (lives _).mono ?_; rintro e w2 ⟨rfl, hb2⟩
    go_wp2_with fail
    refine (lives _).mono ?_; rintro e w3 ⟨rfl, hb3⟩
    go_wp2_with fail
    go_ret
    exact ⟨rfl, bt hb2 hb3⟩
  have n2 : N ≤ 100000 := by omega
  clear hn0
  have F1 := Lib.hid (In_ok t p a1 a2 N M c1 c2 hN n2 hM m1 m2 w ht hp)
  have HT := Lib.hid ht; have HP := Lib.hid hp
  have HN := Lib.hid hN; have HM := Lib.hid hM
  clear ht hp hN hM
  by_cases hn : n < 1 ∨ (M : Int) < n
  · rcases hn with hn | hn
    all_goals
      go_enter Try.func10, Try.ntmps10
      go_wp2_with fail
      refine F1.out.mono ?_; rintro e w1 ⟨v1, rfl, ho1, hb1⟩
      clear ho1
      go_wp2_with fail
      refine (lives _).mono ?_; rintro e w2 ⟨rfl, hb2⟩
      go_wp2_with fail
      refine (lives _).mono ?_; rintro e w3 ⟨rfl, hb3⟩
      go_wp2_with fail
      go_ret
      exact ⟨rfl, bt (bt hb1 hb2) hb3⟩
  obtain ⟨k, rfl⟩ : ∃ k : Nat, n = (k : Int) := ⟨n.toNat, by omega⟩
  have k1 : 1 ≤ k := by omega
  have k2 : k ≤ M := by omega
  clear hn
  have hsub := Lib.hid (less_sub p t k (by have := HM.out; omega))
  have lk : k = (p.take k).length := by have := HM.out; simp; omega
  have HK := Lib.hid lk
  have hle2 := HP.out.le
  have z1 : decide (M < k) = false := decide_eq_false (by omega)
  have z2 : decide ((k : Int) < 1) = false := decide_eq_false (by omega)
  clear lk
  go_enter Try.func10, Try.ntmps10
  go_wp2_with fail
  refine F1.out.mono ?_; rintro e w1 ⟨v1, rfl, ho1, hb1⟩
  obtain ⟨a3, c3, rfl, s1⟩ := ho1.sl
  rw [iv_len, nv_len] at s1
  simp only [iv_len, nv_len] at ho1 ⊢
  have S1 := Lib.hid s1
  clear F1 s1 ho1
  go_wp2_with fail
  refine (lives _).mono ?_; rintro e w2 ⟨rfl, hb2⟩
  have L2 := bt hb1 hb2
  go_wp2_with fail
  refine (In_ok t (p.take k) a1 a2 N k c1 c2 HN.out n2 HK.out k1 (by omega) w2 (HT.out.keep L2) (by have := (HP.out.take k2).keep L2; rw [Nat.mul_one, iv_take] at this; exact this)).mono ?_
  rintro e w3 ⟨v2, rfl, ho2, hb3⟩
  obtain ⟨a4, c4, rfl, s2⟩ := ho2.sl
  rw [iv_len, nv_len] at s2
  simp only [iv_len, nv_len] at ho2 ⊢
  have S2 := Lib.hid s2
  clear s2 ho2
  have L3 := bt L2 hb3
  have S1' := Lib.hid ((S1.out.keep hb2).keep hb3)
  have hq : (occ p t).length ≤ (occ (p.take k) t).length := hsub.out.length_le
  have q1 : (occ p t).length ≤ N + 1 := by have := occ_len p t; have := HN.out; omega
  have q2 : (occ (p.take k) t).length ≤ N + 1 := by have := occ_len (p.take k) t; have := HN.out; omega
  generalize hX : (occ p t).length = X at *
  generalize hY : (occ (p.take k) t).length = Y at *
  have HX := Lib.hid hX.symm; have HY := Lib.hid hY.symm
  clear hX hY S1 hb1 hb2 hb3 L2
  go_wp2_with fail
  go_loopw [46] (fun ii wr => ∃ i : Nat, i ≤ X ∧ ii = .int .i64 i ∧ Below w3.heap.size w3 wr) (fun ii _ => X - (intOf ii).toNat)
  case atStart => exact ⟨0, by omega, rfl, Below.refl _ _⟩
  case round =>
    obtain ⟨i, hi, rfl, hb⟩ := hrel
    by_cases hlt : i < X
    · obtain ⟨x, hx⟩ : ∃ x, (occ p t)[i]? = some x := ⟨_, List.getElem?_eq_getElem (show i < (occ p t).length by have := HX.out; omega)⟩
      obtain ⟨b, o, rfl, hc⟩ := S1'.out.at_ (by omega)
      have cx := cell_keep (hc i _ (iv_get (nv_get hx))) hb
      have hmem : (x : Int) ∈ nv (occ (p.take k) t) := by
        have := hsub.out.subset (List.mem_of_getElem? hx)
        simp only [nv, List.mem_map]
        exact ⟨x, this, rfl⟩
      have HI := Lib.hid (fun W h => contains_any a4 Y c4 _ (x : Int) W (S2.out.keep h))
      have HM := Lib.hid hmem
      clear hx hc hmem
      go_wp2_with fail
      refine (HI.out _ hb).mono ?_; rintro e w4 ⟨rfl, hb4⟩
      rw [decide_eq_true HM.out]
      go_wp2_with fail
      go_roundw
      case rel => exact ⟨i + 1, by omega, by go_num, bt hb hb4⟩
      case measure => simp [intOf]; omega
    · have HI := Lib.hid (fun W h => sorted_yes a4 Y c4 _ W (S2.out.keep h) (nv_sorted _ _))
      go_wp2_with fail
      refine (HI.out _ hb).mono ?_; rintro e w4 ⟨rfl, hb4⟩
      go_wp2_with fail
      go_ret
      exact ⟨rfl, bt L3 (bt hb hb4)⟩
end Go.Proofs.Ytepegjihlppkcaa.Find
