/- Contracts of package find: in, Borders, In. -/
import Derived.Test.YtepegjihlppkcaaFindA
namespace Go.Proofs.Ytepegjihlppkcaa.Find
open Go.ChangeShapes Go.WideShapes Go.ChangeAt Go.RowKit
open Go.Proofs.Ytepegjihlppkcaa.Com Go.Proofs.Ytepegjihlppkcaa.Slices Go.Proofs.Ytepegjihlppkcaa.FindP
set_option maxRecDepth 100000

theorem nv_app (a b : List Nat) : nv (a ++ b) = nv a ++ nv b := by simp [nv]
theorem occ_next (p t : L) (i k : Nat) (c : Int) (hp : 1 ≤ p.length) (hi : t[i]? = some c) (h : Mat p (t.take (i + 1)) k) :
    nv (occ p (t.take (i + 1))) = nv (occ p (t.take i)) ++ if k = p.length then [((i : Int) - k + 1)] else [] := by
  obtain ⟨hlt, he⟩ := List.getElem?_eq_some_iff.1 hi
  have e : t.take (i + 1) = t.take i ++ [c] := by rw [List.take_succ_eq_append_getElem hlt, he]
  have hf := h.full
  rw [e] at hf ⊢
  rw [occ_snoc _ _ _ hp, nv_app]
  congr 1
  by_cases hk : k = p.length
  · rw [if_pos hk, if_pos (hf.1 hk)]
    have hl : (t.take i).length = i := by simp; omega
    have hs := (hf.1 hk).length_le
    simp only [List.length_append, hl, List.length_singleton] at hs
    simp [nv, hl]; omega
  · rw [if_neg hk, if_neg (fun q => hk (hf.2 q))]; rfl

set_option maxHeartbeats 8000000 in
theorem in_any (t p : L) (a1 a2 : Option Addr) (N n c1 c2 : Nat) (hN : N = t.length) (hN2 : N ≤ 100000) (hn : n = p.length) (h1 : 1 ≤ n) (h2 : n ≤ 200) (w : World) (ht : Sl w 1 a1 N c1 (iv t)) (hv : Sl w 1 a2 n c2 (iv p)) :
    Calls Try.prog 43 #[.slice a1 N c1, .slice a2 n c2] w fun e w' => ∃ v, e = .returned v ∧ Own w' w.heap.size 3 v (iv (nv (occ p t))) ∧ Below w.heap.size w w' := by
  obtain ⟨i0, hi, hz0, hz1, hz2⟩ := info_parts infoInt
  have HBo := Lib.hid (borders_any p a2 n c2 hn h1 h2 w hv)
  obtain ⟨b, o, rfl, hc⟩ := hv.at_ (by omega)
  have HC' := Lib.hid (fun (j : Nat) (x : Int) (hj : p[j]? = some x) => hc j _ (iv_get hj))
  have HT := Lib.hid ht
  have HN := Lib.hid hn; have HN2 := Lib.hid hN
  clear hc hv hn hN ht
  go_enter Try.func43, Try.ntmps43
  go_wp2_with fail
  refine HBo.out.mono ?_; rintro e w1 ⟨v5, bs, rfl, hbs, hob, hb1⟩
  obtain ⟨a5, c5, rfl, hs5⟩ := hob.sl
  have e5 : (iv (nv bs)).length = n := by rw [iv_len, nv_len, hbs.1, HN.out]
  rw [e5] at hs5 ⊢
  obtain ⟨b5, o5, rfl, hc5⟩ := hs5.at_ (by omega)
  have H5 := Lib.hid hc5; have HBS := Lib.hid hbs
  clear hob hs5 hc5 hbs e5 HBo
  go_wp2_with fail
  go_loopw [6, 7, 14] (fun v kk ii wr => ∃ (i k : Nat), i ≤ N ∧ ii = .int .i64 i ∧ kk = .int .i64 k ∧ Hid (Mat p (t.take i) k) ∧ Own wr w1.heap.size 3 v (iv (nv (occ p (t.take i)))) ∧ Below w1.heap.size w1 wr) (fun _ _ ii _ => N - (intOf ii).toNat)
  case atStart => exact ⟨0, 0, by omega, rfl, rfl, Mat.nil p, by rw [List.take_zero, occ_nil p (by have := HN.out; omega)]; exact Own.nil _ _ _, Below.refl _ _⟩
  case round =>
    obtain ⟨i, k0, hiN, rfl, rfl, HM, ho, hb⟩ := hrel
    by_cases hlt : i < N
    · obtain ⟨x, hx⟩ : ∃ x, t[i]? = some x := ⟨_, List.getElem?_eq_getElem (show i < t.length by have := HN2.out; omega)⟩
      obtain ⟨bt, ot, rfl, hct⟩ := HT.out.at_ (by omega)
      have hcx := cell_keep (cell_keep (hct i _ (iv_get hx)) hb1) hb
      have hW0 : FindP.Way p (t.take i) p.length x k0 := HM.out.way x
      have HX := Lib.hid hx
      clear hx hct
      go_wp2_with fail
      obtain ⟨wo, rfl⟩ : ∃ wo : World, wo = wr := ⟨_, rfl⟩
      go_loopw [7] (fun kk wr => ∃ (k : Nat), kk = .int .i64 k ∧ Hid (FindP.Way p (t.take i) p.length x k) ∧ wr = wo) (fun kk _ => (intOf kk).toNat)
      case atStart => exact ⟨k0, rfl, hW0, rfl⟩
      case round =>
        clear hW0 hcx HM
        obtain ⟨k, rfl, HW, rfl⟩ := hrel
        have hkn : k ≤ n := by have := HW.out.le; have := HN.out; omega
        by_cases hkn2 : k = n
        · have hk0 : 0 < k := by omega
          have q1 : ((k : Int) == n) = true := by simp [hkn2]
          have NE : p[k]? ≠ some x := by rw [hkn2, HN.out]; simp
          clear hkn2
          obtain ⟨b', hb'⟩ : ∃ b', bs[k - 1]? = some b' := ⟨_, List.getElem?_eq_getElem (show k - 1 < bs.length by have := HBS.out.1; have := HN.out; omega)⟩
          have hb2 := HBS.out.2 _ _ hb'
          rw [show k - 1 + 1 = k by omega] at hb2
          have hbk : b' < k := hb2.lt
          have HW2 : Hid (FindP.Way p (t.take i) p.length x b') := HW.out.back hb2 NE
          have ck := cell_keep (H5.out (k - 1) (.int .i64 (b' : Int)) (iv_get (by simp [nv, hb']))) hb
          have e1 : ((k : Int) - 1).toNat = k - 1 := by omega
          have i1 : (0 : Int) ≤ (k : Int) - 1 := by omega
          have i2 : (k : Int) - 1 < n := by omega
          clear hb' hb2 HW
          go_wp2_with fail
          go_roundw
          case rel => exact ⟨b', rfl, HW2, by trivial⟩
          case measure => simp [intOf]; omega
        · have hlt2 : k < n := by omega
          have q1 : ((k : Int) == n) = false := by simp; omega
          obtain ⟨y, hy⟩ : ∃ y, p[k]? = some y := ⟨_, List.getElem?_eq_getElem (show k < p.length by have := HN.out; omega)⟩
          have hcy := cell_keep (cell_keep (HC'.out k y hy) hb1) hb
          have HY := Lib.hid hy
          clear hy hkn2
          by_cases hxy : x = y
          · subst hxy
            have q2 : (x != x) = false := by simp
            have q3 : (x == x) = true := by simp
            have et : Hid (t.take (i + 1) = t.take i ++ [x]) := by
              obtain ⟨hl, he⟩ := List.getElem?_eq_some_iff.1 HX.out
              show _ = _
              rw [List.take_succ_eq_append_getElem hl, he]
            have HM2 : Hid (Mat p (t.take (i + 1)) (k + 1)) := by
              show Mat _ _ _
              rw [et.out]; exact HW.out.mat_yes HY.out
            have HO := Lib.hid (occ_next p t i (k + 1) x (by have := HN.out; omega) HX.out HM2.out)
            rw [← HN.out] at HO
            by_cases hfull : k + 1 = n
            · rw [if_pos hfull] at HO
              have q4 : ((k : Int) + 1 == n) = true := by simp; omega
              have h18 : 1 ≤ 8 := by decide
              have hone : ∀ u ∈ [Value.int .i64 ((i : Int) - ((k + 1 : Nat) : Int) + 1)], u.oneCell' = true := by intro u hu; simp at hu; subst hu; rfl
              have hlen : ((iv (nv (occ p (t.take i)))).length + [Value.int .i64 ((i : Int) - ((k + 1 : Nat) : Int) + 1)].length) * 8 ≤ 140737488355328 := by
                have := occ_len p (t.take i)
                rw [iv_len, nv_len]; simp at this ⊢; omega
              clear HW HY et HX
              by_cases hk : 0 < k
              all_goals
                go_wp2_with (at_builtin; refine wpList_app rfl _ _ 22 3 rfl w1.heap.size i0 _ 8 Try.underlying22 hi hz0 hz1 hz2 rfl _ _ rfl ho [.int .i64 ((i : Int) - ((k + 1 : Nat) : Int) + 1)] 1 rfl rfl hone h18 hlen w1 hb (Nat.le_refl _) ?_; intro v1 w2 hown1 hb2)
                go_roundw
                case rel => exact ⟨i + 1, k + 1, by omega, by go_num, by go_num, HM2, by rw [HO.out, iv_app]; exact hown1, hb2⟩
                case measure => simp [intOf]; omega
            · rw [if_neg hfull, List.append_nil] at HO
              have q4 : ((k : Int) + 1 == n) = false := by simp; omega
              clear HW HY et HX
              by_cases hk : 0 < k
              all_goals
                go_wp2_with fail
                go_roundw
                case rel => exact ⟨i + 1, k + 1, by omega, by go_num, by go_num, HM2, by rw [HO.out]; exact ho, hb⟩
                case measure => simp [intOf]; omega
          · have q2 : (x != y) = true := by simp [hxy]
            have q3 : (x == y) = false := by simp [hxy]
            by_cases hk0 : 0 < k
            · have NE : p[k]? ≠ some x := by rw [HY.out]; simp; exact fun h => hxy h.symm
              obtain ⟨b', hb'⟩ : ∃ b', bs[k - 1]? = some b' := ⟨_, List.getElem?_eq_getElem (show k - 1 < bs.length by have := HBS.out.1; have := HN.out; omega)⟩
              have hb2 := HBS.out.2 _ _ hb'
              rw [show k - 1 + 1 = k by omega] at hb2
              have hbk : b' < k := hb2.lt
              have HW2 : Hid (FindP.Way p (t.take i) p.length x b') := HW.out.back hb2 NE
              have ck := cell_keep (H5.out (k - 1) (.int .i64 (b' : Int)) (iv_get (by simp [nv, hb']))) hb
              have e1 : ((k : Int) - 1).toNat = k - 1 := by omega
              have i1 : (0 : Int) ≤ (k : Int) - 1 := by omega
              have i2 : (k : Int) - 1 < n := by omega
              clear hb' hb2 HW
              go_wp2_with fail
              go_roundw
              case rel => exact ⟨b', rfl, HW2, by trivial⟩
              case measure => simp [intOf]; omega
            · have HM2 : Hid (Mat p (t.take (i + 1)) k) := by
                obtain ⟨hl, he⟩ := List.getElem?_eq_some_iff.1 HX.out
                show Mat _ _ _
                obtain rfl : k = 0 := by omega
                rw [List.take_succ_eq_append_getElem hl, he]
                exact HW.out.mat_no (by rw [HY.out]; simp; exact fun h => hxy h.symm)
              have HO := Lib.hid (occ_next p t i k x (by have := HN.out; omega) HX.out HM2.out)
              rw [← HN.out, if_neg (by omega), List.append_nil] at HO
              clear HW HY HX hxy
              go_wp2_with fail
              go_roundw
              case rel => exact ⟨i + 1, k, by omega, by go_num, by go_num, HM2, by rw [HO.out]; exact ho, hb⟩
              case measure => simp [intOf]; omega
    · obtain rfl : i = N := by omega
      have e : t.take i = t := List.take_of_length_le (by have := HN2.out; omega)
      have HE := Lib.hid e
      clear e HM
      go_wp2_with fail
      go_ret
      exact ⟨_, rfl, by rw [← HE.out]; exact ho.mono hb1.size, bt hb1 hb⟩
end Go.Proofs.Ytepegjihlppkcaa.Find
