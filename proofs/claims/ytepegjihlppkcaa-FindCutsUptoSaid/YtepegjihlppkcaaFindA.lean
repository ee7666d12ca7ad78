/- Contracts of package find: check, borders, Borders. -/
import Derived.Test.YtepegjihlppkcaaSlices
import Derived.Test.YtepegjihlppkcaaFindP
import Derived.OwnWalk
import Derived.BigQuiet
import Derived.Deep.OwnRows
namespace Go.Proofs.Ytepegjihlppkcaa.Find
open Go.ChangeShapes Go.WideShapes Go.ChangeAt Go.RowKit
open Go.Proofs.Ytepegjihlppkcaa.Com Go.Proofs.Ytepegjihlppkcaa.Slices Go.Proofs.Ytepegjihlppkcaa.FindP
set_option maxRecDepth 100000

theorem made_list (z : Value) (n : Nat) : (madeCells #[z] n).toList = List.replicate n z := by
  apply List.ext_getElem?
  intro i
  by_cases h : i < n
  · simp [madeCells, h, Nat.mod_one]
  · simp [madeCells, h]
def nv (l : List Nat) : List Int := l.map fun (k : Nat) => (k : Int)
theorem nv_len (l : List Nat) : (nv l).length = l.length := by simp [nv]

theorem check_ok (a : Option Addr) (L c : Nat) (h1 : 1 ≤ L) (h2 : L ≤ 200) (w : World) : Calls Try.prog 41 #[.slice a L c] w fun e w' => e = .returned (.int .i64 0) ∧ w = w' := by
  go_enter Try.func41, Try.ntmps41
  go_wp2_with fail
  go_ret
  exact ⟨rfl, rfl⟩
theorem check_no (a : Option Addr) (L c : Nat) (h : L < 1 ∨ 200 < L) (w : World) : Calls Try.prog 41 #[.slice a L c] w fun e w' => e = .returned (.int .i64 1) ∧ w = w' := by
  rcases h with h | h
  all_goals
    go_enter Try.func41, Try.ntmps41
    go_wp2_with fail
    go_ret
    exact ⟨rfl, rfl⟩

/-- What stands in the row of borders on the way. -/
def Part (p : L) (i : Nat) (row : List Int) : Prop := ∃ bs : List Nat, bs.length = i ∧ (∀ j k, bs[j]? = some k → Bord p (j + 1) k) ∧ row = nv bs ++ List.replicate (p.length - i) 0
theorem Part.at_ {p : L} {i : Nat} {row : List Int} (h : Part p i row) {k : Nat} (hk : k < i) : ∃ b : Nat, row[k]? = some (b : Int) ∧ Bord p (k + 1) b := by
  obtain ⟨bs, h1, h2, rfl⟩ := h
  have hb : bs[k]? = some bs[k] := List.getElem?_eq_getElem (by omega)
  refine ⟨bs[k], ?_, h2 k _ hb⟩
  rw [List.getElem?_append_left (by rw [nv_len]; omega)]
  simp [nv]
  exact ⟨_, hb, rfl⟩
theorem Part.set_ {p : L} {i k : Nat} {row : List Int} (h : Part p i row) (hi : i < p.length) (hb : Bord p (i + 1) k) : Part p (i + 1) (row.set i k) := by
  obtain ⟨bs, h1, h2, rfl⟩ := h
  refine ⟨bs ++ [k], by simp [h1], fun j k' hj => ?_, ?_⟩
  · by_cases e : j < bs.length
    · rw [List.getElem?_append_left e] at hj; exact h2 j k' hj
    · have : j = i := by
        have := (List.getElem?_eq_some_iff.1 hj).1
        simp at this; omega
      subst this
      rw [List.getElem?_append_right (by omega)] at hj
      simp [h1] at hj; subst hj; exact hb
  · rw [List.set_append_right _ _ (by rw [nv_len]; omega), nv_len, h1, Nat.sub_self]
    rw [show p.length - i = (p.length - (i + 1)) + 1 by omega, List.replicate_succ]
    simp [nv]
theorem Part.len {p : L} {i : Nat} {row : List Int} (h : Part p i row) (hi : i ≤ p.length) : row.length = p.length := by
  obtain ⟨bs, h1, _, rfl⟩ := h
  simp [nv_len, h1]; omega

set_option maxHeartbeats 4000000 in
theorem borders_any (p : L) (a : Option Addr) (n c : Nat) (hn : n = p.length) (h1 : 1 ≤ n) (h2 : n ≤ 200) (w : World) (hv : Sl w 1 a n c (iv p)) :
    Calls Try.prog 42 #[.slice a n c] w fun e w' => ∃ v bs, e = .returned v ∧ Bords p bs ∧ Own w' w.heap.size 3 v (iv (nv bs)) ∧ Below w.heap.size w w' := by
  obtain ⟨i0, hi, hz0, hz1, hz2⟩ := info_parts infoInt
  obtain ⟨b, o, rfl, hc⟩ := hv.at_ (by omega)
  have HC : ∀ (j : Nat) (x : Int), p[j]? = some x → w.cell? ⟨b, o + j, none⟩ = some (.int .i64 x) := fun j x hj => hc j _ (iv_get hj)
  have HC' := Lib.hid HC
  have HN := Lib.hid hn
  have n0 : n ≤ maxLen := by unfold maxLen; omega
  have b8 : i0.bytes * n ≤ 281474976710656 := by rw [hz2]; omega
  clear hc HC hv hn
  go_enter Try.func42, Try.ntmps42
  go_wp2_with (with_reducible refine wpList_make_full _ rfl (.tmp 7) (.tmp 7) _ rfl w.heap.size 3 i0 (.int .i64 0) 1 Try.underlying22 hi hz0 hz1 .i64 .i64 (n : Int) (n : Int) n rfl rfl rfl rfl b8 n0 (Nat.le_refl _) ?_; intro w1 hown hg)
  have hb0 : Below w.heap.size w w1 := ⟨hg.os, hg.tape, hg.output, hg.size, fun k hk => hg.block k hk (by simp)⟩
  have hrow : Own w1 w.heap.size 3 (.slice (some ⟨w.heap.size, 0, none⟩) n n) (iv (nv [0] ++ List.replicate (n - 1) 0)) := by
    have e1 : (madeCells (Value.int .i64 0).cells (n * 1)).toList = iv (nv [0] ++ List.replicate (n - 1) 0) := by
      rw [Nat.mul_one, show (Value.int .i64 0).cells = #[.int .i64 0] from rfl, made_list]
      obtain ⟨m, rfl⟩ : ∃ m, n = m + 1 := ⟨n - 1, by omega⟩
      simp [iv, nv, List.replicate_succ]
    rw [e1] at hown
    unfold Own
    rw [show (iv (nv [0] ++ List.replicate (n - 1) 0)).length = n by simp [iv, nv]; omega]
    exact hown
  have hpart : Part p 1 (nv [0] ++ List.replicate (n - 1) 0) := ⟨[0], rfl, fun j k hj => by
    cases j with
    | zero => simp at hj; subst hj; exact Bord.one p
    | succ j => simp at hj, by rw [HN.out]⟩
  have hbord : Bord p 1 0 := Bord.one p
  generalize nv [0] ++ List.replicate (n - 1) 0 = row0 at *
  clear hown hg b8
  go_wp2_with fail
  go_loopw [4, 5] (fun kk ii wr => ∃ (i k : Nat) (row : List Int), 1 ≤ i ∧ i ≤ n ∧ ii = .int .i64 i ∧ kk = .int .i64 k ∧ Hid (Bord p i k) ∧ k < i ∧ Hid (Part p i row) ∧ Own wr w.heap.size 3 (.slice (some ⟨w.heap.size, 0, none⟩) n n) (iv row) ∧ Below w.heap.size w wr) (fun _ ii _ => n - (intOf ii).toNat)
  case atStart => exact ⟨1, 0, row0, by omega, by omega, rfl, rfl, hbord, by omega, hpart, hrow, hb0⟩
  case round =>
    clear hrow hpart hbord hb0
    obtain ⟨i, k0, row, hi1, hin, rfl, rfl, HBo, hk0, HP, ho, hb⟩ := hrel
    have HR := Lib.hid (fun k (hk : k < i) => HP.out.at_ hk)
    by_cases hlt : i < n
    · have hx : p[i]? = some (p[i]'(by have := HN.out; omega)) := List.getElem?_eq_getElem _
      obtain ⟨x, hx'⟩ : ∃ x, p[i]? = some x := ⟨_, hx⟩
      have hW0 : FindP.Way p (p.take i) i x k0 := by
        have := HBo.out.way (by have := HN.out; omega)
        rw [hx] at hx'; simp at hx'; rw [hx'] at this; exact this
      have HX := Lib.hid hx'
      have hcx := HC'.out i x hx'
      clear hx hx'
      go_wp2_with fail
      obtain ⟨wo, rfl⟩ : ∃ wo : World, wo = wr := ⟨_, rfl⟩
      go_loopw [4] (fun kk wr => ∃ (k : Nat), kk = .int .i64 k ∧ k < i ∧ Hid (FindP.Way p (p.take i) i x k) ∧ Own wr w.heap.size 3 (.slice (some ⟨w.heap.size, 0, none⟩) n n) (iv row) ∧ Below w.heap.size w wr) (fun kk _ => (intOf kk).toNat)
      case atStart => exact ⟨k0, rfl, hk0, hW0, ho, hb⟩
      case round =>
        clear ho hb hW0 HBo hk0
        obtain ⟨k, rfl, hki, HW, ho, hb⟩ := hrel
        obtain ⟨y, hy⟩ : ∃ y, p[k]? = some y := ⟨_, List.getElem?_eq_getElem (show k < p.length by have := HN.out; omega)⟩
        have HY := Lib.hid hy
        have hcy := cell_keep (HC'.out k y hy) hb
        have hcx' := cell_keep hcx hb
        clear hy hcx
        by_cases hxy : x = y
        · -- the signs are the same: on to the next
          have hbn : Hid (Bord p (i + 1) (k + 1)) := by
            have hlen : i < p.length := by have := HN.out; omega
            have hpx : p[i] = x := by have := HX.out; rw [List.getElem?_eq_getElem hlen] at this; simpa using this
            have h1 := HW.out
            rw [← hpx] at h1
            exact FindP.Way.bord_yes hlen h1 hki (by rw [HY.out, hpx, hxy])
          have hps := fun (h : i < p.length) => HP.out.set_ h hbn.out
          have HPS : Hid (Part p (i + 1) (row.set i ((k + 1 : Nat) : Int))) := hps (by have := HN.out; omega)
          clear hps
          subst hxy
          have q1 : (x != x) = false := by simp
          have q2 : (x == x) = true := by simp
          obtain ⟨u, hu⟩ : ∃ u, (iv row)[i]? = some u := ⟨_, List.getElem?_eq_getElem (by rw [iv_len, HP.out.len (by have := HN.out; omega)]; have := HN.out; omega)⟩
          obtain ⟨ci, fi⟩ := ho.at_ hu
          clear hu HP HR HW HY HX
          by_cases hk : 0 < k
          all_goals
            go_wp2_with fail
            go_quiet (fail)
            go_wp2_with fail
            go_quiet (fail)
            go_wp2_with fail
            go_roundw
            case rel => exact ⟨i + 1, k + 1, row.set i ((k + 1 : Nat) : Int), by omega, by omega, by go_num, by go_num, hbn, by omega, HPS, by rw [iv_set]; exact (ho.keep (Joins.below_draws _ _ _)).set_ i _, (hb.trans (Joins.below_draws _ _ _)).setCell (Nat.le_refl _) _⟩
            case measure => simp [intOf]; omega
        · have q1 : (x != y) = true := by simp [hxy]
          have q2 : (x == y) = false := by simp [hxy]
          by_cases hk : 0 < k
          · obtain ⟨b', hb1, hb2⟩ := HR.out (k - 1) (by omega)
            rw [show k - 1 + 1 = k by omega] at hb2
            have hbk : b' < k := hb2.lt
            have HW2 : Hid (FindP.Way p (p.take i) i x b') := HW.out.back hb2 (by rw [HY.out]; simp; exact fun h => hxy h.symm)
            obtain ⟨ck, fk⟩ := ho.at_ (iv_get hb1)
            have e1 : ((k : Int) - 1).toNat = k - 1 := by omega
            have i1 : (0 : Int) ≤ (k : Int) - 1 := by omega
            have i2 : (k : Int) - 1 < n := by omega
            clear hb1 hb2 HP HR HW HY HX hxy fk
            go_wp2_with fail
            go_quiet (fail)
            go_wp2_with fail
            go_roundw
            case rel => exact ⟨b', rfl, by omega, HW2, ho.keep (Joins.below_draws _ _ _), hb.trans (Joins.below_draws _ _ _)⟩
            case measure => simp [intOf]; omega
          · have hbn : Hid (Bord p (i + 1) k) := by
              obtain rfl : k = 0 := by omega
              have hlen : i < p.length := by have := HN.out; omega
              have hpx : p[i] = x := by have := HX.out; rw [List.getElem?_eq_getElem hlen] at this; simpa using this
              have h1 := HW.out
              rw [← hpx] at h1
              exact FindP.Way.bord_no hlen h1 (by rw [HY.out, hpx]; simp; exact fun h => hxy h.symm)
            have HPS : Hid (Part p (i + 1) (row.set i ((k : Nat) : Int))) := HP.out.set_ (by have := HN.out; omega) hbn.out
            obtain ⟨u, hu⟩ : ∃ u, (iv row)[i]? = some u := ⟨_, List.getElem?_eq_getElem (by rw [iv_len, HP.out.len (by have := HN.out; omega)]; have := HN.out; omega)⟩
            obtain ⟨ci, fi⟩ := ho.at_ hu
            clear hu HP HR HW HY HX hxy
            go_wp2_with fail
            go_quiet (fail)
            go_wp2_with fail
            go_quiet (fail)
            go_wp2_with fail
            go_roundw
            case rel => exact ⟨i + 1, k, row.set i ((k : Nat) : Int), by omega, by omega, by go_num, by go_num, hbn, by omega, HPS, by rw [iv_set]; exact (ho.keep (Joins.below_draws _ _ _)).set_ i _, (hb.trans (Joins.below_draws _ _ _)).setCell (Nat.le_refl _) _⟩
            case measure => simp [intOf]; omega
    · obtain rfl : i = n := by omega
      obtain ⟨bs, hb1, hb2, hb3⟩ := HP.out
      have HRW : Hid (row = nv bs) := by show _ = _; rw [hb3, HN.out, Nat.sub_self]; simp
      have HBS : Hid (Bords p bs) := ⟨by rw [hb1, HN.out], hb2⟩
      clear hb1 hb2 hb3 HR HP HBo
      go_wp2_with fail
      go_ret
      exact ⟨_, bs, rfl, HBS, by rw [← HRW.out]; exact ho, hb⟩
end Go.Proofs.Ytepegjihlppkcaa.Find
