/- Contracts of package about: Walk; the constant case; the laws AboutBack, AboutEnd. -/
import Derived.Test.YtphbfciikjkkfaaAboutC
import Derived.Lib.IndexBytes
namespace Go.Proofs.Ytphbfciikjkkfaa.About
open Go.ChangeShapes Go.WideShapes Go.ChangeAt Go.RowKit
open Go.Proofs.Ytphbfciikjkkfaa.Com Go.Proofs.Ytphbfciikjkkfaa.Reg Go.Proofs.Ytphbfciikjkkfaa.Args Go.Proofs.Ytphbfciikjkkfaa.Row
set_option maxRecDepth 100000

def turn (l : List ByteArray) (k : Nat) : ByteArray := (l[min (k % (l.length + 1)) (l.length - 1)]?).getD ⟨#[]⟩
def walkS (l : List ByteArray) (t : Nat) : List ByteArray := (List.range t).map (turn l)
theorem walkS_succ (l : List ByteArray) (t : Nat) : walkS l (t + 1) = walkS l t ++ [turn l t] := by simp [walkS, List.range_succ]
theorem walkS_len (l : List ByteArray) (t : Nat) : (walkS l t).length = t := by simp [walkS]
theorem turn_mem (l : List ByteArray) (k : Nat) (h : 1 ≤ l.length) : l[min (k % (l.length + 1)) (l.length - 1)]? = some (turn l k) := by
  unfold turn
  have : min (k % (l.length + 1)) (l.length - 1) < l.length := by omega
  rw [List.getElem?_eq_getElem this]; rfl
theorem next_mod (l : List ByteArray) (k : Nat) : nextAt l (k % (l.length + 1)) = (((k + 1) % (l.length + 1) : Nat) : Int) := by
  unfold nextAt
  have := Nat.mod_lt k (show 0 < l.length + 1 by omega)
  rw [Nat.add_mod]
  by_cases h : k % (l.length + 1) = l.length
  · rw [if_pos h, h]
    by_cases h0 : l.length = 0
    · rw [h0]; rfl
    · rw [Nat.mod_eq_of_lt (show 1 < l.length + 1 by omega), Nat.mod_self]; rfl
  · rw [if_neg h]
    rw [Nat.mod_eq_of_lt (show 1 < l.length + 1 by omega), Nat.mod_eq_of_lt (show k % (l.length + 1) + 1 < l.length + 1 by omega)]
theorem check_zero {l : List ByteArray} {at_ : Int} (h : checkS l at_ = 0) : 1 ≤ l.length ∧ l.length ≤ 8 ∧ Fine l ∧ 0 ≤ at_ ∧ at_ ≤ l.length := by
  unfold checkS at h
  split at h
  · simp at h
  · split at h
    · split at h
      · simp at h
      · rename_i h1 h2 h3; exact ⟨by omega, by omega, h2, by omega, by omega⟩
    · simp at h
theorem check_of {l : List ByteArray} {at_ : Int} (h1 : 1 ≤ l.length) (h2 : l.length ≤ 8) (h3 : Fine l) (h4 : 0 ≤ at_) (h5 : at_ ≤ l.length) : checkS l at_ = 0 := by
  unfold checkS
  rw [if_neg (by omega), if_pos h3, if_neg (by omega)]
theorem name_le {s : ByteArray} (h : nameS s = true) : s.size ≤ 40 := by
  unfold nameS at h
  simp at h
  omega
theorem tail_cut (x : ByteArray) : ((⟨#[0]⟩ : ByteArray) ++ x).extract 1 ((⟨#[0]⟩ : ByteArray) ++ x).size = x := by
  apply ByteArray.ext
  apply Array.toList_inj.1
  rw [Lib.extract_to_end]
  simp

theorem walk_bad (a : Option Addr) (n c : Nat) (l : List ByteArray) (t : Int) (w : World) (hv : Sl w 1 a n c (sv l)) (hsz : ∀ x ∈ l, x.size ≤ maxLen) (hk : checkS l 0 ≠ 0) :
    Calls Try.prog 21 #[.slice a n c, .int .i64 t] w fun e w' => e = .returned (.tuple #[.slice none 0 0, .int .i64 (checkS l 0)]) ∧ Below w.heap.size w w' := by
  have HV := Lib.hid hv
  have HZ := Lib.hid hsz
  have q0 : (checkS l 0 != 0) = true := by simpa using hk
  clear hv hsz hk
  generalize hck : checkS l 0 = ck at *
  have HCK := Lib.hid hck
  clear hck
  go_enter Try.func21, Try.ntmps21
  go_wp2_with fail
  refine (check_any a n c l 0 _ (HV.out.keep (below_alloc _ _)) HZ.out).mono ?_; rintro e w1 ⟨rfl, hb1⟩
  rw [HCK.out]
  have L1 := bt (below_alloc w (.cells #[.slice a n c, .int .i64 0] 43)) (hb1.mono (Nat.le_refl _))
  go_wp2_with fail
  go_ret2
  exact ⟨rfl, L1⟩
theorem walk_arg (a : Option Addr) (n c : Nat) (l : List ByteArray) (t : Int) (w : World) (hv : Sl w 1 a n c (sv l)) (hsz : ∀ x ∈ l, x.size ≤ maxLen) (hk : checkS l 0 = 0) (ht : t < 0 ∨ 100 < t) :
    Calls Try.prog 21 #[.slice a n c, .int .i64 t] w fun e w' => e = .returned (.tuple #[.slice none 0 0, .int .i64 1]) ∧ Below w.heap.size w w' := by
  have HV := Lib.hid hv
  have HZ := Lib.hid hsz
  have HCK := Lib.hid hk
  clear hv hsz hk
  rcases ht with ht | ht
  all_goals
    go_enter Try.func21, Try.ntmps21
    go_wp2_with fail
    refine (check_any a n c l 0 _ (HV.out.keep (below_alloc _ _)) HZ.out).mono ?_; rintro e w1 ⟨rfl, hb1⟩
    rw [HCK.out]
    have L1 := bt (below_alloc w (.cells #[.slice a n c, .int .i64 0] 43)) (hb1.mono (Nat.le_refl _))
    go_wp2_with fail
    go_ret2
    exact ⟨rfl, L1⟩
set_option maxHeartbeats 4000000 in
theorem walk_ok (a : Option Addr) (n c : Nat) (l : List ByteArray) (T : Nat) (w : World) (hv : Sl w 1 a n c (sv l)) (hsz : ∀ x ∈ l, x.size ≤ maxLen) (hk : checkS l 0 = 0) (ht : T ≤ 100) :
    Calls Try.prog 21 #[.slice a n c, .int .i64 T] w fun e w' => ∃ v, e = .returned (.tuple #[v, .int .i64 0]) ∧ Own w' w.heap.size 9 v (sv (walkS l T)) ∧ Below w.heap.size w w' := by
  obtain ⟨i0, hi, hz0, hz1, hz2⟩ := info_parts infoStr
  obtain ⟨n1, n8, hfine, _, _⟩ := check_zero hk
  have hn : n = l.length := by have := hv.len; rw [sv_len] at this; omega
  have HV := Lib.hid (hv.keep (below_alloc w (.cells #[.slice a n c, .int .i64 0] 43)))
  have HZ := Lib.hid hsz
  have HCK := Lib.hid hk
  have HF := Lib.hid hfine
  have BL := Blk.new w #[.slice a n c, .int .i64 0] 43
  have t1 : ¬ (T : Int) < 0 := by omega
  have t2 : ¬ (100 : Int) < T := by omega
  clear hv hsz hk hfine
  subst hn
  go_enter Try.func21, Try.ntmps21
  go_wp2_with fail
  refine (check_any a l.length c l 0 _ HV.out HZ.out).mono ?_; rintro e w1 ⟨rfl, hb1⟩
  rw [HCK.out]
  have L1 := bt (below_alloc w (.cells #[.slice a l.length c, .int .i64 0] 43)) (hb1.mono (Nat.le_refl _))
  have BL1 := Lib.hid (BL.keep hb1)
  have HV1 := Lib.hid (HV.out.keep hb1)
  have z1 : w.heap.size + 1 ≤ w1.heap.size := by have := hb1.size; simp at this; omega
  clear BL HV hb1
  go_wp2_with fail
  go_loopw [8, 24] (fun v ii wr => ∃ (i : Nat) (a' : Option Addr) (c' : Nat), i ≤ T ∧ ii = .int .i64 i ∧ Hid (Blk wr w.heap.size #[.slice a' l.length c', .int .i64 ((i % (l.length + 1) : Nat) : Int)] 43) ∧ Hid (Sl wr 1 a' l.length c' (sv l)) ∧ Own wr (w.heap.size + 1) 9 v (sv (walkS l i)) ∧ Below w.heap.size w wr ∧ w.heap.size + 1 ≤ wr.heap.size) (fun _ ii _ => T - (intOf ii).toNat)
  case atStart => exact ⟨0, a, c, by omega, rfl, by have := BL1.out; simpa [Hid] using this, HV1, Own.nil _ _ _, L1, z1⟩
  case round =>
    obtain ⟨i, a', c', hiT, rfl, HB, HS, ho, hb, hz⟩ := hrel
    by_cases hlt : i < T
    · have hj : i % (l.length + 1) ≤ l.length := by have := Nat.mod_lt i (show 0 < l.length + 1 by omega); omega
      have hck : checkS l ((i % (l.length + 1) : Nat) : Int) = 0 := check_of n1 n8 HF.out (by omega) (by omega)
      have hx := turn_mem l i n1
      have hxs : (turn l i).size ≤ 40 := name_le (HF.out.1 _ (List.mem_of_getElem? hx))
      have HA := Lib.hid (answer_ok a' l.length c' l (i % (l.length + 1)) (turn l i) wr HS.out (by omega) HZ.out hck n1 n8 hj hx hxs)
      have HW := Lib.hid (walkS_succ l i)
      have HM := Lib.hid (next_mod l i)
      have HTC := tail_cut (turn l i)
      have hxz : ((⟨#[0]⟩ : ByteArray) ++ turn l i).size = (turn l i).size + 1 := by rw [ByteArray.size_append, Nat.add_comm]; rfl
      generalize turn l i = x at *
      obtain ⟨g0, g1, f0, f1⟩ := HB.out.c2
      generalize i % (l.length + 1) = j at *
      clear hck hx HS
      go_wp2_with fail
      refine HA.out.mono ?_; rintro e w2 ⟨v2, rfl, ho2, hb2⟩
      rw [HM.out]
      obtain ⟨a2, c2, rfl, _⟩ := ho2.sl
      rw [sv_len] at ho2 ⊢
      have B2 := HB.out.keep hb2
      obtain ⟨p0, p1, q0, q1⟩ := B2.c2
      have ho1 := ho.keep hb2
      have B3 := Lib.hid ((B2.set_ 0 (.slice a2 l.length c2)).set_ 1 (.int .i64 (((i + 1) % (l.length + 1) : Nat) : Int)))
      have O2 := Lib.hid ((ho2.far (p := ⟨w.heap.size, 0, none⟩) (by simp; omega) (.slice a2 l.length c2)).far (p := ⟨w.heap.size, 1, none⟩) (by simp; omega) (.int .i64 (((i + 1) % (l.length + 1) : Nat) : Int)))
      have hap := Own.apart ho (w2 := w2) (by unfold Own; exact ho2) (Nat.le_refl _)
      rw [hxz] at HTC
      have O1 := (ho1.far (p := ⟨w.heap.size, 0, none⟩) (by simp) (.slice a2 l.length c2)).far (p := ⟨w.heap.size, 1, none⟩) (by simp) (.int .i64 (((i + 1) % (l.length + 1) : Nat) : Int))
      have L2 := ((hb.trans (hb2.mono (by omega))).setCell (p := ⟨w.heap.size, 0, none⟩) (Nat.le_refl _) (.slice a2 l.length c2)).setCell (p := ⟨w.heap.size, 1, none⟩) (Nat.le_refl _) (.int .i64 (((i + 1) % (l.length + 1) : Nat) : Int))
      generalize hj2 : (i + 1) % (l.length + 1) = j2 at *
      have HJ2 := Lib.hid hj2
      clear hj2
      clear ho ho1 ho2 B2 HA
      have hone : ∀ u ∈ [Value.string x], u.oneCell' = true := by intro u hu; simp at hu; subst hu; rfl
      have h16 : 1 ≤ 16 := by decide
      have hlen : ((sv (walkS l i)).length + [Value.string x].length) * 16 ≤ 140737488355328 := by rw [sv_len, walkS_len]; simp; omega
      have hHZ := Lib.hid hap
      have hsw : w.heap.size + 1 ≤ ((w2.setCell ⟨w.heap.size, 0, none⟩ (.slice a2 l.length c2)).setCell ⟨w.heap.size, 1, none⟩ (.int .i64 (j2 : Int))).heap.size := by rw [size_setCell, size_setCell]; have := hb2.size; omega
      clear hap
      go_wp2_with (at_builtin; refine wpList_appG rfl _ _ 37 9 rfl (w.heap.size + 1) i0 _ 16 Try.underlying37 hi hz0 hz1 hz2 rfl _ _ rfl O1 [.string x] 1 rfl (by rw [size_setCell, size_setCell]; rfl) hone h16 hlen hsw ?_; intro v3 w3 ho3 hg3 hb3)
      have B4 : Hid (Blk w3 w.heap.size #[.slice a2 l.length c2, .int .i64 (j2 : Int)] 43) := B3.out.keepB hb3 (by omega)
      have S4 : Hid (Sl w3 1 a2 l.length c2 (sv l)) := Own.slAt ((O2.out.alloc _).of_grown hg3 hHZ.out)
      have L4 := L2.trans (hb3.mono (by omega))
      have z4 : w.heap.size + 1 ≤ w3.heap.size := by have := hb3.size; omega
      go_roundw
      case rel => exact ⟨i + 1, a2, c2, by omega, by go_num, by rw [HJ2.out]; exact B4, S4, by rw [HW.out, sv_app]; exact ho3, L4, z4⟩
      case measure => simp [intOf]; omega
    · obtain rfl : i = T := by omega
      go_wp2_with fail
      go_ret2
      exact ⟨_, rfl, ho.mono (by omega), hb⟩
end Go.Proofs.Ytphbfciikjkkfaa.About
