/- Contracts of package about: Answer, Walk; the constant case. -/
import Derived.Test.YtphbfciikjkkfaaAboutB
import Derived.Test.YtphbfciikjkkfaaEqStr
import Derived.Test.YtphbfciikjkkfaaRowB
namespace Go.Proofs.Ytphbfciikjkkfaa.About
open Go.ChangeShapes Go.WideShapes Go.ChangeAt Go.RowKit
open Go.Proofs.Ytphbfciikjkkfaa.Com Go.Proofs.Ytphbfciikjkkfaa.Reg Go.Proofs.Ytphbfciikjkkfaa.Args Go.Proofs.Ytphbfciikjkkfaa.Row
set_option maxRecDepth 100000

theorem infoStr : (Try.prog.info? 9).map (fun i => (i.zero, i.size, i.bytes)) = some (some (.string ⟨#[]⟩), 1, 16) := by kernel_rfl
theorem sclone_any (ad : Option Addr) (L c : Nat) (xs : List ByteArray) (w : World) (hv : Sl w 1 ad L c (sv xs)) (hm : xs.length * 16 ≤ 140737488355328) :
    Calls Try.prog 24 #[.slice ad L c] w fun e w' => ∃ v', e = .returned v' ∧ Own w' w.heap.size 9 v' (sv xs) ∧ Below w.heap.size w w' := by
  obtain ⟨i0, hi, hz0, hz1, hz2⟩ := info_parts infoStr
  have hL : L = xs.length := by have := hv.len; rw [sv_len] at this; omega
  cases ad with
  | none =>
    have h0 := hv.nil rfl
    have h1 := hv.le
    have e0 : xs = [] := List.eq_nil_of_length_eq_zero (by omega)
    subst e0
    obtain rfl : c = 0 := h0
    obtain rfl : L = 0 := by omega
    have q22 := fun (w : World) => Lib.run_eql_slice_nil (P := Try.prog) w 37 _ none 0 0 0 0 Try.underlying37
    clear hv hL
    go_enter Try.func24, Try.ntmps24
    go_wp2_with fail
    go_ret
    exact ⟨_, rfl, Own.nil _ _ _, Below.refl _ _⟩
  | some ad =>
    have q22 := fun (w : World) => Lib.run_eql_slice_nil (P := Try.prog) w 37 _ (some ad) L c 0 0 Try.underlying37
    have hr := hv.rs
    have hone := sv_one xs
    have h18 : 1 ≤ 16 := by decide
    have hnc := hv.nilcap
    have hkm : (([] : List Value).length + (sv xs).length) * 16 ≤ 140737488355328 := by simp [sv]; omega
    have hown : Own (w.alloc (.cells #[] 9)) w.heap.size 9 (.slice (some ⟨w.heap.size, 0, none⟩) 0 0) [] := World.ownsRow_made w #[] 0 (Nat.le_refl _) (Nat.zero_le _) (by simp)
    have hsz : w.heap.size ≤ (w.alloc (.cells #[] 9)).heap.size := by simp
    have hr2 := Lib.hid (hr.keep (below_alloc w (.cells #[] 9)))
    clear hv hL hr
    go_enter Try.func24, Try.ntmps24
    go_wp2_with (at_builtin; refine wpList_app_src rfl (.tmp 5) (.tmp 6) 37 9 rfl w.heap.size i0 _ 16 Try.underlying37 hi hz0 hz1 hz2 rfl _ [] rfl hown _ (sv xs) rfl hr2.out hnc hone h18 hkm hsz ?_; intro v1 w2 hown1 hb2)
    go_ret
    exact ⟨_, rfl, hown1, (below_alloc w _).trans hb2⟩

theorem cells_keep {W w1 : World} {B : Nat} (hb : Below B W w1) : (∀ b o, b < B → w1.cell? ⟨b, o, none⟩ = W.cell? ⟨b, o, none⟩) ∧ (∀ b o, b < B → w1.frozen? ⟨b, o, none⟩ = W.frozen? ⟨b, o, none⟩) :=
  ⟨fun b o h => hb.cell (p := ⟨b, o, none⟩) h, fun b o h => hb.frozen (p := ⟨b, o, none⟩) h⟩

set_option maxHeartbeats 4000000 in
theorem answer_bad (a : Option Addr) (n c : Nat) (l : List ByteArray) (at_ : Int) (data : ByteArray) (w : World) (hv : Sl w 1 a n c (sv l)) (hl : l.length * 16 ≤ 140737488351232) (hsz : ∀ x ∈ l, x.size ≤ maxLen) (hk : checkS l at_ ≠ 0) :
    Calls Try.prog 25 #[.agg #[.slice a n c, .int .i64 at_], .string data] w fun e w' => ∃ v, e = .returned (.tuple #[.agg #[v, .int .i64 at_], .string ⟨#[]⟩, .int .i64 (checkS l at_)]) ∧ Own w' w.heap.size 9 v (sv l) ∧ Below w.heap.size w w' := by
  have HV := Lib.hid hv
  have HZ := Lib.hid hsz
  have hl2 : l.length * 16 ≤ 140737488355328 := by omega
  clear hv hsz
  have q0 : (checkS l at_ != 0) = true := by simpa using hk
  clear hk
  generalize hck : checkS l at_ = ck at *
  have HCK := Lib.hid hck
  clear hck
  go_enter Try.func25, Try.ntmps25
  go_wp2_with fail
  refine (sclone_any a n c l _ ((HV.out.keep (below_alloc _ _)).keep (below_alloc _ _)) hl2).mono ?_; rintro e w1 ⟨v1, rfl, ho1, hb1⟩
  obtain ⟨a1, c1, rfl, s1⟩ := ho1.sl
  obtain ⟨B1, B2, hz, bel⟩ := two_blks hb1
  obtain ⟨p0, p1, f0, f1⟩ := B1.c2
  have ho := ho1.mono (B' := w.heap.size + 2) (by simp)
  rw [sv_len] at ho ⊢
  have ho2 := ho.far (p := ⟨w.heap.size, 0, none⟩) (by simp) (.slice a1 l.length c1)
  have B1' := B1.set_ 0 (.slice a1 l.length c1)
  have B2' := B2.far (p := ⟨w.heap.size, 0, none⟩) (by simp) (.slice a1 l.length c1)
  have bel' := bel.setCell (p := ⟨w.heap.size, 0, none⟩) (Nat.le_refl _) (.slice a1 l.length c1)
  have HO := Lib.hid ho2
  clear hb1 s1 ho1 ho ho2 B1 B2 bel
  go_wp2_with fail
  have sl2 := Own.slAt HO.out
  have hz2 := size_setCell w1 ⟨w.heap.size, 0, none⟩ (.slice a1 l.length c1)
  generalize w1.setCell ⟨w.heap.size, 0, none⟩ (.slice a1 l.length c1) = w2 at *
  refine (check_any a1 l.length c1 l at_ _ sl2 HZ.out).mono ?_; rintro e w3 ⟨rfl, hb3⟩
  rw [HCK.out]
  have D1 := B1'.keep hb3
  have D2 := B2'.keep hb3
  obtain ⟨g0, g1, k0, k1⟩ := D1.c2
  obtain ⟨g2, g3, k2, k3⟩ := D2.c2
  have HO3 := Lib.hid (HO.out.keep hb3)
  have L3 := bel'.trans (hb3.mono (by omega))
  have z3 : w.heap.size + 2 ≤ w3.heap.size := by have := hb3.size; omega
  have E1 := Lib.hid D1; have E2 := Lib.hid D2
  clear sl2 p0 p1 f0 f1 B1' B2' HO D1 D2 hb3 bel' hz hz2
  go_wp2_with fail
  refine bodyPost_ret (results_row3 rfl _ _ (w.heap.size + 1) 43 _ (0, 0) _ rfl (((E2.out.set_ 0 (.slice a1 l.length c1)).set_ 1 (.int .i64 at_))) Try.underlying43 rfl (by kernel_rfl)) rfl ⟨_, rfl, ?_, ?_⟩
  · exact ((HO3.out.far (p := ⟨w.heap.size + 1, 0, none⟩) (by simp) _).far (p := ⟨w.heap.size + 1, 1, none⟩) (by simp) _).mono (by omega)
  · exact (L3.setCell (p := ⟨w.heap.size + 1, 0, none⟩) (by simp) _).setCell (p := ⟨w.heap.size + 1, 1, none⟩) (by simp) _
set_option maxHeartbeats 4000000 in
theorem answer_form (a : Option Addr) (n c : Nat) (l : List ByteArray) (at_ : Int) (data : ByteArray) (w : World) (hv : Sl w 1 a n c (sv l)) (hl : l.length * 16 ≤ 140737488351232) (hsz : ∀ x ∈ l, x.size ≤ maxLen) (hk : checkS l at_ = 0) (hd : data ≠ ⟨#[1]⟩) :
    Calls Try.prog 25 #[.agg #[.slice a n c, .int .i64 at_], .string data] w fun e w' => ∃ v, e = .returned (.tuple #[.agg #[v, .int .i64 at_], .string ⟨#[]⟩, .int .i64 4]) ∧ Own w' w.heap.size 9 v (sv l) ∧ Below w.heap.size w w' := by
  have HV := Lib.hid hv
  have HZ := Lib.hid hsz
  have hl2 : l.length * 16 ≤ 140737488355328 := by omega
  clear hv hsz
  have HCK := Lib.hid hk
  have qd : ¬ data.toList = [1] := fun h => hd (bytes_ext (by rw [h, ByteArray.toList_eq]))
  have qe : (data.toList == [1]) = false := by simp [qd]
  have qf : (data.toList != [1]) = true := by simp [qd]
  clear hk hd
  go_enter Try.func25, Try.ntmps25
  go_wp2_with fail
  refine (sclone_any a n c l _ ((HV.out.keep (below_alloc _ _)).keep (below_alloc _ _)) hl2).mono ?_; rintro e w1 ⟨v1, rfl, ho1, hb1⟩
  obtain ⟨a1, c1, rfl, s1⟩ := ho1.sl
  obtain ⟨B1, B2, hz, bel⟩ := two_blks hb1
  obtain ⟨p0, p1, f0, f1⟩ := B1.c2
  have ho := ho1.mono (B' := w.heap.size + 2) (by simp)
  rw [sv_len] at ho ⊢
  have ho2 := ho.far (p := ⟨w.heap.size, 0, none⟩) (by simp) (.slice a1 l.length c1)
  have B1' := B1.set_ 0 (.slice a1 l.length c1)
  have B2' := B2.far (p := ⟨w.heap.size, 0, none⟩) (by simp) (.slice a1 l.length c1)
  have bel' := bel.setCell (p := ⟨w.heap.size, 0, none⟩) (Nat.le_refl _) (.slice a1 l.length c1)
  have HO := Lib.hid ho2
  clear hb1 s1 ho1 ho ho2 B1 B2 bel
  go_wp2_with fail
  have sl2 := Own.slAt HO.out
  have hz2 := size_setCell w1 ⟨w.heap.size, 0, none⟩ (.slice a1 l.length c1)
  generalize w1.setCell ⟨w.heap.size, 0, none⟩ (.slice a1 l.length c1) = w2 at *
  refine (check_any a1 l.length c1 l at_ _ sl2 HZ.out).mono ?_; rintro e w3 ⟨rfl, hb3⟩
  rw [HCK.out]
  have D1 := B1'.keep hb3
  have D2 := B2'.keep hb3
  obtain ⟨g0, g1, k0, k1⟩ := D1.c2
  obtain ⟨g2, g3, k2, k3⟩ := D2.c2
  have HO3 := Lib.hid (HO.out.keep hb3)
  have L3 := bel'.trans (hb3.mono (by omega))
  have z3 : w.heap.size + 2 ≤ w3.heap.size := by have := hb3.size; omega
  have E1 := Lib.hid D1; have E2 := Lib.hid D2
  clear sl2 p0 p1 f0 f1 B1' B2' HO D1 D2 hb3 bel' hz hz2
  go_wp2_with fail
  refine bodyPost_ret (results_row3 rfl _ _ (w.heap.size + 1) 43 _ (0, 0) _ rfl (((E2.out.set_ 0 (.slice a1 l.length c1)).set_ 1 (.int .i64 at_))) Try.underlying43 rfl (by kernel_rfl)) rfl ⟨_, rfl, ?_, ?_⟩
  · exact ((HO3.out.far (p := ⟨w.heap.size + 1, 0, none⟩) (by simp) _).far (p := ⟨w.heap.size + 1, 1, none⟩) (by simp) _).mono (by omega)
  · exact (L3.setCell (p := ⟨w.heap.size + 1, 0, none⟩) (by simp) _).setCell (p := ⟨w.heap.size + 1, 1, none⟩) (by simp) _
def nextAt (l : List ByteArray) (j : Nat) : Int := if j = l.length then 0 else ((j + 1 : Nat) : Int)
set_option maxHeartbeats 4000000 in
theorem answer_ok (a : Option Addr) (n c : Nat) (l : List ByteArray) (j : Nat) (x : ByteArray) (w : World) (hv : Sl w 1 a n c (sv l)) (hl : l.length * 16 ≤ 140737488351232) (hsz : ∀ x ∈ l, x.size ≤ maxLen) (hk : checkS l (j : Int) = 0) (h1 : 1 ≤ l.length) (h8 : l.length ≤ 8) (hj : j ≤ l.length) (hx : l[min j (l.length - 1)]? = some x) (hxs : x.size ≤ 40) :
    Calls Try.prog 25 #[.agg #[.slice a n c, .int .i64 (j : Int)], .string ⟨#[1]⟩] w fun e w' => ∃ v, e = .returned (.tuple #[.agg #[v, .int .i64 (nextAt l j)], .string (⟨#[0]⟩ ++ x), .int .i64 0]) ∧ Own w' w.heap.size 9 v (sv l) ∧ Below w.heap.size w w' := by
  have HV := Lib.hid hv
  have HZ := Lib.hid hsz
  have hl2 : l.length * 16 ≤ 140737488355328 := by omega
  clear hv hsz
  have HCK := Lib.hid hk
  have HX := Lib.hid hx
  clear hk hx
  go_enter Try.func25, Try.ntmps25
  go_wp2_with fail
  refine (sclone_any a n c l _ ((HV.out.keep (below_alloc _ _)).keep (below_alloc _ _)) hl2).mono ?_; rintro e w1 ⟨v1, rfl, ho1, hb1⟩
  obtain ⟨a1, c1, rfl, s1⟩ := ho1.sl
  obtain ⟨B1, B2, hz, bel⟩ := two_blks hb1
  obtain ⟨p0, p1, f0, f1⟩ := B1.c2
  have ho := ho1.mono (B' := w.heap.size + 2) (by simp)
  rw [sv_len] at ho ⊢
  have ho2 := ho.far (p := ⟨w.heap.size, 0, none⟩) (by simp) (.slice a1 l.length c1)
  have B1' := B1.set_ 0 (.slice a1 l.length c1)
  have B2' := B2.far (p := ⟨w.heap.size, 0, none⟩) (by simp) (.slice a1 l.length c1)
  have bel' := bel.setCell (p := ⟨w.heap.size, 0, none⟩) (Nat.le_refl _) (.slice a1 l.length c1)
  have HO := Lib.hid ho2
  clear hb1 s1 ho1 ho ho2 B1 B2 bel
  go_wp2_with fail
  have sl2 := Own.slAt HO.out
  have hz2 := size_setCell w1 ⟨w.heap.size, 0, none⟩ (.slice a1 l.length c1)
  generalize w1.setCell ⟨w.heap.size, 0, none⟩ (.slice a1 l.length c1) = w2 at *
  refine (check_any a1 l.length c1 l (j : Int) _ sl2 HZ.out).mono ?_; rintro e w3 ⟨rfl, hb3⟩
  rw [HCK.out]
  have D1 := B1'.keep hb3
  have D2 := B2'.keep hb3
  obtain ⟨g0, g1, k0, k1⟩ := D1.c2
  obtain ⟨g2, g3, k2, k3⟩ := D2.c2
  have HO3 := Lib.hid (HO.out.keep hb3)
  have L3 := bel'.trans (hb3.mono (by omega))
  have z3 : w.heap.size + 2 ≤ w3.heap.size := by have := hb3.size; omega
  have E1 := Lib.hid D1; have E2 := Lib.hid D2
  clear sl2 p0 p1 f0 f1 B1' B2' HO D1 D2 hb3 bel' hz hz2
  obtain ⟨b, o, rfl, hcc⟩ := (Own.slAt HO3.out).at_ (by omega)
  have cx := hcc _ _ (sv_get HX.out)
  clear hcc
  by_cases hjl : j < l.length
  · have em : min j (l.length - 1) = j := by omega
    have i1 : (j : Int) ≤ (l.length : Int) - 1 := by omega
    rw [em] at cx
    have E2' : Hid (nextAt l j = (j : Int) + 1) := by show _ = _; unfold nextAt; rw [if_neg (by omega)]; omega
    clear em
    go_wp2_with fail
    refine bodyPost_ret (results_row3 rfl _ _ (w.heap.size + 1) 43 _ (0, 0) _ rfl (((E2.out.far (p := ⟨w.heap.size, 1, none⟩) (by simp) _).set_ 0 (.slice (some ⟨b, o, none⟩) l.length c1)).set_ 1 (.int .i64 ((j : Int) + 1))) Try.underlying43 rfl (by kernel_rfl)) rfl ⟨_, by rw [E2'.out]; rfl, ?_, ?_⟩
    · exact (((HO3.out.far (p := ⟨w.heap.size, 1, none⟩) (by simp) _).far (p := ⟨w.heap.size + 1, 0, none⟩) (by simp) _).far (p := ⟨w.heap.size + 1, 1, none⟩) (by simp) _).mono (by omega)
    · exact ((L3.setCell (p := ⟨w.heap.size, 1, none⟩) (Nat.le_refl _) _).setCell (p := ⟨w.heap.size + 1, 0, none⟩) (by simp) _).setCell (p := ⟨w.heap.size + 1, 1, none⟩) (by simp) _
  · have em : min j (l.length - 1) = j - 1 := by omega
    have e3 : j = l.length := by omega
    have i1 : ¬ (j : Int) ≤ (l.length : Int) - 1 := by omega
    have i2 : (l.length : Int) - 1 < (j : Int) := by omega
    have i3 : ((l.length : Int) - 1).toNat = j - 1 := by omega
    rw [em] at cx
    have E2' : Hid (nextAt l j = 0) := by show _ = _; unfold nextAt; rw [if_pos (by omega)]
    clear em e3
    go_wp2_with fail
    refine bodyPost_ret (results_row3 rfl _ _ (w.heap.size + 1) 43 _ (0, 0) _ rfl ((((E2.out.far (p := ⟨w.heap.size, 1, none⟩) (by simp) _).far (p := ⟨w.heap.size, 1, none⟩) (by simp) _).set_ 0 (.slice (some ⟨b, o, none⟩) l.length c1)).set_ 1 (.int .i64 0)) Try.underlying43 rfl (by kernel_rfl)) rfl ⟨_, by rw [E2'.out]; rfl, ?_, ?_⟩
    · exact ((((HO3.out.far (p := ⟨w.heap.size, 1, none⟩) (by simp) _).far (p := ⟨w.heap.size, 1, none⟩) (by simp) _).far (p := ⟨w.heap.size + 1, 0, none⟩) (by simp) _).far (p := ⟨w.heap.size + 1, 1, none⟩) (by simp) _).mono (by omega)
    · exact (((L3.setCell (p := ⟨w.heap.size, 1, none⟩) (Nat.le_refl _) _).setCell (p := ⟨w.heap.size, 1, none⟩) (Nat.le_refl _) _).setCell (p := ⟨w.heap.size + 1, 0, none⟩) (by simp) _).setCell (p := ⟨w.heap.size + 1, 1, none⟩) (by simp) _
end Go.Proofs.Ytphbfciikjkkfaa.About
