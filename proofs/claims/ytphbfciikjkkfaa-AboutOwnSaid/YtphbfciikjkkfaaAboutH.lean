/- The law AboutOwn. -/
import Derived.Test.YtphbfciikjkkfaaAboutG
namespace Go.Proofs.Ytphbfciikjkkfaa.About
open Go.ChangeShapes Go.WideShapes Go.ChangeAt Go.RowKit
open Go.Proofs.Ytphbfciikjkkfaa.Com Go.Proofs.Ytphbfciikjkkfaa.Reg Go.Proofs.Ytphbfciikjkkfaa.Args Go.Proofs.Ytphbfciikjkkfaa.Row
set_option maxRecDepth 100000

theorem answer_any (a : Option Addr) (n c : Nat) (l : List ByteArray) (at_ : Int) (data : ByteArray) (w : World) (hv : Sl w 1 a n c (sv l)) (hl : l.length * 16 ≤ 140737488351232) (hsz : ∀ x ∈ l, x.size ≤ maxLen) :
    Calls Try.prog 25 #[.agg #[.slice a n c, .int .i64 at_], .string data] w fun e w' => ∃ (v : Value) (at2 : Int) (s : ByteArray) (er : Int), e = .returned (.tuple #[.agg #[v, .int .i64 at2], .string s, .int .i64 er]) ∧ Own w' w.heap.size 9 v (sv l) ∧ Below w.heap.size w w' ∧
      Hid ((er ≠ 0 ∧ s = ⟨#[]⟩ ∧ at2 = at_) ∨ (er = 0 ∧ checkS l at_ = 0)) := by
  by_cases hk : checkS l at_ = 0
  · by_cases hd : data = ⟨#[1]⟩
    · obtain ⟨n1, n8, hf, a0, a1⟩ := check_zero hk
      obtain ⟨j, rfl⟩ : ∃ j : Nat, at_ = (j : Int) := ⟨at_.toNat, by omega⟩
      have hx : l[min j (l.length - 1)]? = some (l[min j (l.length - 1)]'(by omega)) := List.getElem?_eq_getElem _
      subst hd
      exact (answer_ok a n c l j _ w hv hl hsz hk n1 n8 (by omega) hx (name_le (hf.1 _ (List.getElem_mem _)))).mono fun e w' ⟨v, h1, h2, h3⟩ => ⟨v, _, _, _, h1, h2, h3, .inr ⟨rfl, hk⟩⟩
    · exact (answer_form a n c l at_ data w hv hl hsz hk hd).mono fun e w' ⟨v, h1, h2, h3⟩ => ⟨v, _, _, _, h1, h2, h3, .inl ⟨by decide, rfl, rfl⟩⟩
  · exact (answer_bad a n c l at_ data w hv hl hsz hk).mono fun e w' ⟨v, h1, h2, h3⟩ => ⟨v, _, _, _, h1, h2, h3, .inl ⟨hk, rfl, rfl⟩⟩
/-- Sorts that came in. -/
theorem sorts_arg {w : World} {v : Value} (h : Arg none Try.prog w 43 v) : ∃ a c l at_, v = .agg #[.slice a l.length c, .int .i64 at_] ∧ Sl w 1 a l.length c (sv l) ∧ l.length * 16 ≤ 140737488351232 ∧ (∀ x ∈ l, x.size ≤ maxLen) := by
  obtain ⟨cs, rfl, hr⟩ := h.agg (.inl ⟨_, Try.underlying43⟩)
  obtain ⟨hl, hf⟩ := hr.struct Try.underlying43
  have hl2 : cs.toList.length = 2 := hl.trans (by kernel_rfl)
  obtain ⟨cl⟩ := cs
  match cl, hl2 with
  | [u0, u1], _ =>
    have h0 : Rd none Try.prog w 37 (([u0, u1].drop 0).take (Try.prog.cellsOf 37)) := hf 0 _ rfl
    have h1 : Rd none Try.prog w 3 (([u0, u1].drop 1).take (Try.prog.cellsOf 3)) := hf 1 _ rfl
    have c0 : Try.prog.cellsOf 37 = 1 := by kernel_rfl
    have c1 : Try.prog.cellsOf 3 = 1 := by kernel_rfl
    rw [c0] at h0
    rw [c1] at h1
    simp at h0 h1
    obtain ⟨a, c, l, rfl, h2, h3, h4⟩ := strs_sl h0
    obtain ⟨n, h5, _⟩ := h1.int Try.underlying3
    simp at h5; subst h5
    exact ⟨a, c, l, n, rfl, h2, h3, h4⟩

set_option maxHeartbeats 8000000 in
theorem own_walk (v0 v1 : Value) (w : World) (h0 : Arg none Try.prog w 43 v0) (h1 : Arg none Try.prog w 9 v1) :
    Calls Try.prog 8 #[v0, v1] w fun e w' => e = .returned (.bool true) ∧ Below w.heap.size w w' := by
  obtain ⟨a, c, l, at_, rfl, hv, f1, hsz⟩ := sorts_arg h0
  obtain ⟨data, rfl, _⟩ := h1.string Try.underlying9
  clear h0 h1
  have HV := Lib.hid hv; have HZ := Lib.hid hsz
  have BL := Lib.hid (Blk.new w #[.slice a l.length c, .int .i64 at_] 43)
  have L0 := below_alloc w (.cells #[.slice a l.length c, .int .i64 at_] 43)
  have f2 : l.length * 16 ≤ 140737488355328 := by omega
  clear hv hsz
  generalize hn : l.length = n at *
  have HN := Lib.hid hn
  clear hn
  go_enter Try.func8, Try.ntmps8
  go_wp2_with fail
  refine (sclone_any a n c l _ (HV.out.keep L0) (by rw [HN.out]; exact f2)).mono ?_; rintro e w1 ⟨v5, rfl, ho5, hb1⟩
  obtain ⟨a5, c5, rfl, s5⟩ := ho5.sl
  rw [sv_len, HN.out] at s5
  simp only [sv_len, HN.out]
  have S5 := Lib.hid s5
  have L1 := L0.trans (hb1.mono L0.size)
  have BL1 := Lib.hid (BL.out.keep hb1)
  obtain ⟨g0, g1, z0, z1⟩ := BL1.out.c2
  have HV1 := Lib.hid (HV.out.keep L1)
  clear ho5 s5 BL HV hb1 L0
  go_wp2_with fail
  refine (answer_any a n c l at_ data w1 HV1.out (by rw [HN.out]; exact f1) HZ.out).mono ?_; rintro e w2 ⟨v6, at2, s, er, rfl, ho6, hb2, HP⟩
  obtain ⟨a6, c6, rfl, s6⟩ := ho6.sl
  rw [sv_len, HN.out] at s6
  simp only [sv_len, HN.out] at ho6 ⊢
  have L2 := bt L1 hb2
  clear g0 g1 z0 z1
  rcases HP.out with hp | hp
  all_goals clear HP
  · obtain ⟨hne, rfl, rfl⟩ := hp
    have q1 : (er == 0) = false := by simpa using hne
    have q2 : (er != 0) = true := by simpa using hne
    have q3 : ((at2 : Int) == at2) = true := by simp
    clear hne
    have La := below_alloc w2 (.cells #[.slice a6 n c6, .int .i64 at2] 43)
    obtain ⟨g0, g1, _, _⟩ := ((BL1.out.keep hb2).keep La).c2
    go_wp2_with fail
    have Bl6 := Lib.hid (Blk.new w2 #[.slice a6 n c6, .int .i64 at2] 43)
    have O6 := Lib.hid (ho6.keep La)
    have La2 : Below w1.heap.size w1 (w2.alloc (.cells #[.slice a6 n c6, .int .i64 at2] 43)) := bt hb2 La
    have L3 := bt L2 La
    clear ho6 s6
    generalize w2.alloc (.cells #[.slice a6 n c6, .int .i64 at2] 43) = w3 at *
    refine (EqStr.eq_strs _ _ l l _ (HV1.out.keep La2).rs (S5.out.keep La2).rs).mono ?_; rintro e w4 ⟨rfl, hb4⟩
    rw [decide_eq_true rfl]
    have La4 := bt La2 hb4
    have L4 := bt L3 hb4
    obtain ⟨p0, p1, _, _⟩ := (Bl6.out.keep hb4).c2
    obtain ⟨g0, g1, _, _⟩ := (BL1.out.keep La4).c2
    go_wp2_with fail
    refine (EqStr.eq_strs _ _ l l _ (Own.slAt (show World.ownsRow _ _ _ _ _ _ _ from O6.out.keep hb4)).rs (S5.out.keep La4).rs).mono ?_; rintro e w5 ⟨rfl, hb5⟩
    rw [decide_eq_true rfl]
    have La5 := bt La4 hb5
    have L5 := bt L4 hb5
    have O7 := Lib.hid ((O6.out.keep hb4).keep hb5)
    obtain ⟨p0, p1, _, _⟩ := ((Bl6.out.keep hb4).keep hb5).c2
    have hrow := Own.row O7.out
    clear O6 Bl6
    rcases hrow with ⟨rfl, rfl, rfl⟩ | ⟨g, cur, rfl, hg, hcur, hcs⟩
    · go_wp2_with fail
      go_loopw [55] (fun ii wr => ii = .int .i64 0 ∧ wr = w5) (fun _ _ => 0)
      case atStart => exact ⟨rfl, rfl⟩
      case round =>
        obtain ⟨rfl, rfl⟩ := hrel
        have La7 := La5
        have L7 := L5
        go_wp2_with fail
        refine (lives _).mono ?_; rintro e w6 ⟨rfl, hb6⟩
        have La6 := La7.trans (hb6.mono La7.size)
        have L6 := L7.trans (hb6.mono L7.size)
        obtain ⟨g0, g1, _, _⟩ := (BL1.out.keep La6).c2
        go_wp2_with fail
        refine (EqStr.eq_strs _ _ l l _ (HV1.out.keep La6).rs (S5.out.keep La6).rs).mono ?_; rintro e w8 ⟨rfl, hb8⟩
        rw [decide_eq_true rfl]
        have La8 := bt La6 hb8
        have L8 := bt L6 hb8
        go_wp2_with fail
        go_ret
        exact ⟨rfl, L8⟩
    · have HG := Lib.hid hcur
      have HS := Lib.hid hcs
      have hnc : n ≤ c6 := (Own.slAt (show World.ownsRow _ _ _ _ _ _ _ from O7.out)).le
      have hcm := (Own.slAt (show World.ownsRow _ _ _ _ _ _ _ from O7.out)).cap
      unfold maxLen at hcm
      clear hcur hcs
      go_wp2_with fail
      go_loopw [55] (fun ii wr => ∃ (i : Nat) (cur2 : Array Value), i ≤ c6 ∧ ii = .int .i64 i ∧ Hid (Blk wr g cur2 9) ∧ Hid (cur2.size = c6) ∧ Below w1.heap.size w1 wr ∧ Below w.heap.size w wr) (fun ii _ => c6 - (intOf ii).toNat)
      case atStart => exact ⟨0, cur, by omega, rfl, HG, HS, La5, L5⟩
      case round =>
        obtain ⟨i, cur2, hic, rfl, HG2, HS2, La7, L7⟩ := hrel
        by_cases hlt : i < c6
        · obtain ⟨u, hu⟩ : ∃ u, cur2[i]? = some u := ⟨_, Array.getElem?_eq_getElem (by rw [HS2.out]; exact hlt)⟩
          obtain ⟨ci, fi⟩ := HG2.out.cell i hu
          clear hu
          have HG3 := Lib.hid (HG2.out.set_ i (.string ⟨#[115, 112, 111, 105, 108, 116]⟩))
          have HS3 : Hid ((cur2.setIfInBounds i (.string ⟨#[115, 112, 111, 105, 108, 116]⟩)).size = c6) := by show _ = _; rw [Array.size_setIfInBounds]; exact HS2.out
          go_wp2_with fail
          go_roundw
          case rel => exact ⟨i + 1, _, by omega, by go_num, HG3, HS3, La7.setCell hg _, L7.setCell (Nat.le_trans L1.size hg) _⟩
          case measure => simp [intOf]; omega
        · go_wp2_with fail
          refine (lives _).mono ?_; rintro e w6 ⟨rfl, hb6⟩
          have La6 := La7.trans (hb6.mono La7.size)
          have L6 := L7.trans (hb6.mono L7.size)
          obtain ⟨g0, g1, _, _⟩ := (BL1.out.keep La6).c2
          go_wp2_with fail
          refine (EqStr.eq_strs _ _ l l _ (HV1.out.keep La6).rs (S5.out.keep La6).rs).mono ?_; rintro e w8 ⟨rfl, hb8⟩
          rw [decide_eq_true rfl]
          have La8 := bt La6 hb8
          have L8 := bt L6 hb8
          go_wp2_with fail
          go_ret
          exact ⟨rfl, L8⟩
  · obtain ⟨rfl, hck⟩ := hp
    have HCK := Lib.hid hck
    clear hck
    have La := below_alloc w2 (.cells #[.slice a6 n c6, .int .i64 at2] 43)
    obtain ⟨g0, g1, _, _⟩ := ((BL1.out.keep hb2).keep La).c2
    go_wp2_with fail
    have Bl6 := Lib.hid (Blk.new w2 #[.slice a6 n c6, .int .i64 at2] 43)
    have O6 := Lib.hid (ho6.keep La)
    have La2 : Below w1.heap.size w1 (w2.alloc (.cells #[.slice a6 n c6, .int .i64 at2] 43)) := bt hb2 La
    have L3 := bt L2 La
    clear ho6 s6
    generalize w2.alloc (.cells #[.slice a6 n c6, .int .i64 at2] 43) = w3 at *
    refine (EqStr.eq_strs _ _ l l _ (HV1.out.keep La2).rs (S5.out.keep La2).rs).mono ?_; rintro e w4 ⟨rfl, hb4⟩
    rw [decide_eq_true rfl]
    have La4 := bt La2 hb4
    have L4 := bt L3 hb4
    obtain ⟨p0, p1, _, _⟩ := (Bl6.out.keep hb4).c2
    obtain ⟨g0, g1, _, _⟩ := (BL1.out.keep La4).c2
    obtain ⟨w5, rfl⟩ : ∃ w5 : World, w5 = w4 := ⟨_, rfl⟩
    have La5 := La4
    have L5 := L4
    have O7 := Lib.hid (O6.out.keep hb4)
    have hrow := Own.row O7.out
    clear O6 Bl6
    rcases hrow with ⟨rfl, rfl, rfl⟩ | ⟨g, cur, rfl, hg, hcur, hcs⟩
    · go_wp2_with fail
      go_loopw [55] (fun ii wr => ii = .int .i64 0 ∧ wr = w5) (fun _ _ => 0)
      case atStart => exact ⟨rfl, rfl⟩
      case round =>
        obtain ⟨rfl, rfl⟩ := hrel
        have La7 := La5
        have L7 := L5
        go_wp2_with fail
        refine (lives _).mono ?_; rintro e w6 ⟨rfl, hb6⟩
        have La6 := La7.trans (hb6.mono La7.size)
        have L6 := L7.trans (hb6.mono L7.size)
        obtain ⟨g0, g1, _, _⟩ := (BL1.out.keep La6).c2
        go_wp2_with fail
        refine (EqStr.eq_strs _ _ l l _ (HV1.out.keep La6).rs (S5.out.keep La6).rs).mono ?_; rintro e w8 ⟨rfl, hb8⟩
        rw [decide_eq_true rfl]
        have La8 := bt La6 hb8
        have L8 := bt L6 hb8
        obtain ⟨g0, g1, _, _⟩ := (BL1.out.keep La8).c2
        have RY := Lib.hid (right_yes a _ c l at_ w8 (HV1.out.keep La8) HCK.out)
        go_wp2_with fail
        refine RY.out.mono ?_; rintro e w9 ⟨rfl, hb9⟩
        go_wp2_with fail
        go_ret
        exact ⟨rfl, bt L8 hb9⟩
    · have HG := Lib.hid hcur
      have HS := Lib.hid hcs
      have hnc : n ≤ c6 := (Own.slAt (show World.ownsRow _ _ _ _ _ _ _ from O7.out)).le
      have hcm := (Own.slAt (show World.ownsRow _ _ _ _ _ _ _ from O7.out)).cap
      unfold maxLen at hcm
      clear hcur hcs
      go_wp2_with fail
      go_loopw [55] (fun ii wr => ∃ (i : Nat) (cur2 : Array Value), i ≤ c6 ∧ ii = .int .i64 i ∧ Hid (Blk wr g cur2 9) ∧ Hid (cur2.size = c6) ∧ Below w1.heap.size w1 wr ∧ Below w.heap.size w wr) (fun ii _ => c6 - (intOf ii).toNat)
      case atStart => exact ⟨0, cur, by omega, rfl, HG, HS, La5, L5⟩
      case round =>
        obtain ⟨i, cur2, hic, rfl, HG2, HS2, La7, L7⟩ := hrel
        by_cases hlt : i < c6
        · obtain ⟨u, hu⟩ : ∃ u, cur2[i]? = some u := ⟨_, Array.getElem?_eq_getElem (by rw [HS2.out]; exact hlt)⟩
          obtain ⟨ci, fi⟩ := HG2.out.cell i hu
          clear hu
          have HG3 := Lib.hid (HG2.out.set_ i (.string ⟨#[115, 112, 111, 105, 108, 116]⟩))
          have HS3 : Hid ((cur2.setIfInBounds i (.string ⟨#[115, 112, 111, 105, 108, 116]⟩)).size = c6) := by show _ = _; rw [Array.size_setIfInBounds]; exact HS2.out
          go_wp2_with fail
          go_roundw
          case rel => exact ⟨i + 1, _, by omega, by go_num, HG3, HS3, La7.setCell hg _, L7.setCell (Nat.le_trans L1.size hg) _⟩
          case measure => simp [intOf]; omega
        · go_wp2_with fail
          refine (lives _).mono ?_; rintro e w6 ⟨rfl, hb6⟩
          have La6 := La7.trans (hb6.mono La7.size)
          have L6 := L7.trans (hb6.mono L7.size)
          obtain ⟨g0, g1, _, _⟩ := (BL1.out.keep La6).c2
          go_wp2_with fail
          refine (EqStr.eq_strs _ _ l l _ (HV1.out.keep La6).rs (S5.out.keep La6).rs).mono ?_; rintro e w8 ⟨rfl, hb8⟩
          rw [decide_eq_true rfl]
          have La8 := bt La6 hb8
          have L8 := bt L6 hb8
          obtain ⟨g0, g1, _, _⟩ := (BL1.out.keep La8).c2
          have RY := Lib.hid (right_yes a _ c l at_ w8 (HV1.out.keep La8) HCK.out)
          go_wp2_with fail
          refine RY.out.mono ?_; rintro e w9 ⟨rfl, hb9⟩
          go_wp2_with fail
          go_ret
          exact ⟨rfl, bt L8 hb9⟩
end Go.Proofs.Ytphbfciikjkkfaa.About
