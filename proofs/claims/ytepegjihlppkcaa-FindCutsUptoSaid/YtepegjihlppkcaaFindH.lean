/- The law FindCuts: the walk. -/
import Derived.Test.YtepegjihlppkcaaFindG
import Derived.RegionTactic
namespace Go.Proofs.Ytepegjihlppkcaa.Find
open Go.ChangeShapes Go.WideShapes Go.ChangeAt Go.RowKit
open Go.Proofs.Ytepegjihlppkcaa.Com Go.Proofs.Ytepegjihlppkcaa.Slices Go.Proofs.Ytepegjihlppkcaa.FindP Go.Proofs.Ytepegjihlppkcaa.Args Go.Proofs.Ytepegjihlppkcaa.Reg
set_option maxRecDepth 100000

set_option maxHeartbeats 8000000 in
theorem cuts_no (ta tb p : List Int) (a1 a2 a3 : Option Addr) (N Nb M c1 c2 c3 : Nat) (w : World) (hN : N = ta.length) (hNb : Nb = tb.length) (hM : M = p.length) (hA : Sl w 1 a1 N c1 (iv ta)) (hB : Sl w 1 a2 Nb c2 (iv tb)) (hP : Sl w 1 a3 M c3 (iv p)) (fA : N * 8 ≤ 140737488351232) (fB : Nb * 8 ≤ 140737488351232) (hkm : ((iv ta).length + (iv tb).length) * 8 ≤ 140737488355328) (hm : M < 1 ∨ 200 < M) :
    Calls Try.prog 11 #[.slice a1 N c1, .slice a2 Nb c2, .slice a3 M c3] w fun e w' => e = .returned (.bool true) ∧ Below w.heap.size w w' := by
  obtain ⟨i0, hi, hz0, hz1, hz2⟩ := info_parts infoInt
  have HN := Lib.hid hN; have HNb := Lib.hid hNb; have HM := Lib.hid hM
  have l1 := below_alloc w (.cells #[.slice a1 N c1] 22)
  have l2 := below_alloc (w.alloc (.cells #[.slice a1 N c1] 22)) (.cells #[.slice a3 M c3] 22)
  have L0 : Below w.heap.size w ((w.alloc (.cells #[.slice a1 N c1] 22)).alloc (.cells #[.slice a3 M c3] 22)) := bt l1 l2
  have HA0 := Lib.hid (hA.keep L0); have HB0 := Lib.hid (hB.keep L0); have HP0 := Lib.hid (hP.keep L0)
  have B0 := Lib.hid ((Blk.new w #[.slice a1 N c1] 22).keep l2)
  have B1 : Hid (Blk ((w.alloc (.cells #[.slice a1 N c1] 22)).alloc (.cells #[.slice a3 M c3] 22)) (w.heap.size + 1) #[.slice a3 M c3] 22) := by
    have := Blk.new (w.alloc (.cells #[.slice a1 N c1] 22)) #[.slice a3 M c3] 22
    rwa [show (w.alloc (.cells #[.slice a1 N c1] 22)).heap.size = w.heap.size + 1 by simp] at this
  have hlA : ta.length * 8 ≤ 140737488355328 := by omega
  have hone := iv_one tb
  have h18 : 1 ≤ 8 := by decide
  have hlen : (ta ++ tb).length = N + Nb := by rw [List.length_append, ← hN, ← hNb]
  clear hN hNb hM hA hB hP l1 l2
  go_enter Try.func11, Try.ntmps11
  go_wp2_with fail
  refine (In_no _ a3 M c3 hm _).mono ?_; rintro e w1 ⟨rfl, rfl⟩
  obtain ⟨p0, _⟩ := B0.out.cell 0 rfl
  obtain ⟨p1, _⟩ := B1.out.cell 0 rfl
  go_wp2_with fail
  refine (In_no _ a3 M c3 hm _).mono ?_; rintro e w1 ⟨rfl, rfl⟩
  go_wp2_with fail
  generalize (w.alloc (.cells #[.slice a1 N c1] 22)).alloc (.cells #[.slice a3 M c3] 22) = w3 at *
  have HA3 := HA0; have HB3 := HB0; have HP3 := HP0
  refine wp_region_st (fun aR iR v W => match iR with
    | 0 => v = .slice a1 N c1
    | 1 => Own W w3.heap.size 3 v (iv ta)
    | 2 => v = aR.eval (.tmp 1)
    | 3 => Own W w3.heap.size 3 v (iv (ta ++ tb))
    | 4 => v = .slice a3 M c3
    | 5 => v = .tuple #[.slice none 0 0, .int .i64 1]
    | 6 => v = .tuple #[.slice none 0 0, .int .i64 1]
    | 7 => v = .slice none 0 0
    | 8 => v = .int .i64 1
    | 9 => v = .slice none 0 0
    | 10 => v = .int .i64 1
    | _ => True) (growG 3 (w3.heap.size)) (fun W => Below w3.heap.size w3 W) [(3, 1)] (by kernel_rfl) (by kernel_rfl) ?_ ((Below.refl _ _).drew) ?_ ?_
  · intro iR j v W W' hne hw hns h hb
    have hk : (j = 3 → False) → Below W.heap.size W W' := fun q => growG.out hb q
    match iR, h, hne, hw, hns with
    | 0, h, hne, hw, hns => exact h
    | 1, h, hne, hw, hns => exact Own.keep h (hk (fun e => hns (by subst e; simp)))
    | 2, h, hne, hw, hns => exact h
    | 3, h, hne, hw, hns => exact Own.keep h (hk (fun e => hne e.symm))
    | 4, h, hne, hw, hns => exact h
    | 5, h, hne, hw, hns => exact h
    | 6, h, hne, hw, hns => exact h
    | 7, h, hne, hw, hns => exact h
    | 8, h, hne, hw, hns => exact h
    | 9, h, hne, hw, hns => exact h
    | 10, h, hne, hw, hns => exact h
    | n+11, _, _, _, _ => trivial
  · have hG : ∀ (i : Nat) (w : World), (growG 3 (w3.heap.size)) i w w := fun i w => growG.refl _ _ _ _
    refine (Steps.cons ?_ (Steps.cons ?_ (Steps.cons ?_ (Steps.cons ?_ (Steps.cons ?_ (Steps.cons ?_ (Steps.cons ?_ (Steps.cons ?_ (Steps.cons ?_ (Steps.cons ?_ (Steps.cons ?_ Steps.nil)))))))))))
    · refine (Step.un rfl (Step0.pure (hG 0) fun a' w' hag hS h => ⟨.slice a1 N c1, ?_, rfl⟩))
      have e3 := ev (hag.eval (.tmp 3) rfl)
      simp [Act.eval] at e3
      clear h hag
      have c1' := cell_keep p0 hS
      go_simp
      all_goals first | omega | exact IntWalk.i64_in _ (by omega) | exact (IntWalk.i64_in _ (by omega)).symm
    · refine (Step.un rfl ?_)
      intro a' w' K hag hS hw hK
      have e29 := ev (hw 0 rfl 29 rfl)
      refine wpOp_call (f := 17) (args := #[.slice a1 N c1]) (by go_simp) (Slices.clone_any a1 N c1 ta _ (HA3.out.keep hS) hlA) ?_
      rintro e w4 ⟨v4, rfl, ho4, hb4⟩
      exact ⟨_, rfl, hK _ _ (ho4.mono hS.size) (growG.of (by decide) hb4) (bt hS hb4)⟩
    · exact (Step.un rfl (Step0.move (.inl rfl) rfl (hG 2) (fun _ _ => rfl)))
    · refine (Step.un rfl ?_)
      intro a' w' K hag hS hw hK
      have r30 := hw 1 rfl 30 rfl
      have e31 := ev (hw 2 rfl 31 rfl)
      simp [Act.eval] at e31
      have e31' : a'.eval (.tmp 31) = .slice a2 Nb c2 := by have := hw 2 rfl 31 rfl; simpa [Act.eval] using this
      refine wpOp_app_src (.tmp 30) (.tmp 31) 22 3 rfl w3.heap.size i0 _ 8 Try.underlying22 hi hz0 hz1 hz2 rfl _ (iv ta) rfl r30 _ (iv tb) e31' (HB3.out.rs.keep hS) HB3.out.nilcap hone h18 hkm hS.size ?_
      intro v1 w2 hown1 hb2 hg
      exact hK v1 w2 (by rw [iv_app]; exact hown1) (growG.at_ hb2) (hS.trans hb2)
    · refine (Step.un rfl (Step0.pure (hG 4) fun a' w' hag hS h => ⟨.slice a3 M c3, ?_, rfl⟩))
      have e5 := ev (hag.eval (.tmp 5) rfl)
      simp [Act.eval] at e5
      clear h hag
      have c1' := cell_keep p1 hS
      go_simp
      all_goals first | omega | exact IntWalk.i64_in _ (by omega) | exact (IntWalk.i64_in _ (by omega)).symm
    · refine (Step.un rfl ?_)
      intro a' w' K hag hS hw hK
      have r32 := hw 3 rfl 32 rfl
      have e33 := ev (hw 4 rfl 33 rfl)
      obtain ⟨at_, ct, et, st⟩ := r32.sl
      rw [iv_len, hlen] at et st
      refine wpOp_call (f := 29) (args := #[.slice at_ (N + Nb) ct, .slice a3 M c3]) (by have e32 := ev et; clear hw hag hK; go_simp) (In_no _ a3 M c3 hm _) ?_
      rintro e w4 ⟨rfl, rfl⟩
      exact ⟨_, rfl, hK _ _ rfl (growG.refl _ _ _ _) hS⟩
    · exact (Step.un rfl (Step0.copy (j := 5) (d := 34) (.inl rfl) rfl rfl (hG 6) (fun v w _ h => h)))
    · refine (Step.un rfl (Step0.pure (hG 7) fun a' w' hag hS h => ⟨.slice none 0 0, ?_, rfl⟩))
      have e28 := ev (h 6 rfl 28 rfl)
      clear h hag
      go_simp
      all_goals first | omega | exact IntWalk.i64_in _ (by omega) | exact (IntWalk.i64_in _ (by omega)).symm
    · refine (Step.un rfl (Step0.pure (hG 8) fun a' w' hag hS h => ⟨.int .i64 1, ?_, rfl⟩))
      have e28 := ev (h 6 rfl 28 rfl)
      clear h hag
      go_simp
      all_goals first | omega | exact IntWalk.i64_in _ (by omega) | exact (IntWalk.i64_in _ (by omega)).symm
    · exact (Step.un rfl (Step0.copy (j := 7) (d := 35) (.inr rfl) rfl rfl (hG 9) (fun v w _ h => h)))
    · exact (Step.un rfl (Step0.copy (j := 8) (d := 36) (.inr rfl) rfl rfl (hG 10) (fun v w _ h => h)))
  intro vs w' hR hS'
  have h9 := hR 9 (by decide) rfl
  simp only [] at h9
  have h10 := hR 10 (by decide) rfl
  simp only [] at h10
  clear hR
  simp only [puts, Act.put, List.setIfInBounds_toArray, List.set_cons_succ, List.set_cons_zero, Nat.reduceAdd]
  generalize vs 9 = v9 at *
  subst h9
  generalize vs 10 = v10 at *
  subst h10
  have L3 := bt L0 hS'
  go_wp2_with fail
  refine (lives _).mono ?_; rintro e w5 ⟨rfl, hb5⟩
  go_wp2_with fail
  refine (lives _).mono ?_; rintro e w6 ⟨rfl, hb6⟩
  go_wp2_with fail
  go_ret
  exact ⟨rfl, bt (bt L3 hb5) hb6⟩
set_option maxHeartbeats 8000000 in
theorem cuts_large (ta tb p : List Int) (a1 a2 a3 : Option Addr) (N Nb M c1 c2 c3 : Nat) (w : World) (hN : N = ta.length) (hNb : Nb = tb.length) (hM : M = p.length) (hA : Sl w 1 a1 N c1 (iv ta)) (hB : Sl w 1 a2 Nb c2 (iv tb)) (hP : Sl w 1 a3 M c3 (iv p)) (fA : N * 8 ≤ 140737488351232) (fB : Nb * 8 ≤ 140737488351232) (hkm : ((iv ta).length + (iv tb).length) * 8 ≤ 140737488355328) (m1 : 1 ≤ M) (m2 : M ≤ 200) (hbig : 100000 < N + Nb) :
    Calls Try.prog 11 #[.slice a1 N c1, .slice a2 Nb c2, .slice a3 M c3] w fun e w' => e = .returned (.bool true) ∧ Below w.heap.size w w' := by
  obtain ⟨i0, hi, hz0, hz1, hz2⟩ := info_parts infoInt
  have HN := Lib.hid hN; have HNb := Lib.hid hNb; have HM := Lib.hid hM
  have l1 := below_alloc w (.cells #[.slice a1 N c1] 22)
  have l2 := below_alloc (w.alloc (.cells #[.slice a1 N c1] 22)) (.cells #[.slice a3 M c3] 22)
  have L0 : Below w.heap.size w ((w.alloc (.cells #[.slice a1 N c1] 22)).alloc (.cells #[.slice a3 M c3] 22)) := bt l1 l2
  have HA0 := Lib.hid (hA.keep L0); have HB0 := Lib.hid (hB.keep L0); have HP0 := Lib.hid (hP.keep L0)
  have B0 := Lib.hid ((Blk.new w #[.slice a1 N c1] 22).keep l2)
  have B1 : Hid (Blk ((w.alloc (.cells #[.slice a1 N c1] 22)).alloc (.cells #[.slice a3 M c3] 22)) (w.heap.size + 1) #[.slice a3 M c3] 22) := by
    have := Blk.new (w.alloc (.cells #[.slice a1 N c1] 22)) #[.slice a3 M c3] 22
    rwa [show (w.alloc (.cells #[.slice a1 N c1] 22)).heap.size = w.heap.size + 1 by simp] at this
  have hlA : ta.length * 8 ≤ 140737488355328 := by omega
  have hone := iv_one tb
  have h18 : 1 ≤ 8 := by decide
  have hlen : (ta ++ tb).length = N + Nb := by rw [List.length_append, ← hN, ← hNb]
  clear hN hNb hM hA hB hP l1 l2
  go_enter Try.func11, Try.ntmps11
  go_wp2_with fail
  refine (In_any ta p a1 a3 N M c1 c3 HN.out HM.out m1 m2 _ HA0.out HP0.out).mono ?_; rintro e w1 ⟨v1, er1, rfl, hb1⟩
  obtain ⟨p0, _⟩ := (B0.out.keep hb1).cell 0 rfl
  obtain ⟨p1, _⟩ := (B1.out.keep hb1).cell 0 rfl
  go_wp2_with fail
  refine (In_any tb p a2 a3 Nb M c2 c3 HNb.out HM.out m1 m2 _ (HB0.out.keep hb1) (HP0.out.keep hb1)).mono ?_; rintro e w3 ⟨v2, er2, rfl, hb2⟩
  have b12 := bt hb1 hb2
  have L2 := bt L0 b12
  obtain ⟨p0, _⟩ := (B0.out.keep b12).cell 0 rfl
  obtain ⟨p1, _⟩ := (B1.out.keep b12).cell 0 rfl
  have HA3 := Lib.hid (HA0.out.keep b12); have HB3 := Lib.hid (HB0.out.keep b12); have HP3 := Lib.hid (HP0.out.keep b12)
  clear hb1 hb2
  go_wp2_with fail
  refine wp_region_st (fun aR iR v W => match iR with
    | 0 => v = .slice a1 N c1
    | 1 => Own W w3.heap.size 3 v (iv ta)
    | 2 => v = aR.eval (.tmp 1)
    | 3 => Own W w3.heap.size 3 v (iv (ta ++ tb))
    | 4 => v = .slice a3 M c3
    | 5 => v = .tuple #[.slice none 0 0, .int .i64 2]
    | 6 => v = .tuple #[.slice none 0 0, .int .i64 2]
    | 7 => v = .slice none 0 0
    | 8 => v = .int .i64 2
    | 9 => v = .slice none 0 0
    | 10 => v = .int .i64 2
    | _ => True) (growG 3 (w3.heap.size)) (fun W => Below w3.heap.size w3 W) [(3, 1)] (by kernel_rfl) (by kernel_rfl) ?_ ((Below.refl _ _).drew) ?_ ?_
  · intro iR j v W W' hne hw hns h hb
    have hk : (j = 3 → False) → Below W.heap.size W W' := fun q => growG.out hb q
    match iR, h, hne, hw, hns with
    | 0, h, hne, hw, hns => exact h
    | 1, h, hne, hw, hns => exact Own.keep h (hk (fun e => hns (by subst e; simp)))
    | 2, h, hne, hw, hns => exact h
    | 3, h, hne, hw, hns => exact Own.keep h (hk (fun e => hne e.symm))
    | 4, h, hne, hw, hns => exact h
    | 5, h, hne, hw, hns => exact h
    | 6, h, hne, hw, hns => exact h
    | 7, h, hne, hw, hns => exact h
    | 8, h, hne, hw, hns => exact h
    | 9, h, hne, hw, hns => exact h
    | 10, h, hne, hw, hns => exact h
    | n+11, _, _, _, _ => trivial
  · have hG : ∀ (i : Nat) (w : World), (growG 3 (w3.heap.size)) i w w := fun i w => growG.refl _ _ _ _
    refine (Steps.cons ?_ (Steps.cons ?_ (Steps.cons ?_ (Steps.cons ?_ (Steps.cons ?_ (Steps.cons ?_ (Steps.cons ?_ (Steps.cons ?_ (Steps.cons ?_ (Steps.cons ?_ (Steps.cons ?_ Steps.nil)))))))))))
    · refine (Step.un rfl (Step0.pure (hG 0) fun a' w' hag hS h => ⟨.slice a1 N c1, ?_, rfl⟩))
      have e3 := ev (hag.eval (.tmp 3) rfl)
      simp [Act.eval] at e3
      clear h hag
      have c1' := cell_keep p0 hS
      go_simp
      all_goals first | omega | exact IntWalk.i64_in _ (by omega) | exact (IntWalk.i64_in _ (by omega)).symm
    · refine (Step.un rfl ?_)
      intro a' w' K hag hS hw hK
      have e29 := ev (hw 0 rfl 29 rfl)
      refine wpOp_call (f := 17) (args := #[.slice a1 N c1]) (by go_simp) (Slices.clone_any a1 N c1 ta _ (HA3.out.keep hS) hlA) ?_
      rintro e w4 ⟨v4, rfl, ho4, hb4⟩
      exact ⟨_, rfl, hK _ _ (ho4.mono hS.size) (growG.of (by decide) hb4) (bt hS hb4)⟩
    · exact (Step.un rfl (Step0.move (.inl rfl) rfl (hG 2) (fun _ _ => rfl)))
    · refine (Step.un rfl ?_)
      intro a' w' K hag hS hw hK
      have r30 := hw 1 rfl 30 rfl
      have e31 := ev (hw 2 rfl 31 rfl)
      simp [Act.eval] at e31
      have e31' : a'.eval (.tmp 31) = .slice a2 Nb c2 := by have := hw 2 rfl 31 rfl; simpa [Act.eval] using this
      refine wpOp_app_src (.tmp 30) (.tmp 31) 22 3 rfl w3.heap.size i0 _ 8 Try.underlying22 hi hz0 hz1 hz2 rfl _ (iv ta) rfl r30 _ (iv tb) e31' (HB3.out.rs.keep hS) HB3.out.nilcap hone h18 hkm hS.size ?_
      intro v1 w2 hown1 hb2 hg
      exact hK v1 w2 (by rw [iv_app]; exact hown1) (growG.at_ hb2) (hS.trans hb2)
    · refine (Step.un rfl (Step0.pure (hG 4) fun a' w' hag hS h => ⟨.slice a3 M c3, ?_, rfl⟩))
      have e5 := ev (hag.eval (.tmp 5) rfl)
      simp [Act.eval] at e5
      clear h hag
      have c1' := cell_keep p1 hS
      go_simp
      all_goals first | omega | exact IntWalk.i64_in _ (by omega) | exact (IntWalk.i64_in _ (by omega)).symm
    · refine (Step.un rfl ?_)
      intro a' w' K hag hS hw hK
      have r32 := hw 3 rfl 32 rfl
      have e33 := ev (hw 4 rfl 33 rfl)
      obtain ⟨at_, ct, et, st⟩ := r32.sl
      rw [iv_len, hlen] at et st
      refine wpOp_call (f := 29) (args := #[.slice at_ (N + Nb) ct, .slice a3 M c3]) (by have e32 := ev et; clear hw hag hK; go_simp) (In_large at_ (N + Nb) ct a3 M c3 m1 m2 hbig _) ?_
      rintro e w4 ⟨rfl, rfl⟩
      exact ⟨_, rfl, hK _ _ rfl (growG.refl _ _ _ _) hS⟩
    · exact (Step.un rfl (Step0.copy (j := 5) (d := 34) (.inl rfl) rfl rfl (hG 6) (fun v w _ h => h)))
    · refine (Step.un rfl (Step0.pure (hG 7) fun a' w' hag hS h => ⟨.slice none 0 0, ?_, rfl⟩))
      have e28 := ev (h 6 rfl 28 rfl)
      clear h hag
      go_simp
      all_goals first | omega | exact IntWalk.i64_in _ (by omega) | exact (IntWalk.i64_in _ (by omega)).symm
    · refine (Step.un rfl (Step0.pure (hG 8) fun a' w' hag hS h => ⟨.int .i64 2, ?_, rfl⟩))
      have e28 := ev (h 6 rfl 28 rfl)
      clear h hag
      go_simp
      all_goals first | omega | exact IntWalk.i64_in _ (by omega) | exact (IntWalk.i64_in _ (by omega)).symm
    · exact (Step.un rfl (Step0.copy (j := 7) (d := 35) (.inr rfl) rfl rfl (hG 9) (fun v w _ h => h)))
    · exact (Step.un rfl (Step0.copy (j := 8) (d := 36) (.inr rfl) rfl rfl (hG 10) (fun v w _ h => h)))
  intro vs w' hR hS'
  have h9 := hR 9 (by decide) rfl
  simp only [] at h9
  have h10 := hR 10 (by decide) rfl
  simp only [] at h10
  clear hR
  simp only [puts, Act.put, List.setIfInBounds_toArray, List.set_cons_succ, List.set_cons_zero, Nat.reduceAdd]
  generalize vs 9 = v9 at *
  subst h9
  generalize vs 10 = v10 at *
  subst h10
  have L3 := bt L2 hS'
  go_wp2_with fail
  refine (lives _).mono ?_; rintro e w5 ⟨rfl, hb5⟩
  rcases Bool.eq_false_or_eq_true (er1 != 0) with q1 | q1
  all_goals rcases Bool.eq_false_or_eq_true (er2 != 0) with q2 | q2
  all_goals
    go_wp2_with fail
    refine (lives _).mono ?_; rintro e w6 ⟨rfl, hb6⟩
    go_wp2_with fail
    go_ret
    exact ⟨rfl, bt (bt L3 hb5) hb6⟩
end Go.Proofs.Ytepegjihlppkcaa.Find
