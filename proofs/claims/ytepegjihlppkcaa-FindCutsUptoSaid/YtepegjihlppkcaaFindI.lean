/- The law FindCuts: the walk where all is found. -/
import Derived.Test.YtepegjihlppkcaaFindH
import Derived.Test.YtepegjihlppkcaaReg2
import Derived.RegionTactic
namespace Go.Proofs.Ytepegjihlppkcaa.Find
open Go.ChangeShapes Go.WideShapes Go.ChangeAt Go.RowKit
open Go.Proofs.Ytepegjihlppkcaa.Com Go.Proofs.Ytepegjihlppkcaa.Slices Go.Proofs.Ytepegjihlppkcaa.FindP Go.Proofs.Ytepegjihlppkcaa.Args Go.Proofs.Ytepegjihlppkcaa.Reg2
set_option maxRecDepth 100000

def rowB (N : Nat) (ys : List Int) (i : Nat) : List Int := (ys.take i).map (fun x => x - (N : Int)) ++ ys.drop i
theorem rowB_zero (N : Nat) (ys : List Int) : rowB N ys 0 = ys := by simp [rowB]
theorem rowB_at (N : Nat) {ys : List Int} {i : Nat} {x : Int} (h : ys[i]? = some x) : (rowB N ys i)[i]? = some x := by
  have hl := (List.getElem?_eq_some_iff.1 h).1
  unfold rowB
  rw [List.getElem?_append_right (by simp; omega)]
  simp [Nat.min_eq_left (Nat.le_of_lt hl), h]
theorem rowB_set (N : Nat) {ys : List Int} {i : Nat} {x : Int} (h : ys[i]? = some x) : (rowB N ys i).set i (x - (N : Int)) = rowB N ys (i + 1) := by
  obtain ⟨hl, he⟩ := List.getElem?_eq_some_iff.1 h
  unfold rowB
  rw [List.set_append_right _ _ (by simp; omega), List.take_succ_eq_append_getElem hl, List.map_append, List.drop_eq_getElem_cons hl]
  simp [Nat.min_eq_left (Nat.le_of_lt hl), he]
theorem rowB_end (N : Nat) (ys : List Int) : rowB N ys ys.length = ys.map (fun x => x - (N : Int)) := by simp [rowB]
set_option maxHeartbeats 8000000 in
theorem cuts_ok (ta tb p : List Int) (a1 a2 a3 : Option Addr) (N Nb M c1 c2 c3 : Nat) (w : World) (hN : N = ta.length) (hNb : Nb = tb.length) (hM : M = p.length) (hA : Sl w 1 a1 N c1 (iv ta)) (hB : Sl w 1 a2 Nb c2 (iv tb)) (hP : Sl w 1 a3 M c3 (iv p)) (fA : N * 8 ≤ 140737488351232) (fB : Nb * 8 ≤ 140737488351232) (hkm : ((iv ta).length + (iv tb).length) * 8 ≤ 140737488355328) (m1 : 1 ≤ M) (m2 : M ≤ 200) (hbig : N + Nb ≤ 100000) :
    Calls Try.prog 11 #[.slice a1 N c1, .slice a2 Nb c2, .slice a3 M c3] w fun e w' => e = .returned (.bool true) ∧ Below w.heap.size w w' := by
  obtain ⟨i0, hi, hz0, hz1, hz2⟩ := info_parts infoInt
  have HN := Lib.hid hN; have HNb := Lib.hid hNb; have HM := Lib.hid hM
  have l1 := below_alloc w (.cells #[.slice a1 N c1] 22)
  have l2 := below_alloc (w.alloc (.cells #[.slice a1 N c1] 22)) (.cells #[.slice a3 M c3] 22)
  have L0 : Below w.heap.size w ((w.alloc (.cells #[.slice a1 N c1] 22)).alloc (.cells #[.slice a3 M c3] 22)) := bt l1 l2
  have HA0 := Lib.hid (hA.keep L0); have HB0 := Lib.hid (hB.keep L0); have HP0 := Lib.hid (hP.keep L0)
  have B0 := Lib.hid ((Blk.new w #[.slice a1 N c1] 22).keep l2)
  have B1 : Hid (Blk ((w.alloc (.cells #[.slice a1 N c1] 22)).alloc (.cells #[.slice a3 M c3] 22)) (w.heap.size + 1) #[.slice a3 M c3] 22) := by
    have := Blk.new (w.alloc (.cells #[.slice a1 N c1] 22)) #[.slice a3 M c3] 22
    rwa [show (w.alloc (.cells #[.slice a1 N c1] 22)).heap.size = w.heap.size + 1 by simp] at this
  have hlA : ta.length * 8 ≤ 140737488355328 := by omega
  have hone := iv_one tb
  have h18 : 1 ≤ 8 := by decide
  have hlen : (ta ++ tb).length = N + Nb := by rw [List.length_append, ← hN, ← hNb]
  clear hN hNb hM hA hB hP l1 l2
  go_enter Try.func11, Try.ntmps11
  go_wp2_with fail
  refine (In_ok ta p a1 a3 N M c1 c3 HN.out (by omega) HM.out m1 m2 _ HA0.out HP0.out).mono ?_; rintro e w1 ⟨v1, rfl, ho1, hb1⟩
  obtain ⟨p0, _⟩ := (B0.out.keep hb1).cell 0 rfl
  obtain ⟨p1, _⟩ := (B1.out.keep hb1).cell 0 rfl
  go_wp2_with fail
  refine (In_ok tb p a2 a3 Nb M c2 c3 HNb.out (by omega) HM.out m1 m2 _ (HB0.out.keep hb1) (HP0.out.keep hb1)).mono ?_; rintro e w3 ⟨v2, rfl, ho2, hb2⟩
  have b12 := bt hb1 hb2
  have L2 := bt L0 b12
  obtain ⟨p0, _⟩ := (B0.out.keep b12).cell 0 rfl
  obtain ⟨p1, _⟩ := (B1.out.keep b12).cell 0 rfl
  have HA3 := Lib.hid (HA0.out.keep b12); have HB3 := Lib.hid (HB0.out.keep b12); have HP3 := Lib.hid (HP0.out.keep b12)
  have HO1 := Lib.hid (ho1.rs.keep hb2); have HO2 := Lib.hid ho2.rs
  clear hb1 hb2 ho1 ho2
  go_wp2_with fail
  refine wp_region_st (fun aR iR v W => match iR with
    | 0 => v = .slice a1 N c1
    | 1 => Own W w3.heap.size 3 v (iv ta)
    | 2 => v = aR.eval (.tmp 1)
    | 3 => Own W w3.heap.size 3 v (iv (ta ++ tb))
    | 4 => v = .slice a3 M c3
    | 5 => ∃ v3, v = .tuple #[v3, .int .i64 0] ∧ Own W w3.heap.size 3 v3 (iv (nv (occ p (ta ++ tb))))
    | 6 => ∃ v3, v = .tuple #[v3, .int .i64 0] ∧ Own W w3.heap.size 3 v3 (iv (nv (occ p (ta ++ tb))))
    | 7 => Own W w3.heap.size 3 v (iv (nv (occ p (ta ++ tb))))
    | 8 => v = .int .i64 0
    | 9 => Own W w3.heap.size 3 v (iv (nv (occ p (ta ++ tb))))
    | 10 => v = .int .i64 0
    | _ => True) (growG 3 (w3.heap.size)) (fun W => Below w3.heap.size w3 W) [(3, 1)] (by kernel_rfl) (by kernel_rfl) ?_ ((Below.refl _ _).drew) ?_ ?_
  · intro iR j v W W' hne hw hns h hb
    have hk : (j = 3 → False) → Below W.heap.size W W' := fun q => growG.out hb q
    match iR, h, hne, hw, hns with
    | 0, h, hne, hw, hns => exact h
    | 1, h, hne, hw, hns => exact Own.keep h (hk (fun e => hns (by subst e; simp)))
    | 2, h, hne, hw, hns => exact h
    | 3, h, hne, hw, hns => exact Own.keep h (hk (fun e => hne e.symm))
    | 4, h, hne, hw, hns => exact h
    | 5, h, hne, hw, hns => exact let ⟨v3, q1, q2⟩ := h; ⟨v3, q1, Own.keep q2 (hk (fun e => by subst e; exact Bool.noConfusion (hw.symm.trans (rfl : _ = true))))⟩
    | 6, h, hne, hw, hns => exact let ⟨v3, q1, q2⟩ := h; ⟨v3, q1, Own.keep q2 (hk (fun e => by subst e; exact Bool.noConfusion (hw.symm.trans (rfl : _ = true))))⟩
    | 7, h, hne, hw, hns => exact Own.keep h (hk (fun e => by subst e; exact Bool.noConfusion (hw.symm.trans (rfl : _ = true))))
    | 8, h, hne, hw, hns => exact h
    | 9, h, hne, hw, hns => exact Own.keep h (hk (fun e => by subst e; exact Bool.noConfusion (hw.symm.trans (rfl : _ = true))))
    | 10, h, hne, hw, hns => exact h
    | n+11, _, _, _, _ => trivial
  · have hG : ∀ (i : Nat) (w : World), (growG 3 (w3.heap.size)) i w w := fun i w => growG.refl _ _ _ _
    refine (Steps.cons ?_ (Steps.cons ?_ (Steps.cons ?_ (Steps.cons ?_ (Steps.cons ?_ (Steps.cons ?_ (Steps.cons ?_ (Steps.cons ?_ (Steps.cons ?_ (Steps.cons ?_ (Steps.cons ?_ Steps.nil)))))))))))
    · refine (Step.un rfl (Step0.pure (hG 0) fun a' w' hag hS h => ⟨.slice a1 N c1, ?_, rfl⟩))
      have e3 := ev (hag.eval (.tmp 3) rfl)
      simp [Act.eval] at e3
      clear h hag
      have c1' := cell_keep p0 hS
      go_simp
      all_goals first | omega | exact IntWalk.i64_in _ (by omega) | exact (IntWalk.i64_in _ (by omega)).symm
    · refine (Step.un rfl ?_)
      intro a' w' K hag hS hw hK
      have e29 := ev (hw 0 rfl 29 rfl)
      refine wpOp_call (f := 17) (args := #[.slice a1 N c1]) (by go_simp) (Slices.clone_any a1 N c1 ta _ (HA3.out.keep hS) hlA) ?_
      rintro e w4 ⟨v4, rfl, ho4, hb4⟩
      exact ⟨_, rfl, hK _ _ (ho4.mono hS.size) (growG.of (by decide) hb4) (bt hS hb4)⟩
    · exact (Step.un rfl (Step0.move (.inl rfl) rfl (hG 2) (fun _ _ => rfl)))
    · refine (Step.un rfl ?_)
      intro a' w' K hag hS hw hK
      have r30 := hw 1 rfl 30 rfl
      have e31 := ev (hw 2 rfl 31 rfl)
      simp [Act.eval] at e31
      have e31' : a'.eval (.tmp 31) = .slice a2 Nb c2 := by have := hw 2 rfl 31 rfl; simpa [Act.eval] using this
      refine wpOp_app_src (.tmp 30) (.tmp 31) 22 3 rfl w3.heap.size i0 _ 8 Try.underlying22 hi hz0 hz1 hz2 rfl _ (iv ta) rfl r30 _ (iv tb) e31' (HB3.out.rs.keep hS) HB3.out.nilcap hone h18 hkm hS.size ?_
      intro v1 w2 hown1 hb2 hg
      exact hK v1 w2 (by rw [iv_app]; exact hown1) (growG.at_ hb2) (hS.trans hb2)
    · refine (Step.un rfl (Step0.pure (hG 4) fun a' w' hag hS h => ⟨.slice a3 M c3, ?_, rfl⟩))
      have e5 := ev (hag.eval (.tmp 5) rfl)
      simp [Act.eval] at e5
      clear h hag
      have c1' := cell_keep p1 hS
      go_simp
      all_goals first | omega | exact IntWalk.i64_in _ (by omega) | exact (IntWalk.i64_in _ (by omega)).symm
    · refine (Step.un rfl ?_)
      intro a' w' K hag hS hw hK
      have r32 := hw 3 rfl 32 rfl
      have e33 := ev (hw 4 rfl 33 rfl)
      obtain ⟨at_, ct, et, st⟩ := r32.sl
      rw [iv_len, hlen] at et st
      refine wpOp_call (f := 29) (args := #[.slice at_ (N + Nb) ct, .slice a3 M c3]) (by have e32 := ev et; clear hw hag hK; go_simp) (In_ok (ta ++ tb) p at_ a3 (N + Nb) M ct c3 hlen.symm hbig HM.out m1 m2 _ st (HP3.out.keep hS)) ?_
      rintro e w4 ⟨v3, rfl, ho3, hb4⟩
      exact ⟨_, rfl, hK _ _ ⟨v3, rfl, ho3.mono hS.size⟩ (growG.of (by decide) hb4) (bt hS hb4)⟩
    · exact (Step.un rfl (Step0.copy (j := 5) (d := 34) (.inl rfl) rfl rfl (hG 6) (fun v w _ h => h)))
    · refine (Step.un rfl ?_)
      refine Step0.pure (hG 7) (fun a' w' hag hS h => ?_)
      obtain ⟨v3, e28, ho⟩ := h 6 rfl 28 rfl
      have e28' := ev e28
      refine ⟨v3, ?_, ho⟩
      clear h hag e28
      go_simp
    · refine (Step.un rfl ?_)
      refine Step0.pure (hG 8) (fun a' w' hag hS h => ?_)
      obtain ⟨v3, e28, ho⟩ := h 6 rfl 28 rfl
      have e28' := ev e28
      refine ⟨_, ?_, rfl⟩
      clear h hag e28
      go_simp
    · exact (Step.un rfl (Step0.copy (j := 7) (d := 35) (.inr rfl) rfl rfl (hG 9) (fun v w _ h => h)))
    · exact (Step.un rfl (Step0.copy (j := 8) (d := 36) (.inr rfl) rfl rfl (hG 10) (fun v w _ h => h)))
  intro vs w' hR hS'
  have h9 := hR 9 (by decide) rfl
  simp only [] at h9
  have h10 := hR 10 (by decide) rfl
  simp only [] at h10
  clear hR
  simp only [puts, Act.put, List.setIfInBounds_toArray, List.set_cons_succ, List.set_cons_zero, Nat.reduceAdd]
  generalize vs 9 = v9 at *
  generalize vs 10 = v10 at *
  subst h10
  have L3 := bt L2 hS'
  obtain ⟨a9, c9, rfl, s9⟩ := h9.sl
  have X1 := occ_len p (ta ++ tb)
  rw [hlen] at X1
  have xm : ∀ x ∈ nv (occ p (ta ++ tb)), 0 ≤ x ∧ x ≤ 100000 := fun x hx => by have := occ_le p (ta ++ tb) x hx; omega
  have XM := Lib.hid xm
  have S9 := Lib.hid s9
  have FE := Lib.hid (front_eq p ta tb); have BE := Lib.hid (behind_eq p ta tb)
  rw [← HN.out] at FE BE
  rw [← HM.out] at FE
  have eX : (nv (occ p (ta ++ tb))).length * 8 ≤ 140737488355328 := by rw [nv_len]; omega
  generalize nv (occ p (ta ++ tb)) = zs at *
  clear s9 h9 xm X1
  go_wp2_with fail
  refine (lives _).mono ?_; rintro e w5 ⟨rfl, hb5⟩
  have L5 := bt L3 hb5
  have up5 := bt (bt b12 hS') hb5
  have C0 := Lib.hid (B0.out.keep up5); have C1 := Lib.hid (B1.out.keep up5)
  have S95 := Lib.hid (S9.out.keep hb5)
  clear S9
  go_wp2_with fail
  refine (Slices.clone_any a9 _ c9 zs _ S95.out eX).mono ?_; rintro e w6 ⟨v6, rfl, ho6, hb6⟩
  go_wp2_with fail
  refine (del_anyA (pA N M) zs v6 w5.heap.size (w.heap.size + 1) w.heap.size w6 ho6 (fun x hx W hW => fnA x _ _ a3 a1 M c3 N c1 W (((C1.out.keep hb6).keepB hW C1.out.lt).cell 0 rfl).1 (((C0.out.keep hb6).keepB hW C0.out.lt).cell 0 rfl).1 (XM.out x hx).1 (by have := (XM.out x hx).2; omega) m2)).mono ?_
  rintro e w7 ⟨v13, rfl, ho7, hb7⟩
  rw [FE.out] at ho7
  have up7 : Below w5.heap.size w5 w7 := hb6.trans hb7
  have O7 := Lib.hid ho7
  clear ho6 ho7
  go_wp2_with fail
  refine (Slices.clone_any a9 _ c9 zs _ (S95.out.keep up7) eX).mono ?_; rintro e w8 ⟨v8, rfl, ho8, hb8⟩
  go_wp2_with fail
  have C07 := C0.out.keep up7
  refine (del_anyB (pB N) zs v8 w7.heap.size w.heap.size w8 ho8 (fun x hx W hW => fnB x _ a1 N c1 W (((C07.keep hb8).keepB hW C07.lt).cell 0 rfl).1)).mono ?_
  rintro e w9 ⟨v14, rfl, ho9, hb9⟩
  have up9 : Below w7.heap.size w7 w9 := hb8.trans hb9
  have C7 := Lib.hid C07
  clear ho8 C07
  have YM : Hid (∀ x ∈ kept (pB N) zs, 0 ≤ x ∧ x ≤ 100000) := fun x hx => XM.out x ((List.mem_filter.1 hx).1)
  generalize kept (pB N) zs = ys at *
  obtain ⟨a14, c14, rfl, s14⟩ := ho9.sl
  rw [iv_len] at s14
  have hyc := s14.le
  have hyc2 := s14.cap
  unfold maxLen at hyc2
  simp only [iv_len] at ho9 ⊢
  have L9 : Below w.heap.size w w9 := (bt (bt L5 up7) up9)
  have up39 : Below w3.heap.size w3 w9 := bt (bt (bt hS' hb5) up7) up9
  rcases Own.row ho9 with ⟨rfl, h0, rfl⟩ | ⟨g, cur, rfl, hg, _, _⟩
  · have e0 : ys = [] := List.eq_nil_of_length_eq_zero h0
    subst e0
    have BE2 : Hid (nv (occ p tb) = []) := by show _ = _; rw [← BE.out]; rfl
    clear s14 ho9 h0
    go_wp2_with fail
    go_loopw [62] (fun ii wr => ii = .int .i64 0 ∧ wr = w9) (fun _ _ => 0)
    case atStart => exact ⟨rfl, rfl⟩
    case round =>
      obtain ⟨rfl, rfl⟩ := hrel
      go_wp2_with fail
      refine (EqInt.eq_ints v13 v1 (nv (occ p ta)) (nv (occ p ta)) _ (O7.out.rs.keep up9) (HO1.out.keep up39)).mono ?_; rintro e w10 ⟨rfl, hb10⟩
      rw [decide_eq_true rfl]
      go_wp2_with fail
      have r2 := HO2.out.keep (bt up39 hb10)
      rw [BE2.out] at r2
      refine (EqInt.eq_ints _ v2 [] [] _ (.inl ⟨rfl, none, 0, rfl⟩) r2).mono ?_; rintro e w11 ⟨rfl, hb11⟩
      rw [decide_eq_true rfl]
      go_wp2_with fail
      go_ret
      exact ⟨rfl, bt (bt L9 hb10) hb11⟩
  · have HY := Lib.hid ho9
    have hr0 : Own w9 w7.heap.size 3 (.slice (some ⟨g, 0, none⟩) ys.length c14) (iv (rowB N ys 0)) := by rw [rowB_zero]; exact ho9
    clear s14 ho9
    generalize hY : ys.length = Y at *
    have HYL := Lib.hid hY
    clear hY
    go_wp2_with fail
    go_loopw [62] (fun ii wr => ∃ i : Nat, i ≤ Y ∧ ii = .int .i64 i ∧ Own wr w7.heap.size 3 (.slice (some ⟨g, 0, none⟩) Y c14) (iv (rowB N ys i)) ∧ Below w7.heap.size w9 wr) (fun ii _ => Y - (intOf ii).toNat)
    case atStart => exact ⟨0, by omega, rfl, hr0, Below.refl _ _⟩
    case round =>
      clear hr0
      obtain ⟨i, hiY, rfl, hor, hb⟩ := hrel
      have upr : Below w7.heap.size w7 wr := up9.trans hb
      by_cases hlt : i < Y
      · obtain ⟨x, hx⟩ : ∃ x, ys[i]? = some x := ⟨_, List.getElem?_eq_getElem (show i < ys.length by have := HYL.out; omega)⟩
        obtain ⟨x0, x1⟩ := YM.out x (List.mem_of_getElem? hx)
        obtain ⟨ci, fi⟩ := hor.at_ (iv_get (rowB_at N hx))
        have hs := Lib.hid (hor.set_ i (.int .i64 (x - N)))
        have HR := Lib.hid (rowB_set N hx)
        obtain ⟨p0, _⟩ := (C7.out.keep upr).cell 0 rfl
        have hw1 : IntKind.i64.wrap (x - (N : Int)) = x - N := IntWalk.i64_in _ (by omega)
        clear hx
        go_wp2_with fail
        go_region
        all_goals
          go_wp2_with fail
          go_roundw
          case rel => exact ⟨i + 1, by omega, by go_num, by rw [← HR.out, iv_set]; exact hs.out.keep ((Below.refl _ _).drew), (hb.setCell (p := ⟨g, i, none⟩) hg _).drew⟩
          case measure => simp [intOf]; omega
      · obtain rfl : i = Y := by omega
        have up3r : Below w3.heap.size w3 wr := bt (bt (bt hS' hb5) up7) upr
        have Lr : Below w.heap.size w wr := bt (bt L5 up7) upr
        have r14 := hor.rs
        rw [show rowB N ys i = nv (occ p tb) by rw [← BE.out, ← rowB_end, HYL.out]] at r14
        have R14 := Lib.hid r14
        clear r14 hor
        go_wp2_with fail
        refine (EqInt.eq_ints v13 v1 (nv (occ p ta)) (nv (occ p ta)) _ (O7.out.rs.keep upr) (HO1.out.keep up3r)).mono ?_; rintro e w10 ⟨rfl, hb10⟩
        rw [decide_eq_true rfl]
        go_wp2_with fail
        refine (EqInt.eq_ints _ v2 (nv (occ p tb)) (nv (occ p tb)) _ (R14.out.keep hb10) (HO2.out.keep (bt up3r hb10))).mono ?_; rintro e w11 ⟨rfl, hb11⟩
        rw [decide_eq_true rfl]
        go_wp2_with fail
        go_ret
        exact ⟨rfl, bt (bt Lr hb10) hb11⟩
end Go.Proofs.Ytepegjihlppkcaa.Find
