/- farref.KeysRight of right keys. -/
import Derived.Test.YtgokbjnpjjdboaaSlcG
import Derived.Test.YtgokbjnpjjdboaaReg2
namespace Go.Proofs.Ytgokbjnpjjdboaa.Slc
open Go.ChangeShapes Go.WideShapes Go.ChangeAt Go.RowKit
open Go.Proofs.Ytgokbjnpjjdboaa.Com Go.Proofs.Ytgokbjnpjjdboaa.Row Go.Proofs.Ytgokbjnpjjdboaa.Args Go.Proofs.Ytgokbjnpjjdboaa.Reg2
set_option maxRecDepth 100000
attribute [local go_sem ↓] loadKey storeKey allocKey load19

/-! ### farref.KeysRight -/
set_option maxHeartbeats 20000000 in
theorem right_fine (k : Ky) (hf : Fine k) (w : World) :
    Calls Try.prog 28 #[.agg (keyC k).toArray] w fun e w' => e = .returned (.int .i64 0) ∧ Below w.heap.size w w' := by
  obtain ⟨W0, hW0⟩ : ∃ W0, W0 = w.alloc (.cells (keyC k).toArray 52) := ⟨_, rfl⟩
  have hg : W0.heap[w.heap.size]? = some (.cells (keyC k).toArray 52 (0, 0)) := by rw [hW0]; exact heap_alloc_new _ _
  have L0 : Below w.heap.size w W0 := by rw [hW0]; exact below_alloc _ _
  have HW := Lib.hid hW0; have HF : Hid (Fine k) := hf
  clear hW0 hf
  go_enter Try.func28, Try.ntmps28
  go_upto_region 1 with (fail)
  rw [← HW.out]
  go_wp2_with fail
  go_loopw [4] (fun i wr => ∃ n : Nat, n ≤ 19 ∧ i = .int .i64 n ∧ wr.heap[w.heap.size]? = some (.cells (keyC k).toArray 52 (0, 0)) ∧ Below w.heap.size w wr) (fun i _ => (19 - intOf i).toNat)
  case atStart => exact ⟨0, Nat.zero_le _, rfl, hg, L0⟩
  case round =>
    obtain ⟨n, hn, rfl, hg, L⟩ := hrel
    have HGG := Lib.hid hg
    have c1 : wr.cell? ⟨w.heap.size, 19, none⟩ = some (.int .u8 0) := by
      rw [cell_of_row _ _ _ _ _ _ hg]; have := keyC_ch k 0 (by omega); rw [HF.out.2.2] at this; simpa using this
    by_cases hlt : n < 19
    · have hltI : (n : Int) < 19 := by omega
      have cn : wr.cell? ⟨w.heap.size, n, none⟩ = some (.int .u8 (k.lv n)) := by rw [cell_of_row _ _ _ _ _ _ hg]; simpa using keyC_lv k n hlt
      have h2 : ¬ 2 < k.lv n := by have := HF.out.1 n hlt; omega
      by_cases h0 : n = 0
      · subst h0
        rw [HF.out.2.1] at cn
        clear hg HW HF h2
        go_wp2_with fail
        refine wp_region_st (fun aR iR v W => match iR with
          | 0 => v = aR.eval (.tmp 3)
          | 1 => v = .pointer (some ⟨w.heap.size, 0, none⟩)
          | 2 => v = .pointer (some ⟨w.heap.size, 0, none⟩)
          | 3 => v = .int .u8 0
          | 4 => v = .bool false
          | 5 => v = .bool false
          | 6 => v = aR.eval (.tmp 3)
          | 7 => v = .bool true
          | 8 => v = .bool true
          | 9 => v = aR.eval (.tmp 3)
          | 10 => v = .pointer (some ⟨w.heap.size, 0, none⟩)
          | 11 => v = .pointer (some ⟨w.heap.size, 0, none⟩)
          | 12 => v = .int .u8 0
          | 13 => v = aR.eval (.tmp 3)
          | 14 => v = .pointer (some ⟨w.heap.size, 19, none⟩)
          | 15 => v = .pointer (some ⟨w.heap.size, 19, none⟩)
          | 16 => v = .int .u8 0
          | 17 => v = .int .u8 0
          | 18 => v = .bool false
          | 19 => v = .bool false
          | 20 => v = .bool false
          | _ => True) (fun _ w w' => Below w.heap.size w w') (fun W => Below wr.heap.size wr W) [] (by kernel_rfl) (by kernel_rfl) ?_ ((Below.refl _ _).drew) ?_ ?_
        · intro iR j v W W' hne hw hns h hb
          match iR, h, hne, hw, hns with
          | 0, h, hne, hw, hns => exact h
          | 1, h, hne, hw, hns => exact h
          | 2, h, hne, hw, hns => exact h
          | 3, h, hne, hw, hns => exact h
          | 4, h, hne, hw, hns => exact h
          | 5, h, hne, hw, hns => exact h
          | 6, h, hne, hw, hns => exact h
          | 7, h, hne, hw, hns => exact h
          | 8, h, hne, hw, hns => exact h
          | 9, h, hne, hw, hns => exact h
          | 10, h, hne, hw, hns => exact h
          | 11, h, hne, hw, hns => exact h
          | 12, h, hne, hw, hns => exact h
          | 13, h, hne, hw, hns => exact h
          | 14, h, hne, hw, hns => exact h
          | 15, h, hne, hw, hns => exact h
          | 16, h, hne, hw, hns => exact h
          | 17, h, hne, hw, hns => exact h
          | 18, h, hne, hw, hns => exact h
          | 19, h, hne, hw, hns => exact h
          | 20, h, hne, hw, hns => exact h
          | n+21, _, _, _, _ => trivial
        · have hG : ∀ (i : Nat) (w : World), (fun _ w w' => Below w.heap.size w w') i w w := fun _ w => Below.refl _ _
          refine (Steps.cons ?_ (Steps.cons ?_ (Steps.cons ?_ (Steps.cons ?_ (Steps.cons ?_ (Steps.cons ?_ (Steps.cons ?_ (Steps.cons ?_ (Steps.cons ?_ (Steps.cons ?_ (Steps.cons ?_ (Steps.cons ?_ (Steps.cons ?_ (Steps.cons ?_ (Steps.cons ?_ (Steps.cons ?_ (Steps.cons ?_ (Steps.cons ?_ (Steps.cons ?_ (Steps.cons ?_ (Steps.cons ?_ Steps.nil)))))))))))))))))))))
          · exact (Step.un rfl (Step0.move (.inl rfl) rfl (hG 0) (fun _ _ => rfl)))
          · refine (Step.un rfl (Step0.pure (hG 1) fun a' w' hag hS h => ⟨.pointer (some ⟨w.heap.size, 0, none⟩), ?_, rfl⟩))
            have e1 := ev (hag.eval (.tmp 1) rfl)
            simp [Act.eval] at e1
            clear h hag
            go_simp
            all_goals first | omega | exact IntWalk.i64_in _ (by omega) | exact (IntWalk.i64_in _ (by omega)).symm | exact IntWalk.u8_in _ (by omega)
          · refine (Step.un rfl (Step0.pure (hG 2) fun a' w' hag hS h => ⟨.pointer (some ⟨w.heap.size, 0, none⟩), ?_, rfl⟩))
            have e7 := ev (h 0 rfl 7 rfl)
            simp [Act.eval] at e7
            have e8 := ev (h 1 rfl 8 rfl)
            clear h hag
            go_simp
            all_goals first | omega | exact IntWalk.i64_in _ (by omega) | exact (IntWalk.i64_in _ (by omega)).symm | exact IntWalk.u8_in _ (by omega)
          · refine (Step.un rfl (Step0.pure (hG 3) fun a' w' hag hS h => ⟨.int .u8 0, ?_, rfl⟩))
            have e9 := ev (h 2 rfl 9 rfl)
            clear h hag
            have c5 := cell_keep cn hS
            go_simp
            all_goals first | omega | exact IntWalk.i64_in _ (by omega) | exact (IntWalk.i64_in _ (by omega)).symm | exact IntWalk.u8_in _ (by omega)
          · refine (Step.un rfl (Step0.pure (hG 4) fun a' w' hag hS h => ⟨.bool false, ?_, rfl⟩))
            have e10 := ev (h 3 rfl 10 rfl)
            clear h hag
            go_simp
            all_goals first | omega | exact IntWalk.i64_in _ (by omega) | exact (IntWalk.i64_in _ (by omega)).symm | exact IntWalk.u8_in _ (by omega)
          · exact (Step.un rfl (Step0.copy (j := 4) (d := 11) (.inl rfl) rfl rfl (hG 5) (fun v w _ h => h)))
          · exact (Step.on (j := 5) (d := 12) rfl rfl rfl (fun v w _ h => h) (Step0.move (.inl rfl) rfl (hG 6) (fun _ _ => rfl)))
          · refine (Step.on (j := 5) (d := 12) rfl rfl rfl (fun v w _ h => h) (Step0.pure (hG 7) fun a' w' hag hS h => ⟨.bool true, ?_, rfl⟩))
            have e13 := ev (h 6 rfl 13 rfl)
            simp [Act.eval] at e13
            clear h hag
            go_simp
            all_goals first | omega | exact IntWalk.i64_in _ (by omega) | exact (IntWalk.i64_in _ (by omega)).symm | exact IntWalk.u8_in _ (by omega)
          · exact (Step.on (j := 5) (d := 12) rfl rfl rfl (fun v w _ h => h) (Step0.copy (j := 7) (d := 14) (.inl rfl) rfl rfl (hG 8) (fun v w _ h => h)))
          · exact (Step.on (j := 8) (d := 15) rfl rfl rfl (fun v w _ h => h) (Step0.move (.inl rfl) rfl (hG 9) (fun _ _ => rfl)))
          · refine (Step.on (j := 8) (d := 15) rfl rfl rfl (fun v w _ h => h) (Step0.pure (hG 10) fun a' w' hag hS h => ⟨.pointer (some ⟨w.heap.size, 0, none⟩), ?_, rfl⟩))
            have e1 := ev (hag.eval (.tmp 1) rfl)
            simp [Act.eval] at e1
            clear h hag
            go_simp
            all_goals first | omega | exact IntWalk.i64_in _ (by omega) | exact (IntWalk.i64_in _ (by omega)).symm | exact IntWalk.u8_in _ (by omega)
          · refine (Step.on (j := 8) (d := 15) rfl rfl rfl (fun v w _ h => h) (Step0.pure (hG 11) fun a' w' hag hS h => ⟨.pointer (some ⟨w.heap.size, 0, none⟩), ?_, rfl⟩))
            have e16 := ev (h 9 rfl 16 rfl)
            simp [Act.eval] at e16
            have e17 := ev (h 10 rfl 17 rfl)
            clear h hag
            go_simp
            all_goals first | omega | exact IntWalk.i64_in _ (by omega) | exact (IntWalk.i64_in _ (by omega)).symm | exact IntWalk.u8_in _ (by omega)
          · refine (Step.on (j := 8) (d := 15) rfl rfl rfl (fun v w _ h => h) (Step0.pure (hG 12) fun a' w' hag hS h => ⟨.int .u8 0, ?_, rfl⟩))
            have e18 := ev (h 11 rfl 18 rfl)
            clear h hag
            have c5 := cell_keep cn hS
            go_simp
            all_goals first | omega | exact IntWalk.i64_in _ (by omega) | exact (IntWalk.i64_in _ (by omega)).symm | exact IntWalk.u8_in _ (by omega)
          · exact (Step.on (j := 8) (d := 15) rfl rfl rfl (fun v w _ h => h) (Step0.move (.inl rfl) rfl (hG 13) (fun _ _ => rfl)))
          · refine (Step.on (j := 8) (d := 15) rfl rfl rfl (fun v w _ h => h) (Step0.pure (hG 14) fun a' w' hag hS h => ⟨.pointer (some ⟨w.heap.size, 19, none⟩), ?_, rfl⟩))
            have e1 := ev (hag.eval (.tmp 1) rfl)
            simp [Act.eval] at e1
            clear h hag
            go_simp
            all_goals first | omega | exact IntWalk.i64_in _ (by omega) | exact (IntWalk.i64_in _ (by omega)).symm | exact IntWalk.u8_in _ (by omega)
          · refine (Step.on (j := 8) (d := 15) rfl rfl rfl (fun v w _ h => h) (Step0.pure (hG 15) fun a' w' hag hS h => ⟨.pointer (some ⟨w.heap.size, 19, none⟩), ?_, rfl⟩))
            have e20 := ev (h 13 rfl 20 rfl)
            simp [Act.eval] at e20
            have e21 := ev (h 14 rfl 21 rfl)
            clear h hag
            go_simp
            all_goals first | omega | exact IntWalk.i64_in _ (by omega) | exact (IntWalk.i64_in _ (by omega)).symm | exact IntWalk.u8_in _ (by omega)
          · refine (Step.on (j := 8) (d := 15) rfl rfl rfl (fun v w _ h => h) (Step0.pure (hG 16) fun a' w' hag hS h => ⟨.int .u8 0, ?_, rfl⟩))
            have e22 := ev (h 15 rfl 22 rfl)
            clear h hag
            have c5 := cell_keep c1 hS
            go_simp
            all_goals first | omega | exact IntWalk.i64_in _ (by omega) | exact (IntWalk.i64_in _ (by omega)).symm | exact IntWalk.u8_in _ (by omega)
          · refine (Step.on (j := 8) (d := 15) rfl rfl rfl (fun v w _ h => h) (Step0.pure (hG 17) fun a' w' hag hS h => ⟨.int .u8 0, ?_, rfl⟩))
            have e19 := ev (h 12 rfl 19 rfl)
            have e23 := ev (h 16 rfl 23 rfl)
            clear h hag
            go_simp
            all_goals first | omega | exact IntWalk.i64_in _ (by omega) | exact (IntWalk.i64_in _ (by omega)).symm | exact IntWalk.u8_in _ (by omega)
          · refine (Step.on (j := 8) (d := 15) rfl rfl rfl (fun v w _ h => h) (Step0.pure (hG 18) fun a' w' hag hS h => ⟨.bool false, ?_, rfl⟩))
            have e24 := ev (h 17 rfl 24 rfl)
            clear h hag
            go_simp
            all_goals first | omega | exact IntWalk.i64_in _ (by omega) | exact (IntWalk.i64_in _ (by omega)).symm | exact IntWalk.u8_in _ (by omega)
          · refine (Step.on (j := 5) (d := 12) rfl rfl rfl (fun v w _ h => h) (Step0.pure (hG 19) fun a' w' hag hS h => ⟨.bool false, ?_, rfl⟩))
            have e15 := ev (h 8 rfl 15 rfl)
            have e25 := ev (h 18 rfl 25 rfl)
            clear h hag
            go_simp
            all_goals first | omega | exact IntWalk.i64_in _ (by omega) | exact (IntWalk.i64_in _ (by omega)).symm | exact IntWalk.u8_in _ (by omega)
          · refine (Step.un rfl (Step0.pure (hG 20) fun a' w' hag hS h => ⟨.bool false, ?_, rfl⟩))
            have e12 := ev (h 5 rfl 12 rfl)
            have e26 := ev (h 19 rfl 26 rfl)
            clear h hag
            go_simp
            all_goals first | omega | exact IntWalk.i64_in _ (by omega) | exact (IntWalk.i64_in _ (by omega)).symm | exact IntWalk.u8_in _ (by omega)
        intro vs w' hR hS'
        have h20 := hR 20 (by decide) rfl
        simp only [] at h20
        clear hR
        simp only [puts, Act.put, List.setIfInBounds_toArray, List.set_cons_succ, List.set_cons_zero, Nat.reduceAdd]
        generalize vs 20 = v20 at *
        subst h20
        go_wp2_with fail
        go_roundw
        case rel => exact ⟨1, by omega, by go_num, heap_keep hS' HGG.out, L.trans (hS'.mono L.size)⟩
        case measure => simp [intOf]
      · have q : ((n : Int) == 0) = false := by simpa using h0
        clear hg HW HF
        go_wp2_with fail
        refine wp_region_st (fun aR iR v W => match iR with
          | 0 => v = aR.eval (.tmp 3)
          | 1 => v = .pointer (some ⟨w.heap.size, 0, none⟩)
          | 2 => v = .pointer (some ⟨w.heap.size, n, none⟩)
          | 3 => v = .int .u8 (k.lv n)
          | 4 => v = .bool false
          | 5 => v = .bool false
          | 6 => v = aR.eval (.tmp 3)
          | 7 => v = .bool false
          | 8 => v = .bool false
          | 9 => v = undef
          | 10 => v = undef
          | 11 => v = undef
          | 12 => v = undef
          | 13 => v = undef
          | 14 => v = undef
          | 15 => v = undef
          | 16 => v = undef
          | 17 => v = undef
          | 18 => v = undef
          | 19 => v = .bool false
          | 20 => v = .bool false
          | _ => True) (fun _ w w' => Below w.heap.size w w') (fun W => Below wr.heap.size wr W) [] (by kernel_rfl) (by kernel_rfl) ?_ ((Below.refl _ _).drew) ?_ ?_
        · intro iR j v W W' hne hw hns h hb
          match iR, h, hne, hw, hns with
          | 0, h, hne, hw, hns => exact h
          | 1, h, hne, hw, hns => exact h
          | 2, h, hne, hw, hns => exact h
          | 3, h, hne, hw, hns => exact h
          | 4, h, hne, hw, hns => exact h
          | 5, h, hne, hw, hns => exact h
          | 6, h, hne, hw, hns => exact h
          | 7, h, hne, hw, hns => exact h
          | 8, h, hne, hw, hns => exact h
          | 9, h, hne, hw, hns => exact h
          | 10, h, hne, hw, hns => exact h
          | 11, h, hne, hw, hns => exact h
          | 12, h, hne, hw, hns => exact h
          | 13, h, hne, hw, hns => exact h
          | 14, h, hne, hw, hns => exact h
          | 15, h, hne, hw, hns => exact h
          | 16, h, hne, hw, hns => exact h
          | 17, h, hne, hw, hns => exact h
          | 18, h, hne, hw, hns => exact h
          | 19, h, hne, hw, hns => exact h
          | 20, h, hne, hw, hns => exact h
          | n+21, _, _, _, _ => trivial
        · have hG : ∀ (i : Nat) (w : World), (fun _ w w' => Below w.heap.size w w') i w w := fun _ w => Below.refl _ _
          refine (Steps.cons ?_ (Steps.cons ?_ (Steps.cons ?_ (Steps.cons ?_ (Steps.cons ?_ (Steps.cons ?_ (Steps.cons ?_ (Steps.cons ?_ (Steps.cons ?_ (Steps.cons ?_ (Steps.cons ?_ (Steps.cons ?_ (Steps.cons ?_ (Steps.cons ?_ (Steps.cons ?_ (Steps.cons ?_ (Steps.cons ?_ (Steps.cons ?_ (Steps.cons ?_ (Steps.cons ?_ (Steps.cons ?_ Steps.nil)))))))))))))))))))))
          · exact (Step.un rfl (Step0.move (.inl rfl) rfl (hG 0) (fun _ _ => rfl)))
          · refine (Step.un rfl (Step0.pure (hG 1) fun a' w' hag hS h => ⟨.pointer (some ⟨w.heap.size, 0, none⟩), ?_, rfl⟩))
            have e1 := ev (hag.eval (.tmp 1) rfl)
            simp [Act.eval] at e1
            clear h hag
            go_simp
            all_goals first | omega | exact IntWalk.i64_in _ (by omega) | exact (IntWalk.i64_in _ (by omega)).symm | exact IntWalk.u8_in _ (by omega)
          · refine (Step.un rfl (Step0.pure (hG 2) fun a' w' hag hS h => ⟨.pointer (some ⟨w.heap.size, n, none⟩), ?_, rfl⟩))
            have e7 := ev (h 0 rfl 7 rfl)
            simp [Act.eval] at e7
            have e8 := ev (h 1 rfl 8 rfl)
            clear h hag
            go_simp
            all_goals first | omega | exact IntWalk.i64_in _ (by omega) | exact (IntWalk.i64_in _ (by omega)).symm | exact IntWalk.u8_in _ (by omega)
          · refine (Step.un rfl (Step0.pure (hG 3) fun a' w' hag hS h => ⟨.int .u8 (k.lv n), ?_, rfl⟩))
            have e9 := ev (h 2 rfl 9 rfl)
            clear h hag
            have c5 := cell_keep cn hS
            go_simp
            all_goals first | omega | exact IntWalk.i64_in _ (by omega) | exact (IntWalk.i64_in _ (by omega)).symm | exact IntWalk.u8_in _ (by omega)
          · refine (Step.un rfl (Step0.pure (hG 4) fun a' w' hag hS h => ⟨.bool false, ?_, rfl⟩))
            have e10 := ev (h 3 rfl 10 rfl)
            clear h hag
            go_simp
            all_goals first | omega | exact IntWalk.i64_in _ (by omega) | exact (IntWalk.i64_in _ (by omega)).symm | exact IntWalk.u8_in _ (by omega)
          · exact (Step.un rfl (Step0.copy (j := 4) (d := 11) (.inl rfl) rfl rfl (hG 5) (fun v w _ h => h)))
          · exact (Step.on (j := 5) (d := 12) rfl rfl rfl (fun v w _ h => h) (Step0.move (.inl rfl) rfl (hG 6) (fun _ _ => rfl)))
          · refine (Step.on (j := 5) (d := 12) rfl rfl rfl (fun v w _ h => h) (Step0.pure (hG 7) fun a' w' hag hS h => ⟨.bool false, ?_, rfl⟩))
            have e13 := ev (h 6 rfl 13 rfl)
            simp [Act.eval] at e13
            clear h hag
            go_simp
            all_goals first | omega | exact IntWalk.i64_in _ (by omega) | exact (IntWalk.i64_in _ (by omega)).symm | exact IntWalk.u8_in _ (by omega)
          · exact (Step.on (j := 5) (d := 12) rfl rfl rfl (fun v w _ h => h) (Step0.copy (j := 7) (d := 14) (.inl rfl) rfl rfl (hG 8) (fun v w _ h => h)))
          · exact Step.off (j := 8) (d := 15) rfl rfl rfl (hG 9) (fun v w _ h => h) (fun _ _ => rfl)
          · exact Step.off (j := 8) (d := 15) rfl rfl rfl (hG 10) (fun v w _ h => h) (fun _ _ => rfl)
          · exact Step.off (j := 8) (d := 15) rfl rfl rfl (hG 11) (fun v w _ h => h) (fun _ _ => rfl)
          · exact Step.off (j := 8) (d := 15) rfl rfl rfl (hG 12) (fun v w _ h => h) (fun _ _ => rfl)
          · exact Step.off (j := 8) (d := 15) rfl rfl rfl (hG 13) (fun v w _ h => h) (fun _ _ => rfl)
          · exact Step.off (j := 8) (d := 15) rfl rfl rfl (hG 14) (fun v w _ h => h) (fun _ _ => rfl)
          · exact Step.off (j := 8) (d := 15) rfl rfl rfl (hG 15) (fun v w _ h => h) (fun _ _ => rfl)
          · exact Step.off (j := 8) (d := 15) rfl rfl rfl (hG 16) (fun v w _ h => h) (fun _ _ => rfl)
          · exact Step.off (j := 8) (d := 15) rfl rfl rfl (hG 17) (fun v w _ h => h) (fun _ _ => rfl)
          · exact Step.off (j := 8) (d := 15) rfl rfl rfl (hG 18) (fun v w _ h => h) (fun _ _ => rfl)
          · refine (Step.on (j := 5) (d := 12) rfl rfl rfl (fun v w _ h => h) (Step0.pure (hG 19) fun a' w' hag hS h => ⟨.bool false, ?_, rfl⟩))
            have e15 := ev (h 8 rfl 15 rfl)
            have e25 := ev (h 18 rfl 25 rfl)
            clear h hag
            go_simp
            all_goals first | omega | exact IntWalk.i64_in _ (by omega) | exact (IntWalk.i64_in _ (by omega)).symm | exact IntWalk.u8_in _ (by omega)
          · refine (Step.un rfl (Step0.pure (hG 20) fun a' w' hag hS h => ⟨.bool false, ?_, rfl⟩))
            have e12 := ev (h 5 rfl 12 rfl)
            have e26 := ev (h 19 rfl 26 rfl)
            clear h hag
            go_simp
            all_goals first | omega | exact IntWalk.i64_in _ (by omega) | exact (IntWalk.i64_in _ (by omega)).symm | exact IntWalk.u8_in _ (by omega)
        intro vs w' hR hS'
        have h20 := hR 20 (by decide) rfl
        simp only [] at h20
        clear hR
        simp only [puts, Act.put, List.setIfInBounds_toArray, List.set_cons_succ, List.set_cons_zero, Nat.reduceAdd]
        generalize vs 20 = v20 at *
        subst h20
        go_wp2_with fail
        go_roundw
        case rel => exact ⟨n + 1, by omega, by go_num, heap_keep hS' HGG.out, L.trans (hS'.mono L.size)⟩
        case measure => simp [intOf]; omega
    · obtain rfl : n = 19 := by omega
      clear hg HW HF
      go_wp2_with fail
      go_ret
      exact ⟨rfl, L⟩
end Go.Proofs.Ytgokbjnpjjdboaa.Slc
