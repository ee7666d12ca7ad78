/- The law FindBorders: the walk. -/
import Derived.Test.YtepegjihlppkcaaFindD
import Derived.Test.YtepegjihlppkcaaReg
namespace Go.Proofs.Ytepegjihlppkcaa.Find
open Go.ChangeShapes Go.WideShapes Go.ChangeAt Go.RowKit
open Go.Proofs.Ytepegjihlppkcaa.Com Go.Proofs.Ytepegjihlppkcaa.Slices Go.Proofs.Ytepegjihlppkcaa.FindP Go.Proofs.Ytepegjihlppkcaa.Args Go.Proofs.Ytepegjihlppkcaa.Reg
set_option maxRecDepth 100000

theorem bord_eq (p : L) (i k : Nat) (hi : i < p.length) (h : Bord p (i + 1) k) : p.take k = (p.take (i + 1)).drop (i + 1 - k) := by
  have hlt := h.lt
  have hl : (p.take (i + 1)).length = i + 1 := by simp; omega
  have := (suf_iff (p := p.take k) (t := p.take (i + 1)) (by simp; omega)).1 h.suf
  rw [hl, show (p.take k).length = k by simp; omega] at this
  exact this.symm

set_option maxHeartbeats 4000000 in
theorem borders_walk (v0 : Value) (w : World) (h0 : Arg none Try.prog w 22 v0) :
    Calls Try.prog 9 #[v0] w fun e w' => e = .returned (.bool true) ∧ Below w.heap.size w w' := by
  obtain ⟨a2, c2, p, rfl, hp, f2⟩ := ints_sl h0
  clear h0
  obtain ⟨i0, hi, hz0, hz1, hz2⟩ := info_parts infoInt
  generalize hM' : p.length = M at *
  have hM := hM'.symm
  clear hM'
  by_cases hm : M < 1 ∨ 200 < M
  · clear hp hM
    go_enter Try.func9, Try.ntmps9
    go_wp2_with fail
    refine (Borders_no a2 M c2 hm _).mono ?_; rintro e w1 ⟨rfl, rfl⟩
    go_wp2_with fail
    refine (lives _).mono ?_; rintro e w2 ⟨rfl, hb2⟩
    go_wp2_with fail
    refine (lives _).mono ?_; rintro e w3 ⟨rfl, hb3⟩
    go_wp2_with fail
    go_ret
    exact ⟨rfl, bt hb2 hb3⟩
  have m1 : 1 ≤ M := by omega
  have m2 : M ≤ 200 := by omega
  clear hm
  have F1 := Lib.hid (Borders_ok p a2 M c2 hM m1 m2 w hp)
  have HP := Lib.hid hp
  have HM := Lib.hid hM
  have hle2 := hp.le
  clear hp hM
  go_enter Try.func9, Try.ntmps9
  go_wp2_with fail
  refine F1.out.mono ?_; rintro e w1 ⟨v1, bs, rfl, hbs, ho1, hb1⟩
  obtain ⟨a3, c3, rfl, s1⟩ := ho1.sl
  have e5 : (iv (nv bs)).length = M := by rw [iv_len, nv_len, hbs.1, HM.out]
  rw [e5] at s1
  simp only [e5] at ho1 ⊢
  obtain ⟨b, o, rfl, hc1⟩ := s1.at_ (by omega)
  have S1 := Lib.hid hc1
  have HBS := Lib.hid hbs
  clear F1 s1 ho1 e5 hbs hc1
  go_wp2_with fail
  refine (lives _).mono ?_; rintro e w2 ⟨rfl, hb2⟩
  have L2 := bt hb1 hb2
  go_wp2_with fail
  go_loopw [38] (fun ii wr => ∃ i : Nat, i ≤ M ∧ ii = .int .i64 i ∧ Below w2.heap.size w2 wr) (fun ii _ => M - (intOf ii).toNat)
  case atStart => exact ⟨0, by omega, rfl, Below.refl _ _⟩
  case round =>
    obtain ⟨i, hiM, rfl, hb⟩ := hrel
    by_cases hlt : i < M
    · obtain ⟨k, hk⟩ : ∃ k, bs[i]? = some k := ⟨_, List.getElem?_eq_getElem (show i < bs.length by have := HM.out; have := HBS.out.1; omega)⟩
      have hbk := HBS.out.2 i k hk
      have hki : k ≤ i := by have := hbk.lt; omega
      have ck := cell_keep (cell_keep (S1.out i _ (iv_get (nv_get hk))) hb2) hb
      have hcap : M ≤ c2 := hle2
      have z1 : decide ((k : Int) < 0) = false := decide_eq_false (by omega)
      have z2 : decide (i < k) = false := decide_eq_false (by omega)
      have SA := (HP.out.take (show k ≤ M by omega)).keep (bt L2 hb)
      have SB := ((HP.out.take (show i + 1 ≤ M by omega)).drop (show i + 1 - k ≤ i + 1 by omega)).keep (bt L2 hb)
      simp only [Nat.mul_one, iv_take, iv_drop] at SA SB
      rw [← bord_eq p i k (by have := HM.out; omega) hbk] at SB
      have HA := Lib.hid SA.rs; have HB := Lib.hid SB.rs
      have HBK := Lib.hid hbk; have HK := Lib.hid hk
      clear SA SB hbk hk
      by_cases h0 : 0 < i
      · obtain ⟨j, rfl⟩ : ∃ j, i = j + 1 := ⟨i - 1, by omega⟩
        obtain ⟨m, hm⟩ : ∃ m, bs[j]? = some m := ⟨_, List.getElem?_eq_getElem (show j < bs.length by have := HM.out; have := HBS.out.1; omega)⟩
        have hbm := HBS.out.2 j m hm
        have hkm : k ≤ m + 1 := hbm.step (by have := HM.out; omega) HBK.out
        have hmj : m ≤ j := by have := hbm.lt; omega
        have cm := cell_keep (cell_keep (S1.out j _ (iv_get (nv_get hm))) hb2) hb
        have e1 : ((j + 1 : Nat) : Int) - 1 = (j : Int) := by omega
        clear hm hbm
        go_wp2_with fail
        refine wp_region_st (fun aR iR v W => match iR with
          | 0 => v = aR.eval (.tmp 6)
          | 1 => v = .bool false
          | 2 => v = .bool false
          | 3 => v = aR.eval (.tmp 6)
          | 4 => v = aR.eval (.tmp 5)
          | 5 => v = .bool false
          | 6 => v = .bool false
          | 7 => v = .bool false
          | 8 => v = aR.eval (.tmp 5)
          | 9 => v = .bool true
          | 10 => v = .bool true
          | 11 => v = aR.eval (.tmp 6)
          | 12 => v = aR.eval (.tmp 3)
          | 13 => v = aR.eval (.tmp 5)
          | 14 => v = .int .i64 (j : Int)
          | 15 => v = .pointer (some ⟨b, o + j, none⟩)
          | 16 => v = .int .i64 (m : Int)
          | 17 => v = .int .i64 ((m : Int) + 1)
          | 18 => v = .bool false
          | 19 => v = .bool false
          | 20 => v = .bool false
          | 21 => v = .bool false
          | 22 => v = aR.eval (.tmp 0)
          | 23 => v = aR.eval (.tmp 6)
          | 24 => v = .slice a2 k c2
          | 25 => v = aR.eval (.tmp 0)
          | 26 => v = aR.eval (.tmp 5)
          | 27 => v = .int .i64 (((j + 1 : Nat) : Int) + 1)
          | 28 => v = aR.eval (.tmp 6)
          | 29 => v = .int .i64 (((j + 1 : Nat) : Int) + 1 - k)
          | 30 => v = aR.eval (.tmp 5)
          | 31 => v = .int .i64 (((j + 1 : Nat) : Int) + 1)
          | 32 => v = .slice (if c2 = j + 1 + 1 - k then a2 else a2.map (·.add (j + 1 + 1 - k))) (j + 1 + 1 - (j + 1 + 1 - k)) (c2 - (j + 1 + 1 - k))
          | 33 => v = .bool true
          | 34 => v = .bool false
          | 35 => v = .bool false
          | _ => True) (fun _ w w' => Below w.heap.size w w') (fun W => Below wr.heap.size wr W) [] (by kernel_rfl) (by kernel_rfl) ?_ ((Below.refl _ _).drew) ?_ ?_
        · intro iR j v W W' hne hw hns h hb
          match iR, h, hne, hw, hns with
          | 0, h, hne, hw, hns => exact h
          | 1, h, hne, hw, hns => exact h
          | 2, h, hne, hw, hns => exact h
          | 3, h, hne, hw, hns => exact h
          | 4, h, hne, hw, hns => exact h
          | 5, h, hne, hw, hns => exact h
          | 6, h, hne, hw, hns => exact h
          | 7, h, hne, hw, hns => exact h
          | 8, h, hne, hw, hns => exact h
          | 9, h, hne, hw, hns => exact h
          | 10, h, hne, hw, hns => exact h
          | 11, h, hne, hw, hns => exact h
          | 12, h, hne, hw, hns => exact h
          | 13, h, hne, hw, hns => exact h
          | 14, h, hne, hw, hns => exact h
          | 15, h, hne, hw, hns => exact h
          | 16, h, hne, hw, hns => exact h
          | 17, h, hne, hw, hns => exact h
          | 18, h, hne, hw, hns => exact h
          | 19, h, hne, hw, hns => exact h
          | 20, h, hne, hw, hns => exact h
          | 21, h, hne, hw, hns => exact h
          | 22, h, hne, hw, hns => exact h
          | 23, h, hne, hw, hns => exact h
          | 24, h, hne, hw, hns => exact h
          | 25, h, hne, hw, hns => exact h
          | 26, h, hne, hw, hns => exact h
          | 27, h, hne, hw, hns => exact h
          | 28, h, hne, hw, hns => exact h
          | 29, h, hne, hw, hns => exact h
          | 30, h, hne, hw, hns => exact h
          | 31, h, hne, hw, hns => exact h
          | 32, h, hne, hw, hns => exact h
          | 33, h, hne, hw, hns => exact h
          | 34, h, hne, hw, hns => exact h
          | 35, h, hne, hw, hns => exact h
          | n+36, _, _, _, _ => trivial
        · have hG : ∀ (i : Nat) (w : World), (fun _ w w' => Below w.heap.size w w') i w w := fun _ w => Below.refl _ _
          refine (Steps.cons ?_ (Steps.cons ?_ (Steps.cons ?_ (Steps.cons ?_ (Steps.cons ?_ (Steps.cons ?_ (Steps.cons ?_ (Steps.cons ?_ (Steps.cons ?_ (Steps.cons ?_ (Steps.cons ?_ (Steps.cons ?_ (Steps.cons ?_ (Steps.cons ?_ (Steps.cons ?_ (Steps.cons ?_ (Steps.cons ?_ (Steps.cons ?_ (Steps.cons ?_ (Steps.cons ?_ (Steps.cons ?_ (Steps.cons ?_ (Steps.cons ?_ (Steps.cons ?_ (Steps.cons ?_ (Steps.cons ?_ (Steps.cons ?_ (Steps.cons ?_ (Steps.cons ?_ (Steps.cons ?_ (Steps.cons ?_ (Steps.cons ?_ (Steps.cons ?_ (Steps.cons ?_ (Steps.cons ?_ (Steps.cons ?_ Steps.nil))))))))))))))))))))))))))))))))))))
          · exact (Step.un rfl (Step0.move (.inl rfl) rfl (hG 0) (fun _ _ => rfl)))
          · refine (Step.un rfl (Step0.pure (hG 1) fun a' w' hag hS h => ⟨.bool false, ?_, rfl⟩))
            have e43 := ev (h 0 rfl 43 rfl)
            simp [Act.eval] at e43
            clear h hag
            go_simp
            all_goals first | omega | exact IntWalk.i64_in _ (by omega) | exact (IntWalk.i64_in _ (by omega)).symm
          · exact (Step.un rfl (Step0.copy (j := 1) (d := 44) (.inl rfl) rfl rfl (hG 2) (fun v w _ h => h)))
          · exact (Step.on (j := 2) (d := 45) rfl rfl rfl (fun v w _ h => h) (Step0.move (.inl rfl) rfl (hG 3) (fun _ _ => rfl)))
          · exact (Step.on (j := 2) (d := 45) rfl rfl rfl (fun v w _ h => h) (Step0.move (.inl rfl) rfl (hG 4) (fun _ _ => rfl)))
          · refine (Step.on (j := 2) (d := 45) rfl rfl rfl (fun v w _ h => h) (Step0.pure (hG 5) fun a' w' hag hS h => ⟨.bool false, ?_, rfl⟩))
            have e46 := ev (h 3 rfl 46 rfl)
            simp [Act.eval] at e46
            have e47 := ev (h 4 rfl 47 rfl)
            simp [Act.eval] at e47
            clear h hag
            go_simp
            all_goals first | omega | exact IntWalk.i64_in _ (by omega) | exact (IntWalk.i64_in _ (by omega)).symm
          · refine (Step.un rfl (Step0.pure (hG 6) fun a' w' hag hS h => ⟨.bool false, ?_, rfl⟩))
            have e45 := ev (h 2 rfl 45 rfl)
            have e48 := ev (h 5 rfl 48 rfl)
            clear h hag
            go_simp
            all_goals first | omega | exact IntWalk.i64_in _ (by omega) | exact (IntWalk.i64_in _ (by omega)).symm
          · exact (Step.un rfl (Step0.copy (j := 6) (d := 49) (.inl rfl) rfl rfl (hG 7) (fun v w _ h => h)))
          · exact (Step.on (j := 7) (d := 50) rfl rfl rfl (fun v w _ h => h) (Step0.move (.inl rfl) rfl (hG 8) (fun _ _ => rfl)))
          · refine (Step.on (j := 7) (d := 50) rfl rfl rfl (fun v w _ h => h) (Step0.pure (hG 9) fun a' w' hag hS h => ⟨.bool true, ?_, rfl⟩))
            have e51 := ev (h 8 rfl 51 rfl)
            simp [Act.eval] at e51
            clear h hag
            go_simp
            all_goals first | omega | exact IntWalk.i64_in _ (by omega) | exact (IntWalk.i64_in _ (by omega)).symm
          · exact (Step.on (j := 7) (d := 50) rfl rfl rfl (fun v w _ h => h) (Step0.copy (j := 9) (d := 52) (.inl rfl) rfl rfl (hG 10) (fun v w _ h => h)))
          · exact (Step.on (j := 10) (d := 53) rfl rfl rfl (fun v w _ h => h) (Step0.move (.inl rfl) rfl (hG 11) (fun _ _ => rfl)))
          · exact (Step.on (j := 10) (d := 53) rfl rfl rfl (fun v w _ h => h) (Step0.move (.inl rfl) rfl (hG 12) (fun _ _ => rfl)))
          · exact (Step.on (j := 10) (d := 53) rfl rfl rfl (fun v w _ h => h) (Step0.move (.inl rfl) rfl (hG 13) (fun _ _ => rfl)))
          · refine (Step.on (j := 10) (d := 53) rfl rfl rfl (fun v w _ h => h) (Step0.pure (hG 14) fun a' w' hag hS h => ⟨.int .i64 (j : Int), ?_, rfl⟩))
            have e56 := ev (h 13 rfl 56 rfl)
            simp [Act.eval] at e56
            clear h hag
            go_simp
            all_goals first | omega | exact IntWalk.i64_in _ (by omega) | exact (IntWalk.i64_in _ (by omega)).symm
          · refine (Step.on (j := 10) (d := 53) rfl rfl rfl (fun v w _ h => h) (Step0.pure (hG 15) fun a' w' hag hS h => ⟨.pointer (some ⟨b, o + j, none⟩), ?_, rfl⟩))
            have e55 := ev (h 12 rfl 55 rfl)
            simp [Act.eval] at e55
            have e57 := ev (h 14 rfl 57 rfl)
            clear h hag
            go_simp
            all_goals first | omega | exact IntWalk.i64_in _ (by omega) | exact (IntWalk.i64_in _ (by omega)).symm
          · refine (Step.on (j := 10) (d := 53) rfl rfl rfl (fun v w _ h => h) (Step0.pure (hG 16) fun a' w' hag hS h => ⟨.int .i64 (m : Int), ?_, rfl⟩))
            have e58 := ev (h 15 rfl 58 rfl)
            clear h hag
            have c1 := cell_keep cm hS
            go_simp
            all_goals first | omega | exact IntWalk.i64_in _ (by omega) | exact (IntWalk.i64_in _ (by omega)).symm
          · refine (Step.on (j := 10) (d := 53) rfl rfl rfl (fun v w _ h => h) (Step0.pure (hG 17) fun a' w' hag hS h => ⟨.int .i64 ((m : Int) + 1), ?_, rfl⟩))
            have e59 := ev (h 16 rfl 59 rfl)
            clear h hag
            go_simp
            all_goals first | omega | exact IntWalk.i64_in _ (by omega) | exact (IntWalk.i64_in _ (by omega)).symm
          · refine (Step.on (j := 10) (d := 53) rfl rfl rfl (fun v w _ h => h) (Step0.pure (hG 18) fun a' w' hag hS h => ⟨.bool false, ?_, rfl⟩))
            have e54 := ev (h 11 rfl 54 rfl)
            simp [Act.eval] at e54
            have e60 := ev (h 17 rfl 60 rfl)
            clear h hag
            go_simp
            all_goals first | omega | exact IntWalk.i64_in _ (by omega) | exact (IntWalk.i64_in _ (by omega)).symm
          · refine (Step.on (j := 7) (d := 50) rfl rfl rfl (fun v w _ h => h) (Step0.pure (hG 19) fun a' w' hag hS h => ⟨.bool false, ?_, rfl⟩))
            have e53 := ev (h 10 rfl 53 rfl)
            have e61 := ev (h 18 rfl 61 rfl)
            clear h hag
            go_simp
            all_goals first | omega | exact IntWalk.i64_in _ (by omega) | exact (IntWalk.i64_in _ (by omega)).symm
          · refine (Step.un rfl (Step0.pure (hG 20) fun a' w' hag hS h => ⟨.bool false, ?_, rfl⟩))
            have e50 := ev (h 7 rfl 50 rfl)
            have e62 := ev (h 19 rfl 62 rfl)
            clear h hag
            go_simp
            all_goals first | omega | exact IntWalk.i64_in _ (by omega) | exact (IntWalk.i64_in _ (by omega)).symm
          · exact (Step.un rfl (Step0.copy (j := 20) (d := 63) (.inl rfl) rfl rfl (hG 21) (fun v w _ h => h)))
          · exact (Step.on (j := 21) (d := 64) rfl rfl rfl (fun v w _ h => h) (Step0.move (.inl rfl) rfl (hG 22) (fun _ _ => rfl)))
          · exact (Step.on (j := 21) (d := 64) rfl rfl rfl (fun v w _ h => h) (Step0.move (.inl rfl) rfl (hG 23) (fun _ _ => rfl)))
          · refine (Step.on (j := 21) (d := 64) rfl rfl rfl (fun v w _ h => h) (Step0.pure (hG 24) fun a' w' hag hS h => ⟨.slice a2 k c2, ?_, rfl⟩))
            have e65 := ev (h 22 rfl 65 rfl)
            simp [Act.eval] at e65
            have e66 := ev (h 23 rfl 66 rfl)
            simp [Act.eval] at e66
            clear h hag
            go_simp
            all_goals first | omega | exact IntWalk.i64_in _ (by omega) | exact (IntWalk.i64_in _ (by omega)).symm
          · exact (Step.on (j := 21) (d := 64) rfl rfl rfl (fun v w _ h => h) (Step0.move (.inl rfl) rfl (hG 25) (fun _ _ => rfl)))
          · exact (Step.on (j := 21) (d := 64) rfl rfl rfl (fun v w _ h => h) (Step0.move (.inl rfl) rfl (hG 26) (fun _ _ => rfl)))
          · refine (Step.on (j := 21) (d := 64) rfl rfl rfl (fun v w _ h => h) (Step0.pure (hG 27) fun a' w' hag hS h => ⟨.int .i64 (((j + 1 : Nat) : Int) + 1), ?_, rfl⟩))
            have e69 := ev (h 26 rfl 69 rfl)
            simp [Act.eval] at e69
            clear h hag
            go_simp
            all_goals first | omega | exact IntWalk.i64_in _ (by omega) | exact (IntWalk.i64_in _ (by omega)).symm
          · exact (Step.on (j := 21) (d := 64) rfl rfl rfl (fun v w _ h => h) (Step0.move (.inl rfl) rfl (hG 28) (fun _ _ => rfl)))
          · refine (Step.on (j := 21) (d := 64) rfl rfl rfl (fun v w _ h => h) (Step0.pure (hG 29) fun a' w' hag hS h => ⟨.int .i64 (((j + 1 : Nat) : Int) + 1 - k), ?_, rfl⟩))
            have e70 := ev (h 27 rfl 70 rfl)
            have e71 := ev (h 28 rfl 71 rfl)
            simp [Act.eval] at e71
            clear h hag
            go_simp
            all_goals first | omega | exact IntWalk.i64_in _ (by omega) | exact (IntWalk.i64_in _ (by omega)).symm
          · exact (Step.on (j := 21) (d := 64) rfl rfl rfl (fun v w _ h => h) (Step0.move (.inl rfl) rfl (hG 30) (fun _ _ => rfl)))
          · refine (Step.on (j := 21) (d := 64) rfl rfl rfl (fun v w _ h => h) (Step0.pure (hG 31) fun a' w' hag hS h => ⟨.int .i64 (((j + 1 : Nat) : Int) + 1), ?_, rfl⟩))
            have e73 := ev (h 30 rfl 73 rfl)
            simp [Act.eval] at e73
            clear h hag
            go_simp
            all_goals first | omega | exact IntWalk.i64_in _ (by omega) | exact (IntWalk.i64_in _ (by omega)).symm
          · refine (Step.on (j := 21) (d := 64) rfl rfl rfl (fun v w _ h => h) ?_)
            refine Step0.pure (hG 32) (fun a' w' hag hS h => ⟨_, run_op_slice1 (x := 68) (l := 72) (h := 74) w' 3 (j + 1 + 1 - k) (j + 1 + 1) Try.underlying22 (fun _ => by kernel_rfl) (by have := ev (h 25 rfl 68 rfl); simpa [Act.eval] using this) (ev (h 29 rfl 72 rfl)) (ev (h 31 rfl 74 rfl)) (by omega) (by omega) (by omega) (by omega), rfl⟩)
          · refine (Step.on (j := 21) (d := 64) rfl rfl rfl (fun v w _ h => h) ?_)
            intro a' w' K hag hS hw hK
            have e67 := ev (hw 24 rfl 67 rfl)
            have e75 := ev (hw 32 rfl 75 rfl)
            refine wpOp_call (f := 15) (args := #[.slice a2 k c2, .slice (if c2 = j + 1 + 1 - k then a2 else a2.map (·.add (j + 1 + 1 - k))) (j + 1 + 1 - (j + 1 + 1 - k)) (c2 - (j + 1 + 1 - k))]) (by go_simp) (EqInt.eq_ints _ _ _ _ _ (HA.out.keep hS) (HB.out.keep hS)) ?_
            rintro e w4 ⟨rfl, hb4⟩
            exact ⟨_, rfl, hK _ _ (show _ = _ from by rw [decide_eq_true rfl]) hb4 (bt hS hb4)⟩
          · refine (Step.on (j := 21) (d := 64) rfl rfl rfl (fun v w _ h => h) (Step0.pure (hG 34) fun a' w' hag hS h => ⟨.bool false, ?_, rfl⟩))
            have e76 := ev (h 33 rfl 76 rfl)
            clear h hag
            go_simp
            all_goals first | omega | exact IntWalk.i64_in _ (by omega) | exact (IntWalk.i64_in _ (by omega)).symm
          · refine (Step.un rfl (Step0.pure (hG 35) fun a' w' hag hS h => ⟨.bool false, ?_, rfl⟩))
            have e64 := ev (h 21 rfl 64 rfl)
            have e77 := ev (h 34 rfl 77 rfl)
            clear h hag
            go_simp
            all_goals first | omega | exact IntWalk.i64_in _ (by omega) | exact (IntWalk.i64_in _ (by omega)).symm
        intro vs w' hR hS'
        have h35 := hR 35 (by decide) rfl
        simp only [] at h35
        clear hR
        simp only [puts, Act.put, List.setIfInBounds_toArray, List.set_cons_succ, List.set_cons_zero, Nat.reduceAdd]
        generalize vs 35 = v35 at *
        subst h35
        go_wp2_with fail
        go_roundw
        case rel => exact ⟨j + 1 + 1, by omega, by go_num, bt hb hS'⟩
        case measure => simp [intOf]; omega
      · go_wp2_with fail
        refine wp_region_st (fun aR iR v W => match iR with
          | 0 => v = aR.eval (.tmp 6)
          | 1 => v = .bool false
          | 2 => v = .bool false
          | 3 => v = aR.eval (.tmp 6)
          | 4 => v = aR.eval (.tmp 5)
          | 5 => v = .bool false
          | 6 => v = .bool false
          | 7 => v = .bool false
          | 8 => v = aR.eval (.tmp 5)
          | 9 => v = .bool false
          | 10 => v = .bool false
          | 11 => v = undef
          | 12 => v = undef
          | 13 => v = undef
          | 14 => v = undef
          | 15 => v = undef
          | 16 => v = undef
          | 17 => v = undef
          | 18 => v = undef
          | 19 => v = .bool false
          | 20 => v = .bool false
          | 21 => v = .bool false
          | 22 => v = aR.eval (.tmp 0)
          | 23 => v = aR.eval (.tmp 6)
          | 24 => v = .slice a2 k c2
          | 25 => v = aR.eval (.tmp 0)
          | 26 => v = aR.eval (.tmp 5)
          | 27 => v = .int .i64 (((i : Nat) : Int) + 1)
          | 28 => v = aR.eval (.tmp 6)
          | 29 => v = .int .i64 (((i : Nat) : Int) + 1 - k)
          | 30 => v = aR.eval (.tmp 5)
          | 31 => v = .int .i64 (((i : Nat) : Int) + 1)
          | 32 => v = .slice (if c2 = i + 1 - k then a2 else a2.map (·.add (i + 1 - k))) (i + 1 - (i + 1 - k)) (c2 - (i + 1 - k))
          | 33 => v = .bool true
          | 34 => v = .bool false
          | 35 => v = .bool false
          | _ => True) (fun _ w w' => Below w.heap.size w w') (fun W => Below wr.heap.size wr W) [] (by kernel_rfl) (by kernel_rfl) ?_ ((Below.refl _ _).drew) ?_ ?_
        · intro iR j v W W' hne hw hns h hb
          match iR, h, hne, hw, hns with
          | 0, h, hne, hw, hns => exact h
          | 1, h, hne, hw, hns => exact h
          | 2, h, hne, hw, hns => exact h
          | 3, h, hne, hw, hns => exact h
          | 4, h, hne, hw, hns => exact h
          | 5, h, hne, hw, hns => exact h
          | 6, h, hne, hw, hns => exact h
          | 7, h, hne, hw, hns => exact h
          | 8, h, hne, hw, hns => exact h
          | 9, h, hne, hw, hns => exact h
          | 10, h, hne, hw, hns => exact h
          | 11, h, hne, hw, hns => exact h
          | 12, h, hne, hw, hns => exact h
          | 13, h, hne, hw, hns => exact h
          | 14, h, hne, hw, hns => exact h
          | 15, h, hne, hw, hns => exact h
          | 16, h, hne, hw, hns => exact h
          | 17, h, hne, hw, hns => exact h
          | 18, h, hne, hw, hns => exact h
          | 19, h, hne, hw, hns => exact h
          | 20, h, hne, hw, hns => exact h
          | 21, h, hne, hw, hns => exact h
          | 22, h, hne, hw, hns => exact h
          | 23, h, hne, hw, hns => exact h
          | 24, h, hne, hw, hns => exact h
          | 25, h, hne, hw, hns => exact h
          | 26, h, hne, hw, hns => exact h
          | 27, h, hne, hw, hns => exact h
          | 28, h, hne, hw, hns => exact h
          | 29, h, hne, hw, hns => exact h
          | 30, h, hne, hw, hns => exact h
          | 31, h, hne, hw, hns => exact h
          | 32, h, hne, hw, hns => exact h
          | 33, h, hne, hw, hns => exact h
          | 34, h, hne, hw, hns => exact h
          | 35, h, hne, hw, hns => exact h
          | n+36, _, _, _, _ => trivial
        · have hG : ∀ (i : Nat) (w : World), (fun _ w w' => Below w.heap.size w w') i w w := fun _ w => Below.refl _ _
          refine (Steps.cons ?_ (Steps.cons ?_ (Steps.cons ?_ (Steps.cons ?_ (Steps.cons ?_ (Steps.cons ?_ (Steps.cons ?_ (Steps.cons ?_ (Steps.cons ?_ (Steps.cons ?_ (Steps.cons ?_ (Steps.cons ?_ (Steps.cons ?_ (Steps.cons ?_ (Steps.cons ?_ (Steps.cons ?_ (Steps.cons ?_ (Steps.cons ?_ (Steps.cons ?_ (Steps.cons ?_ (Steps.cons ?_ (Steps.cons ?_ (Steps.cons ?_ (Steps.cons ?_ (Steps.cons ?_ (Steps.cons ?_ (Steps.cons ?_ (Steps.cons ?_ (Steps.cons ?_ (Steps.cons ?_ (Steps.cons ?_ (Steps.cons ?_ (Steps.cons ?_ (Steps.cons ?_ (Steps.cons ?_ (Steps.cons ?_ Steps.nil))))))))))))))))))))))))))))))))))))
          · exact (Step.un rfl (Step0.move (.inl rfl) rfl (hG 0) (fun _ _ => rfl)))
          · refine (Step.un rfl (Step0.pure (hG 1) fun a' w' hag hS h => ⟨.bool false, ?_, rfl⟩))
            have e43 := ev (h 0 rfl 43 rfl)
            simp [Act.eval] at e43
            clear h hag
            go_simp
            all_goals first | omega | exact IntWalk.i64_in _ (by omega) | exact (IntWalk.i64_in _ (by omega)).symm
          · exact (Step.un rfl (Step0.copy (j := 1) (d := 44) (.inl rfl) rfl rfl (hG 2) (fun v w _ h => h)))
          · exact (Step.on (j := 2) (d := 45) rfl rfl rfl (fun v w _ h => h) (Step0.move (.inl rfl) rfl (hG 3) (fun _ _ => rfl)))
          · exact (Step.on (j := 2) (d := 45) rfl rfl rfl (fun v w _ h => h) (Step0.move (.inl rfl) rfl (hG 4) (fun _ _ => rfl)))
          · refine (Step.on (j := 2) (d := 45) rfl rfl rfl (fun v w _ h => h) (Step0.pure (hG 5) fun a' w' hag hS h => ⟨.bool false, ?_, rfl⟩))
            have e46 := ev (h 3 rfl 46 rfl)
            simp [Act.eval] at e46
            have e47 := ev (h 4 rfl 47 rfl)
            simp [Act.eval] at e47
            clear h hag
            go_simp
            all_goals first | omega | exact IntWalk.i64_in _ (by omega) | exact (IntWalk.i64_in _ (by omega)).symm
          · refine (Step.un rfl (Step0.pure (hG 6) fun a' w' hag hS h => ⟨.bool false, ?_, rfl⟩))
            have e45 := ev (h 2 rfl 45 rfl)
            have e48 := ev (h 5 rfl 48 rfl)
            clear h hag
            go_simp
            all_goals first | omega | exact IntWalk.i64_in _ (by omega) | exact (IntWalk.i64_in _ (by omega)).symm
          · exact (Step.un rfl (Step0.copy (j := 6) (d := 49) (.inl rfl) rfl rfl (hG 7) (fun v w _ h => h)))
          · exact (Step.on (j := 7) (d := 50) rfl rfl rfl (fun v w _ h => h) (Step0.move (.inl rfl) rfl (hG 8) (fun _ _ => rfl)))
          · refine (Step.on (j := 7) (d := 50) rfl rfl rfl (fun v w _ h => h) (Step0.pure (hG 9) fun a' w' hag hS h => ⟨.bool false, ?_, rfl⟩))
            have e51 := ev (h 8 rfl 51 rfl)
            simp [Act.eval] at e51
            clear h hag
            go_simp
            all_goals first | omega | exact IntWalk.i64_in _ (by omega) | exact (IntWalk.i64_in _ (by omega)).symm
          · exact (Step.on (j := 7) (d := 50) rfl rfl rfl (fun v w _ h => h) (Step0.copy (j := 9) (d := 52) (.inl rfl) rfl rfl (hG 10) (fun v w _ h => h)))
          · exact Step.off (j := 10) (d := 53) rfl rfl rfl (hG 11) (fun v w _ h => h) (fun _ _ => rfl)
          · exact Step.off (j := 10) (d := 53) rfl rfl rfl (hG 12) (fun v w _ h => h) (fun _ _ => rfl)
          · exact Step.off (j := 10) (d := 53) rfl rfl rfl (hG 13) (fun v w _ h => h) (fun _ _ => rfl)
          · exact Step.off (j := 10) (d := 53) rfl rfl rfl (hG 14) (fun v w _ h => h) (fun _ _ => rfl)
          · exact Step.off (j := 10) (d := 53) rfl rfl rfl (hG 15) (fun v w _ h => h) (fun _ _ => rfl)
          · exact Step.off (j := 10) (d := 53) rfl rfl rfl (hG 16) (fun v w _ h => h) (fun _ _ => rfl)
          · exact Step.off (j := 10) (d := 53) rfl rfl rfl (hG 17) (fun v w _ h => h) (fun _ _ => rfl)
          · exact Step.off (j := 10) (d := 53) rfl rfl rfl (hG 18) (fun v w _ h => h) (fun _ _ => rfl)
          · refine (Step.on (j := 7) (d := 50) rfl rfl rfl (fun v w _ h => h) (Step0.pure (hG 19) fun a' w' hag hS h => ⟨.bool false, ?_, rfl⟩))
            have e53 := ev (h 10 rfl 53 rfl)
            have e61 := ev (h 18 rfl 61 rfl)
            clear h hag
            go_simp
            all_goals first | omega | exact IntWalk.i64_in _ (by omega) | exact (IntWalk.i64_in _ (by omega)).symm
          · refine (Step.un rfl (Step0.pure (hG 20) fun a' w' hag hS h => ⟨.bool false, ?_, rfl⟩))
            have e50 := ev (h 7 rfl 50 rfl)
            have e62 := ev (h 19 rfl 62 rfl)
            clear h hag
            go_simp
            all_goals first | omega | exact IntWalk.i64_in _ (by omega) | exact (IntWalk.i64_in _ (by omega)).symm
          · exact (Step.un rfl (Step0.copy (j := 20) (d := 63) (.inl rfl) rfl rfl (hG 21) (fun v w _ h => h)))
          · exact (Step.on (j := 21) (d := 64) rfl rfl rfl (fun v w _ h => h) (Step0.move (.inl rfl) rfl (hG 22) (fun _ _ => rfl)))
          · exact (Step.on (j := 21) (d := 64) rfl rfl rfl (fun v w _ h => h) (Step0.move (.inl rfl) rfl (hG 23) (fun _ _ => rfl)))
          · refine (Step.on (j := 21) (d := 64) rfl rfl rfl (fun v w _ h => h) (Step0.pure (hG 24) fun a' w' hag hS h => ⟨.slice a2 k c2, ?_, rfl⟩))
            have e65 := ev (h 22 rfl 65 rfl)
            simp [Act.eval] at e65
            have e66 := ev (h 23 rfl 66 rfl)
            simp [Act.eval] at e66
            clear h hag
            go_simp
            all_goals first | omega | exact IntWalk.i64_in _ (by omega) | exact (IntWalk.i64_in _ (by omega)).symm
          · exact (Step.on (j := 21) (d := 64) rfl rfl rfl (fun v w _ h => h) (Step0.move (.inl rfl) rfl (hG 25) (fun _ _ => rfl)))
          · exact (Step.on (j := 21) (d := 64) rfl rfl rfl (fun v w _ h => h) (Step0.move (.inl rfl) rfl (hG 26) (fun _ _ => rfl)))
          · refine (Step.on (j := 21) (d := 64) rfl rfl rfl (fun v w _ h => h) (Step0.pure (hG 27) fun a' w' hag hS h => ⟨.int .i64 (((i : Nat) : Int) + 1), ?_, rfl⟩))
            have e69 := ev (h 26 rfl 69 rfl)
            simp [Act.eval] at e69
            clear h hag
            go_simp
            all_goals first | omega | exact IntWalk.i64_in _ (by omega) | exact (IntWalk.i64_in _ (by omega)).symm
          · exact (Step.on (j := 21) (d := 64) rfl rfl rfl (fun v w _ h => h) (Step0.move (.inl rfl) rfl (hG 28) (fun _ _ => rfl)))
          · refine (Step.on (j := 21) (d := 64) rfl rfl rfl (fun v w _ h => h) (Step0.pure (hG 29) fun a' w' hag hS h => ⟨.int .i64 (((i : Nat) : Int) + 1 - k), ?_, rfl⟩))
            have e70 := ev (h 27 rfl 70 rfl)
            have e71 := ev (h 28 rfl 71 rfl)
            simp [Act.eval] at e71
            clear h hag
            go_simp
            all_goals first | omega | exact IntWalk.i64_in _ (by omega) | exact (IntWalk.i64_in _ (by omega)).symm
          · exact (Step.on (j := 21) (d := 64) rfl rfl rfl (fun v w _ h => h) (Step0.move (.inl rfl) rfl (hG 30) (fun _ _ => rfl)))
          · refine (Step.on (j := 21) (d := 64) rfl rfl rfl (fun v w _ h => h) (Step0.pure (hG 31) fun a' w' hag hS h => ⟨.int .i64 (((i : Nat) : Int) + 1), ?_, rfl⟩))
            have e73 := ev (h 30 rfl 73 rfl)
            simp [Act.eval] at e73
            clear h hag
            go_simp
            all_goals first | omega | exact IntWalk.i64_in _ (by omega) | exact (IntWalk.i64_in _ (by omega)).symm
          · refine (Step.on (j := 21) (d := 64) rfl rfl rfl (fun v w _ h => h) ?_)
            refine Step0.pure (hG 32) (fun a' w' hag hS h => ⟨_, run_op_slice1 (x := 68) (l := 72) (h := 74) w' 3 (i + 1 - k) (i + 1) Try.underlying22 (fun _ => by kernel_rfl) (by have := ev (h 25 rfl 68 rfl); simpa [Act.eval] using this) (ev (h 29 rfl 72 rfl)) (ev (h 31 rfl 74 rfl)) (by omega) (by omega) (by omega) (by omega), rfl⟩)
          · refine (Step.on (j := 21) (d := 64) rfl rfl rfl (fun v w _ h => h) ?_)
            intro a' w' K hag hS hw hK
            have e67 := ev (hw 24 rfl 67 rfl)
            have e75 := ev (hw 32 rfl 75 rfl)
            refine wpOp_call (f := 15) (args := #[.slice a2 k c2, .slice (if c2 = i + 1 - k then a2 else a2.map (·.add (i + 1 - k))) (i + 1 - (i + 1 - k)) (c2 - (i + 1 - k))]) (by go_simp) (EqInt.eq_ints _ _ _ _ _ (HA.out.keep hS) (HB.out.keep hS)) ?_
            rintro e w4 ⟨rfl, hb4⟩
            exact ⟨_, rfl, hK _ _ (show _ = _ from by rw [decide_eq_true rfl]) hb4 (bt hS hb4)⟩
          · refine (Step.on (j := 21) (d := 64) rfl rfl rfl (fun v w _ h => h) (Step0.pure (hG 34) fun a' w' hag hS h => ⟨.bool false, ?_, rfl⟩))
            have e76 := ev (h 33 rfl 76 rfl)
            clear h hag
            go_simp
            all_goals first | omega | exact IntWalk.i64_in _ (by omega) | exact (IntWalk.i64_in _ (by omega)).symm
          · refine (Step.un rfl (Step0.pure (hG 35) fun a' w' hag hS h => ⟨.bool false, ?_, rfl⟩))
            have e64 := ev (h 21 rfl 64 rfl)
            have e77 := ev (h 34 rfl 77 rfl)
            clear h hag
            go_simp
            all_goals first | omega | exact IntWalk.i64_in _ (by omega) | exact (IntWalk.i64_in _ (by omega)).symm
        intro vs w' hR hS'
        have h35 := hR 35 (by decide) rfl
        simp only [] at h35
        clear hR
        simp only [puts, Act.put, List.setIfInBounds_toArray, List.set_cons_succ, List.set_cons_zero, Nat.reduceAdd]
        generalize vs 35 = v35 at *
        subst h35
        go_wp2_with fail
        go_roundw
        case rel => exact ⟨i + 1, by omega, by go_num, bt hb hS'⟩
        case measure => simp [intOf]; omega
    · obtain rfl : i = M := by omega
      obtain ⟨k, hk⟩ : ∃ k, bs[i - 1]? = some k := ⟨_, List.getElem?_eq_getElem (show i - 1 < bs.length by have := HM.out; have := HBS.out.1; omega)⟩
      have hbk := HBS.out.2 (i - 1) k hk
      rw [show i - 1 + 1 = i by omega] at hbk
      have hki : k < i := hbk.lt
      have ck := cell_keep (cell_keep (S1.out (i - 1) _ (iv_get (nv_get hk))) hb2) hb
      have e1 : ((i : Int) - 1).toNat = i - 1 := by omega
      have i1 : (0 : Int) ≤ (i : Int) - 1 := by omega
      have i2 : (i : Int) - 1 < (i : Int) := by omega
      have Lr := bt L2 hb
      have HPk := Lib.hid (HP.out.keep Lr)
      have sd := HPk.out.drop (show k ≤ i by omega)
      simp only [Nat.mul_one, iv_drop] at sd
      have SD := Lib.hid sd
      have hone := iv_one (p.drop k)
      have h18 : 1 ≤ 8 := by decide
      have hkm : ((iv p).length + (iv (p.drop k)).length) * 8 ≤ 140737488355328 := by rw [iv_len, iv_len]; have := HM.out; simp; omega
      have hl8 : p.length * 8 ≤ 140737488355328 := by have := HM.out; omega
      have HBK := Lib.hid hbk
      clear hk hbk sd
      go_wp2_with fail
      refine wp_region_st (fun aR iR v W => match iR with
        | 0 => v = aR.eval (.tmp 0)
        | 1 => Own W wr.heap.size 3 v (iv p)
        | 2 => v = aR.eval (.tmp 0)
        | 3 => v = aR.eval (.tmp 8)
        | 4 => v = .slice (if c2 = k then a2 else a2.map (·.add k)) (i - k) (c2 - k)
        | 5 => Own W wr.heap.size 3 v (iv (p ++ p.drop k))
        | 6 => Own W wr.heap.size 3 v (iv (p ++ p.drop k))
        | _ => True) (growG 5 (wr.heap.size)) (fun W => Below wr.heap.size wr W) [(5, 1)] (by kernel_rfl) (by kernel_rfl) ?_ ((Below.refl _ _).drew) ?_ ?_
      · intro iR j v W W' hne hw hns h hb
        have hk : (j = 5 → False) → Below W.heap.size W W' := fun q => growG.out hb q
        match iR, h, hne, hw, hns with
        | 0, h, hne, hw, hns => exact h
        | 1, h, hne, hw, hns => exact Own.keep h (hk (fun e => hns (by subst e; simp)))
        | 2, h, hne, hw, hns => exact h
        | 3, h, hne, hw, hns => exact h
        | 4, h, hne, hw, hns => exact h
        | 5, h, hne, hw, hns => exact Own.keep h (hk (fun e => hne e.symm))
        | 6, h, hne, hw, hns => exact Own.keep h (hk (fun e => by subst e; simp [waits, Region.binds] at hw))
        | n+7, _, _, _, _ => trivial
      · have hG : ∀ (i : Nat) (w : World), (growG 5 (wr.heap.size)) i w w := fun i w => growG.refl _ _ _ _
        refine (Steps.cons ?_ (Steps.cons ?_ (Steps.cons ?_ (Steps.cons ?_ (Steps.cons ?_ (Steps.cons ?_ (Steps.cons ?_ Steps.nil)))))))
        · exact (Step.un rfl (Step0.move (.inl rfl) rfl (hG 0) (fun _ _ => rfl)))
        · refine (Step.un rfl ?_)
          intro a' w' K hag hS hw hK
          have e87 := ev (hw 0 rfl 87 rfl)
          simp [Act.eval] at e87
          refine wpOp_call (f := 17) (args := #[.slice a2 i c2]) (by go_simp) (Slices.clone_any a2 i c2 p _ (HPk.out.keep hS) hl8) ?_
          rintro e w4 ⟨v4, rfl, ho4, hb4⟩
          exact ⟨_, rfl, hK _ _ (ho4.mono hS.size) (growG.of (by decide) hb4) (bt hS hb4)⟩
        · exact (Step.un rfl (Step0.move (.inl rfl) rfl (hG 2) (fun _ _ => rfl)))
        · exact (Step.un rfl (Step0.move (.inl rfl) rfl (hG 3) (fun _ _ => rfl)))
        · refine (Step.un rfl (Step0.pure (hG 4) fun a' w' hag hS h => ⟨.slice (if c2 = k then a2 else a2.map (·.add k)) (i - k) (c2 - k), ?_, rfl⟩))
          have e89 := ev (h 2 rfl 89 rfl)
          simp [Act.eval] at e89
          have e90 := ev (h 3 rfl 90 rfl)
          simp [Act.eval] at e90
          clear h hag
          go_simp
          all_goals first | omega | exact IntWalk.i64_in _ (by omega) | exact (IntWalk.i64_in _ (by omega)).symm
        · refine (Step.un rfl ?_)
          intro a' w' K hag hS hw hK
          have r88 := hw 1 rfl 88 rfl
          have e91 := ev (hw 4 rfl 91 rfl)
          refine wpOp_app_src (.tmp 88) (.tmp 91) 22 3 rfl wr.heap.size i0 _ 8 Try.underlying22 hi hz0 hz1 hz2 rfl _ (iv p) rfl r88 _ (iv (p.drop k)) (hw 4 rfl 91 rfl) (SD.out.rs.keep hS) SD.out.nilcap hone h18 hkm hS.size ?_
          intro v1 w2 hown1 hb2 hg
          exact hK v1 w2 (by rw [iv_app]; exact hown1) (growG.at_ hb2) (hS.trans hb2)
        · exact (Step.un rfl (Step0.copy (j := 5) (d := 92) (.inr rfl) rfl rfl (hG 6) (fun v w _ h => h)))
      intro vs w' hR hS'
      have h6 := hR 6 (by decide) rfl
      simp only [] at h6
      clear hR
      simp only [puts, Act.put, List.setIfInBounds_toArray, List.set_cons_succ, List.set_cons_zero, Nat.reduceAdd]
      generalize vs 6 = v6 at *
      obtain ⟨a7, c7, rfl, s7⟩ := h6.sl
      have e7 : (iv (p ++ p.drop k)).length = i + (i - k) := by rw [iv_len]; have := HM.out; simp; omega
      rw [e7] at s7
      simp only [e7]
      have hl7 : i + (i - k) = (p ++ p.drop k).length := by rw [← e7, iv_len]
      have F2 := Lib.hid (In_ok (p ++ p.drop k) p a7 a2 (i + (i - k)) i c7 c2 hl7 (by omega) HM.out m1 m2 _ s7 (HPk.out.keep hS'))
      have hz := two_zero p k
      have hbk := two_back p k (by rw [← HM.out]; exact HBK.out)
      rw [← HM.out] at hbk
      have M1 : Hid ((0 : Int) ∈ nv (occ p (p ++ p.drop k))) := by show _ ∈ _; simp only [nv, List.mem_map]; exact ⟨0, hz, rfl⟩
      have M2 : Hid ((i : Int) - k ∈ nv (occ p (p ++ p.drop k))) := by show _ ∈ _; simp only [nv, List.mem_map]; exact ⟨i - k, hbk, by omega⟩
      have ew : IntKind.i64.wrap ((i : Int) - k) = (i : Int) - k := IntWalk.i64_in _ (by omega)
      clear hz hbk s7 h6 e7 hl7 hkm hone
      go_wp2_with fail
      refine F2.out.mono ?_; rintro e w5 ⟨v5, rfl, ho5, hb5⟩
      obtain ⟨a8, c8, rfl, s8⟩ := ho5.sl
      have S8 := Lib.hid s8
      clear s8 ho5
      go_wp2_with fail
      refine (contains_any a8 _ c8 _ 0 _ S8.out).mono ?_; rintro e w6 ⟨rfl, hb6⟩
      rw [decide_eq_true M1.out]
      go_wp2_with fail
      refine (contains_any a8 _ c8 _ ((i : Int) - k) _ (S8.out.keep hb6)).mono ?_; rintro e w7 ⟨rfl, hb7⟩
      rw [decide_eq_true M2.out]
      go_wp2_with fail
      go_ret
      exact ⟨rfl, bt (bt (bt (bt Lr hS') hb5) hb6) hb7⟩
end Go.Proofs.Ytepegjihlppkcaa.Find
