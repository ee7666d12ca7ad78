/- The law AboutEnd. -/
import Derived.Test.YtphbfciikjkkfaaAboutE
namespace Go.Proofs.Ytphbfciikjkkfaa.About
open Go.ChangeShapes Go.WideShapes Go.ChangeAt Go.RowKit
open Go.Proofs.Ytphbfciikjkkfaa.Com Go.Proofs.Ytphbfciikjkkfaa.Reg Go.Proofs.Ytphbfciikjkkfaa.Args Go.Proofs.Ytphbfciikjkkfaa.Row
set_option maxRecDepth 100000

theorem walkS_get (l : List ByteArray) (T k : Nat) (h : k < T) : (walkS l T)[k]? = some (turn l k) := by
  simp [walkS, h]
theorem turn_low (l : List ByteArray) (k : Nat) (h : k < l.length) : l[k]? = some (turn l k) := by
  have := turn_mem l k (by omega)
  rwa [Nat.mod_eq_of_lt (show k < l.length + 1 by omega), Nat.min_eq_left (by omega)] at this
theorem turn_end (l : List ByteArray) (h : 1 ≤ l.length) : turn l l.length = turn l (l.length - 1) := by
  have h1 := turn_mem l l.length h
  rw [Nat.mod_eq_of_lt (show l.length < l.length + 1 by omega), Nat.min_eq_right (by omega)] at h1
  have h2 := turn_low l (l.length - 1) (by omega)
  rw [h1] at h2; simpa using h2
theorem turn_round (l : List ByteArray) (k : Nat) : turn l (l.length + 1 + k) = turn l k := by
  unfold turn
  rw [Nat.add_mod_left]
theorem walk_front (l : List ByteArray) : (walkS l (2 * l.length + 2)).take l.length = l := by
  apply List.ext_getElem?
  intro k
  rw [List.getElem?_take]
  split
  · rename_i h
    rw [walkS_get _ _ _ (by omega), turn_low l k h]
  · rw [List.getElem?_eq_none (by omega)]
theorem walk_again (l : List ByteArray) : (walkS l (2 * l.length + 2)).take (l.length + 1) = (walkS l (2 * l.length + 2)).drop (l.length + 1) := by
  apply List.ext_getElem?
  intro k
  rw [List.getElem?_take, List.getElem?_drop]
  split
  · rename_i h
    rw [walkS_get _ _ _ (by omega), walkS_get _ _ _ (by omega), turn_round]
  · rw [List.getElem?_eq_none (by rw [walkS_len]; omega)]
theorem turn_ne (l : List ByteArray) (h : l.Nodup) (i : Nat) (hi : i + 1 < l.length) : turn l (i + 1) ≠ turn l i := by
  intro e
  have h1 := turn_low l (i + 1) hi
  have h2 := turn_low l i (by omega)
  rw [e, ← h2] at h1
  have := (List.getElem?_inj (by omega) h).1 h1
  omega
theorem cStr : Try.prog.cellsOf 9 = 1 := by kernel_rfl
theorem bStr : Try.prog.bytesOf 9 = 16 := by kernel_rfl
/-- A slice of strings that came in. -/
theorem strs_sl {w : World} {v : Value} (hr : Rd none Try.prog w 37 [v]) : ∃ a c l, v = .slice a l.length c ∧ Sl w 1 a l.length c (sv l) ∧ l.length * 16 ≤ 140737488351232 ∧ (∀ x ∈ l, x.size ≤ maxLen) := by
  rcases hr.slice Try.underlying37 with h1 | ⟨a, len, cap, h1, h2, h3, h4, h5⟩
  · simp at h1
    exact ⟨none, 0, [], h1, Sl.none_ _ _, by simp, by simp⟩
  · simp at h1
    subst h1
    rw [bStr] at h4
    have h4' : cap * 16 ≤ 140737488351232 := h4
    have h6 : ∀ i, i < cap → ∃ s : ByteArray, w.cell? (a.add i) = some (.string s) ∧ s.size ≤ maxLen := by
      intro i hi
      obtain ⟨cs', hcs, hr⟩ := h5 i hi
      obtain ⟨s, rfl, hs, _⟩ := hr.string Try.underlying9
      rw [cStr] at hcs
      simp [Go.Deep.add_add] at hcs
      refine ⟨s, ?_, hs⟩
      cases hq : w.cell? (a.add i) with
      | none => simp [hq] at hcs
      | some z => simp [hq] at hcs; rw [hcs]
    have h7 : ∀ j, j ≤ len → ∃ l : List ByteArray, l.length = j ∧ ∀ i, i < j → ∃ s, l[i]? = some s ∧ w.cell? (a.add i) = some (.string s) ∧ s.size ≤ maxLen := by
      intro j
      induction j with
      | zero => exact fun _ => ⟨[], rfl, fun i hi => absurd hi (Nat.not_lt_zero _)⟩
      | succ j ih =>
        intro hj
        obtain ⟨l, hl, hx⟩ := ih (by omega)
        obtain ⟨s, hs, hz⟩ := h6 j (by omega)
        refine ⟨l ++ [s], by simp [hl], fun i hi => ?_⟩
        by_cases e : i = j
        · subst e; exact ⟨s, by simp [← hl], hs, hz⟩
        · obtain ⟨s', h1, h2⟩ := hx i (by omega)
          exact ⟨s', by rw [List.getElem?_append_left (by omega)]; exact h1, h2⟩
    obtain ⟨l, hl, hx⟩ := h7 len (Nat.le_refl _)
    subst hl
    refine ⟨some a, cap, l, rfl, ⟨by simp [sv], h2, h3, fun h => by simp at h, fun h0 => ?_⟩, by omega, fun x hxm => ?_⟩
    · obtain ⟨ab, ao, asp⟩ := a
      obtain ⟨s0, _, hc0, _⟩ := hx 0 h0
      have hspot : asp = none := by simpa [Addr.add] using World.cell?_spot hc0
      subst hspot
      refine ⟨ab, ao, rfl, fun i x hxi => ?_⟩
      have hi : i < l.length := by
        rcases Nat.lt_or_ge i l.length with h' | h'
        · exact h'
        · rw [List.getElem?_eq_none (by rw [sv_len]; exact h')] at hxi; cases hxi
      obtain ⟨s, hs, hcs, _⟩ := hx i hi
      rw [sv_get hs] at hxi
      simp at hxi; subst hxi
      have hp : (⟨ab, ao, none⟩ : Addr).add i = ⟨ab, ao + i, none⟩ := by unfold Addr.add; split <;> simp_all
      rw [← hp]; exact hcs
    · obtain ⟨i, hi, rfl⟩ := List.getElem_of_mem hxm
      obtain ⟨s, h1, _, h2⟩ := hx i hi
      rw [List.getElem?_eq_getElem hi] at h1
      cases h1; exact h2

set_option maxHeartbeats 8000000 in
theorem end_walk (v0 : Value) (w : World) (h0 : Arg none Try.prog w 37 v0) :
    Calls Try.prog 7 #[v0] w fun e w' => e = .returned (.bool true) ∧ Below w.heap.size w w' := by
  obtain ⟨v', rfl, hr, _⟩ := h0.slice Try.underlying37
  obtain ⟨a, c, l, rfl, hv, f1, hsz⟩ := strs_sl hr
  clear h0 hr
  by_cases hck : checkS l 0 = 0
  · obtain ⟨n1, n8, hfine, _, _⟩ := check_zero hck
    have HK := Lib.hid (walk_ok a l.length c l (2 * l.length + 2) w hv hsz hck (by omega))
    have wf := walk_front l
    have wa := walk_again l
    have wg := walkS_get l (2 * l.length + 2)
    have wl := walkS_len l (2 * l.length + 2)
    have te := turn_end l n1
    have tn := turn_ne l hfine.2
    generalize hW : walkS l (2 * l.length + 2) = W at *
    have HV := Lib.hid hv; have WF := Lib.hid wf; have WA := Lib.hid wa; have WG := Lib.hid wg; have TE := Lib.hid te; have TN := Lib.hid tn
    clear hv wf wa wg te tn hW hck hfine hsz
    generalize hn : l.length = n at *
    have HN := Lib.hid hn
    clear hn
    go_enter Try.func7, Try.ntmps7
    go_wp2_with fail
    rw [show (2 * (n : Int) + 2) = ((2 * n + 2 : Nat) : Int) by omega]
    refine HK.out.mono ?_; rintro e w1 ⟨v4, rfl, ho4, hb1⟩
    obtain ⟨a4, c4, rfl, s4⟩ := ho4.sl
    rw [sv_len, wl] at s4
    simp only [sv_len, wl] at ho4 ⊢
    obtain ⟨b, o, rfl, hc4⟩ := s4.at_ (by omega)
    have h4c := s4.le
    have S4 := Lib.hid s4; have C4 := Lib.hid hc4
    clear s4 ho4 hc4 HK
    go_wp2_with fail
    refine (lives _).mono ?_; rintro e w2 ⟨rfl, hb2⟩
    have L2 := bt hb1 hb2
    have t1 := Lib.hid ((S4.out.take (show n ≤ 2 * n + 2 by omega)).keep hb2)
    have t2 := Lib.hid ((S4.out.take (show n + 1 ≤ 2 * n + 2 by omega)).keep hb2)
    have t3 := Lib.hid ((S4.out.drop (show n + 1 ≤ 2 * n + 2 by omega)).keep hb2)
    simp only [Nat.mul_one, sv_take, sv_drop] at t1 t2 t3
    rw [WF.out] at t1
    rw [← WA.out] at t3
    have HV2 := Lib.hid (HV.out.keep L2)
    have cn := cell_keep (C4.out n _ (sv_get (WG.out n (by omega)))) hb2
    have cm := cell_keep (C4.out (n - 1) _ (sv_get (WG.out (n - 1) (by omega)))) hb2
    rw [← TE.out] at cm
    generalize turn l n = y at *
    have q1 : (y.toList != y.toList) = false := by simp
    have e1 : ((n : Int) - 1).toNat = n - 1 := by omega
    have i1 : (0 : Int) ≤ (n : Int) - 1 := by omega
    have i2 : (n : Int) - 1 < ((2 * n + 2 : Nat) : Int) := by omega
    have m1 : IntKind.i64.wrap (2 * (n : Int)) = 2 * (n : Int) := IntWalk.i64_in _ (by omega)
    have m2 : IntKind.i64.wrap (2 * (n : Int) + 2) = 2 * (n : Int) + 2 := IntWalk.i64_in _ (by omega)
    go_wp2_with fail
    refine wp_region_st (fun aR iR v W => match iR with
      | 0 => v = aR.eval (.tmp 4)
      | 1 => v = .int .i64 ((2 * n + 2 : Nat) : Int)
      | 2 => v = aR.eval (.tmp 3)
      | 3 => v = .int .i64 (2 * (n : Int))
      | 4 => v = .int .i64 (2 * (n : Int) + 2)
      | 5 => v = .bool false
      | 6 => v = .bool false
      | 7 => v = aR.eval (.tmp 4)
      | 8 => v = aR.eval (.tmp 3)
      | 9 => v = .slice (some ⟨b, o, none⟩) n c4
      | 10 => v = aR.eval (.tmp 0)
      | 11 => v = .bool true
      | 12 => v = .bool false
      | 13 => v = .bool false
      | 14 => v = .bool false
      | 15 => v = aR.eval (.tmp 4)
      | 16 => v = aR.eval (.tmp 3)
      | 17 => v = .int .i64 ((n : Int) + 1)
      | 18 => v = .slice (some ⟨b, o, none⟩) (n + 1) c4
      | 19 => v = aR.eval (.tmp 4)
      | 20 => v = aR.eval (.tmp 3)
      | 21 => v = .int .i64 ((n : Int) + 1)
      | 22 => v = .slice (if c4 = n + 1 then some ⟨b, o, none⟩ else (some ⟨b, o, none⟩ : Option Addr).map (·.add (n + 1))) (2 * n + 2 - (n + 1)) (c4 - (n + 1))
      | 23 => v = .bool true
      | 24 => v = .bool false
      | 25 => v = .bool false
      | 26 => v = .bool false
      | 27 => v = aR.eval (.tmp 4)
      | 28 => v = aR.eval (.tmp 3)
      | 29 => v = .pointer (some ⟨b, o + n, none⟩)
      | 30 => v = .string y
      | 31 => v = aR.eval (.tmp 4)
      | 32 => v = aR.eval (.tmp 3)
      | 33 => v = .int .i64 ((n : Int) - 1)
      | 34 => v = .pointer (some ⟨b, o + (n - 1), none⟩)
      | 35 => v = .string y
      | 36 => v = .bool false
      | 37 => v = .bool false
      | _ => True) (fun _ w w' => Below w.heap.size w w') (fun W => Below w2.heap.size w2 W) [] (by kernel_rfl) (by kernel_rfl) ?_ ((Below.refl _ _).drew) ?_ ?_
    · intro iR j v W W' hne hw hns h hb
      match iR, h, hne, hw, hns with
      | 0, h, hne, hw, hns => exact h
      | 1, h, hne, hw, hns => exact h
      | 2, h, hne, hw, hns => exact h
      | 3, h, hne, hw, hns => exact h
      | 4, h, hne, hw, hns => exact h
      | 5, h, hne, hw, hns => exact h
      | 6, h, hne, hw, hns => exact h
      | 7, h, hne, hw, hns => exact h
      | 8, h, hne, hw, hns => exact h
      | 9, h, hne, hw, hns => exact h
      | 10, h, hne, hw, hns => exact h
      | 11, h, hne, hw, hns => exact h
      | 12, h, hne, hw, hns => exact h
      | 13, h, hne, hw, hns => exact h
      | 14, h, hne, hw, hns => exact h
      | 15, h, hne, hw, hns => exact h
      | 16, h, hne, hw, hns => exact h
      | 17, h, hne, hw, hns => exact h
      | 18, h, hne, hw, hns => exact h
      | 19, h, hne, hw, hns => exact h
      | 20, h, hne, hw, hns => exact h
      | 21, h, hne, hw, hns => exact h
      | 22, h, hne, hw, hns => exact h
      | 23, h, hne, hw, hns => exact h
      | 24, h, hne, hw, hns => exact h
      | 25, h, hne, hw, hns => exact h
      | 26, h, hne, hw, hns => exact h
      | 27, h, hne, hw, hns => exact h
      | 28, h, hne, hw, hns => exact h
      | 29, h, hne, hw, hns => exact h
      | 30, h, hne, hw, hns => exact h
      | 31, h, hne, hw, hns => exact h
      | 32, h, hne, hw, hns => exact h
      | 33, h, hne, hw, hns => exact h
      | 34, h, hne, hw, hns => exact h
      | 35, h, hne, hw, hns => exact h
      | 36, h, hne, hw, hns => exact h
      | 37, h, hne, hw, hns => exact h
      | n+38, _, _, _, _ => trivial
    · have hG : ∀ (i : Nat) (w : World), (fun _ w w' => Below w.heap.size w w') i w w := fun _ w => Below.refl _ _
      refine (Steps.cons ?_ (Steps.cons ?_ (Steps.cons ?_ (Steps.cons ?_ (Steps.cons ?_ (Steps.cons ?_ (Steps.cons ?_ (Steps.cons ?_ (Steps.cons ?_ (Steps.cons ?_ (Steps.cons ?_ (Steps.cons ?_ (Steps.cons ?_ (Steps.cons ?_ (Steps.cons ?_ (Steps.cons ?_ (Steps.cons ?_ (Steps.cons ?_ (Steps.cons ?_ (Steps.cons ?_ (Steps.cons ?_ (Steps.cons ?_ (Steps.cons ?_ (Steps.cons ?_ (Steps.cons ?_ (Steps.cons ?_ (Steps.cons ?_ (Steps.cons ?_ (Steps.cons ?_ (Steps.cons ?_ (Steps.cons ?_ (Steps.cons ?_ (Steps.cons ?_ (Steps.cons ?_ (Steps.cons ?_ (Steps.cons ?_ (Steps.cons ?_ (Steps.cons ?_ Steps.nil))))))))))))))))))))))))))))))))))))))
      · exact (Step.un rfl (Step0.move (.inl rfl) rfl (hG 0) (fun _ _ => rfl)))
      · refine (Step.un rfl (Step0.pure (hG 1) fun a' w' hag hS h => ⟨.int .i64 ((2 * n + 2 : Nat) : Int), ?_, rfl⟩))
        have e29 := ev (h 0 rfl 29 rfl)
        simp [Act.eval] at e29
        clear h hag
        go_simp
        all_goals first | omega | exact IntWalk.i64_in _ (by omega) | exact (IntWalk.i64_in _ (by omega)).symm
      · exact (Step.un rfl (Step0.move (.inl rfl) rfl (hG 2) (fun _ _ => rfl)))
      · refine (Step.un rfl (Step0.pure (hG 3) fun a' w' hag hS h => ⟨.int .i64 (2 * (n : Int)), ?_, rfl⟩))
        have e31 := ev (h 2 rfl 31 rfl)
        simp [Act.eval] at e31
        clear h hag
        go_simp
        all_goals first | omega | exact IntWalk.i64_in _ (by omega) | exact (IntWalk.i64_in _ (by omega)).symm
      · refine (Step.un rfl (Step0.pure (hG 4) fun a' w' hag hS h => ⟨.int .i64 (2 * (n : Int) + 2), ?_, rfl⟩))
        have e32 := ev (h 3 rfl 32 rfl)
        clear h hag
        go_simp
        all_goals first | omega | exact IntWalk.i64_in _ (by omega) | exact (IntWalk.i64_in _ (by omega)).symm
      · refine (Step.un rfl (Step0.pure (hG 5) fun a' w' hag hS h => ⟨.bool false, ?_, rfl⟩))
        have e30 := ev (h 1 rfl 30 rfl)
        have e33 := ev (h 4 rfl 33 rfl)
        clear h hag
        go_simp
        all_goals first | omega | exact IntWalk.i64_in _ (by omega) | exact (IntWalk.i64_in _ (by omega)).symm
      · exact (Step.un rfl (Step0.copy (j := 5) (d := 34) (.inl rfl) rfl rfl (hG 6) (fun v w _ h => h)))
      · exact (Step.on (j := 6) (d := 35) rfl rfl rfl (fun v w _ h => h) (Step0.move (.inl rfl) rfl (hG 7) (fun _ _ => rfl)))
      · exact (Step.on (j := 6) (d := 35) rfl rfl rfl (fun v w _ h => h) (Step0.move (.inl rfl) rfl (hG 8) (fun _ _ => rfl)))
      · refine (Step.on (j := 6) (d := 35) rfl rfl rfl (fun v w _ h => h) (Step0.pure (hG 9) fun a' w' hag hS h => ⟨.slice (some ⟨b, o, none⟩) n c4, ?_, rfl⟩))
        have e36 := ev (h 7 rfl 36 rfl)
        simp [Act.eval] at e36
        have e37 := ev (h 8 rfl 37 rfl)
        simp [Act.eval] at e37
        clear h hag
        go_simp
        all_goals first | omega | exact IntWalk.i64_in _ (by omega) | exact (IntWalk.i64_in _ (by omega)).symm
      · exact (Step.on (j := 6) (d := 35) rfl rfl rfl (fun v w _ h => h) (Step0.move (.inl rfl) rfl (hG 10) (fun _ _ => rfl)))
      · refine (Step.on (j := 6) (d := 35) rfl rfl rfl (fun v w _ h => h) ?_)
        intro a' w' K hag hS hw hK
        have e38 := ev (hw 9 rfl 38 rfl)
        have e39 := ev (hw 10 rfl 39 rfl)
        simp [Act.eval] at e39
        refine wpOp_call (f := 23) (args := #[.slice (some ⟨b, o, none⟩) n c4, .slice a n c]) (by go_simp) (EqStr.eq_strs _ _ _ _ _ (t1.out.rs.keep hS) (HV2.out.rs.keep hS)) ?_
        rintro e w4 ⟨rfl, hb4⟩
        exact ⟨_, rfl, hK _ _ (show _ = _ from by rw [decide_eq_true rfl]) hb4 (bt hS hb4)⟩
      · refine (Step.on (j := 6) (d := 35) rfl rfl rfl (fun v w _ h => h) (Step0.pure (hG 12) fun a' w' hag hS h => ⟨.bool false, ?_, rfl⟩))
        have e40 := ev (h 11 rfl 40 rfl)
        clear h hag
        go_simp
        all_goals first | omega | exact IntWalk.i64_in _ (by omega) | exact (IntWalk.i64_in _ (by omega)).symm
      · refine (Step.un rfl (Step0.pure (hG 13) fun a' w' hag hS h => ⟨.bool false, ?_, rfl⟩))
        have e35 := ev (h 6 rfl 35 rfl)
        have e41 := ev (h 12 rfl 41 rfl)
        clear h hag
        go_simp
        all_goals first | omega | exact IntWalk.i64_in _ (by omega) | exact (IntWalk.i64_in _ (by omega)).symm
      · exact (Step.un rfl (Step0.copy (j := 13) (d := 42) (.inl rfl) rfl rfl (hG 14) (fun v w _ h => h)))
      · exact (Step.on (j := 14) (d := 43) rfl rfl rfl (fun v w _ h => h) (Step0.move (.inl rfl) rfl (hG 15) (fun _ _ => rfl)))
      · exact (Step.on (j := 14) (d := 43) rfl rfl rfl (fun v w _ h => h) (Step0.move (.inl rfl) rfl (hG 16) (fun _ _ => rfl)))
      · refine (Step.on (j := 14) (d := 43) rfl rfl rfl (fun v w _ h => h) (Step0.pure (hG 17) fun a' w' hag hS h => ⟨.int .i64 ((n : Int) + 1), ?_, rfl⟩))
        have e45 := ev (h 16 rfl 45 rfl)
        simp [Act.eval] at e45
        clear h hag
        go_simp
        all_goals first | omega | exact IntWalk.i64_in _ (by omega) | exact (IntWalk.i64_in _ (by omega)).symm
      · refine (Step.on (j := 14) (d := 43) rfl rfl rfl (fun v w _ h => h) (Step0.pure (hG 18) fun a' w' hag hS h => ⟨.slice (some ⟨b, o, none⟩) (n + 1) c4, ?_, rfl⟩))
        have e44 := ev (h 15 rfl 44 rfl)
        simp [Act.eval] at e44
        have e46 := ev (h 17 rfl 46 rfl)
        clear h hag
        go_simp
        all_goals first | omega | exact IntWalk.i64_in _ (by omega) | exact (IntWalk.i64_in _ (by omega)).symm
      · exact (Step.on (j := 14) (d := 43) rfl rfl rfl (fun v w _ h => h) (Step0.move (.inl rfl) rfl (hG 19) (fun _ _ => rfl)))
      · exact (Step.on (j := 14) (d := 43) rfl rfl rfl (fun v w _ h => h) (Step0.move (.inl rfl) rfl (hG 20) (fun _ _ => rfl)))
      · refine (Step.on (j := 14) (d := 43) rfl rfl rfl (fun v w _ h => h) (Step0.pure (hG 21) fun a' w' hag hS h => ⟨.int .i64 ((n : Int) + 1), ?_, rfl⟩))
        have e49 := ev (h 20 rfl 49 rfl)
        simp [Act.eval] at e49
        clear h hag
        go_simp
        all_goals first | omega | exact IntWalk.i64_in _ (by omega) | exact (IntWalk.i64_in _ (by omega)).symm
      · refine (Step.on (j := 14) (d := 43) rfl rfl rfl (fun v w _ h => h) (Step0.pure (hG 22) fun a' w' hag hS h => ⟨.slice (if c4 = n + 1 then some ⟨b, o, none⟩ else (some ⟨b, o, none⟩ : Option Addr).map (·.add (n + 1))) (2 * n + 2 - (n + 1)) (c4 - (n + 1)), ?_, rfl⟩))
        have e48 := ev (h 19 rfl 48 rfl)
        simp [Act.eval] at e48
        have e50 := ev (h 21 rfl 50 rfl)
        clear h hag
        go_simp
        intro hq
        exact absurd (hq (by omega)) (by omega)
      · refine (Step.on (j := 14) (d := 43) rfl rfl rfl (fun v w _ h => h) ?_)
        intro a' w' K hag hS hw hK
        have e47 := ev (hw 18 rfl 47 rfl)
        have e51 := ev (hw 22 rfl 51 rfl)
        refine wpOp_call (f := 23) (args := #[.slice (some ⟨b, o, none⟩) (n + 1) c4, .slice (if c4 = n + 1 then some ⟨b, o, none⟩ else (some ⟨b, o, none⟩ : Option Addr).map (·.add (n + 1))) (2 * n + 2 - (n + 1)) (c4 - (n + 1))]) (by go_simp) (EqStr.eq_strs _ _ _ _ _ (t2.out.rs.keep hS) (t3.out.rs.keep hS)) ?_
        rintro e w4 ⟨rfl, hb4⟩
        exact ⟨_, rfl, hK _ _ (show _ = _ from by rw [decide_eq_true rfl]) hb4 (bt hS hb4)⟩
      · refine (Step.on (j := 14) (d := 43) rfl rfl rfl (fun v w _ h => h) (Step0.pure (hG 24) fun a' w' hag hS h => ⟨.bool false, ?_, rfl⟩))
        have e52 := ev (h 23 rfl 52 rfl)
        clear h hag
        go_simp
        all_goals first | omega | exact IntWalk.i64_in _ (by omega) | exact (IntWalk.i64_in _ (by omega)).symm
      · refine (Step.un rfl (Step0.pure (hG 25) fun a' w' hag hS h => ⟨.bool false, ?_, rfl⟩))
        have e43 := ev (h 14 rfl 43 rfl)
        have e53 := ev (h 24 rfl 53 rfl)
        clear h hag
        go_simp
        all_goals first | omega | exact IntWalk.i64_in _ (by omega) | exact (IntWalk.i64_in _ (by omega)).symm
      · exact (Step.un rfl (Step0.copy (j := 25) (d := 54) (.inl rfl) rfl rfl (hG 26) (fun v w _ h => h)))
      · exact (Step.on (j := 26) (d := 55) rfl rfl rfl (fun v w _ h => h) (Step0.move (.inl rfl) rfl (hG 27) (fun _ _ => rfl)))
      · exact (Step.on (j := 26) (d := 55) rfl rfl rfl (fun v w _ h => h) (Step0.move (.inl rfl) rfl (hG 28) (fun _ _ => rfl)))
      · refine (Step.on (j := 26) (d := 55) rfl rfl rfl (fun v w _ h => h) (Step0.pure (hG 29) fun a' w' hag hS h => ⟨.pointer (some ⟨b, o + n, none⟩), ?_, rfl⟩))
        have e56 := ev (h 27 rfl 56 rfl)
        simp [Act.eval] at e56
        have e57 := ev (h 28 rfl 57 rfl)
        simp [Act.eval] at e57
        clear h hag
        go_simp
        all_goals first | omega | exact IntWalk.i64_in _ (by omega) | exact (IntWalk.i64_in _ (by omega)).symm
      · refine (Step.on (j := 26) (d := 55) rfl rfl rfl (fun v w _ h => h) (Step0.pure (hG 30) fun a' w' hag hS h => ⟨.string y, ?_, rfl⟩))
        have e58 := ev (h 29 rfl 58 rfl)
        clear h hag
        have c1 := cell_keep cn hS
        go_simp
        all_goals first | omega | exact IntWalk.i64_in _ (by omega) | exact (IntWalk.i64_in _ (by omega)).symm
      · exact (Step.on (j := 26) (d := 55) rfl rfl rfl (fun v w _ h => h) (Step0.move (.inl rfl) rfl (hG 31) (fun _ _ => rfl)))
      · exact (Step.on (j := 26) (d := 55) rfl rfl rfl (fun v w _ h => h) (Step0.move (.inl rfl) rfl (hG 32) (fun _ _ => rfl)))
      · refine (Step.on (j := 26) (d := 55) rfl rfl rfl (fun v w _ h => h) (Step0.pure (hG 33) fun a' w' hag hS h => ⟨.int .i64 ((n : Int) - 1), ?_, rfl⟩))
        have e61 := ev (h 32 rfl 61 rfl)
        simp [Act.eval] at e61
        clear h hag
        go_simp
        all_goals first | omega | exact IntWalk.i64_in _ (by omega) | exact (IntWalk.i64_in _ (by omega)).symm
      · refine (Step.on (j := 26) (d := 55) rfl rfl rfl (fun v w _ h => h) (Step0.pure (hG 34) fun a' w' hag hS h => ⟨.pointer (some ⟨b, o + (n - 1), none⟩), ?_, rfl⟩))
        have e60 := ev (h 31 rfl 60 rfl)
        simp [Act.eval] at e60
        have e62 := ev (h 33 rfl 62 rfl)
        clear h hag
        go_simp
        all_goals first | omega | exact IntWalk.i64_in _ (by omega) | exact (IntWalk.i64_in _ (by omega)).symm
      · refine (Step.on (j := 26) (d := 55) rfl rfl rfl (fun v w _ h => h) (Step0.pure (hG 35) fun a' w' hag hS h => ⟨.string y, ?_, rfl⟩))
        have e63 := ev (h 34 rfl 63 rfl)
        clear h hag
        have c1 := cell_keep cm hS
        go_simp
        all_goals first | omega | exact IntWalk.i64_in _ (by omega) | exact (IntWalk.i64_in _ (by omega)).symm
      · refine (Step.on (j := 26) (d := 55) rfl rfl rfl (fun v w _ h => h) (Step0.pure (hG 36) fun a' w' hag hS h => ⟨.bool false, ?_, rfl⟩))
        have e59 := ev (h 30 rfl 59 rfl)
        have e64 := ev (h 35 rfl 64 rfl)
        clear h hag
        go_simp
        all_goals first | omega | exact IntWalk.i64_in _ (by omega) | exact (IntWalk.i64_in _ (by omega)).symm
      · refine (Step.un rfl (Step0.pure (hG 37) fun a' w' hag hS h => ⟨.bool false, ?_, rfl⟩))
        have e55 := ev (h 26 rfl 55 rfl)
        have e65 := ev (h 36 rfl 65 rfl)
        clear h hag
        go_simp
        all_goals first | omega | exact IntWalk.i64_in _ (by omega) | exact (IntWalk.i64_in _ (by omega)).symm
    intro vs w' hR hS'
    have h37 := hR 37 (by decide) rfl
    simp only [] at h37
    clear hR
    simp only [puts, Act.put, List.setIfInBounds_toArray, List.set_cons_succ, List.set_cons_zero, Nat.reduceAdd]
    generalize vs 37 = v37 at *
    subst h37
    clear q1 cn cm m1 m2 i1 i2 e1
    have C2 := Lib.hid (fun i x hx => cell_keep (cell_keep (C4.out i x hx) hb2) hS')
    have L3 := bt L2 hS'
    clear t1 t2 t3 HV HV2 S4 hS' hb1 hb2 L2 C4
    go_wp2_with fail
    go_loopw [6] (fun ii wr => ∃ i : Nat, 1 ≤ i ∧ i ≤ n ∧ ii = .int .i64 i ∧ Below w'.heap.size w' wr) (fun ii _ => n - (intOf ii).toNat)
    case atStart => exact ⟨1, by omega, by omega, rfl, Below.refl _ _⟩
    case round =>
      obtain ⟨i, hi1, hin, rfl, hb⟩ := hrel
      by_cases hlt : i < n
      · obtain ⟨j, rfl⟩ : ∃ j, i = j + 1 := ⟨i - 1, by omega⟩
        have ci := cell_keep (C2.out (j + 1) _ (sv_get (WG.out (j + 1) (by omega)))) hb
        have cj := cell_keep (C2.out j _ (sv_get (WG.out j (by omega)))) hb
        have q1 := str_ne (TN.out j hlt)
        generalize turn l (j + 1) = y1 at *
        generalize turn l j = y0 at *
        have e1 : (((j + 1 : Nat) : Int) - 1).toNat = j := by omega
        have e2 : ((j + 1 : Nat) : Int).toNat = j + 1 := by omega
        have i1 : (0 : Int) ≤ ((j + 1 : Nat) : Int) - 1 := by omega
        have i2 : ((j + 1 : Nat) : Int) - 1 < ((2 * n + 2 : Nat) : Int) := by omega
        have i3 : ((j + 1 : Nat) : Int) < ((2 * n + 2 : Nat) : Int) := by omega
        go_wp2_with fail
        go_quiet (fail)
        go_wp2_with fail
        go_roundw
        case rel => exact ⟨j + 1 + 1, by omega, by omega, by go_num, hb.trans (Joins.below_draws _ _ _)⟩
        case measure => simp [intOf]; omega
      · go_wp2_with fail
        go_ret
        exact ⟨rfl, bt L3 hb⟩
  · have HK := Lib.hid (walk_bad a l.length c l (2 * (l.length : Int) + 2) w hv hsz hck)
    have q1 : (checkS l 0 != 0) = true := by simpa using hck
    have q2 : (checkS l 0 == 0) = false := by simpa using hck
    clear hv hsz hck
    generalize checkS l 0 = ck at *
    generalize l.length = n at *
    go_enter Try.func7, Try.ntmps7
    go_wp2_with fail
    refine HK.out.mono ?_; rintro e w1 ⟨rfl, hb1⟩
    go_wp2_with fail
    refine (lives _).mono ?_; rintro e w2 ⟨rfl, hb2⟩
    go_wp2_with fail
    refine (lives _).mono ?_; rintro e w3 ⟨rfl, hb3⟩
    go_wp2_with fail
    go_ret
    exact ⟨rfl, bt (bt hb1 hb2) hb3⟩
end Go.Proofs.Ytphbfciikjkkfaa.About
