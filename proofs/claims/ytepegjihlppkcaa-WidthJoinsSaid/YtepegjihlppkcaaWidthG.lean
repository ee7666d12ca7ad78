/- The law WidthJoins: the walk. -/
import Derived.Test.YtepegjihlppkcaaWidthF
import Derived.Test.YtepegjihlppkcaaSlices
namespace Go.Proofs.Ytepegjihlppkcaa.Width
open Go.ChangeShapes Go.WideShapes Go.ChangeAt Go.RowKit
open Go.Proofs.Ytepegjihlppkcaa.Com Go.Proofs.Ytepegjihlppkcaa.Row Go.Proofs.Ytepegjihlppkcaa.Args Go.Proofs.Ytepegjihlppkcaa.Reg
set_option maxRecDepth 100000

theorem cutS_next (n : Int) : ∀ (xs : List Int) (s : Int), s ≤ n → ∀ x, xs[(cutS n xs s).1]? = some x → n < (cutS n xs s).2 + ofS x
  | [], s, _, x, hx => by simp [cutS] at hx
  | y :: xs, s, h, x, hx => by
    rw [cutS] at hx ⊢
    split
    · rename_i h1
      rw [if_pos h1] at hx
      simp at hx; subst hx; exact h1
    · rename_i h1
      rw [if_neg h1] at hx
      exact cutS_next n xs (s + ofS y) (by omega) x (by simpa using hx)
theorem ints_sl {w : World} {v : Value} (h : Arg none Try.prog w 22 v) : ∃ a c xs, v = .slice a xs.length c ∧ Sl w 1 a xs.length c (iv xs) ∧ FitN none xs.length 8 := by
  obtain ⟨xs, h1, h2, h3⟩ := ints_arg h
  have hm : ∀ a c, v = .slice a 0 c → c ≤ maxLen := by
    intro a c e
    obtain ⟨v', rfl, hr, _⟩ := h.slice Try.underlying22
    rcases hr.slice Try.underlying22 with q | ⟨a', l, c', q, _, q3, _⟩
    · simp at q; rw [q] at e; injection e with _ _ e; omega
    · simp at q; rw [q] at e; injection e with _ _ e; omega
  obtain ⟨a, c, e, hs⟩ := Sl.of_rs h1 h2 hm
  rw [iv_len] at e hs
  exact ⟨a, c, xs, e, hs, h3⟩

set_option maxHeartbeats 2000000 in
theorem joins_walk (v0 v1 : Value) (w : World) (h0 : Arg none Try.prog w 22 v0) (h1 : Arg none Try.prog w 3 v1) :
    Calls Try.prog 4 #[v0, v1] w fun e w' => e = .returned (.bool true) ∧ Below w.heap.size w w' := by
  obtain ⟨ad, c, xs, rfl, hv, hfit⟩ := ints_sl h0
  obtain ⟨n, rfl, _⟩ := h1.int Try.underlying3
  clear h0 h1
  have hlen : xs.length * 8 ≤ 140737488351232 := hfit
  clear hfit
  obtain ⟨i0, hi, hz0, hz1, hz2⟩ := info_parts infoInt
  by_cases hn : n < 0 ∨ 160 < n
  · clear hv
    go_enter Try.func4, Try.ntmps4
    go_wp2_with fail
    refine (cutF_no _ n hn _).mono ?_; rintro e w1 ⟨rfl, rfl⟩
    go_wp2_with fail
    refine (lives _).mono ?_; rintro e w2 ⟨rfl, hb2⟩
    go_wp2_with fail
    refine (lives _).mono ?_; rintro e w3 ⟨rfl, hb3⟩
    go_wp2_with fail
    go_ret
    exact ⟨rfl, hb2.trans (hb3.mono hb2.size)⟩
  · have n0 : 0 ≤ n := by omega
    have n1 : n ≤ 160 := by omega
    obtain ⟨c1, c2, c3, c4⟩ := cutS_le n xs 0 n0
    have c5 := cutS_next n xs 0 n0
    have F1 := Lib.hid (cutF_ok xs n n0 n1 ad c xs.length rfl w hv (by omega))
    generalize cutS n xs 0 = ks at *
    obtain ⟨k, s⟩ := ks
    simp only [] at c1 c2 c3 c4 c5 F1
    have e1 : (xs.take k).length = k := by simp; omega
    have hsum : sumS xs = s + sumS (xs.drop k) := by
      have h2 := sumS_app (xs.take k) (xs.drop k)
      rw [List.take_append_drop] at h2; omega
    have hst : sumS (xs.take k) = s := by omega
    have hr := sumS_rng (xs.drop k)
    have hjoin : iv (xs.take k) ++ iv (xs.drop k) = iv xs := by simp [iv, ← List.map_append]
    have hb0 : ∀ x ys, xs.drop k = x :: ys → n < s + ofS x := fun x ys h => c5 x (by
      have := congrArg (·[0]?) h
      simpa using this)
    have lA : (xs.take k).length * 8 ≤ 140737488355328 := by omega
    have lB : (xs.drop k).length * 8 ≤ 140737488355328 := by simp; omega
    generalize hA : xs.take k = l1 at *
    generalize hB : xs.drop k = l2 at *
    clear hA hB c5 c2 c4 e1
    have HJ := Lib.hid hjoin
    have HS := Lib.hid hsum; have HT := Lib.hid hst; have HV := Lib.hid hv; have H0 := Lib.hid hb0
    have hone := iv_one l2
    have h18 : 1 ≤ 8 := by decide
    have hkm : ((iv l1).length + (iv l2).length) * 8 ≤ 140737488355328 := by
      have := congrArg List.length HJ.out
      rw [List.length_append] at this; rw [this, iv_len]; omega
    have sbd : 0 ≤ s := by have := sumS_rng l1; omega
    clear hn hv hjoin hsum hst hb0
    go_enter Try.func4, Try.ntmps4
    go_wp2_with fail
    refine F1.out.mono ?_; rintro e w1 ⟨v1, v2, rfl, ho1, ho2, hb1⟩
    obtain ⟨a1, k1, rfl, s1⟩ := ho1.sl
    obtain ⟨a2, k2, rfl, s2⟩ := ho2.sl
    rw [iv_len] at s1 s2
    simp only [iv_len] at ho1 ho2 ⊢
    have S1 := Lib.hid s1; have S2 := Lib.hid s2
    clear s1 s2 ho1 ho2 F1
    go_wp2_with fail
    refine (lives _).mono ?_; rintro e w2 ⟨rfl, hb2⟩
    have L2 := hb1.trans (hb2.mono hb1.size)
    go_wp2_with fail
    refine (Slices.clone_any a1 l1.length k1 l1 _ (S1.out.keep hb2) lA).mono ?_; rintro e w3 ⟨v3, rfl, ho3, hb3⟩
    have L3 := L2.trans (hb3.mono L2.size)
    have r2 := Lib.hid (((S2.out.keep hb2).keep hb3).rs)
    have nc2 := S2.out.nilcap
    have hsz := hb3.size
    go_wp2_with (at_builtin; refine wpList_app_src rfl (.tmp 33) (.tmp 34) 22 3 rfl w2.heap.size i0 _ 8 Try.underlying22 hi hz0 hz1 hz2 rfl _ (iv l1) rfl ho3 _ (iv l2) rfl r2.out nc2 hone h18 hkm hsz ?_; intro v4 w4 ho4 hb4)
    have L4 := L3.trans (hb4.mono L2.size)
    rw [HJ.out] at ho4
    refine (EqInt.eq_ints v4 _ xs xs _ ho4.rs (HV.out.rs.keep L4)).mono ?_; rintro e w5 ⟨rfl, hb5⟩
    have L5 := L4.trans (hb5.mono L4.size)
    rw [decide_eq_true rfl]
    have up := bt (bt hb2 (hb3.trans hb4)) hb5
    go_wp2_with fail
    refine (sum_any _ l1 _ (S1.out.keep up).rs (by omega)).mono ?_; rintro e w6 ⟨rfl, hb6⟩
    rw [HT.out]
    go_wp2_with fail
    refine (sum_any _ l1 _ ((S1.out.keep up).keep hb6).rs (by omega)).mono ?_; rintro e w7 ⟨rfl, hb7⟩
    rw [HT.out]
    have up7 := bt (bt up hb6) hb7
    have L7 := bt (bt L5 hb6) hb7
    go_wp2_with fail
    refine (sum_any _ l2 _ (S2.out.keep up7).rs (by omega)).mono ?_; rintro e w8 ⟨rfl, hb8⟩
    generalize sumS l2 = s2 at *
    have hw : IntKind.i64.wrap (s + s2) = s + s2 := IntWalk.i64_in _ (by omega)
    have up8 := bt up7 hb8
    have L8 := bt L7 hb8
    go_wp2_with fail
    refine (sum_any _ xs _ (HV.out.keep L8).rs (by omega)).mono ?_; rintro e w9 ⟨rfl, hb9⟩
    rw [HS.out]
    have up9 := bt up8 hb9
    have L9 := bt L8 hb9
    have S1' := Lib.hid (S1.out.keep up9)
    have S2' := Lib.hid (S2.out.keep up9)
    clear S1 S2 up up7 up8 up9 L2 L3 L4 L5 L7 L8 hb1 hb2 hb3 hb4 hb5 hb6 hb7 hb8 hb9 r2 nc2 hsz HV hkm
    cases l2 with
    | nil =>
      clear S1' H0 hone
      go_wp2_with fail
      refine wp_region_st (fun a i v W => match i with
        | 0 => v = a.eval (.tmp 6)
        | 1 => v = .int .i64 0
        | 2 => v = .bool true
        | 3 => v = .bool true
        | 4 => v = undef
        | 5 => v = undef
        | 6 => v = undef
        | 7 => v = undef
        | 8 => v = undef
        | 9 => v = undef
        | 10 => v = undef
        | 11 => v = undef
        | 12 => v = undef
        | 13 => v = .bool true
        | 14 => v = .bool true
        | _ => True) (fun _ w w' => Below w.heap.size w w') (fun W => Below w9.heap.size w9 W) (by kernel_rfl) (by kernel_rfl) ?_ ((Below.refl _ _).drew) ?_ ?_
      · intro i j v W W' _ _ h hb
        match i, h with
        | 0, h => exact h
        | 1, h => exact h
        | 2, h => exact h
        | 3, h => exact h
        | 4, h => exact h
        | 5, h => exact h
        | 6, h => exact h
        | 7, h => exact h
        | 8, h => exact h
        | 9, h => exact h
        | 10, h => exact h
        | 11, h => exact h
        | 12, h => exact h
        | 13, h => exact h
        | 14, h => exact h
        | n+15, _ => trivial
      · have hG : ∀ w : World, (fun _ w w' => Below w.heap.size w w') 0 w w := fun w => Below.refl _ _
        refine (Steps.cons ?_ (Steps.cons ?_ (Steps.cons ?_ (Steps.cons ?_ (Steps.cons ?_ (Steps.cons ?_ (Steps.cons ?_ (Steps.cons ?_ (Steps.cons ?_ (Steps.cons ?_ (Steps.cons ?_ (Steps.cons ?_ (Steps.cons ?_ (Steps.cons ?_ (Steps.cons ?_ Steps.nil)))))))))))))))
        · exact (Step.un rfl (Step0.move (.inl rfl) rfl hG (fun _ _ => rfl)))
        · refine (Step.un rfl (Step0.pure hG fun a' w' hag hS h => ⟨.int .i64 0, ?_, rfl⟩))
          have e55 := ev (h 0 rfl 55 rfl)
          simp [Act.eval] at e55
          clear h hag
          go_simp
          all_goals omega
        · refine (Step.un rfl (Step0.pure hG fun a' w' hag hS h => ⟨.bool true, ?_, rfl⟩))
          have e56 := ev (h 1 rfl 56 rfl)
          clear h hag
          go_simp
          all_goals omega
        · exact (Step.un rfl (Step0.copy (j := 2) (d := 57) (.inl rfl) rfl rfl hG (fun v w _ h => h)))
        · exact Step.off (j := 3) (d := 58) rfl rfl rfl hG (fun v w _ h => h) (fun _ _ => rfl)
        · exact Step.off (j := 3) (d := 58) rfl rfl rfl hG (fun v w _ h => h) (fun _ _ => rfl)
        · exact Step.off (j := 3) (d := 58) rfl rfl rfl hG (fun v w _ h => h) (fun _ _ => rfl)
        · exact Step.off (j := 3) (d := 58) rfl rfl rfl hG (fun v w _ h => h) (fun _ _ => rfl)
        · exact Step.off (j := 3) (d := 58) rfl rfl rfl hG (fun v w _ h => h) (fun _ _ => rfl)
        · exact Step.off (j := 3) (d := 58) rfl rfl rfl hG (fun v w _ h => h) (fun _ _ => rfl)
        · exact Step.off (j := 3) (d := 58) rfl rfl rfl hG (fun v w _ h => h) (fun _ _ => rfl)
        · exact Step.off (j := 3) (d := 58) rfl rfl rfl hG (fun v w _ h => h) (fun _ _ => rfl)
        · exact Step.off (j := 3) (d := 58) rfl rfl rfl hG (fun v w _ h => h) (fun _ _ => rfl)
        · refine (Step.un rfl (Step0.pure hG fun a' w' hag hS h => ⟨.bool true, ?_, rfl⟩))
          have e58 := ev (h 3 rfl 58 rfl)
          have e67 := ev (h 12 rfl 67 rfl)
          clear h hag
          go_simp
          all_goals omega
        · exact (Step.un rfl (Step0.copy (j := 13) (d := 68) (.inr rfl) rfl rfl hG (fun v w _ h => h)))
      intro vs w' hR hS'
      have h14 := hR 14 (by decide)
      simp only [] at h14
      clear hR
      simp only [puts, Act.put, List.setIfInBounds_toArray, List.set_cons_succ, List.set_cons_zero, Nat.reduceAdd]
      generalize vs 14 = v14 at *
      subst h14
      go_wp2_with fail
      go_ret
      exact ⟨rfl, bt L9 hS'⟩
    | cons x r =>
      have hx := H0.out x r rfl
      have hox := ofS_rng x
      have hw2 : IntKind.i64.wrap (s + ofS x) = s + ofS x := IntWalk.i64_in _ (by omega)
      obtain ⟨b2, o2, rfl, hc⟩ := S2'.out.at_ (by simp)
      have c0 : w9.cell? ⟨b2, o2, none⟩ = some (.int .i64 x) := by simpa using hc 0 (.int .i64 x) (by simp [iv])
      clear hc H0 hone S2'
      go_wp2_with fail
      refine wp_region_st (fun a i v W => match i with
        | 0 => v = a.eval (.tmp 6)
        | 1 => v = .int .i64 ((r.length + 1 : Nat) : Int)
        | 2 => v = .bool false
        | 3 => v = .bool false
        | 4 => v = a.eval (.tmp 5)
        | 5 => v = .int .i64 s
        | 6 => v = a.eval (.tmp 6)
        | 7 => v = .pointer (some ⟨b2, o2, none⟩)
        | 8 => v = .int .i64 x
        | 9 => v = .int .i64 (ofS x)
        | 10 => v = .int .i64 (s + ofS x)
        | 11 => v = a.eval (.tmp 1)
        | 12 => v = .bool true
        | 13 => v = .bool true
        | 14 => v = .bool true
        | _ => True) (fun _ w w' => Below w.heap.size w w') (fun W => Below w9.heap.size w9 W) (by kernel_rfl) (by kernel_rfl) ?_ ((Below.refl _ _).drew) ?_ ?_
      · intro i j v W W' _ _ h hb
        match i, h with
        | 0, h => exact h
        | 1, h => exact h
        | 2, h => exact h
        | 3, h => exact h
        | 4, h => exact h
        | 5, h => exact h
        | 6, h => exact h
        | 7, h => exact h
        | 8, h => exact h
        | 9, h => exact h
        | 10, h => exact h
        | 11, h => exact h
        | 12, h => exact h
        | 13, h => exact h
        | 14, h => exact h
        | n+15, _ => trivial
      · have hG : ∀ w : World, (fun _ w w' => Below w.heap.size w w') 0 w w := fun w => Below.refl _ _
        refine (Steps.cons ?_ (Steps.cons ?_ (Steps.cons ?_ (Steps.cons ?_ (Steps.cons ?_ (Steps.cons ?_ (Steps.cons ?_ (Steps.cons ?_ (Steps.cons ?_ (Steps.cons ?_ (Steps.cons ?_ (Steps.cons ?_ (Steps.cons ?_ (Steps.cons ?_ (Steps.cons ?_ Steps.nil)))))))))))))))
        · exact (Step.un rfl (Step0.move (.inl rfl) rfl hG (fun _ _ => rfl)))
        · refine (Step.un rfl (Step0.pure hG fun a' w' hag hS h => ⟨.int .i64 ((r.length + 1 : Nat) : Int), ?_, rfl⟩))
          have e55 := ev (h 0 rfl 55 rfl)
          simp [Act.eval] at e55
          clear h hag
          go_simp
          all_goals omega
        · refine (Step.un rfl (Step0.pure hG fun a' w' hag hS h => ⟨.bool false, ?_, rfl⟩))
          have e56 := ev (h 1 rfl 56 rfl)
          clear h hag
          go_simp
          all_goals omega
        · exact (Step.un rfl (Step0.copy (j := 2) (d := 57) (.inl rfl) rfl rfl hG (fun v w _ h => h)))
        · exact (Step.on (j := 3) (d := 58) rfl rfl rfl (fun v w _ h => h) (Step0.move (.inl rfl) rfl hG (fun _ _ => rfl)))
        · refine (Step.on (j := 3) (d := 58) rfl rfl rfl (fun v w _ h => h) ?_)
          intro a' w' K hag hS hw hK
          have e59 := ev (hw 4 rfl 59 rfl)
          simp [Act.eval] at e59
          refine wpOp_call (f := 14) (args := #[.slice a1 l1.length k1]) (by go_simp) (sum_any _ l1 _ (S1'.out.keep hS).rs (by omega)) ?_
          rintro e w2 ⟨rfl, hb2⟩
          exact ⟨_, rfl, hK _ _ (show _ = _ from by rw [HT.out]) hb2 (bt hS hb2)⟩
        · exact (Step.on (j := 3) (d := 58) rfl rfl rfl (fun v w _ h => h) (Step0.move (.inl rfl) rfl hG (fun _ _ => rfl)))
        · refine (Step.on (j := 3) (d := 58) rfl rfl rfl (fun v w _ h => h) (Step0.pure hG fun a' w' hag hS h => ⟨.pointer (some ⟨b2, o2, none⟩), ?_, rfl⟩))
          have e61 := ev (h 6 rfl 61 rfl)
          simp [Act.eval] at e61
          clear h hag
          go_simp
          all_goals omega
        · refine (Step.on (j := 3) (d := 58) rfl rfl rfl (fun v w _ h => h) (Step0.pure hG fun a' w' hag hS h => ⟨.int .i64 x, ?_, rfl⟩))
          have e62 := ev (h 7 rfl 62 rfl)
          clear h hag
          have c1 := cell_keep c0 hS
          go_simp
          all_goals omega
        · refine (Step.on (j := 3) (d := 58) rfl rfl rfl (fun v w _ h => h) ?_)
          intro a' w' K hag hS hw hK
          have e63 := ev (hw 8 rfl 63 rfl)
          refine wpOp_call (f := 18) (args := #[.int .i64 x]) (by go_simp) (of_any x _) ?_
          rintro e w2 ⟨rfl, hb2⟩
          exact ⟨_, rfl, hK _ _ rfl hb2 (bt hS hb2)⟩
        · refine (Step.on (j := 3) (d := 58) rfl rfl rfl (fun v w _ h => h) (Step0.pure hG fun a' w' hag hS h => ⟨.int .i64 (s + ofS x), ?_, rfl⟩))
          have e60 := ev (h 5 rfl 60 rfl)
          have e64 := ev (h 9 rfl 64 rfl)
          clear h hag
          go_simp
          all_goals omega
        · exact (Step.on (j := 3) (d := 58) rfl rfl rfl (fun v w _ h => h) (Step0.move (.inl rfl) rfl hG (fun _ _ => rfl)))
        · refine (Step.on (j := 3) (d := 58) rfl rfl rfl (fun v w _ h => h) (Step0.pure hG fun a' w' hag hS h => ⟨.bool true, ?_, rfl⟩))
          have e65 := ev (h 10 rfl 65 rfl)
          have e66 := ev (h 11 rfl 66 rfl)
          simp [Act.eval] at e66
          clear h hag
          go_simp
          all_goals omega
        · refine (Step.un rfl (Step0.pure hG fun a' w' hag hS h => ⟨.bool true, ?_, rfl⟩))
          have e58 := ev (h 3 rfl 58 rfl)
          have e67 := ev (h 12 rfl 67 rfl)
          clear h hag
          go_simp
          all_goals omega
        · exact (Step.un rfl (Step0.copy (j := 13) (d := 68) (.inr rfl) rfl rfl hG (fun v w _ h => h)))
      intro vs w' hR hS'
      have h14 := hR 14 (by decide)
      simp only [] at h14
      clear hR
      simp only [puts, Act.put, List.setIfInBounds_toArray, List.set_cons_succ, List.set_cons_zero, Nat.reduceAdd]
      generalize vs 14 = v14 at *
      subst h14
      go_wp2_with fail
      go_ret
      exact ⟨rfl, bt L9 hS'⟩
end Go.Proofs.Ytepegjihlppkcaa.Width
