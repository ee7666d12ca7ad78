/- width.Cut: its contract (not built yet). -/
import Derived.Test.YtepegjihlppkcaaWidthD
import Derived.StillTailTactics
import Derived.Test.YtepegjihlppkcaaReg
import Derived.Test.YtepegjihlppkcaaMem
namespace Go.Proofs.Ytepegjihlppkcaa.Width
open Go.ChangeShapes Go.WideShapes Go.ChangeAt Go.RowKit
open Go.Proofs.Ytepegjihlppkcaa.Com Go.Proofs.Ytepegjihlppkcaa.Row Go.Proofs.Ytepegjihlppkcaa.Args Go.Proofs.Ytepegjihlppkcaa.Reg
set_option maxRecDepth 100000

theorem cutF_no (v : Value) (n : Int) (h : n < 0 ∨ 160 < n) (w : World) : Calls Try.prog 16 #[v, .int .i64 n] w fun e w' => e = .returned (.tuple #[.slice none 0 0, .slice none 0 0, .int .i64 1]) ∧ w = w' := by
  by_cases h1 : n < 0
  · go_enter Try.func16, Try.ntmps16
    go_wp2_with fail
    go_ret3
    exact ⟨rfl, rfl⟩
  · have h2 : 160 < n := by omega
    go_enter Try.func16, Try.ntmps16
    go_wp2_with fail
    go_ret3
    exact ⟨rfl, rfl⟩

set_option maxHeartbeats 2000000 in
theorem cutF_ok (xs : List Int) (n : Int) (h0 : 0 ≤ n) (h1 : n ≤ 160) (ad : Option Addr) (c L : Nat) (hL : L = xs.length) (w : World) (hv : Sl w 1 ad L c (iv xs)) (hm : xs.length * 8 ≤ 140737488355328) :
    Calls Try.prog 16 #[.slice ad L c, .int .i64 n] w fun e w' => ∃ v1 v2, e = .returned (.tuple #[v1, v2, .int .i64 0]) ∧ Own w' w.heap.size 3 v1 (iv (xs.take (cutS n xs 0).1)) ∧ Own w' w.heap.size 3 v2 (iv (xs.drop (cutS n xs 0).1)) ∧ Below w.heap.size w w' := by
  obtain ⟨i0, hi, hz0, hz1, hz2⟩ := info_parts infoInt
  obtain ⟨c1, _, _, _⟩ := cutS_le n xs 0 h0
  have HT := Lib.hid (cut_any _ xs n w hv.rs (by omega))
  generalize cutS n xs 0 = ks at *
  obtain ⟨k, s⟩ := ks
  simp only [] at c1 HT
  have kL : k ≤ L := by omega
  have hLc := hv.le
  have hkm1 : (([] : List Value).length + (iv (xs.take k)).length) * 8 ≤ 140737488355328 := by simp [iv]; omega
  have hkm2 : (([] : List Value).length + (iv (xs.drop k)).length) * 8 ≤ 140737488355328 := by simp [iv]; omega
  have hA := hv.take kL
  have hB := hv.drop kL
  simp only [Nat.mul_one] at hA hB
  have ek1 : (iv xs).take k = iv (xs.take k) := by simp [iv, List.map_take]
  have ek2 : (iv xs).drop k = iv (xs.drop k) := by simp [iv, List.map_drop]
  rw [ek1] at hA; rw [ek2] at hB
  have HA := Lib.hid hA; have HB := Lib.hid hB
  have hone1 := iv_one (xs.take k)
  have hone2 := iv_one (xs.drop k)
  have h18 : 1 ≤ 8 := by decide
  have hkc : k ≤ c := by omega
  clear hL hv hA hB c1 ek1 ek2
  go_enter Try.func16, Try.ntmps16
  go_wp2_with fail
  refine HT.out.mono ?_; rintro e w1 ⟨rfl, hb1⟩
  go_upto_region 4 with (fail)
  refine wp_region_st (fun a i v W => match i with
    | 0 => v = a.eval (.tmp 0)
    | 1 => v = a.eval (.tmp 7)
    | 2 => v = .slice ad k c
    | 3 => Own W w.heap.size 3 v (iv (xs.take k))
    | 4 => v = a.eval (.tmp 0)
    | 5 => v = a.eval (.tmp 7)
    | 6 => v = .slice (if c = k then ad else ad.map (·.add k)) (L - k) (c - k)
    | 7 => Own W w.heap.size 3 v (iv (xs.drop k))
    | 8 => Own W w.heap.size 3 v (iv (xs.take k))
    | 9 => Own W w.heap.size 3 v (iv (xs.drop k))
    | 10 => v = .int .i64 0
    | _ => True) (fun _ w w' => Below w.heap.size w w') (fun W => Below w.heap.size w W) (by kernel_rfl) (by kernel_rfl) ?_ (hb1.drew) ?_ ?_
  · intro i j v W W' _ _ h hb
    match i, h with
    | 0, h => exact h
    | 1, h => exact h
    | 2, h => exact h
    | 3, h => exact Own.keep h hb
    | 4, h => exact h
    | 5, h => exact h
    | 6, h => exact h
    | 7, h => exact Own.keep h hb
    | 8, h => exact Own.keep h hb
    | 9, h => exact Own.keep h hb
    | 10, h => exact h
    | n+11, _ => trivial
  · have hG : ∀ w : World, (fun _ w w' => Below w.heap.size w w') 0 w w := fun w => Below.refl _ _
    refine (Steps.cons ?_ (Steps.cons ?_ (Steps.cons ?_ (Steps.cons ?_ (Steps.cons ?_ (Steps.cons ?_ (Steps.cons ?_ (Steps.cons ?_ (Steps.cons ?_ (Steps.cons ?_ (Steps.cons ?_ Steps.nil)))))))))))
    · exact (Step.un rfl (Step0.move (.inl rfl) rfl hG (fun _ _ => rfl)))
    · exact (Step.un rfl (Step0.move (.inl rfl) rfl hG (fun _ _ => rfl)))
    · refine (Step.un rfl (Step0.pure hG fun a' w' hag hS h => ⟨.slice ad k c, ?_, rfl⟩))
      have e21 := ev (h 0 rfl 21 rfl)
      simp [Act.eval] at e21
      have e22 := ev (h 1 rfl 22 rfl)
      simp [Act.eval] at e22
      clear h hag
      go_simp
      all_goals omega
    · refine (Step.un rfl ?_)
      intro a' w' K hag hS hw hK
      have e23 := ev (hw 2 rfl 23 rfl)
      refine wpOp_app_src (.const (.slice none 0 0)) (.tmp 23) 22 3 rfl w.heap.size i0 _ 8 Try.underlying22 hi hz0 hz1 hz2 rfl _ [] rfl (Own.nil _ _ _) _ (iv (xs.take k)) (hw 2 rfl 23 rfl) (HA.out.rs.keep hS) HA.out.nilcap hone1 h18 hkm1 hS.size ?_
      intro v1 w2 hown1 hb2 hg
      exact hK v1 w2 hown1 (grown_nil hg) (hS.trans hb2)
    · exact (Step.un rfl (Step0.move (.inl rfl) rfl hG (fun _ _ => rfl)))
    · exact (Step.un rfl (Step0.move (.inl rfl) rfl hG (fun _ _ => rfl)))
    · refine (Step.un rfl (Step0.pure hG fun a' w' hag hS h => ⟨.slice (if c = k then ad else ad.map (·.add k)) (L - k) (c - k), ?_, rfl⟩))
      have e25 := ev (h 4 rfl 25 rfl)
      simp [Act.eval] at e25
      have e26 := ev (h 5 rfl 26 rfl)
      simp [Act.eval] at e26
      clear h hag
      go_simp
      all_goals omega
    · refine (Step.un rfl ?_)
      intro a' w' K hag hS hw hK
      have e27 := ev (hw 6 rfl 27 rfl)
      refine wpOp_app_src (.const (.slice none 0 0)) (.tmp 27) 22 3 rfl w.heap.size i0 _ 8 Try.underlying22 hi hz0 hz1 hz2 rfl _ [] rfl (Own.nil _ _ _) _ (iv (xs.drop k)) (hw 6 rfl 27 rfl) (HB.out.rs.keep hS) HB.out.nilcap hone2 h18 hkm2 hS.size ?_
      intro v1 w2 hown1 hb2 hg
      exact hK v1 w2 hown1 (grown_nil hg) (hS.trans hb2)
    · exact (Step.un rfl (Step0.copy (j := 3) (d := 24) (.inr rfl) rfl rfl hG (fun v w _ h => h)))
    · exact (Step.un rfl (Step0.copy (j := 7) (d := 28) (.inr rfl) rfl rfl hG (fun v w _ h => h)))
    · exact (Step.un rfl (Step0.move (.inr rfl) rfl hG (fun _ _ => rfl)))
  intro vs w' hR hS'
  have h8 := hR 8 (by decide)
  simp only [] at h8
  have h9 := hR 9 (by decide)
  simp only [] at h9
  have h10 := hR 10 (by decide)
  simp only [] at h10
  clear hR
  simp only [puts, Act.put, List.setIfInBounds_toArray, List.set_cons_succ, List.set_cons_zero, Nat.reduceAdd]
  generalize vs 8 = v8 at *
  generalize vs 9 = v9 at *
  generalize vs 10 = v10 at *
  subst h10
  go_wp2_with fail
  go_ret3
  exact ⟨_, _, rfl, h8, h9, hS'⟩
end Go.Proofs.Ytepegjihlppkcaa.Width
