/- The laws SlcQuiet, SlcCuts: the walks. -/
import Derived.Test.YtgokbjnpjjdboaaSlcD
import Derived.ChangeKeysEq
namespace Go.Proofs.Ytgokbjnpjjdboaa.Slc
open Go.ChangeShapes Go.WideShapes Go.ChangeAt Go.RowKit
open Go.Proofs.Ytgokbjnpjjdboaa.Com Go.Proofs.Ytgokbjnpjjdboaa.Row Go.Proofs.Ytgokbjnpjjdboaa.Args
set_option maxRecDepth 100000
attribute [local go_sem ↓] loadKey storeKey allocKey load19

/-- A string of three bytes. -/
def s3 (f g c : Int) : ByteArray := ⟨(nb [f, g, c]).toArray⟩
theorem u8_id (x : Int) (h : 0 ≤ x ∧ x ≤ 255) : ((UInt8.ofNat x.toNat).toNat : Int) = x := by
  simp only [UInt8.toNat_ofNat']; omega
theorem takeS_three (k : Ky) (f g c : Int) (hf : 0 ≤ f ∧ f ≤ 255) (hg : 0 ≤ g ∧ g ≤ 255) (hc : 0 ≤ c ∧ c ≤ 255) :
    takeS k (s3 f g c) = if checkE k = 4 then (k, [], 4) else ((tripleS k f g c).1, (tripleS k f g c).2, 0) := by
  unfold takeS
  have hs : (s3 f g c).size = 3 := rfl
  by_cases h : checkE k = 4
  · rw [if_pos h, if_pos h]
  · rw [if_neg h, if_neg h, hs, if_neg (by decide), if_neg (by decide)]
    have e0 : dI (s3 f g c) 0 = f := u8_id f hf
    have e1 : dI (s3 f g c) 1 = g := u8_id g hg
    have e2 : dI (s3 f g c) 2 = c := u8_id c hc
    have : takeN k (dI (s3 f g c)) (3 / 3) = tripleS k f g c := by
      show takeN k _ (0 + 1) = _
      rw [takeN, takeN]
      simp only [Nat.mul_zero, Nat.zero_add, e0, e1, e2, List.nil_append]
    rw [this]

theorem or128 (g : Int) (h : 0 ≤ g ∧ g ≤ 255) : 128 ≤ bits .or .u8 g 128 ∧ bits .or .u8 g 128 ≤ 255 := by
  have H : ∀ n : Fin 256, 128 ≤ bits .or .u8 ((n.val : Int)) 128 ∧ bits .or .u8 ((n.val : Int)) 128 ≤ 255 := by decide +kernel
  have := H ⟨g.toNat, by omega⟩
  simpa [show ((g.toNat : Nat) : Int) = g by omega] using this
theorem conv3 (W : World) (f g c : Int) (hf : 0 ≤ f ∧ f ≤ 255) (hg : 0 ≤ g ∧ g ≤ 255) (hc : 0 ≤ c ∧ c ≤ 255) :
    (convert 55 9 (.slice (some ⟨W.heap.size, 0, none⟩) 3 3)).run Try.prog (W.alloc (.cells #[.int .u8 f, .int .u8 g, .int .u8 c] 5)) = .ok (.string (s3 f g c)) (W.alloc (.cells #[.int .u8 f, .int .u8 g, .int .u8 c] 5)) := by
  have hV : bytesV (nb [f, g, c]) = [.int .u8 f, .int .u8 g, .int .u8 c] := nb_V [f, g, c] (by intro x hx; simp at hx; rcases hx with rfl | rfl | rfl <;> assumption)
  have hr := Rs.new W 5 (bytesV (nb [f, g, c])) 3 (by rw [hV]; rfl) (by rw [hV]; simp [maxLen])
  have hconv := conv_bytes (P := Try.prog) _ 55 9 5 Try.underlying55 Try.underlying5 Try.underlying9 _ _ hr
  rw [hV] at hconv
  exact hconv
/-- What is certain is never answered. -/
theorem certain (k : Ky) (f g c : Int) (h : 128 ≤ g) : (tripleS k f g c).2 = [] := by
  unfold tripleS
  repeat' split
  all_goals first | rfl | (exfalso; omega)
theorem below_box {w W0 w1 W1 : World} {o : Obj} (L0 : Below w.heap.size w W0) (h1 : Below (W0.alloc o).heap.size (W0.alloc o) w1) (h2 : Below w1.heap.size w1 W1) : Below w.heap.size w W1 := by
  have s0 := L0.size
  have s1 := h1.size
  simp at s1
  have a := L0.trans ((below_alloc W0 o).mono s0)
  exact (a.trans (h1.mono a.size)).trans (h2.mono (by omega))
theorem keep_box {W0 w1 W1 : World} {o : Obj} {g : Nat} {x : Obj} (h1 : Below (W0.alloc o).heap.size (W0.alloc o) w1) (h2 : Below w1.heap.size w1 W1) (h : W0.heap[g]? = some x) : W1.heap[g]? = some x := by
  have hg := heap_lt h
  have s1 := h1.size
  simp at s1
  exact (h2.block _ (by omega)).trans ((h1.block _ (by simp; omega)).trans ((heap_alloc_old _ _ hg).trans h))
theorem s3_size (f g c : Int) : (s3 f g c).size = 3 := rfl
theorem again (k : Ky) (f g c : Int) (hf : 1 ≤ f ∧ f ≤ 18) (h1 : (tripleS k f g c).1.lv f.toNat = g % 4) (h2 : (tripleS k f g c).1.ch f.toNat = c) : (tripleS (tripleS k f g c).1 f g c).2 = [] := by
  generalize (tripleS k f g c).1 = a at *
  unfold tripleS
  rw [if_neg (by omega), if_pos ⟨h1.symm, h2.symm⟩]
/-- Behind a call of Take: its keys lie in a box of their own. -/
theorem boxed (W : World) (k : Ky) : ∃ W', W' = (W.alloc (.cells zKey 52)).setRow W.heap.size (keyC k).toArray ∧ Below W.heap.size W W' ∧ W'.heap[W.heap.size]? = some (.cells (keyC k).toArray 52 (0, 0)) ∧
    (rowAlloc 52 true (.agg zKey)).run Try.prog W = (rowAlloc 52 true (.agg zKey)).run Try.prog W ∧
    (rowStore 52 (.pointer (some ⟨W.heap.size, 0, none⟩)) (.agg (keyC k).toArray)).run Try.prog (W.alloc (.cells zKey 52)) = .ok () W' := by
  have hz := heap_alloc_new W (.cells zKey 52)
  exact ⟨_, rfl, (below_alloc _ _).trans ((But.setRow _ _ _).below (Nat.le_refl _) (by simp)), setRow_heap _ _ _ _ _ _ hz, rfl, storeK _ k _ _ hz zKey_size⟩

set_option maxHeartbeats 1000000 in
theorem quiet_walk (v0 v1 v2 v3 : Value) (w : World) (h0 : Arg none Try.prog w 52 v0) (h1 : Arg none Try.prog w 5 v1) (h2 : Arg none Try.prog w 5 v2) (h3 : Arg none Try.prog w 5 v3) :
    Calls Try.prog 10 #[v0, v1, v2, v3] w fun e w' => e = .returned (.bool true) ∧ Below w.heap.size w w' := by
  obtain ⟨k, hr, rfl⟩ := keys_arg h0
  obtain ⟨f, rfl, hf⟩ := h1.int Try.underlying5
  obtain ⟨g, rfl, hg⟩ := h2.int Try.underlying5
  obtain ⟨c, rfl, hc⟩ := h3.int Try.underlying5
  clear h0 h1 h2 h3
  replace hf := wf_u8 hf; replace hg := wf_u8 hg; replace hc := wf_u8 hc
  have go := or128 g hg
  have T1 := fun W => take_any k hr (s3 f (bits .or .u8 g 128) c) (by rw [s3_size]; decide) W
  have T2 := fun W => take_any k hr (s3 f g c) (by rw [s3_size]; decide) W
  have T3 := fun W => take_any _ (takeS_rng k hr (s3 f g c)) (s3 f g c) (by rw [s3_size]; decide) W
  rw [takeS_three k f _ c hf ⟨by omega, go.2⟩ hc] at T1
  rw [takeS_three k f _ c hf hg hc] at T2 T3
  have hN := heap_alloc_new w (.cells (keyC k).toArray 52)
  have L0 : Below w.heap.size w (w.alloc (.cells (keyC k).toArray 52)) := (Below.refl _ _).alloc (Nat.le_refl _) _
  obtain ⟨W0, hW0⟩ : ∃ W0, W0 = w.alloc (.cells (keyC k).toArray 52) := ⟨_, rfl⟩
  rw [← hW0] at hN L0
  have HW := Lib.hid hW0; clear hW0
  have hl := loadK w.heap.size k W0 hN
  have cv1 := conv3 W0 f _ c hf ⟨by omega, go.2⟩ hc
  by_cases hk : checkE k = 4
  · simp only [if_pos hk] at T1
    have HT := Lib.hid T1; clear T1 T2 T3
    go_enter Try.func10, Try.ntmps10
    go_upto_region 1 with (fail)
    rw [← HW.out]
    go_wp2_with fail
    refine (HT.out _).mono ?_; rintro e w1 ⟨rfl, hb1⟩
    rw [show (nb []).toArray = #[] from rfl]
    obtain ⟨W1, hW1, LW1, hN1, _, st1⟩ := boxed w1 k
    have al1 := fun v => allocK w1 v
    have L1 : Below w.heap.size w W1 := below_box L0 hb1 LW1
    clear hW1 hb1 LW1 hN1 hN hl cv1
    go_wp2_with fail
    refine (lives _).mono ?_; rintro e w2 ⟨rfl, hb2⟩
    go_wp2_with fail
    refine (lives _).mono ?_; rintro e w3 ⟨rfl, hb3⟩
    go_wp2_with fail
    go_ret
    exact ⟨rfl, (L1.trans (hb2.mono L1.size)).trans (hb3.mono (L1.trans (hb2.mono L1.size)).size)⟩
  · simp only [if_neg hk] at T1 T2 T3
    rw [certain k f _ c go.1] at T1
    have ha : f < 1 ∨ 18 < f ∨ (1 ≤ f ∧ f ≤ 18) := by omega
    have hag := again k f g c
    generalize (tripleS k f (bits .or .u8 g 128) c).1 = k1 at *
    generalize (tripleS k f g c).2 = o2 at *
    generalize (tripleS k f g c).1 = a at *
    rw [takeS_three a f _ c hf hg hc] at T3
    have hu : ∃ (k3 : Ky) (u : List Int) (e3 : Int), (if checkE a = 4 then (a, [], 4) else ((tripleS a f g c).1, (tripleS a f g c).2, 0)) = (k3, u, e3) ∧ (u = [] ∨ (u ≠ [] ∧ (g % 4 = 3 ∨ (g % 4 ≠ 3 ∧ (f < 1 ∨ 18 < f ∨ ((1 ≤ f ∧ f ≤ 18) ∧ (a.lv f.toNat ≠ g % 4 ∨ (a.lv f.toNat = g % 4 ∧ a.ch f.toNat ≠ c)))))))) := by
      by_cases hc : checkE a = 4
      · rw [if_pos hc]; exact ⟨_, _, _, rfl, .inl rfl⟩
      · rw [if_neg hc]
        refine ⟨_, _, _, rfl, ?_⟩
        by_cases e : (tripleS a f g c).2 = []
        · exact .inl e
        · refine .inr ⟨e, ?_⟩
          by_cases h3 : g % 4 = 3
          · exact .inl h3
          · refine .inr ⟨h3, ?_⟩
            rcases ha with h | h | h
            · exact .inl h
            · exact .inr (.inl h)
            · refine .inr (.inr ⟨h, ?_⟩)
              by_cases h1 : a.lv f.toNat = g % 4
              · exact .inr ⟨h1, fun h2 => e (hag h h1 h2)⟩
              · exact .inl h1
    obtain ⟨k3, u, e3, h3, HU⟩ := hu
    rw [h3] at T3
    simp only [] at T1 T2 T3
    have HT1 := Lib.hid T1; have HT2 := Lib.hid T2; have HT3 := Lib.hid T3
    have HU' := Lib.hid HU
    clear T1 T2 T3 h3 HU hag ha
    go_enter Try.func10, Try.ntmps10
    go_upto_region 1 with (fail)
    rw [← HW.out]
    go_wp2_with fail
    refine (HT1.out _).mono ?_; rintro e w1 ⟨rfl, hb1⟩
    rw [show (nb []).toArray = #[] from rfl]
    obtain ⟨W1, hW1, LW1, hN1, _, st1⟩ := boxed w1 k1
    have al1 := fun v => allocK w1 v
    have L1 : Below w.heap.size w W1 := below_box L0 hb1 LW1
    replace hN := keep_box hb1 LW1 hN
    clear hW1 hN1 hb1 LW1 hl cv1
    go_wp2_with fail
    refine (lives _).mono ?_; rintro e w2 ⟨rfl, hb2⟩
    replace hN := heap_keep hb2 hN
    replace L1 := L1.trans (hb2.mono L1.size)
    have hl := loadK w.heap.size k w2 hN
    have cv1 := conv3 w2 f g c hf hg hc
    clear hb2 al1 st1
    go_wp2_with fail
    refine (HT2.out _).mono ?_; rintro e w3 ⟨rfl, hb1⟩
    obtain ⟨W1, hW1, LW1, hN1, _, st1⟩ := boxed w3 a
    have al1 := fun v => allocK w3 v
    replace L1 : Below w.heap.size w W1 := below_box L1 hb1 LW1
    clear hW1 hb1 LW1 hl cv1 hN
    have hl := loadK w3.heap.size a W1 hN1
    have cv1 := conv3 W1 f g c hf hg hc
    go_wp2_with fail
    refine (HT3.out _).mono ?_; rintro e w4 ⟨rfl, hb1⟩
    clear al1 st1
    obtain ⟨W4, hW1, LW1, _, _, st1⟩ := boxed w4 k3
    have al1 := fun v => allocK w4 v
    replace L1 : Below w.heap.size w W4 := below_box L1 hb1 LW1
    have hN := keep_box hb1 LW1 hN1
    have hcl := fun (h : f.toNat < 19) => (cell_of_row _ _ f.toNat _ _ _ hN).trans (by simpa using keyC_lv a f.toNat h)
    have hcc := fun (h : f.toNat < 19) => (cell_of_row _ _ (19 + f.toNat) _ _ _ hN).trans (by simpa using keyC_ch a f.toNat h)
    have HC := Lib.hid hcl; have HD := Lib.hid hcc
    clear hcl hcc hN hb1 LW1 hW1 hN1 cv1 hl
    rcases HU'.out with rfl | ⟨hu, h3⟩
    · rw [show (nb []).toArray = #[] from rfl]
      go_wp2_with fail
      go_ret
      exact ⟨rfl, L1⟩
    · have hlt : f.toNat < 19 ∨ 18 < f := by omega
      rcases h3 with h3 | ⟨h3, h4 | h4 | ⟨⟨h4, h5⟩, h6 | ⟨h6, h7⟩⟩⟩
      · have q : (g % 4 == 3) = true := by simpa using h3
        go_wp2_with fail
        all_goals
          go_ret
          exact ⟨rfl, L1⟩
      · have q : (g % 4 == 3) = false := by simpa using h3
        go_wp2_with fail
        all_goals
          go_ret
          exact ⟨rfl, L1⟩
      · have q : (g % 4 == 3) = false := by simpa using h3
        have q1 : ¬ f < 1 := by omega
        go_wp2_with fail
        all_goals
          go_ret
          exact ⟨rfl, L1⟩
      · have q : (g % 4 == 3) = false := by simpa using h3
        have hl := HC.out (by omega)
        have i0 : f < 19 := by omega
        have i1 : 0 ≤ f := by omega
        have q6 : (a.lv f.toNat != g % 4) = true := by simpa using h6
        go_wp2_with fail
        all_goals
          go_ret
          exact ⟨rfl, L1⟩
      · have q : (g % 4 == 3) = false := by simpa using h3
        have hl := HC.out (by omega)
        have hd := HD.out (by omega)
        have i0 : f < 19 := by omega
        have i1 : 0 ≤ f := by omega
        have q6 : (a.lv f.toNat != g % 4) = false := by simpa using h6
        have q7 : (a.ch f.toNat != c) = true := by simpa using h7
        go_wp2_with fail
        all_goals
          go_ret
          exact ⟨rfl, L1⟩
end Go.Proofs.Ytgokbjnpjjdboaa.Slc
