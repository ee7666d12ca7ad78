/- The law SlcCuts: the walk. -/
import Derived.Test.YtgokbjnpjjdboaaSlcE
namespace Go.Proofs.Ytgokbjnpjjdboaa.Slc
open Go.ChangeShapes Go.WideShapes Go.ChangeAt Go.RowKit
open Go.Proofs.Ytgokbjnpjjdboaa.Com Go.Proofs.Ytgokbjnpjjdboaa.Row Go.Proofs.Ytgokbjnpjjdboaa.Args
set_option maxRecDepth 100000
attribute [local go_sem ↓] loadKey storeKey allocKey load19

/-! ### threes in two goes -/
theorem takeN_shift (k : Ky) (d d1 d2 : Nat → Int) (m : Nat) (h1 : ∀ i, i < 3 * m → d i = d1 i) : ∀ n, (∀ i, i < 3 * n → d (3 * m + i) = d2 i) →
    takeN k d (m + n) = ((takeN (takeN k d1 m).1 d2 n).1, (takeN k d1 m).2 ++ (takeN (takeN k d1 m).1 d2 n).2)
  | 0, _ => by
    have : ∀ j, j ≤ m → takeN k d j = takeN k d1 j := by
      intro j
      induction j with
      | zero => intro _; rfl
      | succ j ih =>
        intro hj
        rw [takeN, takeN, ih (by omega), h1 _ (by omega), h1 _ (by omega), h1 _ (by omega)]
    simp only [Nat.add_zero, takeN, List.append_nil]
    exact this m (Nat.le_refl _)
  | n+1, h2 => by
    have ih := takeN_shift k d d1 d2 m h1 n (fun i hi => h2 i (by omega))
    have e0 := h2 (3 * n) (by omega)
    have e1 := h2 (3 * n + 1) (by omega)
    have e2 := h2 (3 * n + 2) (by omega)
    rw [show m + (n+1) = (m + n) + 1 by omega, takeN, ih]
    simp only [show 3 * (m + n) = 3 * m + 3 * n by omega, Nat.add_assoc]
    rw [e0, e1, e2]
    simp only [takeN, List.append_assoc]
theorem dI_left (a b : ByteArray) (i : Nat) (h : i < a.size) : dI (a ++ b) i = dI a i := by
  unfold dI
  rw [show (a ++ b).data.toList = a.data.toList ++ b.data.toList by simp, List.getElem?_append_left (by simpa using h)]
theorem dI_right (a b : ByteArray) (i : Nat) : dI (a ++ b) (a.size + i) = dI b i := by
  unfold dI
  rw [show (a ++ b).data.toList = a.data.toList ++ b.data.toList by simp, List.getElem?_append_right (by simp)]
  simp
theorem cuts (k : Ky) (a b : ByteArray) (h1 : (takeS k a).2.2 = 0) (h2 : (takeS (takeS k a).1 b).2.2 = 0) (h3 : a.size + b.size ≤ 300) :
    takeS k (a ++ b) = ((takeS (takeS k a).1 b).1, (takeS k a).2.1 ++ (takeS (takeS k a).1 b).2.1, 0) := by
  have c1 : ¬ checkE k = 4 := by intro h; unfold takeS at h1; rw [if_pos h] at h1; simp at h1
  have a1 : ¬ a.size % 3 ≠ 0 := by intro h; unfold takeS at h1; rw [if_neg c1, if_pos h] at h1; simp at h1
  have t1 : takeS k a = ((takeN k (dI a) (a.size / 3)).1, (takeN k (dI a) (a.size / 3)).2, 0) := by unfold takeS; rw [if_neg c1, if_neg a1, if_neg (by omega)]
  have hx : (takeS k a).1 = (takeN k (dI a) (a.size / 3)).1 := by rw [t1]
  have ho : (takeS k a).2.1 = (takeN k (dI a) (a.size / 3)).2 := by rw [t1]
  generalize (takeS k a).1 = x at *
  have c2 : ¬ checkE x = 4 := by intro h; unfold takeS at h2; rw [if_pos h] at h2; simp at h2
  have a2 : ¬ b.size % 3 ≠ 0 := by intro h; unfold takeS at h2; rw [if_neg c2, if_pos h] at h2; simp at h2
  have t2 : takeS x b = ((takeN x (dI b) (b.size / 3)).1, (takeN x (dI b) (b.size / 3)).2, 0) := by unfold takeS; rw [if_neg c2, if_neg a2, if_neg (by omega)]
  have hs : (a ++ b).size = a.size + b.size := by simp
  have h := takeN_shift k (dI (a ++ b)) (dI a) (dI b) (a.size / 3) (fun i hi => dI_left a b i (by omega)) (b.size / 3) (fun i hi => by rw [show 3 * (a.size / 3) + i = a.size + i by omega]; exact dI_right a b i)
  have t3 : takeS k (a ++ b) = ((takeN k (dI (a ++ b)) ((a.size + b.size) / 3)).1, (takeN k (dI (a ++ b)) ((a.size + b.size) / 3)).2, 0) := by
    unfold takeS; rw [if_neg c1, hs, if_neg (by omega), if_neg (by omega)]
  rw [t3, show (a.size + b.size) / 3 = a.size / 3 + b.size / 3 by omega, h, ho, t2, hx]

/-! ### keys that are the same are equal -/
theorem eqItems_ints {P : Program} (d : Nat) (e : TypeId) (kk : IntKind) (he : P.underlying e = some (.int kk)) (xs ys : Array Value) (f : Nat → Int) (w : World) : ∀ is : List Nat,
    (∀ i ∈ is, xs[i]? = some (.int kk (f i)) ∧ ys[i]? = some (.int kk (f i))) → (Op.eqItems (d + 1) e 1 xs ys is).run P w = .ok true w
  | [], _ => by simp [Op.eqItems]
  | i :: is, h => by
    obtain ⟨h1, h2⟩ := h i (by simp)
    have ih := eqItems_ints d e kk he xs ys f w is (fun j hj => h j (by simp [hj]))
    have px : (part e xs (i * 1)).run P w = .ok (.int kk (f i)) w := by
      simp [part, isAgg, run_underlying he, h1]
    have py : (part e ys (i * 1)).run P w = .ok (.int kk (f i)) w := by
      simp [part, isAgg, run_underlying he, h2]
    simp only [Op.eqItems, Sem.run_bind, px, py, Result.andThen_ok, run_equalIn_int w d e kk kk _ _ he]
    simpa using ih
theorem keys_guard : Try.prog.eqGuardType Try.prog.depth 52 = false := by kernel_rfl
theorem keys_stood : Try.prog.stoodInHeld 52 = false := by kernel_rfl
theorem keys_fields : Try.prog.fieldsOf 52 = #[{ name := "Levels", type := 50, offset := 0, embedded := false, tag := "", pkgPath := "", byteOffset := 0 }, { name := "Chars", type := 50, offset := 19, embedded := false, tag := "", pkgPath := "", byteOffset := 19 }] := by kernel_rfl
theorem part19 (xs : Array Value) (off : Nat) (w : World) : (part 50 xs off).run Try.prog w = .ok (.agg (xs.extract off (off + 19))) w := by
  have hi : ∃ i, Try.prog.info? 50 = some i ∧ i.size = 19 := by
    have := size19
    cases h : Try.prog.info? 50 with
    | none => simp [h] at this
    | some i => exact ⟨i, rfl, by simpa [h] using this⟩
  obtain ⟨i, hi, hs⟩ := hi
  have h1 : (isAgg 50).run Try.prog w = .ok true w := by
    simp [isAgg, run_underlying Try.underlying50]
  simp [part, h1, run_sizeOf w hi, c19]
theorem eq19 (d : Nat) (f : Nat → Int) (w : World) : (Op.equalIn (d + 2) 50 (.agg (rowF 19 (u8F f)).toArray) (.agg (rowF 19 (u8F f)).toArray)).run Try.prog w = .ok true w := by
  obtain ⟨i, hi, _⟩ := info_parts infoByte
  rw [run_equalIn_array w (d + 1) _ _ Try.underlying50 hi, c1]
  refine eqItems_ints d _ .u8 Try.underlying5 _ _ f w _ (fun j hj => ?_)
  have hj : j < 19 := List.mem_range.1 hj
  have : (rowF 19 (u8F f))[j]? = some (.int .u8 (f j)) := rowF_get 19 (u8F f) j hj
  exact ⟨by simpa using this, by simpa using this⟩
theorem eqK (k : Ky) (w : World) : (Op.equalIn 10000 52 (.agg (keyC k).toArray) (.agg (keyC k).toArray)).run Try.prog w = .ok true w := by
  have e0 : (keyC k).toArray.extract 0 (0 + 19) = (rowF 19 (u8F k.lv)).toArray := by
    simp [keyC, rowF_len]
  have e1 : (keyC k).toArray.extract 19 (19 + 19) = (rowF 19 (u8F k.ch)).toArray := by
    simp [keyC, rowF_len, List.take_of_length_le]
  rw [run_equalIn_agg w 9999 _ _ _ (by rw [keys_fields]; exact Try.underlying52) keys_stood, keys_fields]
  simp only [Op.eqFields]
  simp [part19, e0, e1, eq19 9997]

theorem below_box0 {w W0 w1 W1 : World} (L0 : Below w.heap.size w W0) (h1 : Below W0.heap.size W0 w1) (h2 : Below w1.heap.size w1 W1) : Below w.heap.size w W1 := by
  have s0 := L0.size
  have s1 := h1.size
  exact (L0.trans (h1.mono s0)).trans (h2.mono (by omega))
theorem keep_box0 {W0 w1 W1 : World} {g : Nat} {x : Obj} (h1 : Below W0.heap.size W0 w1) (h2 : Below w1.heap.size w1 W1) (h : W0.heap[g]? = some x) : W1.heap[g]? = some x := by
  have hg := heap_lt h
  have s1 := h1.size
  exact (h2.block _ (by omega)).trans ((h1.block _ hg).trans h)
theorem nb_app (a b : List Int) : (⟨(nb (a ++ b)).toArray⟩ : ByteArray) = ⟨(nb a).toArray⟩ ++ ⟨(nb b).toArray⟩ := by
  apply ByteArray.ext
  simp [nb]
theorem takeS_size (k : Ky) (a : ByteArray) : (⟨(nb (takeS k a).2.1).toArray⟩ : ByteArray).size ≤ a.size := by
  have : (⟨(nb (takeS k a).2.1).toArray⟩ : ByteArray).size = (takeS k a).2.1.length := by show (nb (takeS k a).2.1).toArray.size = _; simp [nb]
  rw [this]
  unfold takeS
  have := takeN_len k (dI a) (a.size / 3)
  repeat' split
  all_goals simp
  omega
attribute [local go_sem] keys_guard

set_option maxHeartbeats 1000000 in
theorem cuts_walk (v0 v1 v2 : Value) (w : World) (h0 : Arg none Try.prog w 52 v0) (h1 : Arg none Try.prog w 9 v1) (h2 : Arg none Try.prog w 9 v2) :
    Calls Try.prog 12 #[v0, v1, v2] w fun e w' => e = .returned (.bool true) ∧ Below w.heap.size w w' := by
  obtain ⟨k, hr, rfl⟩ := keys_arg h0
  obtain ⟨a, rfl, ha, fa⟩ := h1.string Try.underlying9
  obtain ⟨b, rfl, hb, fb⟩ := h2.string Try.underlying9
  clear h0 h1 h2
  have hab : (a ++ b).size ≤ maxLen := by
    simp only [FitN, reachBytes] at fa fb
    simp [maxLen] at *; omega
  have hsum : a.size + b.size ≤ maxLen := by simpa using hab
  have hq1 : (a.size : Int) + (b.size : Int) ≤ 9223372036854775807 := by unfold maxLen at hsum; omega
  have hq2 : a.size + b.size ≤ 9223372036854775807 := by unfold maxLen at hsum; omega
  have hq3 : ¬ (9223372036854775807 < a.size + b.size) := by omega
  have T1 := fun W => take_any k hr a ha W
  have T2 := fun W => take_any _ (takeS_rng k hr a) b hb W
  have T3 := fun W => take_any k hr (a ++ b) hab W
  have hN := heap_alloc_new w (.cells (keyC k).toArray 52)
  have L0 : Below w.heap.size w (w.alloc (.cells (keyC k).toArray 52)) := (Below.refl _ _).alloc (Nat.le_refl _) _
  obtain ⟨W0, hW0⟩ : ∃ W0, W0 = w.alloc (.cells (keyC k).toArray 52) := ⟨_, rfl⟩
  rw [← hW0] at hN L0
  have HW := Lib.hid hW0; clear hW0
  have hl := loadK w.heap.size k W0 hN
  have hgd : ((takeS k a).2.2 = 0 ∧ (takeS (takeS k a).1 b).2.2 = 0 ∧ a.size + b.size ≤ 300) ∨ (takeS k a).2.2 ≠ 0 ∨ ((takeS k a).2.2 = 0 ∧ (takeS (takeS k a).1 b).2.2 ≠ 0) ∨ ((takeS k a).2.2 = 0 ∧ (takeS (takeS k a).1 b).2.2 = 0 ∧ 300 < a.size + b.size) := by
    by_cases h1 : (takeS k a).2.2 = 0 <;> by_cases h2 : (takeS (takeS k a).1 b).2.2 = 0 <;> by_cases h3 : a.size + b.size ≤ 300 <;> simp [h1, h2, h3] <;> omega
  have hcuts := cuts k a b
  have z1 := takeS_size k a
  have z2 := takeS_size (takeS k a).1 b
  generalize hx : takeS k a = ta at *
  obtain ⟨x, o1, e1⟩ := ta
  simp only [] at *
  generalize hy : takeS x b = tb at *
  obtain ⟨y, o2, e2⟩ := tb
  generalize takeS k (a ++ b) = tc at *
  obtain ⟨z, o3, e3⟩ := tc
  simp only [] at *
  have HT1 := Lib.hid T1; have HT2 := Lib.hid T2; have HT3 := Lib.hid T3
  have HC := Lib.hid hcuts
  have HG := Lib.hid hgd
  clear T1 T2 T3 hcuts hgd hx hy
  generalize hs1 : (⟨(nb o1).toArray⟩ : ByteArray) = s1 at *
  generalize hs2 : (⟨(nb o2).toArray⟩ : ByteArray) = s2 at *
  go_enter Try.func12, Try.ntmps12
  go_upto_region 1 with (fail)
  rw [← HW.out]
  go_wp2_with fail
  refine (HT1.out _).mono ?_; rintro e w1 ⟨rfl, hb1⟩
  obtain ⟨W1, hW1, LW1, hN1, _, st1⟩ := boxed w1 x
  have al1 := fun v => allocK w1 v
  have L1 : Below w.heap.size w W1 := below_box0 L0 hb1 LW1
  replace hN := keep_box0 hb1 LW1 hN
  clear hW1 hb1 LW1 hl
  have hl := loadK w1.heap.size x W1 hN1
  go_wp2_with fail
  refine (HT2.out _).mono ?_; rintro e w2 ⟨rfl, hb1⟩
  clear al1 st1
  obtain ⟨W2, hW1, LW1, hN2, _, st1⟩ := boxed w2 y
  have al1 := fun v => allocK w2 v
  replace L1 : Below w.heap.size w W2 := below_box0 L1 hb1 LW1
  replace hN := keep_box0 hb1 LW1 hN
  clear hW1 hb1 LW1 hl hN1
  have hl := loadK w.heap.size k W2 hN
  go_wp2_with fail
  refine (HT3.out _).mono ?_; rintro e w3 ⟨rfl, hb1⟩
  clear al1 st1
  obtain ⟨W3, hW1, LW1, hN3, _, st1⟩ := boxed w3 z
  have al1 := fun v => allocK w3 v
  replace L1 : Below w.heap.size w W3 := below_box0 L1 hb1 LW1
  replace hN2 := keep_box0 hb1 LW1 hN2
  clear hW1 hb1 LW1 hl hN
  go_wp2_with fail
  refine (lives _).mono ?_; rintro e w4 ⟨rfl, hb2⟩
  clear al1 st1
  have l2 := loadK w2.heap.size y w4 (heap_keep hb2 hN2)
  have l3 := loadK w3.heap.size z w4 (heap_keep hb2 hN3)
  replace L1 := L1.trans (hb2.mono L1.size)
  clear hb2 hN2 hN3
  rcases HG.out with ⟨rfl, rfl, hl⟩ | he | ⟨rfl, he⟩ | ⟨rfl, rfl, hl⟩
  · have q : decide ((300 : Int) < (a.size : Int) + (b.size : Int)) = false := by simp; omega
    have q1 : ¬ ((300 : Int) < (a.size : Int) + (b.size : Int)) := by omega
    obtain ⟨rfl, h3, rfl⟩ : z = y ∧ o3 = o1 ++ o2 ∧ e3 = 0 := by have := HC.out rfl rfl hl; simpa using this
    rw [h3, nb_app, hs1, hs2]
    have hE := eqK z
    have hz : s1.size + s2.size ≤ maxLen := by unfold maxLen; omega
    go_wp2_with fail
    go_ret
    exact ⟨rfl, L1⟩
  · have q : (e1 != 0) = true := by simpa using he
    go_wp2_with fail
    refine (lives _).mono ?_; rintro e w5 ⟨rfl, hb2⟩
    go_wp2_with fail
    go_ret
    exact ⟨rfl, L1.trans (hb2.mono L1.size)⟩
  · have q : (e2 != 0) = true := by simpa using he
    go_wp2_with fail
    refine (lives _).mono ?_; rintro e w5 ⟨rfl, hb2⟩
    go_wp2_with fail
    go_ret
    exact ⟨rfl, L1.trans (hb2.mono L1.size)⟩
  · have q1 : (300 : Int) < (a.size : Int) + (b.size : Int) := by omega
    go_wp2_with fail
    refine (lives _).mono ?_; rintro e w5 ⟨rfl, hb2⟩
    go_wp2_with fail
    go_ret
    exact ⟨rfl, L1.trans (hb2.mono L1.size)⟩
end Go.Proofs.Ytgokbjnpjjdboaa.Slc
