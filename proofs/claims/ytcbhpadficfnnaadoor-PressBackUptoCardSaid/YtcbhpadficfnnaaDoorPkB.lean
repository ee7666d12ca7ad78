/- PressBack: what is sent is read as it was; the law. -/
import Derived.Test.YtcbhpadficfnnaaDoorPkA
import Derived.Test.YtcbhpadficfnnaaDoorRows
import Derived.Lib.LaidTab
import Derived.MakeChecks
import Derived.LaidSub
import Derived.Stop.LaidErr
namespace Go.Proofs.YtcbhpadficfnnaaDoor.Pm
open Go.Proofs.YtcbhpadficfnnaaDoor.Args
open Go.ChangeShapes Go.WideShapes Go.ChangeAt Go.RowKit
set_option linter.unusedVariables false
set_option linter.unusedSimpArgs false
set_option maxRecDepth 100000
theorem num_tab : ((List.range 1002).all fun n => decide (Lib.atoiAll (Lib.itoa (n : Int)) = .ok (n : Int)) && ((Lib.itoa (n : Int)).all (fun b => decide (48 ≤ b.toNat) && decide (b.toNat ≤ 57)) && !decide (Lib.itoa (n : Int) = []))) = true := by kernel_rfl
theorem num_ok (n : Int) (h : 0 ≤ n ∧ n ≤ 1001) : Lib.atoiAll (Lib.itoa n) = .ok n ∧ (∀ b ∈ Lib.itoa n, 48 ≤ b.toNat ∧ b.toNat ≤ 57) ∧ Lib.itoa n ≠ [] := by
  obtain ⟨k, rfl⟩ := Int.eq_ofNat_of_zero_le h.1
  have := List.all_eq_true.1 num_tab k (List.mem_range.2 (by omega))
  rw [Bool.and_eq_true, Bool.and_eq_true] at this
  obtain ⟨a, b, c⟩ := this
  exact ⟨of_decide_eq_true a, fun x hx => by simpa using List.all_eq_true.1 b x hx, by simpa using c⟩
theorem trim_ok (Y Z : List UInt8) (e : UInt8) (he : e = 109 ∨ e = 77) (h0 : Z ≠ []) (hz : ∀ b ∈ Z, 48 ≤ b.toNat ∧ b.toNat ≤ 57) : Lib.trimRightS (Y ++ Z ++ [e]) [109, 77] = Y ++ Z := by
  rcases List.eq_nil_or_concat Z with h | ⟨q, d, rfl⟩
  · exact absurd h h0
  have hd := hz d (by simp)
  have p1 : ([109, 77] : List UInt8).contains e = true := by rcases he with rfl | rfl <;> decide
  have p2 : ¬ ([109, 77] : List UInt8).contains d = true := by
    intro q
    simp at q
    rcases q with rfl | rfl
    · exact absurd hd.2 (by decide)
    · exact absurd hd.2 (by decide)
  unfold Lib.trimRightS
  have er : (Y ++ q.concat d ++ [e]).reverse = e :: d :: (q.reverse ++ Y.reverse) := by simp
  rw [er, List.dropWhile_cons_of_pos p1, List.dropWhile_cons_of_neg p2]
  simp
theorem bits_tab : ∀ b ∈ ([0, 1, 2, 64, 65] : List Int), ∀ k : Fin 8, bitI .andNot .i64 (b + 4 * (k.val : Int)) 28 = b ∧ bitI .and .i64 (Int.fdiv (b + 4 * (k.val : Int)) (2 ^ 2)) 7 = (k.val : Int) := by decide
theorem step_ok (s : List UInt8) (p : Nat → Int) (ps : List (List UInt8)) (i : Nat) (w : List UInt8) (v : Int) (hi : i < 3) (hx : idx ps (i : Int) = some w) (hw : libAtoi w = some (v, false)) : f5_l2 s (p, ps, 3, (i : Int)) = some (.inl (upd p i v, ps, 3, ((i + 1 : Nat) : Int))) := by
  have hi3 : inR (i : Int) 3 = some i := by unfold inR; rw [if_pos (by omega)]; simp
  have hw1 : IntKind.i64.wrap ((i : Int) + 1) = ((i + 1 : Nat) : Int) := by rw [i64w _ (by omega)]; omega
  unfold f5_l2 f5_l2_j3 f5_l2_j4
  try dsimp only []
  rw [bct (dt (by omega)), ct, hx, bs, hw, bs, hi3, bs, cf, hw1]
theorem end_ok (s : List UInt8) (p : Nat → Int) (ps : List (List UInt8)) : f5_l2 s (p, ps, 3, ((3 : Nat) : Int)) = some (.inr (.inl p)) := by
  unfold f5_l2 f5_l2_j3
  try dsimp only []
  rw [bcf (df (by omega)), cf]
theorem atoi_n (n : Int) (h : 0 ≤ n ∧ n ≤ 1001) : libAtoi (Lib.itoa n) = some (n, false) := by
  have hl := (itoaL n (by omega)).2
  unfold libAtoi
  rw [if_pos (by omega), (num_ok n h).1]
theorem suf_ok (X : List UInt8) (m : GMouse) : Lib.hasSuffix (X ++ [endB m]) [109] = m.Up := by
  unfold Lib.hasSuffix endB
  cases m.Up with
  | true => simp [List.isSuffixOf]
  | false =>
    simp [List.isSuffixOf]
    rfl
theorem read_back (m : GMouse) (h : MOk m) : f5 (mstr m) = some (m, 0) := by
  have hb0 : 0 ≤ m.Button ∧ m.Button ≤ 65 := by have := h.b; omega
  have hc := h.c
  have hr := h.r
  have hm := h.m
  obtain ⟨b1, b2, b3⟩ := num_ok (m.Button + 4 * m.Mods) (by omega)
  obtain ⟨c1, c2, c3⟩ := num_ok (m.Col + 1) (by omega)
  obtain ⟨r1, r2, r3⟩ := num_ok (m.Row + 1) (by omega)
  have lb := (itoaL (m.Button + 4 * m.Mods) (by omega)).2
  have lc := (itoaL (m.Col + 1) (by omega)).2
  have lr := (itoaL (m.Row + 1) (by omega)).2
  have ab := atoi_n (m.Button + 4 * m.Mods) (by omega)
  have ac := atoi_n (m.Col + 1) (by omega)
  have ar := atoi_n (m.Row + 1) (by omega)
  have hs : Lib.hasSuffix (mstr m) [109] = m.Up := suf_ok _ m
  have hl : (mstr m).length ≤ 100 := by unfold mstr; simp; omega
  have hmo : f4 m 1536 = some (mstr m, 0) := by
    rcases mouse_ok m with ⟨_, q⟩ | ⟨_, q⟩
    · exact absurd h q
    · exact q
  obtain ⟨R, hR⟩ : ∃ R, R = Lib.itoa (m.Button + 4 * m.Mods) ++ [59] ++ Lib.itoa (m.Col + 1) ++ [59] ++ Lib.itoa (m.Row + 1) := ⟨_, rfl⟩
  have hRl : R.length ≤ 100 := by rw [hR]; simp; omega
  have t1 : libTrimRightS (mstr m) [109, 77] = some ([27, 91, 60] ++ R) := by
    unfold libTrimRightS
    rw [if_pos ⟨by omega, by simp, by decide⟩]
    have := trim_ok ([27, 91, 60] ++ Lib.itoa (m.Button + 4 * m.Mods) ++ [59] ++ Lib.itoa (m.Col + 1) ++ [59]) (Lib.itoa (m.Row + 1)) (endB m) (by unfold endB; split <;> simp) r3 r2
    rw [hR]
    refine congrArg some (this.trans ?_)
    simp
  have t2 : f9 ([27, 91, 60] ++ R) [27, 91, 60] = some R := by
    unfold f9 f16 f32
    have e1 : sub? ([27, 91, 60] ++ R) 0 ((([27, 91, 60] : List UInt8).length : Int)) = some ((([27, 91, 60] ++ R).take 3).drop 0) := sub_nat _ 0 3 (by omega) (by simp)
    have e2 : sub? ([27, 91, 60] ++ R) ((([27, 91, 60] : List UInt8).length : Int)) ((([27, 91, 60] ++ R).length : Nat) : Int) = some ((([27, 91, 60] ++ R).take ([27, 91, 60] ++ R).length).drop 3) := sub_nat _ 3 _ (by simp) (Nat.le_refl _)
    rw [bct (dt (by simp; omega)), e1, bs, bct (dt (by simp)), bs, ct, e2, bs, bs, List.take_length]
    simp
  have t3 : splitC 59 R = [Lib.itoa (m.Button + 4 * m.Mods), Lib.itoa (m.Col + 1), Lib.itoa (m.Row + 1)] := by
    have no : ∀ l : List UInt8, (∀ b ∈ l, 48 ≤ b.toNat ∧ b.toNat ≤ 57) → ∀ b ∈ l, b ≠ 59 := fun l hl b hb q => by
      have := hl b hb; subst q; exact absurd this.2 (by decide)
    have e : R = Lib.itoa (m.Button + 4 * m.Mods) ++ 59 :: (Lib.itoa (m.Col + 1) ++ 59 :: Lib.itoa (m.Row + 1)) := by rw [hR]; simp
    rw [e, splitC_app, splitC_app, splitC_one 59 _ (no _ b2), splitC_one 59 _ (no _ c2), splitC_one 59 _ (no _ r2)]
    rfl
  unfold f5
  rw [t1, bs, t2, bs, split_ok R 59 (by omega), bs, t3, bcf (by rfl)]
  unfold f5_j0
  have hlp : loopO (f5_l2 (mstr m)) ((fun _ => 0), [Lib.itoa (m.Button + 4 * m.Mods), Lib.itoa (m.Col + 1), Lib.itoa (m.Row + 1)], 3, 0) = some (.inl (upd (upd (upd (fun _ => 0) 0 (m.Button + 4 * m.Mods)) 1 (m.Col + 1)) 2 (m.Row + 1))) := by
    have s0 := step_ok (mstr m) (fun _ => 0) [Lib.itoa (m.Button + 4 * m.Mods), Lib.itoa (m.Col + 1), Lib.itoa (m.Row + 1)] 0 _ _ (by omega) rfl ab
    have s1 := step_ok (mstr m) (upd (fun _ => 0) 0 (m.Button + 4 * m.Mods)) [Lib.itoa (m.Button + 4 * m.Mods), Lib.itoa (m.Col + 1), Lib.itoa (m.Row + 1)] 1 _ _ (by omega) rfl ac
    have s2 := step_ok (mstr m) (upd (upd (fun _ => 0) 0 (m.Button + 4 * m.Mods)) 1 (m.Col + 1)) [Lib.itoa (m.Button + 4 * m.Mods), Lib.itoa (m.Col + 1), Lib.itoa (m.Row + 1)] 2 _ _ (by omega) rfl ar
    exact loopO_next s0 (loopO_next s1 (loopO_next s2 (loopO_done (end_ok _ _ _))))
  have hlp' : loopO (f5_l2 (mstr m)) ((fun _ => 0), [Lib.itoa (m.Button + 4 * m.Mods), Lib.itoa (m.Col + 1), Lib.itoa (m.Row + 1)], (([Lib.itoa (m.Button + 4 * m.Mods), Lib.itoa (m.Col + 1), Lib.itoa (m.Row + 1)].length : Nat) : Int), 0) = _ := hlp
  rw [hlp', bs, Sum.elim_inl]
  unfold f5_j1
  rw [suf_tot _ (by omega), bs, hs]
  have p0 : upd (upd (upd (fun _ => (0 : Int)) 0 (m.Button + 4 * m.Mods)) 1 (m.Col + 1)) 2 (m.Row + 1) 0 = m.Button + 4 * m.Mods := rfl
  have p1 : upd (upd (upd (fun _ => (0 : Int)) 0 (m.Button + 4 * m.Mods)) 1 (m.Col + 1)) 2 (m.Row + 1) 1 = m.Col + 1 := rfl
  have p2 : upd (upd (upd (fun _ => (0 : Int)) 0 (m.Button + 4 * m.Mods)) 1 (m.Col + 1)) 2 (m.Row + 1) 2 = m.Row + 1 := rfl
  rw [p0, p1, p2, i64w (m.Col + 1 - 1) (by omega), i64w (m.Row + 1 - 1) (by omega)]
  obtain ⟨k, hk⟩ := Int.eq_ofNat_of_zero_le hm.1
  have hmem : m.Button ∈ ([0, 1, 2, 64, 65] : List Int) := by
    have := h.b
    simp only [List.mem_cons, List.not_mem_nil, or_false]
    omega
  have hbit := bits_tab m.Button hmem ⟨k, by omega⟩
  dsimp only at hbit
  rw [hk, hbit.1, hbit.2, show m.Col + 1 - 1 = m.Col by omega, show m.Row + 1 - 1 = m.Row by omega, ← hk]
  have em : GMouse.mk m.Button m.Col m.Row m.Mods m.Up = m := rfl
  rw [em, hmo, bs, bcf (by rfl)]
  try dsimp only []
  rw [dt rfl, Bool.not_true, cf]
theorem lives : f6 = some true := by kernel_rfl
theorem pressBack (m : GMouse) (s : List UInt8) (hl : s.length ≤ 100000000) : f3 m s = some true := by
  have j0 : f3_j0 m s = some true := by
    unfold f3_j0
    rcases read_tot s hl with e | ⟨x, e, hx, hs⟩
    · rw [e, bs]
      rcases mouse_ok Z0 with ⟨q, _⟩ | ⟨_, q⟩
      · have q' : f4 (Z0, (4 : Int)).1 1536 = _ := q
        rw [q', bs, lives, bs, ct]; rfl
      · have q' : f4 (Z0, (4 : Int)).1 1536 = _ := q
        rw [q', bs, lives, bs, ct]; rfl
    · rw [e, bs]
      rcases mouse_ok x with ⟨_, q⟩ | ⟨_, q⟩
      · exact absurd hx q
      · have q' : f4 (x, (0 : Int)).1 1536 = _ := q
        rw [q', bs, lives, bs, ct, bcf (by rfl), bct (by rfl), bct (by rfl), bct (dt hs)]
  unfold f3
  rcases mouse_ok m with ⟨e, _⟩ | ⟨hm, e⟩
  · rw [e, bs, bcf (by rfl)]; exact j0
  · rw [e, bs, bct (by rfl)]
    have hb := read_back m hm
    have hb' : f5 (mstr m, (0 : Int)).1 = _ := hb
    rw [hb', bs, bcf (by rfl)]
    try dsimp only []
    rw [dt rfl, dt rfl, dt rfl, dt rfl, dt rfl]
    exact j0
end Go.Proofs.YtcbhpadficfnnaaDoor.Pm
