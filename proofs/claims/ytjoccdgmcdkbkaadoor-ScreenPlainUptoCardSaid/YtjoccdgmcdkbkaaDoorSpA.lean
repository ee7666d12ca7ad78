/- ScreenPlain: a text of signs, printed on a new screen. -/
import Derived.Test.YtjoccdgmcdkbkaaDoorSpG
import Derived.Laws.RangeString
namespace Go.Proofs.YtjoccdgmcdkbkaaDoor.Pm
open Go.Proofs.YtjoccdgmcdkbkaaDoor.Args
open Go.ChangeShapes Go.WideShapes Go.ChangeAt Go.RowKit
set_option linter.unusedVariables false
set_option linter.unusedSimpArgs false
set_option maxRecDepth 100000
/-- A sign of the text. -/
def sg (l : List UInt8) (i : Nat) : UInt8 := l.getD i 0
/-- The cells after k signs. -/
def cel (l : List UInt8) (k j : Nat) : GCell := if j < k then ⟨((sg l j).toNat : Int), P0⟩ else blank P0
def celL (W H : Nat) (l : List UInt8) (k : Nat) : List GCell := mkL (W * H) (cel l k)
def sOf (W H : Nat) (st : GStops) (g : List GCell) (r c : Int) (late : Bool) : GScreen :=
  ⟨⟨W, H, g⟩, r, c, late, 0, H, ⟨0, 0, 0⟩, 12, st, (1, 1), 0, ⟨0, 0, ⟨0, 0, 0⟩, false, (1, 1), 0⟩, ⟨W, H, mkL (W * H) (fun _ => blank P0)⟩, [], []⟩
def Okl (l : List UInt8) : Prop := ∀ i, i < l.length → 32 ≤ (sg l i).toNat ∧ (sg l i).toNat ≤ 126
theorem wd_sg {a : Int} (h1 : 32 ≤ a) (h2 : a ≤ 126) : wd a = 1 := (wd_1 a 32 126 (by decide) h1 h2 (by decide) (by decide)).symm
theorem cel_ok (l : List UInt8) (hl : Okl l) (k j : Nat) (hk : k ≤ l.length) : (cel l k j).Rune ≠ 0 ∧ wd (cel l k j).Rune = 1 := by
  unfold cel
  split
  · have := hl j (by omega)
    exact ⟨by show ((sg l j).toNat : Int) ≠ 0; omega, wd_sg (by show (32 : Int) ≤ ((sg l j).toNat : Int); omega) (by show ((sg l j).toNat : Int) ≤ 126; omega)⟩
  · exact ⟨by decide, wd32⟩
theorem usual_ok : ∃ st, f11 = some st := by
  unfold f11
  obtain ⟨r, hr, _⟩ := loopO_ind (body := f11_l0) (fun k x => ∃ i : Nat, x.2 = 8 * ((i : Int) + 1) ∧ i ≤ 31 ∧ k = 31 - i) (fun _ => True) (by
    rintro k ⟨s, _⟩ ⟨i, rfl, hi, rfl⟩
    unfold f11_l0
    try dsimp only []
    by_cases hlt : i < 31
    · left
      rw [bct (dt (by omega))]
      unfold f11_l0_j1
      have e : (8 * ((i : Int) + 1)) = ((8 * (i + 1) : Nat) : Int) := by omega
      have e2 : Int.tdiv ((8 * (i + 1) : Nat) : Int) 64 = ((8 * (i + 1) / 64 : Nat) : Int) := by
        rw [show (64 : Int) = ((64 : Nat) : Int) from rfl]; exact (Int.ofNat_tdiv _ _).symm
      have e3 : 0 ≤ Int.tmod ((8 * (i + 1) : Nat) : Int) 64 := Int.tmod_nonneg _ (by omega)
      rw [e, e2, i64w _ (by omega), inR_nat _ 4 (by omega), bs, chk_ok (dt e3), bs, bs, i64w _ (by omega)]
      exact ⟨_, 31 - (i + 1), rfl, by omega, i + 1, by show ((8 * (i + 1) : Nat) : Int) + 8 = 8 * (((i + 1 : Nat) : Int) + 1); omega, by omega, rfl⟩
    · right
      rw [bcf (df (by omega))]
      exact ⟨_, rfl, trivial⟩) (n := 31) (x := (GStops.mk (fun _ => 0), 8)) ⟨0, by rfl, by omega, by omega⟩
  rw [hr, bs]
  exact ⟨_, rfl⟩
theorem cloneG (W H : Nat) (g : List GCell) (h : g.length ≤ 100000) : f10 ⟨(W : Int), (H : Int), g⟩ = some ⟨(W : Int), (H : Int), g⟩ := by
  unfold f10
  rw [cloneR _ h, bs]
theorem blanksG (W H : Nat) (p : GPen) (h1 : 1 ≤ W ∧ W ≤ 160) (h2 : 1 ≤ H ∧ H ≤ 60) : f19 (W : Int) (H : Int) p = some ⟨(W : Int), (H : Int), mkL (W * H) (fun _ => blank p)⟩ := by
  have h9 := size_le W H h1.2 h2.2
  have h3 := Nat.mul_le_mul h1.1 h2.1
  unfold f19
  rw [show f35 p = some (blank p) from rfl, bs, wrW2 W H h1.2 h2.2, repeat_ok (blank p) (W * H) (by omega) (by omega), bs, rep_mkL]
theorem newG (W H : Nat) (h1 : 1 ≤ W ∧ W ≤ 160) (h2 : 1 ≤ H ∧ H ≤ 60) : f9 (W : Int) (H : Int) (GPen.mk 0 0 0) = some (⟨(W : Int), (H : Int), mkL (W * H) (fun _ => blank P0)⟩, 0) := by
  unfold f9 f9_j0
  rw [size_ok, bs, pen_ok, bs, if_pos (by omega), bcf (by rfl), bcf (by rfl), blanksG W H _ h1 h2, bs]; rfl
theorem blk_rt (W H : Nat) : Rt W H (mkL (W * H) (fun _ => blank P0)) := fun n hn i hi =>
  blank_row P0 (by decide) W i _ (mkL_cx _ _ _ (mul_lt n H W i hn hi))
theorem snew_ok (W H : Nat) (h1 : 1 ≤ W ∧ W ≤ 160) (h2 : 1 ≤ H ∧ H ≤ 60) : ∃ st, f4 (W : Int) (H : Int) = some (sOf W H st (mkL (W * H) (fun _ => blank P0)) 0 0 false, 0) := by
  obtain ⟨st, hst⟩ := usual_ok
  have h9 := size_le W H h1.2 h2.2
  refine ⟨st, ?_⟩
  unfold f4
  rw [newG W H h1 h2, bs, bcf (by rfl)]
  unfold f4_j0
  rw [cloneG W H _ (by rw [mkL_len]; omega), bs, hst, bs]; rfl
theorem snew_bad (w h : Int) (hs : ¬ (1 ≤ w ∧ w ≤ 160 ∧ 1 ≤ h ∧ h ≤ 60)) : ∃ s, f4 w h = some (s, 1) := by
  unfold f4 f9
  rw [size_ok, bs, if_neg hs, bct (by rfl), bs, bct (by rfl)]
  exact ⟨_, rfl⟩
/-- A new screen is right. -/
theorem schk (s : GScreen) (W H : Nat) (h1 : 1 ≤ W ∧ W ≤ 160) (h2 : 1 ≤ H ∧ H ≤ 60) (g : gcode s.Grid = 0) (o : gcode s.Other = 0) (gw : s.Grid.Wide = W) (gh : s.Grid.High = H) (ow : s.Other.Wide = W) (oh : s.Other.High = H) (row : s.Row = 0) (col : s.Col = 0) (late : s.Late = false) (top : s.Top = 0) (bot : s.Bottom = H)
    (pn : pcB s.Pen = true) (sp : pcB s.Saved.Pen = true) (md : s.Modes = 12) (p1 : s.Pages.1 = 1) (p2 : s.Pages.2 = 1) (q1 : s.Saved.Pages.1 = 1) (q2 : s.Saved.Pages.2 = 1) (sh : s.Shift = 0) (ssh : s.Saved.Shift = 0) (sr : s.Saved.Row = 0) (sc : s.Saved.Col = 0) (ti : s.Title = []) (pa : s.Past = []) : f13 s = some 0 := by
  have pl : f24 [] = some true := by
    rw [past_ok [] (by simp)]
    rw [dt ⟨fun i hi => by simp at hi, by simp⟩]
  have wi : ∀ a lo hi : Int, lo ≤ a → a ≤ hi → f22 a lo hi = some true := fun a lo hi x y => by rw [within_ok, dt x, dt y]; rfl
  have kn : f23 1 = some true := by rw [known_ok]; rfl
  unfold f13 
  rw [check_ok, bs, bct (dt g), check_ok, bs, bct (dt o), bct (dt (gw.trans ow.symm)), bct (dt (gh.trans oh.symm))]
  unfold f13_j0
  rw [ct, gh, gw, i64w ((H : Int) - 1) (by omega), i64w ((W : Int) - 1) (by omega), row, wi _ _ _ (by omega) (by omega), bs, ct, col, wi _ _ _ (by omega) (by omega), bs, ct, late, Bool.not_false, ct]
  unfold f13_j1
  rw [ct, top, bot, i64w ((H : Int) - 1) (by omega), wi _ _ _ (by omega) (by omega), bs, ct, gh, bct (dt (by omega))]
  unfold f13_j2
  rw [ct, pen_ok, bs, pen0, pn, ct, pen_ok, bs, pen0, sp, ct, md, wi _ _ _ (by omega) (by omega), bs]
  unfold f13_j3 f13_j7
  rw [ct, p1, kn, bs, ct, q1, kn, bs]
  unfold f13_j8
  rw [ct, p2, kn, bs, ct, q2, kn, bs]
  unfold f13_j4
  rw [ct, sh, wi _ _ _ (by omega) (by omega), bs, ct, ssh, wi _ _ _ (by omega) (by omega), bs]
  unfold f13_j5
  rw [ct, sr, wi _ _ _ (by omega) (by omega), bs, ct, sc, wi _ _ _ (by omega) (by omega), bs]
  unfold f13_j6
  rw [ct, ti, bct (dt (by simp)), pa, pl, bs]; rfl
theorem schk_ok (W H : Nat) (st : GStops) (h1 : 1 ≤ W ∧ W ≤ 160) (h2 : 1 ≤ H ∧ H ≤ 60) : f13 (sOf W H st (mkL (W * H) (fun _ => blank P0)) 0 0 false) = some 0 := by
  have g : gcode ⟨(W : Int), (H : Int), mkL (W * H) (fun _ => blank P0)⟩ = 0 := gcode_ok W H _ h1 h2 (mkL_len _ _) (blk_rt W H)
  exact schk _ W H h1 h2 g g rfl rfl rfl rfl rfl rfl rfl rfl rfl (by decide : pcB ⟨0, 0, 0⟩ = true) (by decide : pcB ⟨0, 0, 0⟩ = true) rfl rfl rfl rfl rfl rfl rfl rfl rfl rfl rfl
/-- A copy of a screen without past. -/
theorem cloneS (W H : Nat) (st : GStops) (g : List GCell) (hg : g.length = W * H) (hW : W ≤ 160) (hH : H ≤ 60) : f14 (sOf W H st g 0 0 false) = some (sOf W H st g 0 0 false) := by
  have h9 := size_le W H hW hH
  unfold f14
  have e1 : f10 (sOf W H st g 0 0 false).Grid = some (sOf W H st g 0 0 false).Grid := cloneG W H g (by omega)
  have e2 : f10 (sOf W H st g 0 0 false).Other = some (sOf W H st g 0 0 false).Other := cloneG W H _ (by rw [mkL_len]; omega)
  rw [e1, bs, e2, bs]
  have hl : loopO (f14_l0 (sOf W H st g 0 0 false)) (sOf W H st g 0 0 false, [], 0) = some (sOf W H st g 0 0 false, []) := loopO_done (by
    unfold f14_l0 f14_l0_j1
    try dsimp only []
    rw [bcf (df (by show ¬ (0 : Int) < (([] : List GLine).length : Int); simp)), cf])
  have hl' : loopO (f14_l0 (sOf W H st g 0 0 false)) ({ sOf W H st g 0 0 false with Grid := (sOf W H st g 0 0 false).Grid, Other := (sOf W H st g 0 0 false).Other }, [], 0) = _ := hl
  rw [hl', bs]; rfl
/-- The acts of a text. -/
def actL (l : List UInt8) : List GAct := l.map fun b => ⟨1, (b.toNat : Int), 0, [], [], []⟩
theorem dec_at (l : List UInt8) (i : Nat) (h : i < l.length) (ha : (sg l i).toNat < 128) : Utf8.decode ⟨l.toArray⟩ i = ((sg l i).toNat, 1) := by
  have e : sg l i = l[i] := by unfold sg; simp [h]
  rw [e] at ha ⊢
  exact decode_ascii ⟨l.toArray⟩ i h ha
theorem printed_ok (l : List UInt8) (hl : Okl l) (hb : l.length ≤ 9600) : f7 l = some (actL l) := by
  unfold f7
  have h := loop_to (body := f7_l0 l) (fun i => (actL (l.take i), (i : Int))) (actL l) l.length ?_ 0 (by omega) ?_
  · have h' : loopO (f7_l0 l) ([], 0) = some (actL l) := h
    rw [h', bs]
  · unfold f7_l0
    try dsimp only []
    rw [chk_ok (dt (by omega)), bs, bcf (df (by omega)), List.take_length]
  · intro i _ hi
    have hs := hl i hi
    unfold f7_l0 f7_l0_j1
    try dsimp only []
    rw [chk_ok (dt (by omega)), bs, bct (dt (by omega)), Int.toNat_natCast, dec_at l i hi (by omega)]
    try dsimp only []
    rw [app_ok 80 _ _ (by simp [actL]; omega), bs, i64w _ (by omega)]
    have e : actL (l.take i) ++ [GAct.mk 1 ((sg l i).toNat : Int) 0 [] [] []] = actL (l.take (i + 1)) := by
      unfold actL
      rw [List.take_add_one]
      have : l[i]? = some (sg l i) := by unfold sg; simp [hi]
      rw [this, List.map_append]; rfl
    rw [e]
theorem actL_at (l : List UInt8) (i : Nat) (hi : i < l.length) : idx (actL l) (i : Int) = some ⟨1, ((sg l i).toNat : Int), 0, [], [], []⟩ := by
  rw [idx_nat (actL l) i ⟨0, 0, 0, [], [], []⟩ (by simp [actL]; exact hi)]
  unfold actL sg
  simp [hi]
theorem acts_ok (l : List UInt8) (hb : l.length ≤ 9600) : f15 (actL l) = some 0 := by
  have he : f25 [] = some false := by
    unfold f25 f39
    rw [loopO_done (r := .inl ()) (by
      unfold f39_l0 f39_l0_j1
      rw [bcf (df (by simp)), cf]), bs]
    rfl
  have hlen : (actL l).length = l.length := by simp [actL]
  unfold f15
  have h := loop_to (body := f15_l0 (actL l)) (fun i => (i : Int)) (.inl ()) l.length ?_ 0 (by omega) ?_
  · have h' : loopO (f15_l0 (actL l)) 0 = some (.inl ()) := h
    rw [h', bs]; rfl
  · unfold f15_l0 f15_l0_j1
    rw [hlen, bcf (df (by omega)), cf]
  · intro i _ hi
    unfold f15_l0 f15_l0_j1 f15_l0_j2
    rw [hlen, bct (dt (by omega)), ct, actL_at l i hi, bs]
    try dsimp only []
    rw [bcf (df (by simp)), bcf (df (by simp)), he, bs, cf, wr1 i (by omega)]
end Go.Proofs.YtjoccdgmcdkbkaaDoor.Pm
