/- ScreenPlain: the law. -/
import Derived.Test.YtjoccdgmcdkbkaaDoorSpB
namespace Go.Proofs.YtjoccdgmcdkbkaaDoor.Pm
open Go.Proofs.YtjoccdgmcdkbkaaDoor.Args
open Go.ChangeShapes Go.WideShapes Go.ChangeAt Go.RowKit
set_option linter.unusedVariables false
set_option linter.unusedSimpArgs false
set_option maxRecDepth 100000
theorem run_ok (W H : Nat) (st : GStops) (l : List UInt8) (hl : Okl l) (h1 : 1 ≤ W ∧ W ≤ 160) (h2 : 1 ≤ H ∧ H ≤ 60) (hlen : l.length < W * H) :
    ∃ (m c : Nat) (b : Bool), f6 (sOf W H st (mkL (W * H) (fun _ => blank P0)) 0 0 false) (actL l) = some (sOf W H st (celL W H l l.length) (m : Int) (c : Int) b, [], 0) ∧ Pos W H l.length m c b := by
  have h9 := size_le W H h1.2 h2.2
  have hal : (actL l).length = l.length := by simp [actL]
  unfold f6
  rw [schk_ok W H st h1 h2, bs, bcf (by rfl)]
  unfold f6_j0
  rw [acts_ok l (by omega), bs, bcf (by rfl)]
  unfold f6_j1
  rw [cloneS W H st _ (mkL_len _ _) h1.2 h2.2, bs]
  have e0 : celL W H l 0 = mkL (W * H) (fun _ => blank P0) := mkL_congr fun j hj => if_neg (by omega)
  obtain ⟨r, hr, m, c, b, rfl, hp⟩ := loopO_ind (body := f6_l3 (sOf W H st (mkL (W * H) (fun _ => blank P0)) 0 0 false) (actL l)) (fun k x => ∃ (i n c : Nat) (b : Bool), x = (tOf W H st (celL W H l i) (n : Int) (c : Int) b, (i : Int)) ∧ Pos W H i n c b ∧ i ≤ l.length ∧ k = l.length - i) (fun r => ∃ (m c : Nat) (b : Bool), r = tOf W H st (celL W H l l.length) (m : Int) (c : Int) b ∧ Pos W H l.length m c b) (by
    rintro k _ ⟨i, n, c, b, rfl, hp, hi, rfl⟩
    unfold f6_l3
    try dsimp only []
    rw [hal]
    by_cases hlt : i < l.length
    · left
      rw [bct (dt (by omega))]
      unfold f6_l3_j4 f6_l3_j5
      rw [ct, actL_at l i hlt, bs]
      obtain ⟨m, c', b', e, hp'⟩ := print_ok W H i n c b st l hl h1 h2 hp hlt hlen
      unfold f16
      try dsimp only []
      rw [bct (by rfl), e, bs, bs, wr1 i (by omega)]
      exact ⟨_, l.length - (i + 1), rfl, by omega, i + 1, m, c', b', rfl, hp', by omega, rfl⟩
    · right
      have : i = l.length := by omega
      subst this
      rw [bcf (df (by omega))]
      unfold f6_l3_j4
      rw [cf]
      exact ⟨_, rfl, n, c, b, rfl, hp⟩) (n := l.length) (x := (Gterminal.mk (sOf W H st (mkL (W * H) (fun _ => blank P0)) 0 0 false) [], 0)) ⟨0, 0, 0, false, by rw [e0]; rfl, ⟨by omega, fun _ => ⟨by omega, by omega⟩, fun q => (by cases q)⟩, by omega, by omega⟩
  rw [hr, bs]
  exact ⟨m, c, b, rfl, hp⟩
/-- A text with another sign is left alone. -/
theorem signs_ok (s : GScreen) (a1 a2 : Int) (l : List UInt8) (hb : l.length ≤ 9600) (hs : s.Past = []) :
    (∃ r, loopO (f3_l8 a1 a2 l) (s, 0) = some (.inr r) ∧ r = true) ∨ (loopO (f3_l8 a1 a2 l) (s, 0) = some (.inl s) ∧ Okl l) := by
  have es : GScreen.mk s.Grid s.Row s.Col s.Late s.Top s.Bottom s.Pen s.Modes s.Stops s.Pages s.Shift s.Saved s.Other s.Title [] = s := by rw [← hs]
  have h := loop_scan (body := f3_l8 a1 a2 l) (fun i => (s, (i : Int))) (.inl s) (.inr true) l.length (fun i => decide (32 ≤ (sg l i).toNat) && decide ((sg l i).toNat ≤ 126)) ?_ ?_ ?_
  · have h' : loopO (f3_l8 a1 a2 l) (s, 0) = _ := h
    by_cases q : ∀ i, i < l.length → (decide (32 ≤ (sg l i).toNat) && decide ((sg l i).toNat ≤ 126)) = true
    · right
      rw [if_pos q] at h'
      exact ⟨h', fun i hi => by simpa using q i hi⟩
    · left
      rw [if_neg q] at h'
      exact ⟨_, h', rfl⟩
  · intro i hi hp
    have hp' : 32 ≤ (sg l i).toNat ∧ (sg l i).toNat ≤ 126 := by simpa using hp
    unfold f3_l8 f3_l8_j9 f3_l8_j10
    try dsimp only []
    rw [bct (dt (by omega)), ct, idx_nat l i 0 hi, bs, bs]
    have e : l.getD i 0 = sg l i := rfl
    rw [e, bcf (df (by omega)), bcf (df (by omega)), wr1 i (by omega), es]
  · intro i hi hp
    have hp' : ¬ (32 ≤ (sg l i).toNat ∧ (sg l i).toNat ≤ 126) := by simpa using hp
    unfold f3_l8 f3_l8_j9 f3_l8_j10
    try dsimp only []
    rw [bct (dt (by omega)), ct, idx_nat l i 0 hi, bs, bs]
    have e : l.getD i 0 = sg l i := rfl
    rw [e]
    by_cases q : (sg l i).toNat < 32
    · rw [bct (dt (by omega))]
    · rw [bcf (df (by omega)), bct (dt (by omega))]
  · unfold f3_l8 f3_l8_j9
    try dsimp only []
    rw [bcf (df (by omega)), cf, es]
theorem seen_ok (W H : Nat) (st : GStops) (l : List UInt8) (r c : Int) (b : Bool) (h1 : 1 ≤ W ∧ W ≤ 160) (h2 : 1 ≤ H ∧ H ≤ 60) (hlen : l.length < W * H) :
    loopO (f3_l5 (W : Int) (H : Int) l) (sOf W H st (celL W H l l.length) r c b, ((W * H : Nat) : Int), 0) = some (.inl (sOf W H st (celL W H l l.length) r c b)) := by
  have h9 := size_le W H h1.2 h2.2
  have h := loop_to (body := f3_l5 (W : Int) (H : Int) l) (fun i => (sOf W H st (celL W H l l.length) r c b, ((W * H : Nat) : Int), (i : Int))) (.inl (sOf W H st (celL W H l l.length) r c b)) (W * H) ?_ 0 (by omega) ?_
  · exact h
  · unfold f3_l5 f3_l5_j6
    try dsimp only []
    rw [bcf (df (by omega)), cf]
  · intro i _ hi
    unfold f3_l5 f3_l5_j6 f3_l5_j7
    try dsimp only []
    have e0 : (sOf W H st (celL W H l l.length) r c b).Grid.Cells = celL W H l l.length := rfl
    rw [bct (dt (by omega)), ct, e0, celL_len, inR_nat i _ hi, bs, cx_get _ _ (by rw [celL_len]; exact hi), bs, celL_cx _ _ _ _ _ hi]
    rw [show f8 (GPen.mk 0 0 0) = some (blank P0) from rfl, bs, wr1 i (by omega)]
    by_cases q : i < l.length
    · have ec : cel l l.length i = ⟨((sg l i).toNat : Int), P0⟩ := if_pos q
      rw [bct (dt (by omega)), idx_nat l i 0 q, bs, ec]
      show (bif !(decide (((sg l i).toNat : Int) = ((sg l i).toNat : Int)) && _) then _ else _) = _
      rw [dt rfl]; rfl
    · have ec : cel l l.length i = blank P0 := if_neg q
      rw [bcf (df (by omega)), ec]; rfl
theorem screenPlain (w h : Int) (l : List UInt8) (hb : l.length ≤ 1048576) : f3 w h l = some true := by
  have lv : libLives = some true := rfl
  unfold f3
  by_cases hs : 1 ≤ w ∧ w ≤ 160 ∧ 1 ≤ h ∧ h ≤ 60
  case neg =>
    obtain ⟨s, e⟩ := snew_bad w h hs
    rw [e, bs, lv, bs, bcf (by rfl), bct (by rfl), bs]
  obtain ⟨W, rfl⟩ := Int.eq_ofNat_of_zero_le (show 0 ≤ w by omega)
  obtain ⟨H, rfl⟩ := Int.eq_ofNat_of_zero_le (show 0 ≤ h by omega)
  have h1 : 1 ≤ W ∧ W ≤ 160 := by omega
  have h2 : 1 ≤ H ∧ H ≤ 60 := by omega
  have h9 := size_le W H h1.2 h2.2
  obtain ⟨st, e⟩ := snew_ok W H h1 h2
  rw [e, bs, lv, bs, bcf (by rfl), bcf (by rfl), wrW2 W H h1.2 h2.2]
  by_cases hlen : l.length < W * H
  case neg => rw [bct (dt (by omega)), bs]
  rw [bcf (df (by omega))]
  unfold f3_j0
  have e1 : ({ sOf W H st (mkL (W * H) (fun _ => blank P0)) 0 0 false with Past := [] } : GScreen) = sOf W H st (mkL (W * H) (fun _ => blank P0)) 0 0 false := rfl
  rw [e1]
  rcases signs_ok (sOf W H st (mkL (W * H) (fun _ => blank P0)) 0 0 false) (W : Int) (H : Int) l (by omega) rfl with ⟨r, e2, rfl⟩ | ⟨e2, hl⟩
  · rw [e2, bs, Sum.elim_inr]
  rw [e2, bs, Sum.elim_inl]
  unfold f3_j1
  rw [printed_ok l hl (by omega), bs]
  obtain ⟨m, c, b, e3, hp⟩ := run_ok W H st l hl h1 h2 hlen
  have e3' : f6 (GScreen.mk (sOf W H st (mkL (W * H) (fun _ => blank P0)) 0 0 false).Grid (sOf W H st (mkL (W * H) (fun _ => blank P0)) 0 0 false).Row (sOf W H st (mkL (W * H) (fun _ => blank P0)) 0 0 false).Col (sOf W H st (mkL (W * H) (fun _ => blank P0)) 0 0 false).Late (sOf W H st (mkL (W * H) (fun _ => blank P0)) 0 0 false).Top (sOf W H st (mkL (W * H) (fun _ => blank P0)) 0 0 false).Bottom (sOf W H st (mkL (W * H) (fun _ => blank P0)) 0 0 false).Pen (sOf W H st (mkL (W * H) (fun _ => blank P0)) 0 0 false).Modes (sOf W H st (mkL (W * H) (fun _ => blank P0)) 0 0 false).Stops (sOf W H st (mkL (W * H) (fun _ => blank P0)) 0 0 false).Pages (sOf W H st (mkL (W * H) (fun _ => blank P0)) 0 0 false).Shift (sOf W H st (mkL (W * H) (fun _ => blank P0)) 0 0 false).Saved (sOf W H st (mkL (W * H) (fun _ => blank P0)) 0 0 false).Other (sOf W H st (mkL (W * H) (fun _ => blank P0)) 0 0 false).Title []) (actL l) = _ := e3
  have e0 : (sOf W H st (celL W H l l.length) (m : Int) (c : Int) b).Grid.Cells = celL W H l l.length := rfl
  try dsimp only []
  rw [e3', bs, bcf (by rfl), bcf (by rfl), e0, celL_len, wrW2 W H h1.2 h2.2, bcf (by rw [dt rfl]; rfl)]
  unfold f3_j2
  rw [e0, celL_len, seen_ok W H st l _ _ _ h1 h2 hlen, bs, Sum.elim_inl]
  unfold f3_j3
  have er : (sOf W H st (celL W H l l.length) (m : Int) (c : Int) b).Row = (m : Int) := rfl
  have ek : (sOf W H st (celL W H l l.length) (m : Int) (c : Int) b).Col = (c : Int) := rfl
  have el : (sOf W H st (celL W H l l.length) (m : Int) (c : Int) b).Late = b := rfl
  have ep : (sOf W H st (celL W H l l.length) (m : Int) (c : Int) b).Past = [] := rfl
  have hm := Nat.mul_le_mul_right W (show m ≤ 60 by have := hp.h; omega)
  rw [er, ek, el, wrW W H m h1.2 h2.2 (by have := hp.h; omega)]
  cases b with
  | false =>
    obtain ⟨q1, q2⟩ := hp.f rfl
    unfold f3_j4
    rw [cf, i64w _ (by omega), bct (dt (by omega)), ep]; rfl
  | true =>
    obtain ⟨q1, q2⟩ := hp.t rfl
    unfold f3_j4
    rw [ct, i64w (((m * W : Nat) : Int) + (c : Int)) (by omega), i64w _ (by omega), bct (dt (by omega)), ep]; rfl
theorem ScreenPlain_walk (v0 v1 v2 : Value) (w : World) (h0 : Arg (some 1048576) Go.Proofs.Tryd.prog w 3 v0) (h1 : Arg (some 1048576) Go.Proofs.Tryd.prog w 3 v1) (h2 : Arg (some 1048576) Go.Proofs.Tryd.prog w 9 v2) : Calls Go.Proofs.Tryd.prog 3 #[v0, v1, v2] w fun e w' => e = .returned (.bool true) ∧ Below w.heap.size w w' :=
  ScreenPlain_calls (some 1048576) (fun a1 a2 l _ _ hv => screenPlain a1 a2 l (by have := hv; simp [FitN] at this; omega)) v0 v1 v2 w h0 h1 h2
end Go.Proofs.YtjoccdgmcdkbkaaDoor.Pm
