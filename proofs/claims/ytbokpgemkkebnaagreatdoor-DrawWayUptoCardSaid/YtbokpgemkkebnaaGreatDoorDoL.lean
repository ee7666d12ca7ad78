/- Draw: what is drawn is shown. -/
import Derived.Test.YtbokpgemkkebnaaGreatDoorDoD
namespace Go.Proofs.YtbokpgemkkebnaaGreatDoor.Dr
open Go.Proofs.YtbokpgemkkebnaaGreatDoor.Pm
open Go.Proofs.YtbokpgemkkebnaaGreatDoor.Pr (Fed feed_ok)
open Go.Proofs.YtbokpgemkkebnaaGreatDoor.Args
open Go.ChangeShapes Go.WideShapes Go.ChangeAt Go.RowKit
set_option linter.unusedVariables false
set_option linter.unusedSimpArgs false
set_option maxRecDepth 100000
theorem contains_no (l : List Int) (hl : l.length ≤ 1000) (h : ∀ n ∈ l, -1 ≤ n ∧ n ≤ 16383) : f59v1 l = some false := by
 unfold f59v1 f82v1
 have hl := loop_to (body := f82v1_l0 l) (fun i => (i : Int)) (.inl ()) l.length ?_ 0 (by omega) ?_
 ·have hl' : loopO (f82v1_l0 l) 0 = some (.inl ()) := hl
  rw [hl', bs]; rfl
 ·unfold f82v1_l0 f82v1_l0_j1
  rw [bcf (df (by omega)), cf]
 ·intro i _ hi
  have hn := h l[i] (List.getElem_mem hi)
  have e : l.getD i 0 = l[i] := by simp [hi]
  unfold f82v1_l0 f82v1_l0_j1 f82v1_l0_j2
  have hq : (decide (-1 ≤ l[i]) && decide (l[i] ≤ 16383)) = true := by rw [dt hn.1, dt hn.2]; rfl
  rw [bct (dt (by omega)), ct, idx_nat l i 0 hi, bs, e]
  unfold f60
  rw [within_ok, bs, hq, bs, bcf (by rfl), wr1 i (by omega)]
theorem actions_ok (l : List GAct) (hl : l.length ≤ 10000000) (h : ∀ x ∈ l, Good x) : f34 l = some 0 := by
 unfold f34
 have hh := loop_to (body := f34_l0 l) (fun i => (i : Int)) (.inl ()) l.length ?_ 0 (by omega) ?_
 ·have hl' : loopO (f34_l0 l) 0 = some (.inl ()) := hh
  rw [hl', bs]; rfl
 ·unfold f34_l0 f34_l0_j1
  rw [bcf (df (by omega)), cf]
 ·intro i _ hi
  obtain ⟨h1, h2, h3⟩ := h l[i] (List.getElem_mem hi)
  have e : l.getD i ⟨0, 0, 0, [], [], []⟩ = l[i] := by simp [hi]
  unfold f34_l0 f34_l0_j1 f34_l0_j2
  rw [bct (dt (by omega)), ct, idx_nat l i ⟨0, 0, 0, [], [], []⟩ hi, bs, e, bcf (df (by omega)), bcf (df (by rw [h2]; simp)), contains_no _ (by omega) h3, bs, cf, wr1 i (by omega)]
theorem run_loop (a : GScreen) (l : List GAct) : ∀ (suf pre : List GAct) (t u : Gterminal), l = pre ++ suf → l.length ≤ 10000000 → run suf t = some u → loopO (f17_l3 a l) (t, (pre.length : Int)) = some u
 | [], pre, t, u, e, hl, h => by
  cases h
  subst e
  refine loopO_done ?_
  unfold f17_l3 f17_l3_j4
  try dsimp only []
  rw [lt_end, cf, cf]
 | x :: xs, pre, t, u, e, hl, h => by
  have h' : (f35 x t).bind (run xs) = some u := h
  cases hz : f35 x t with
  | none => rw [hz] at h'; cases h'
  | some z =>
   rw [hz, bs] at h'
   refine loopO_next ?_ (run_loop a l xs (pre ++ [x]) z u (by simp [e]) hl h')
   have hp : pre.length < 1000000000 := by rw [e] at hl; simp at hl; omega
   unfold f17_l3 f17_l3_j4 f17_l3_j5
   try dsimp only []
   rw [e, lt_mid, ct, ct, idx_mid, bs, hz, bs, wrap_nx pre x hp]
theorem szs (s : GScreen) (f : SF s) : SzS s := by
 have hp := f.past
 refine ⟨by have := cells_le s.Grid f.g; omega, by have := cells_le s.Other f.o; omega, by omega, fun x hx => ?_⟩
 obtain ⟨i, hi, rfl⟩ := List.getElem_of_mem hx
 have := hp.1 i hi
 unfold pastP at this
 have e : s.Past.getD i L0 = s.Past[i] := by simp [hi]
 rw [e] at this
 have := cells_le _ (of_decide_eq_true this)
 have h2 : s.Past[i].Cells.length ≤ 9600 := this
 omega
theorem show_ok (a : GScreen) (l : List Int) (t : Gterminal) (hc : f9 a = some 0) (f : SF a) (hl : l.length ≤ 1000000) (h : Sim a l t) : f7 a l = some (t.Screen, t.sent, 0) := by
 obtain ⟨acts, h1, h2, h3, h4⟩ := h
 have hfd := h1 [] (by simp; omega)
 rw [List.nil_append] at hfd
 unfold f7
 rw [feed_ok l (by omega) acts hfd, bs]
 unfold f7_j0 f17
 try dsimp only []
 rw [hc, bs, bcf (by rfl)]
 unfold f17_j0
 rw [actions_ok acts (by omega) h3, bs, bcf (by rfl)]
 unfold f17_j1
 have hr := run_loop a acts acts [] ⟨a, []⟩ t rfl (by omega) h4
 have hr' : loopO (f17_l3 a acts) (Gterminal.mk a [], 0) = some t := hr
 rw [cloneS a (szs a f), bs, hr', bs]
 rfl
theorem chk_tb (s : GScreen) (h : f9 s = some 0) (f : SF s) : (decide (0 ≤ s.Top) && decide (s.Top ≤ IntKind.i64.wrap (s.Bottom - 1))) = true ∧ decide (s.Bottom ≤ s.Grid.High) = true := by
 obtain ⟨W, H, w1, w2, h1, h2, e, hc, hR⟩ := gcode0 s.Grid f.g
 have eW : s.Grid.Wide = (W : Int) := by rw [e]
 have eH : s.Grid.High = (H : Int) := by rw [e]
 have two : ∀ {p q : Prop} [Decidable p] [Decidable q], p ∧ q → (decide p && decide q) = true := fun h => by simp [h]
 unfold f9 at h
 rw [check_ok, bs, bct (dt f.g), check_ok, bs, bct (dt f.o), bct (dt f.w), bct (dt f.h)] at h
 unfold f9_j0 at h
 rw [ct, within_ok, bs, i64w (s.Grid.High - 1) (by omega), i64w (s.Grid.Wide - 1) (by omega), bct (two f.row), within_ok, bs, bct (two f.col)] at h
 have late : f9_j1 s true = some 0 := by
  cases hl : s.Late with
  | false => rw [hl] at h; exact h
  | true =>
   rw [hl] at h
   have h' : (bif (decide (s.Col = s.Grid.Wide - 1)) then (f9_j1 s true) else (f9_j1 s false)) = some 0 := h
   cases hd : decide (s.Col = s.Grid.Wide - 1) with
   | true => rw [hd] at h'; exact h'
   | false => rw [hd] at h'; cases h'
 unfold f9_j1 at late
 rw [ct, within_ok, bs] at late
 cases ht : (decide (0 ≤ s.Top) && decide (s.Top ≤ IntKind.i64.wrap (s.Bottom - 1))) with
 | false => rw [ht, cf] at late; cases late
 | true =>
 rw [ht, ct] at late
 cases hb : decide (s.Bottom ≤ s.Grid.High) with
 | false => rw [hb, cf] at late; cases late
 | true => exact ⟨rfl, rfl⟩
theorem chk_full (s : GScreen) (f : SF s) (hl : s.Late = false) (ht : (decide (0 ≤ s.Top) && decide (s.Top ≤ IntKind.i64.wrap (s.Bottom - 1))) = true) (hb : decide (s.Bottom ≤ s.Grid.High) = true) : f9 s = some 0 := by
 obtain ⟨W, H, w1, w2, h1, h2, e, hc, hR⟩ := gcode0 s.Grid f.g
 have eW : s.Grid.Wide = (W : Int) := by rw [e]
 have eH : s.Grid.High = (H : Int) := by rw [e]
 have two : ∀ {p q : Prop} [Decidable p] [Decidable q], p ∧ q → (decide p && decide q) = true := fun h => by simp [h]
 have hp := f.past
 have hti := f.title
 unfold f9
 rw [check_ok, bs, bct (dt f.g), check_ok, bs, bct (dt f.o), bct (dt f.w), bct (dt f.h)]
 unfold f9_j0
 rw [ct, within_ok, bs, i64w (s.Grid.High - 1) (by omega), i64w (s.Grid.Wide - 1) (by omega), bct (two f.row), within_ok, bs, bct (two f.col), hl, bct (by rfl)]
 unfold f9_j1
 rw [ct, within_ok, bs, bct ht, bct hb]
 unfold f9_j2
 rw [ct, pen_ok, bs, pen0, bct f.pen, pen_ok, bs, pen0, bct f.spen, within_ok, bs]
 unfold f9_j3 f9_j7
 rw [bct (two f.modes), known_ok, bs, bct (two f.pg1), known_ok, bs]
 unfold f9_j8
 rw [bct (two f.sp1), known_ok, bs, bct (two f.pg2), known_ok, bs]
 unfold f9_j4
 rw [bct (two f.sp2), within_ok, bs, bct (two f.sh), within_ok, bs]
 unfold f9_j5
 rw [bct (two f.ssh), within_ok, bs, bct (two f.srow), within_ok, bs]
 unfold f9_j6
 rw [bct (two f.scol), bct (dt (by omega)), past_ok s.Past (by omega), bs, dt hp]; rfl
theorem chk_X (a b : GScreen) (ha : f9 a = some 0) (fa : SF a) (fb : SF b) (hw : a.Grid.Wide = b.Grid.Wide) (hh : a.Grid.High = b.Grid.High) :
  f9 (X a b.Grid.Cells b.Row b.Col false b.Pen) = some 0 := by
 obtain ⟨t1, t2⟩ := chk_tb a ha fa
 have hg : (X a b.Grid.Cells b.Row b.Col false b.Pen).Grid = b.Grid := by
  show GGrid.mk a.Grid.Wide a.Grid.High b.Grid.Cells = b.Grid
  rw [hw, hh]
 exact chk_full _ ⟨by rw [hg]; exact fb.g, fa.o, fa.w, fa.h, by have := fb.row; rw [← hh] at this; exact this, by have := fb.col; rw [← hw] at this; exact this, fb.pen, fa.spen, fa.modes, fa.pg1, fa.sp1, fa.pg2, fa.sp2, fa.sh, fa.ssh, fa.srow, fa.scol, fa.title, fa.past⟩ rfl t1 t2
theorem sight_ok (a b : GScreen) (ha : a.Grid.Cells.length ≤ 1000000) (h : Same a b) : f8 a b = some true := by
 obtain ⟨hg, hr, hk, hp⟩ := h
 unfold f8 f18
 obtain ⟨e, he, hq⟩ := eq_ok a.Grid.Cells b.Grid.Cells ha
 have he1 : e = true := hq.2 (by rw [hg])
 subst he1
 rw [bct (dt (by rw [hg])), bct (dt (by rw [hg])), he, bs, bs, bct (by rfl), bct (dt hr), bct (dt hk)]
 have pe : (decide (a.Pen.Flags = b.Pen.Flags) && (decide (a.Pen.Fore = b.Pen.Fore) && (decide (a.Pen.Back = b.Pen.Back) && true))) = peq a.Pen b.Pen := rfl
 rw [pe, bct ((peq_iff _ _).2 hp)]
theorem drawn (a b : GScreen) (pa : a.Past.length ≤ 1048576) (pb : b.Past.length ≤ 1048576) : ∃ (ka kb : Bool) (l : List Int), f9 a = some (if ka then 0 else 4) ∧ f9 b = some (if kb then 0 else 4) ∧ f5 a b = some (l, dE ka kb a b) ∧ (dE ka kb a b ≠ 0 → l = []) ∧ (Same a b → l = []) ∧
  (dE ka kb a b = 0 → ∃ x, f7 a l = some (x, [], 0) ∧ Same x b ∧ x.Grid.Cells.length ≤ 9600 ∧ x.Past = a.Past ∧ f9 x = some (if ka then 0 else 4) ∧ ∀ kc c, dE ka kc x c = dE ka kc a c) := by
 obtain ⟨ka, kb, l, ca, fa, cb, fb, hd, h1, h2, h3⟩ := draw_spec a b pa pb
 refine ⟨ka, kb, l, ca, cb, hd, h1, h2, fun h0 => ?_⟩
 obtain ⟨hl, hh⟩ := h3 h0
 have hk : ka = true ∧ kb = true := by
  unfold dE at h0
  by_cases q : (ka && kb) = true
  ·simpa using q
  ·rw [if_neg q] at h0; cases h0
 obtain ⟨rfl, rfl⟩ := hk
 have fa := fa rfl
 have fb := fb rfl
 have ca0 : f9 a = some 0 := ca
 rcases hh with ⟨hs, rfl⟩ | hS
 ·exact ⟨a, show_ok a [] ⟨a, []⟩ ca0 fa (by simp) (Sim.nil a), hs, cells_le _ fa.g, rfl, ca, fun _ _ => rfl⟩
 ·have hdim : a.Grid.Wide = b.Grid.Wide ∧ a.Grid.High = b.Grid.High := by
   unfold dE at h0
   rw [if_pos (show (true && true) = true from rfl)] at h0
   by_cases q : a.Grid.Wide = b.Grid.Wide ∧ a.Grid.High = b.Grid.High
   ·exact q
   ·rw [if_neg q] at h0; cases h0
  refine ⟨X a b.Grid.Cells b.Row b.Col false b.Pen, show_ok a l _ ca0 fa hl hS, ⟨?_, rfl, rfl, rfl⟩, cells_le b.Grid fb.g, rfl, chk_X a b ca0 fa fb hdim.1 hdim.2, fun _ _ => rfl⟩
  show GGrid.mk a.Grid.Wide a.Grid.High b.Grid.Cells = b.Grid
  rw [hdim.1, hdim.2]
end Go.Proofs.YtbokpgemkkebnaaGreatDoor.Dr
