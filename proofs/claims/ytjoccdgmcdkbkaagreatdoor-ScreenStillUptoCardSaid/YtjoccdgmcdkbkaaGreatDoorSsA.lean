/- ScreenStill: the acts that leave the grid alone. -/
import Derived.Test.YtjoccdgmcdkbkaaGreatDoorSsG
namespace Go.Proofs.YtjoccdgmcdkbkaaGreatDoor.Pm
open Go.Proofs.YtjoccdgmcdkbkaaGreatDoor.Args
open Go.ChangeShapes Go.WideShapes Go.ChangeAt Go.RowKit
set_option linter.unusedVariables false
set_option linter.unusedSimpArgs false
set_option maxRecDepth 100000
/-- What every such act keeps ('u': pages and shift may change). -/
structure KT (u : Prop) (t t' : Gterminal) : Prop where
  g : t'.Screen.Grid = t.Screen.Grid
  o : t'.Screen.Other = t.Screen.Other
  p : t'.Screen.Past = t.Screen.Past
  ti : t'.Screen.Title = t.Screen.Title
  pg : u ∨ t'.Screen.Pages = t.Screen.Pages
  sh : u ∨ t'.Screen.Shift = t.Screen.Shift
  se : t'.sent.length ≤ t.sent.length + 60
theorem KT.rfl' (u : Prop) (t : Gterminal) : KT u t t := ⟨rfl, rfl, rfl, rfl, .inr rfl, .inr rfl, by omega⟩
theorem KT.w {u v : Prop} {t t' : Gterminal} (h : KT u t t') (huv : u → v) : KT v t t' := ⟨h.g, h.o, h.p, h.ti, h.pg.imp huv id, h.sh.imp huv id, h.se⟩
/-- The same, and nothing is told. -/
structure KS (u : Prop) (t t' : Gterminal) : Prop where
  g : t'.Screen.Grid = t.Screen.Grid
  o : t'.Screen.Other = t.Screen.Other
  p : t'.Screen.Past = t.Screen.Past
  ti : t'.Screen.Title = t.Screen.Title
  pg : u ∨ t'.Screen.Pages = t.Screen.Pages
  sh : u ∨ t'.Screen.Shift = t.Screen.Shift
  se : t'.sent = t.sent
theorem KS.kt {u : Prop} {t t' : Gterminal} (h : KS u t t') : KT u t t' := ⟨h.g, h.o, h.p, h.ti, h.pg, h.sh, by rw [h.se]; omega⟩
theorem KS.tr {u : Prop} {t t' t'' : Gterminal} (h : KS u t t') (k : KS u t' t'') : KS u t t'' :=
  ⟨k.g.trans h.g, k.o.trans h.o, k.p.trans h.p, k.ti.trans h.ti, by
    rcases h.pg with a | a
    · exact .inl a
    · exact k.pg.imp id fun b => b.trans a, by
    rcases h.sh with a | a
    · exact .inl a
    · exact k.sh.imp id fun b => b.trans a, k.se.trans h.se⟩
theorem KS.w {u v : Prop} {t t' : Gterminal} (h : KS u t t') (huv : u → v) : KS v t t' := ⟨h.g, h.o, h.p, h.ti, h.pg.imp huv id, h.sh.imp huv id, h.se⟩
theorem chk3 {u : Prop} {t t' : Gterminal} (h : KT u t t') {α : Type} (k : Option α) : ((chk (decide (t'.Screen.Past.length = t.Screen.Past.length))).bind fun _ => ((chk (decide (t'.Screen.Other.Cells.length = t.Screen.Other.Cells.length))).bind fun _ => ((chk (decide (t'.Screen.Grid.Cells.length = t.Screen.Grid.Cells.length))).bind fun _ => k))) = k := by
  rw [h.p, h.o, h.g, dt rfl, dt rfl, dt rfl, chk_ok rfl, bs, bs, bs]
theorem lim_ok (a lo hi : Int) : ∃ r, f112 a lo hi = some r := ⟨_, rfl⟩
theorem up_ok (n : Int) (t : Gterminal) : ∃ t', f117 n t = some t' ∧ KS False t t' := by
  unfold f117 f117_j3 f117_j0 f117_j2 f117_j1 f112
  simp only [bs, Bool.cond_decide]
  split <;> (try split) <;> (try split) <;> (try split) <;> exact ⟨_, rfl, rfl, rfl, rfl, rfl, .inr rfl, .inr rfl, rfl⟩
theorem column_ok (c : Int) (t : Gterminal) : ∃ t', f86 c t = some t' ∧ KS False t t' := by
  unfold f86 f112
  rw [bs]
  exact ⟨_, rfl, rfl, rfl, rfl, rfl, .inr rfl, .inr rfl, rfl⟩
theorem is_ok (t : Gterminal) (x : List PD) (m : Int) : ∃ b, f88 t x m = some b := by
  unfold f88
  cases (!decide (bitI .and .i64 t.Screen.Modes m = 0)) <;> exact ⟨_, rfl⟩
theorem move_ok (r c : Int) (t : Gterminal) : ∃ t', f118 r c t = some t' ∧ KS False t t' := by
  unfold f118
  obtain ⟨b, hb⟩ := is_ok t [] 2
  rw [hb, bs]
  cases b with
  | true =>
    rw [ct]
    obtain ⟨r', hr⟩ := lim_ok (IntKind.i64.wrap (r + t.Screen.Top)) t.Screen.Top (IntKind.i64.wrap (t.Screen.Bottom - 1))
    rw [hr, bs]
    obtain ⟨t', h1, h2⟩ := column_ok c (Gterminal.mk ({ t.Screen with Row := r' }) t.sent)
    have h3 : KS False t t' := ⟨h2.g, h2.o, h2.p, h2.ti, h2.pg, h2.sh, h2.se⟩
    rw [h1, bs, chk3 h3.kt]
    exact ⟨t', rfl, h3⟩
  | false =>
    rw [cf]
    obtain ⟨r', hr⟩ := lim_ok r 0 (IntKind.i64.wrap (t.Screen.Grid.High - 1))
    rw [hr, bs]
    obtain ⟨t', h1, h2⟩ := column_ok c (Gterminal.mk ({ t.Screen with Row := r' }) t.sent)
    have h3 : KS False t t' := ⟨h2.g, h2.o, h2.p, h2.ti, h2.pg, h2.sh, h2.se⟩
    rw [h1, bs, chk3 h3.kt]
    exact ⟨t', rfl, h3⟩
theorem save_ok (t : Gterminal) : ∃ t', f95 t = some t' ∧ KS False t t' := by
  unfold f95
  obtain ⟨b, hb⟩ := is_ok t [] 2
  rw [hb, bs]
  exact ⟨_, rfl, rfl, rfl, rfl, rfl, .inr rfl, .inr rfl, rfl⟩
theorem set_ok (m : Int) (b : Bool) (t : Gterminal) : ∃ t', f97 m b t = some t' ∧ KS False t t' := by
  unfold f97
  cases b
  · rw [cf]; exact ⟨_, rfl, rfl, rfl, rfl, rfl, .inr rfl, .inr rfl, rfl⟩
  · rw [ct]; exact ⟨_, rfl, rfl, rfl, rfl, rfl, .inr rfl, .inr rfl, rfl⟩
theorem restore_ok (t : Gterminal) : ∃ t', f96 t = some t' ∧ KS True t t' := by
  unfold f96
  obtain ⟨t1, h1, k1⟩ := set_ok 2 t.Screen.Saved.Origin (Gterminal.mk ({ t.Screen with Row := (if (IntKind.i64.wrap (t.Screen.Grid.High - 1)) < t.Screen.Saved.Row then (IntKind.i64.wrap (t.Screen.Grid.High - 1)) else t.Screen.Saved.Row), Pen := t.Screen.Saved.Pen, Pages := t.Screen.Saved.Pages, Shift := t.Screen.Saved.Shift }) t.sent)
  have k1' : KS True t t1 := ⟨k1.g, k1.o, k1.p, k1.ti, .inl trivial, .inl trivial, k1.se⟩
  rw [h1, bs, chk3 k1'.kt]
  obtain ⟨t2, h2, k2⟩ := column_ok t.Screen.Saved.Col t1
  rw [h2, bs, chk3 k2.kt]
  exact ⟨t2, rfl, k1'.tr (k2.w fun h => h.elim)⟩
end Go.Proofs.YtjoccdgmcdkbkaaGreatDoor.Pm
