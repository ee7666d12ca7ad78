/- TopTwo: a client on a new screen is right, and is its own copy. -/
import Derived.Test.YtobkkblijfhpoaaGreatDoorTwG
namespace Go.Proofs.YtobkkblijfhpoaaGreatDoor.Pm
open Go.Proofs.YtobkkblijfhpoaaGreatDoor.Args
open Go.ChangeShapes Go.WideShapes Go.ChangeAt Go.RowKit
set_option linter.unusedVariables false
set_option linter.unusedSimpArgs false
set_option maxRecDepth 100000
def XT : List UInt8 := [88, 84, 69, 82, 77]
def K0 : GKeys := GKeys.mk (upd (upd (upd (upd (upd (fun _ => 0) 10 2) 11 2) 12 2) 13 2) 14 2) (upd (upd (upd (upd (upd (fun _ => 0) 10 127) 11 21) 12 23) 13 18) 14 22)
def mkC (s : GScreen) (w : GWire) (n : GNeg) : GClient := ⟨w, false, [], ⟨0, 0, [], [], []⟩, s, n, ⟨[XT], 0⟩, [], K0, ⟨fun _ => 0⟩, ⟨[], false⟩, false⟩
def sN (W H : Nat) (st : GStops) : GScreen := sOf W H st (mkL (W * H) (fun _ => blank P0)) 0 0 false
theorem newG (W H : Nat) (h1 : 1 ≤ W ∧ W ≤ 160) (h2 : 1 ≤ H ∧ H ≤ 60) : f44 (W : Int) (H : Int) (GPen.mk 0 0 0) = some ⟨(W : Int), (H : Int), mkL (W * H) (fun _ => blank P0)⟩ := by
 unfold f44 f44_j0
 rw [size_ok, bs, pen_ok, bs, if_pos (by omega), bcf (by rfl), bcf (by rfl), blanksG W H _ h1 h2, bs]; rfl
theorem snew_ok (W H : Nat) (h1 : 1 ≤ W ∧ W ≤ 160) (h2 : 1 ≤ H ∧ H ≤ 60) : ∃ st, f23 (W : Int) (H : Int) = some (sOf W H st (mkL (W * H) (fun _ => blank P0)) 0 0 false) := by
 obtain ⟨st, hst⟩ := usual_ok
 have h9 := size_le W H h1.2 h2.2
 refine ⟨st, ?_⟩
 unfold f23
 rw [newG W H h1 h2, bs]
 unfold f23_j0
 rw [cloneG W H _ (by rw [mkL_len]; omega), bs, hst, bs]; rfl
theorem schk (s : GScreen) (W H : Nat) (h1 : 1 ≤ W ∧ W ≤ 160) (h2 : 1 ≤ H ∧ H ≤ 60) (g : gcode s.Grid = 0) (o : gcode s.Other = 0) (gw : s.Grid.Wide = W) (gh : s.Grid.High = H) (ow : s.Other.Wide = W) (oh : s.Other.High = H) (row : s.Row = 0) (col : s.Col = 0) (late : s.Late = false) (top : s.Top = 0) (bot : s.Bottom = H)
  (pn : pcB s.Pen = true) (sp : pcB s.Saved.Pen = true) (md : s.Modes = 12) (p1 : s.Pages.1 = 1) (p2 : s.Pages.2 = 1) (q1 : s.Saved.Pages.1 = 1) (q2 : s.Saved.Pages.2 = 1) (sh : s.Shift = 0) (ssh : s.Saved.Shift = 0) (sr : s.Saved.Row = 0) (sc : s.Saved.Col = 0) (ti : s.Title = []) (pa : s.Past = []) : f55 s = some () := by
 have pl : f100 [] = some () := rfl
 have wi : ∀ a lo hi : Int, lo ≤ a → a ≤ hi → f98 a lo hi = some true := fun a lo hi x y => by rw [within_ok, dt x, dt y]; rfl
 have kn : f99 1 = some true := by rw [known_ok]; rfl
 unfold f55 
 rw [check_ok, bs, bct (dt g), check_ok, bs, bct (dt o), bct (dt (gw.trans ow.symm)), bct (dt (gh.trans oh.symm))]
 unfold f55_j0
 rw [ct, gh, gw, i64w ((H : Int) - 1) (by omega), i64w ((W : Int) - 1) (by omega), row, wi _ _ _ (by omega) (by omega), bs, ct, col, wi _ _ _ (by omega) (by omega), bs, ct, late, Bool.not_false, ct, top, bot, i64w ((H : Int) - 1) (by omega), wi _ _ _ (by omega) (by omega), bs, ct, bct (dt (by omega))]
 unfold f55_j1
 rw [ct, pen_ok, bs, pen0, pn, ct, pen_ok, bs, pen0, sp, ct, md, wi _ _ _ (by omega) (by omega), bs]
 unfold f55_j3
 rw [ct, p1, kn, bs, ct, q1, kn, bs]
 unfold f55_j4
 rw [ct, p2, kn, bs, ct, q2, kn, bs]
 unfold f55_j2
 rw [ct, sh, wi _ _ _ (by omega) (by omega), bs, ct, ssh, wi _ _ _ (by omega) (by omega), bs, ct, sr, wi _ _ _ (by omega) (by omega), bs, ct, sc, wi _ _ _ (by omega) (by omega), bs, ct, ti, bct (dt (by simp)), pa, pl, bs]
theorem schk_ok (W H : Nat) (st : GStops) (h1 : 1 ≤ W ∧ W ≤ 160) (h2 : 1 ≤ H ∧ H ≤ 60) : f55 (sOf W H st (mkL (W * H) (fun _ => blank P0)) 0 0 false) = some () := by
 have g : gcode ⟨(W : Int), (H : Int), mkL (W * H) (fun _ => blank P0)⟩ = 0 := gcode_ok W H _ h1 h2 (mkL_len _ _) (blk_rt W H)
 exact schk _ W H h1 h2 g g rfl rfl rfl rfl rfl rfl rfl rfl rfl (by decide : pcB ⟨0, 0, 0⟩ = true) (by decide : pcB ⟨0, 0, 0⟩ = true) rfl rfl rfl rfl rfl rfl rfl rfl rfl rfl rfl
theorem keys_ok : f57 K0 = some () := by
 unfold f57
 rw [loopO_of (n := 20) (r := ()) (by kernel_rfl), bs]
 kernel_rfl
theorem name_ok : f47 XT = some () := by
 unfold f47
 rw [loopO_of (n := 6) (r := ()) (by kernel_rfl), bs]
 kernel_rfl
theorem cont_nil (z : List UInt8) : f48 [] z = some () := rfl
theorem sorts_ok : f26 ⟨[XT], 0⟩ = some () := by
 have h : loopO (f26_l2 ⟨[XT], 0⟩) 0 = some () := by
  have e0 : f26_l2 ⟨[XT], 0⟩ 0 = some (.inl 1) := by
   unfold f26_l2 f26_l2_j3 f26_l2_j4
   rw [bct (dt (by decide)), ct]
   show ((idx [XT] 0).bind _) = _
   rw [show idx [XT] 0 = some XT from rfl, bs, name_ok, bs, show sub? [XT] 0 0 = some [] from rfl, bs, cont_nil, bs]
   rfl
  have e1 : f26_l2 ⟨[XT], 0⟩ 1 = some (.inr ()) := rfl
  exact loopO_of (n := 2) (by simp [loopF, e0, e1])
 unfold f26 f26_j0
 rw [h]; rfl
theorem vars_ok : f27 [] = some () := rfl
theorem args_ok : ∃ l, f95 [] = some l := by
 have h1 : libTrim [] [48, 49, 50, 51, 52, 53, 54, 55, 56, 57, 59] = some [] := by
  unfold libTrim
  rw [if_pos ⟨by simp, by simp, by decide⟩, trim_all [] _ (by simp)]
 have h2 : loopO (f95_l6 []) () = some () := loopO_done (by rfl)
 have h3 : libSplit [] [59] = some [[]] := by rw [split_ok [] 59 (by simp)]; rfl
 have h5 : loopO (f95_l2 []) ([], [[]], 1, 0) = some [-1] := by
  have e0 : f95_l2 [] ([], [[]], 1, 0) = some (.inl ([-1], [[]], 1, 1)) := by
   unfold f95_l2 f95_l2_j3 f95_l2_j4 f95_l2_j5
   rw [bct (dt (by decide)), ct]
   show (((idx [[]] 0) : Option (List UInt8)).bind _) = _
   rw [show idx ([[]] : List (List UInt8)) 0 = some [] from rfl, bs, bcf (df (by decide)), bcf (df (by decide)), app_ok _ _ _ (by simp), bs]
   rfl
  have e1 : f95_l2 [] ([-1], [[]], 1, 1) = some (.inr [-1]) := rfl
  exact loopO_of (n := 2) (by simp [loopF, e0, e1])
 unfold f95 f95_j0 f95_j1
 rw [h1, bs, show (!decide (([] : List UInt8) = [])) = false from rfl, cf, h2, bs]
 refine ⟨[-1], ?_⟩
 rw [h3, bs]
 have e : (([[]] : List (List UInt8)).length : Int) = 1 := rfl
 rw [e, h5, bs]
theorem pars_ok : f54 ⟨0, 0, [], [], []⟩ = some () := by
 obtain ⟨l, hl⟩ := args_ok
 have hi : f97 [] 3 = some true := by
  unfold f97
  rw [loopO_done (r := .inl ()) (by rfl)]; rfl
 unfold f54 f54_j0
 show ((f95 []).bind _) = _
 rw [hl, bs]
 show ((f97 [] 3).bind _) = _
 rw [hi, bs]
 rfl
theorem line_ok : f58 ⟨[], false⟩ = some () := rfl
theorem part_ok : f53 [] = some () := rfl
theorem nine (a : GClient) : loopO (f28_l0 a) ((fun i => ([0, 0, 0, 0, 0, 0, 0, 0, 0] : List Int).getD i 0), 0) = some () := loopO_of (n := 10) (by rfl)
theorem chkC (s : GScreen) (w : GWire) (n : GNeg) (hs : f55 s = some ()) (hw : f52 w = some 0) (hn : okN n) : f28 (mkC s w n) = some () := by
 have hq : f56 n = some 0 := by
  rcases qchk_eq n with ⟨_, h⟩ | ⟨h, _⟩
  ·exact h
  ·exact absurd hn h
 unfold f28 mkC
 dsimp only []
 rw [vars_ok, bs, hw, bs, part_ok, bs, pars_ok, bs, hs, bs, hq, bs, sorts_ok, bs, keys_ok, bs, line_ok, bs, nine, bs]
theorem cloneC (s : GScreen) (w : GWire) (n : GNeg) (hs : f59 s = some s) : f29 (mkC s w n) = some (mkC s w n) := by
 have e1 : f24 [XT] = some [XT] := by
  unfold f24
  rw [app_ok _ _ _ (by simp), bs]; rfl
 have e2 : f25 [] = some [] := by
  unfold f25
  rw [app_ok _ _ _ (by simp), bs]; rfl
 unfold f29 mkC
 dsimp only []
 rw [hs, bs, e1, bs, e2, bs]
end Go.Proofs.YtobkkblijfhpoaaGreatDoor.Pm

namespace Go.Proofs.YtobkkblijfhpoaaGreatDoor.Pm
open Go.Proofs.YtobkkblijfhpoaaGreatDoor.Args
open Go.ChangeShapes Go.WideShapes Go.ChangeAt Go.RowKit
set_option linter.unusedVariables false
set_option linter.unusedSimpArgs false
set_option maxRecDepth 100000
def Nt (t : GTok) : Prop := t.Kind = 3 ∧ 251 ≤ t.Cmd ∧ t.Cmd ≤ 254 ∧ 0 ≤ t.Opt ∧ t.Opt ≤ 255 ∧ t.Data = []
def Zt (t : GTok) : Prop := t.Kind = 4 ∧ t.Cmd = 0 ∧ t.Opt = 31 ∧ t.Data.length = 4
structure Pd (w : GWire) (way : List UInt8) (ts : List GTok) : Prop where
 ok : okW2 w
 q : Qu (way.foldl stepS (initS w))
 l : (way.foldl stepS (initS w)).l = ts
 g : ∀ t ∈ ts, Nt t ∨ Zt t
theorem nt_kind {t : GTok} (h : Nt t ∨ Zt t) : t.Kind ≠ 1 := by
 rcases h with h | h
 ·have := h.1; omega
 ·have := h.1; omega
theorem nt_tw {t : GTok} (h : Nt t) : Tw t [255, u8 t.Cmd, u8 t.Opt] := .inr (.inr (.inl ⟨h, rfl⟩))
theorem zt_tw {t : GTok} (h : Zt t) : Tw t ([255, 250, u8 t.Opt] ++ esc t.Data ++ [255, 240]) := .inr (.inr (.inr ⟨⟨h.1, h.2.1, by have := h.2.2.1; omega, by have := h.2.2.1; omega, by have := h.2.2.2; omega⟩, rfl⟩))
theorem fl_nil (l : List GTok) : fl l [] = l := by unfold fl; rw [if_neg (by simp)]
theorem Pd.app {w : GWire} {way : List UInt8} {ts : List GTok} (h : Pd w way ts) {t : GTok} {u : List UInt8} (ht : Nt t ∨ Zt t) (hu : Tw t u) : Pd w (way ++ u) (ts ++ [t]) := by
 obtain ⟨r1, r2⟩ := read_one t u hu _ h.q.1
 unfold rdT at r2
 rw [if_neg (nt_kind ht), h.q.2, h.l, fl_nil] at r2
 refine ⟨h.ok, ?_, ?_, fun x hx => ?_⟩
 ·rw [List.foldl_append]; exact ⟨r1, congrArg Prod.snd r2⟩
 ·rw [List.foldl_append]; exact congrArg Prod.fst r2
 ·rcases List.mem_append.1 hx with hx | hx
  ·exact h.g x hx
  ·rw [List.mem_singleton.1 hx]; exact ht
def Dt (s : RS) : Prop := s.data ≠ [] ∨ ∃ t ∈ s.l, t.Kind = 1
theorem flush_dt {s : RS} (h : Dt s) : ∃ t ∈ (flushS s).l, t.Kind = 1 := by
 unfold flushS
 rcases h with h | ⟨t, ht, hk⟩
 ·rw [if_pos (List.length_pos_iff.2 h)]
  exact ⟨_, List.mem_append_right _ (List.mem_singleton.2 rfl), rfl⟩
 ·split
  ·exact ⟨t, List.mem_append_left _ ht, hk⟩
  ·exact ⟨t, ht, hk⟩
theorem tok_dt {s : RS} (h : Dt s) (t : GTok) : ∃ x ∈ (tokS t s).l, x.Kind = 1 := by
 obtain ⟨x, hx, hk⟩ := flush_dt h
 exact ⟨x, List.mem_append_left _ hx, hk⟩
theorem step_dt {s : RS} (h : Dt s) (c : UInt8) : Dt (stepS s c) := by
 have hd : ∀ s' : RS, s'.data = s.data → s'.l = s.l → Dt s' := fun s' h1 h2 => by unfold Dt; rw [h1, h2]; exact h
 have ha : ∀ s' : RS, s'.data = s.data → s'.l = s.l → Dt (addData s' c) := fun s' h1 h2 => .inl (by unfold addData; simp)
 have hs : ∀ s' : RS, s'.data = s.data → s'.l = s.l → Dt (subS c s') := fun s' h1 h2 => by
  unfold subS
  repeat' split
  all_goals exact hd _ h1 h2
 have ht : ∀ (s' : RS) (t : GTok), s'.data = s.data → s'.l = s.l → ∃ x ∈ (tokS t s').l, x.Kind = 1 := fun s' t h1 h2 => tok_dt (hd s' h1 h2) t
 unfold stepS
 split
 ·split
  ·exact hd _ rfl rfl
  ·exact ha _ rfl rfl
 ·split
  ·unfold cmdS
   split
   ·exact ha _ rfl rfl
   ·split
    ·exact hd _ rfl rfl
    ·split
     ·exact hd _ rfl rfl
     ·split
      ·exact .inr (ht _ _ rfl rfl)
      ·exact .inr (ht _ _ rfl rfl)
  ·split
   ·exact .inr (ht s _ rfl rfl)
   ·split
    ·exact hd _ rfl rfl
    ·split
     ·split
      ·exact hd _ rfl rfl
      ·exact hs _ rfl rfl
     ·split
      ·exact hs _ rfl rfl
      ·exact .inr (ht s _ rfl rfl)
theorem fold_dt : ∀ (x : List UInt8) {s : RS}, Dt s → Dt (x.foldl stepS s)
 | [], _, h => h
 | c :: x, _, h => fold_dt x (step_dt h c)
theorem Pd.nodata {w : GWire} {a b : List UInt8} {ts : List GTok} (h : Pd w (a ++ b) ts) : ¬ Dt (a.foldl stepS (initS w)) := fun hd => by
 have := fold_dt b hd
 rw [← List.foldl_append] at this
 rcases this with hh | ⟨t, ht, hk⟩
 ·exact hh h.q.2
 ·rw [h.l] at ht
  exact nt_kind (h.g t ht) hk
theorem jo_cons (l1 : List GTok) (d1 : List UInt8) (t : GTok) (q : List GTok) : jo l1 d1 (t :: q) = if t.Kind = 1 then l1 ++ ⟨1, 0, 0, d1 ++ t.Data⟩ :: q else fl l1 d1 ++ t :: q := rfl
theorem Pd.cut {w : GWire} {a b : List UInt8} {ts : List GTok} (h : Pd w (a ++ b) ts) (hl : a.length ≤ 4096) : ∃ w' t1 t2, ts = t1 ++ t2 ∧ f102 w a = some (w', t1, 0) ∧ Pd w' b t2 := by
 have hn := h.nodata
 have hc : f52 w = some 0 := by
  rcases chk_iff_ w with ⟨_, e⟩ | ⟨e, _⟩
  ·exact e
  ·exact absurd h.ok e
 have hf := feed_ok w a hc (buf_ok w h.ok) (by omega)
 have hiv : Iv (a.foldl stepS (initS w)) := fold_iv a (initS w) h.ok
 have hq := h.q
 have hll := h.l
 rw [List.foldl_append] at hq hll
 generalize a.foldl stepS (initS w) = r at *
 have hd : r.data = [] := Classical.byContradiction fun q => hn (.inl q)
 have hfl : flushS r = r := by unfold flushS; rw [hd, if_neg (by simp)]
 rw [hfl] at hf
 have sm0 : Sm r.l r.data r (initS (wireS r)) := ⟨rfl, rfl, rfl, rfl, rfl, .inl ⟨rfl, rfl, by simp [initS]⟩⟩
 have sm := sm_fold b _ _ sm0
 generalize b.foldl stepS r = z at *
 refine ⟨wireS r, r.l, (b.foldl stepS (initS (wireS r))).l, ?_, hf, hiv, ?_, rfl, ?_⟩
 all_goals generalize b.foldl stepS (initS (wireS r)) = z' at *
 ·rcases sm.tok with ⟨e1, e2, _⟩ | ⟨e1, e2, _⟩
  ·rw [e1, ← hll, e2, List.append_nil]
  ·rw [← hll, e2]
   cases hz : z'.l with
   | nil => exact absurd hz e1
   | cons t q =>
    by_cases hk : t.Kind = 1
    ·rw [hz, jo_cons, if_pos hk] at e2
     rw [← hll, e2] at h
     exact absurd rfl (nt_kind (h.g ⟨1, 0, 0, r.data ++ t.Data⟩ (by simp)))
    ·rw [jo_cons, if_neg hk, hd, fl_nil]
 ·obtain ⟨⟨q1, q2, q3, q4, q5⟩, q6⟩ := hq
  refine ⟨⟨sm.mode.trans q1, sm.cmd.trans q2, sm.opt.trans q3, sm.buf.trans q4, sm.over.trans q5⟩, ?_⟩
  rcases sm.tok with ⟨_, _, e3⟩ | ⟨_, _, e3⟩
  ·rw [q6, hd] at e3; exact e3.symm
  ·rw [q6] at e3; exact e3.symm
 ·intro t ht
  refine h.g t ?_
  rcases sm.tok with ⟨e1, _, _⟩ | ⟨e1, e2, _⟩
  ·rw [e1] at ht; cases ht
  ·rw [← hll, e2]
   cases hz : z'.l with
   | nil => exact absurd hz e1
   | cons x q =>
    rw [hz] at ht
    by_cases hk : x.Kind = 1
    ·rw [hz, jo_cons, if_pos hk] at e2
     rw [← hll, e2] at h
     exact absurd rfl (nt_kind (h.g ⟨1, 0, 0, r.data ++ x.Data⟩ (by simp)))
    ·rw [jo_cons, if_neg hk, hd, fl_nil]; exact List.mem_append_right _ ht
theorem last_tok (s : RS) (c : UInt8) (h : (stepS s c).mode = 0) (hd : (stepS s c).data = []) : (stepS s c).l ≠ [] := by
 have ha : ∀ s' : RS, (addData s' c).data ≠ [] := fun s' => by unfold addData; simp
 have ht : ∀ (s' : RS) (t : GTok), (tokS t s').l ≠ [] := fun s' t => by unfold tokS; simp
 have hs : ∀ s' : RS, (subS c s').mode = s'.mode := fun s' => by
  unfold subS
  split
  ·rfl
  ·split <;> rfl
 revert h hd
 unfold stepS
 split
 ·split
  ·intro h; cases h
  ·intro _ hd; exact absurd hd (ha _)
 ·split
  ·unfold cmdS
   split
   ·intro _ hd; exact absurd hd (ha _)
   ·split
    ·intro h; cases h
    ·split
     ·intro h; cases h
     ·split
      ·intro _ _; exact ht _ _
      ·intro _ _; exact ht _ _
  ·split
   ·intro _ _; exact ht s _
   ·split
    ·intro h; cases h
    ·split
     ·split
      ·intro h; cases h
      ·rename_i h4 _
       intro h; rw [hs] at h; omega
     ·split
      ·intro h; rw [hs] at h; cases h
      ·intro _ _; exact ht s _
theorem Pd.some {w : GWire} {way : List UInt8} {ts : List GTok} (h : Pd w way ts) (hw : way ≠ []) : ts ≠ [] := by
 obtain ⟨a, c, rfl⟩ : ∃ a c, way = a ++ [c] := ⟨way.dropLast, way.getLast hw, (List.dropLast_concat_getLast hw).symm⟩
 have hq := h.q
 have hl := h.l
 rw [List.foldl_append] at hq hl
 rw [← hl]
 exact last_tok _ c hq.1.1 hq.2
def zW : GWire := ⟨0, 0, 0, [], false⟩
theorem pd_nil : Pd zW [] [] := ⟨⟨by decide, fun h => absurd h (by decide), fun _ => rfl, fun h => absurd h (by decide), fun _ => ⟨rfl, rfl, rfl⟩⟩, ⟨⟨rfl, rfl, rfl, rfl, rfl⟩, rfl⟩, rfl, fun t ht => by cases ht⟩
theorem Pd.done {w : GWire} {ts : List GTok} (h : Pd w [] ts) : ts = [] := h.l.symm.trans rfl
end Go.Proofs.YtobkkblijfhpoaaGreatDoor.Pm

namespace Go.Proofs.YtobkkblijfhpoaaGreatDoor.Pm
set_option linter.unusedVariables false
set_option linter.unusedSimpArgs false
set_option maxRecDepth 100000
namespace Ch
def hear (s : Nat) (on ok : Bool) : Nat × Nat :=
 if on then
  if s = 0 then (if ok then (1, 1) else (0, 2))
  else if s = 1 then (1, 0) else if s = 2 then (0, 0) else if s = 3 then (1, 0) else if s = 4 then (1, 0) else (2, 2)
 else if s = 1 then (0, 2) else if s = 3 then (4, 1) else (0, 0)
def ask (s : Nat) (on : Bool) : Option (Nat × Nat) :=
 if on then (if s = 0 then some (4, 1) else if s = 2 then some (3, 0) else if s = 5 then some (4, 0) else none)
 else (if s = 1 then some (2, 2) else if s = 3 then some (2, 0) else if s = 4 then some (5, 0) else none)
def said : Nat → List Bool
 | 0 => []
 | 1 => [true]
 | _ => [false]
structure T where
 a : Nat
 b : Nat
 qa : List Bool
 qb : List Bool
deriving DecidableEq
def tab : List (T × Nat) :=
 [(⟨0, 0, [], []⟩, 0),
  (⟨0, 2, [], [false]⟩, 0),
  (⟨0, 3, [], [false]⟩, 2),
  (⟨0, 4, [], [false]⟩, 0),
  (⟨0, 4, [true], []⟩, 1),
  (⟨0, 5, [], [false]⟩, 2),
  (⟨0, 5, [true], []⟩, 3),
  (⟨1, 1, [], []⟩, 0),
  (⟨1, 2, [false], []⟩, 1),
  (⟨1, 3, [false], []⟩, 3),
  (⟨1, 4, [], [true]⟩, 0),
  (⟨1, 5, [], [true]⟩, 2),
  (⟨2, 0, [false], []⟩, 0),
  (⟨2, 1, [], [false]⟩, 1),
  (⟨2, 2, [false], [false]⟩, 2),
  (⟨2, 3, [false], [false]⟩, 4),
  (⟨2, 4, [], [true, false]⟩, 1),
  (⟨2, 4, [false, true], []⟩, 1),
  (⟨2, 5, [], [true, false]⟩, 3),
  (⟨2, 5, [false, true], []⟩, 3),
  (⟨3, 0, [false], []⟩, 2),
  (⟨3, 1, [], [false]⟩, 3),
  (⟨3, 2, [false], [false]⟩, 4),
  (⟨3, 3, [false], [false]⟩, 6),
  (⟨3, 4, [], [true, false]⟩, 3),
  (⟨3, 4, [false, true], []⟩, 3),
  (⟨3, 5, [], [true, false]⟩, 5),
  (⟨3, 5, [false, true], []⟩, 5),
  (⟨4, 0, [], [true]⟩, 1),
  (⟨4, 0, [false], []⟩, 0),
  (⟨4, 1, [true], []⟩, 0),
  (⟨4, 2, [], [false, true]⟩, 1),
  (⟨4, 2, [true, false], []⟩, 1),
  (⟨4, 3, [], [false, true]⟩, 3),
  (⟨4, 3, [true, false], []⟩, 3),
  (⟨4, 4, [], [false, true]⟩, 1),
  (⟨4, 4, [true], [true]⟩, 2),
  (⟨4, 4, [false, true], []⟩, 1),
  (⟨4, 5, [], [false, true]⟩, 3),
  (⟨4, 5, [true], [true]⟩, 4),
  (⟨4, 5, [false, true], []⟩, 3),
  (⟨5, 0, [], [true]⟩, 3),
  (⟨5, 0, [false], []⟩, 2),
  (⟨5, 1, [true], []⟩, 2),
  (⟨5, 2, [], [false, true]⟩, 3),
  (⟨5, 2, [true, false], []⟩, 3),
  (⟨5, 3, [], [false, true]⟩, 5),
  (⟨5, 3, [true, false], []⟩, 5),
  (⟨5, 4, [], [false, true]⟩, 3),
  (⟨5, 4, [true], [true]⟩, 4),
  (⟨5, 4, [false, true], []⟩, 3),
  (⟨5, 5, [], [false, true]⟩, 5),
  (⟨5, 5, [true], [true]⟩, 6),
  (⟨5, 5, [false, true], []⟩, 5)]
def good (t : T) : Bool := tab.any fun x => decide (x.1 = t)
def credit (t : T) : Nat := match tab.find? fun x => decide (x.1 = t) with
 | some x => x.2
 | none => 0
def askA (t : T) (on : Bool) : Option (T × Nat) := (ask t.a on).map fun r => (⟨r.1, t.b, t.qa, t.qb ++ said r.2⟩, (said r.2).length)
def askB (t : T) (on : Bool) : Option (T × Nat) := (ask t.b on).map fun r => (⟨t.a, r.1, t.qa ++ said r.2, t.qb⟩, (said r.2).length)
def hearA (t : T) (ok : Bool) : Option (T × Nat) := match t.qa with
 | [] => none
 | m :: q => some (⟨(hear t.a m ok).1, t.b, q, t.qb ++ said (hear t.a m ok).2⟩, (said (hear t.a m ok).2).length)
def hearB (t : T) (ok : Bool) : Option (T × Nat) := match t.qb with
 | [] => none
 | m :: q => some (⟨t.a, (hear t.b m ok).1, t.qa ++ said (hear t.b m ok).2, q⟩, (said (hear t.b m ok).2).length)
def fits (o : Option (T × Nat)) (n : Nat) : Bool := match o with
 | none => true
 | some r => good r.1 && decide (credit r.1 + r.2 ≤ n)
def allOk : Bool := tab.all fun x => decide (credit x.1 = x.2) && [false, true].all fun c => fits (askA x.1 c) (x.2 + 2) && fits (askB x.1 c) (x.2 + 2) && fits (hearA x.1 c) x.2 && fits (hearB x.1 c) x.2
theorem all_ok : allOk = true := by decide +kernel
theorem stillOk : (tab.all fun x => !(x.1.qa.isEmpty && x.1.qb.isEmpty) || decide (x.1.a = x.1.b ∧ x.1.a ≤ 1)) = true := by decide +kernel
theorem smallOk : (tab.all fun x => decide (x.1.a ≤ 5 ∧ x.1.b ≤ 5)) = true := by decide +kernel
theorem good_mem {t : T} (h : good t = true) : ∃ n, (t, n) ∈ tab := by
 unfold good at h
 obtain ⟨x, hx, e⟩ := List.any_eq_true.1 h
 exact ⟨x.2, (of_decide_eq_true e) ▸ hx⟩
theorem good_step {t : T} (h : good t = true) (c : Bool) : fits (askA t c) (credit t + 2) = true ∧ fits (askB t c) (credit t + 2) = true ∧ fits (hearA t c) (credit t) = true ∧ fits (hearB t c) (credit t) = true := by
 obtain ⟨n, hn⟩ := good_mem h
 have := List.all_eq_true.1 all_ok _ hn
 rw [Bool.and_eq_true] at this
 have e : credit t = n := of_decide_eq_true this.1
 have h2 := List.all_eq_true.1 this.2 c (by cases c <;> simp)
 simp only [Bool.and_eq_true] at h2
 rw [e]
 exact ⟨h2.1.1.1, h2.1.1.2, h2.1.2, h2.2⟩
theorem good_still {t : T} (h : good t = true) (ha : t.qa = []) (hb : t.qb = []) : t.a = t.b ∧ t.a ≤ 1 := by
 obtain ⟨n, hn⟩ := good_mem h
 have := List.all_eq_true.1 stillOk _ hn
 simp only [ha, hb, List.isEmpty_nil, Bool.and_self, Bool.not_true, Bool.false_or] at this
 exact of_decide_eq_true this
theorem good_small {t : T} (h : good t = true) : t.a ≤ 5 ∧ t.b ≤ 5 := by
 obtain ⟨n, hn⟩ := good_mem h
 exact of_decide_eq_true (List.all_eq_true.1 smallOk _ hn)
end Ch
end Go.Proofs.YtobkkblijfhpoaaGreatDoor.Pm

namespace Go.Proofs.YtobkkblijfhpoaaGreatDoor.Pm
open Go.Proofs.YtobkkblijfhpoaaGreatDoor.Args
open Go.ChangeShapes Go.WideShapes Go.ChangeAt Go.RowKit
set_option linter.unusedVariables false
set_option linter.unusedSimpArgs false
set_option maxRecDepth 100000
def gt (c : Bool) (n : GNeg) (k : Nat) : Nat := bif c then (n.Us k).toNat else (n.Him k).toNat
def pU (c : Bool) (n : GNeg) (k : Nat) (z : Nat) : GNeg := bif c then ⟨upd n.Us k (u8 z), n.Him, n.UsOk, n.HimOk⟩ else ⟨n.Us, upd n.Him k (u8 z), n.UsOk, n.HimOk⟩
def base (c : Bool) : Int := bif c then 251 else 253
def rb (c : Bool) (w k : Nat) : List UInt8 := if w = 0 then [] else [255, u8 (base c + w - 1), u8 k]
def rt (c : Bool) (w k : Nat) : List GTok := if w = 0 then [] else [⟨3, base c + w - 1, k, []⟩]
theorem six_nat (s : Nat) (h : s ≤ 5) : s = 0 ∨ s = 1 ∨ s = 2 ∨ s = 3 ∨ s = 4 ∨ s = 5 := by omega
theorem hear_small (s : Nat) (on ok : Bool) (h : s ≤ 5) : (Ch.hear s on ok).1 ≤ 5 ∧ (Ch.hear s on ok).2 ≤ 2 := by
 rcases six_nat s h with rfl | rfl | rfl | rfl | rfl | rfl <;> cases on <;> cases ok <;> decide
theorem hear_eq (s : Nat) (on ok : Bool) (h : s ≤ 5) : ∃ b, f162 (s : Int) on ok = some (((Ch.hear s on ok).1 : Int), ((Ch.hear s on ok).2 : Int), b) := by
 rcases six_nat s h with rfl | rfl | rfl | rfl | rfl | rfl <;> cases on <;> cases ok <;> exact ⟨_, rfl⟩
theorem ask_small (s : Nat) (on : Bool) (r : Nat × Nat) (e : Ch.ask s on = some r) : r.1 ≤ 5 ∧ r.2 ≤ 2 := by
 revert e
 unfold Ch.ask
 repeat' split
 all_goals intro e; cases e; first | decide | skip
theorem ask_eq (s : Nat) (on : Bool) (h : s ≤ 5) : f119 (s : Int) on = some (match Ch.ask s on with
  | some r => ((r.1 : Int), (r.2 : Int), 0)
  | none => ((s : Int), 0, 7)) := by
 rcases six_nat s h with rfl | rfl | rfl | rfl | rfl | rfl <;> cases on <;> rfl
theorem by_eq (c : Bool) (w k : Nat) (h : w ≤ 2) : f120 c (w : Int) (k : Int) = some (rb c w k) := by
 have : w = 0 ∨ w = 1 ∨ w = 2 := by omega
 rcases this with rfl | rfl | rfl <;> cases c <;> rfl
theorem opt_in (k : Nat) (h : k < 256) : inR (IntKind.i64.wrap (Int.tdiv (k : Int) 64)) 4 = some (k / 64) := by
 have e : Int.tdiv (k : Int) 64 = ((k / 64 : Nat) : Int) := rfl
 rw [e, i64w _ (by omega)]
 exact inR_nat _ _ (by omega)
theorem opt_mod (k : Nat) : chk (decide (0 ≤ Int.tmod (k : Int) 64)) = some () := by
 have e : Int.tmod (k : Int) 64 = ((k % 64 : Nat) : Int) := rfl
 rw [e, decide_eq_true (by omega)]; rfl
def cmdN (c on : Bool) : Int := bif c then (bif on then 253 else 254) else (bif on then 251 else 252)
theorem hj1 (n : GNeg) (k : Nat) (hk : k < 256) (c on : Bool) (t : GTok) (ho : t.Opt = k) (hs : gt c n k ≤ 5) :
  ∃ ok, f104_j1 n t on c = some (pU c n k (Ch.hear (gt c n k) on ok).1, rb c (Ch.hear (gt c n k) on ok).2 k) := by
 unfold f104_j1
 rw [ho]
 cases c
 ·simp only [cond_false, inR_nat k 256 hk, opt_in k hk, opt_mod, Option.bind_some]
  generalize decide (_ = (1 : Int)) = q
  refine ⟨q, ?_⟩
  obtain ⟨b, e⟩ := hear_eq (gt false n k) on q hs
  have e' : f162 ((n.Him k).toNat : Int) on q = _ := e
  cases q
  ·simp only [cond_false, e', Option.bind_some, by_eq _ _ k (hear_small _ on _ hs).2]; rfl
  ·simp only [cond_true, e', Option.bind_some, by_eq _ _ k (hear_small _ on _ hs).2]; rfl
 ·simp only [cond_true, inR_nat k 256 hk, opt_in k hk, opt_mod, Option.bind_some]
  generalize decide (_ = (1 : Int)) = q
  refine ⟨q, ?_⟩
  obtain ⟨b, e⟩ := hear_eq (gt true n k) on q hs
  have e' : f162 ((n.Us k).toNat : Int) on q = _ := e
  cases q
  ·simp only [cond_false, e', Option.bind_some, by_eq _ _ k (hear_small _ on _ hs).2]; rfl
  ·simp only [cond_true, e', Option.bind_some, by_eq _ _ k (hear_small _ on _ hs).2]; rfl
theorem hears_eq (n : GNeg) (k : Nat) (hk : k < 256) (c on : Bool) (t : GTok) (ho : t.Opt = k) (hc : t.Cmd = cmdN c on) (hs : gt c n k ≤ 5) :
  ∃ ok, f104 n t = some (pU c n k (Ch.hear (gt c n k) on ok).1, rb c (Ch.hear (gt c n k) on ok).2 k) := by
 obtain ⟨ok, e⟩ := hj1 n k hk c on t ho hs
 refine ⟨ok, ?_⟩
 rw [← e]
 unfold f104 f104_j0
 rw [hc]
 cases c <;> cases on <;> rfl
theorem want_eq (n : GNeg) (hn : okN n) (us : Bool) (o : Int) (on : Bool) : (∃ e, e ≠ 0 ∧ f69 n us o on = some (n, [], e)) ∨
  ∃ k r, k < 256 ∧ o = ((k : Nat) : Int) ∧ Ch.ask (gt us n k) on = some r ∧ f69 n us o on = some (pU us n k r.1, rb us r.2 k, 0) := by
 have hc : f56 n = some 0 := by
  rcases qchk_eq n with ⟨_, e⟩ | ⟨e, _⟩
  ·exact e
  ·exact absurd hn e
 unfold f69 f69_j0
 rw [hc]
 simp only [Option.bind_some, decide_true, Bool.not_true, cond_false]
 by_cases h1 : o < 0
 ·rw [decide_eq_true h1]; exact .inl ⟨1, by decide, rfl⟩
 ·rw [decide_eq_false h1]
  by_cases h2 : 255 < o
  ·rw [decide_eq_true h2]; exact .inl ⟨1, by decide, rfl⟩
  ·rw [decide_eq_false h2]
   obtain ⟨k, rfl⟩ : ∃ k : Nat, o = k := ⟨o.toNat, by omega⟩
   have hk : k < 256 := by omega
   simp only [cond_false]
   unfold f69_j1
   have h := hn k hk
   cases us
   ·simp only [cond_false, inR_nat k 256 hk, Option.bind_some]
    cases ea : Ch.ask (gt false n k) on with
    | none =>
     left; refine ⟨7, by decide, ?_⟩
     rw [ask_eq _ on h.2, show Ch.ask (n.Him k).toNat on = none from ea]
     rfl
    | some r =>
     right; refine ⟨k, r, hk, rfl, ea, ?_⟩
     rw [ask_eq _ on h.2, show Ch.ask (n.Him k).toNat on = some r from ea]
     simp only [Option.bind_some, decide_true, Bool.not_true, cond_false, by_eq false r.2 k (ask_small _ on r ea).2]; rfl
   ·simp only [cond_true, inR_nat k 256 hk, Option.bind_some]
    cases ea : Ch.ask (gt true n k) on with
    | none =>
     left; refine ⟨7, by decide, ?_⟩
     rw [ask_eq _ on h.1, show Ch.ask (n.Us k).toNat on = none from ea]
     rfl
    | some r =>
     right; refine ⟨k, r, hk, rfl, ea, ?_⟩
     rw [ask_eq _ on h.1, show Ch.ask (n.Us k).toNat on = some r from ea]
     simp only [Option.bind_some, decide_true, Bool.not_true, cond_false, by_eq true r.2 k (ask_small _ on r ea).2]; rfl
def tot : Nat → (Nat → Nat) → Nat
 | 0, _ => 0
 | n + 1, f => f n + tot n f
theorem tot_same (f g : Nat → Nat) : ∀ n, (∀ j, j < n → g j = f j) → tot n g = tot n f
 | 0, _ => rfl
 | n + 1, h => by
  show g n + tot n g = f n + tot n f
  rw [h n (by omega), tot_same f g n fun j hj => h j (by omega)]
theorem tot_le (f g : Nat → Nat) (k m p : Nat) (hs : ∀ j, j ≠ k → g j = f j) (hv : g k + m ≤ f k + p) : ∀ n, k < n → tot n g + m ≤ tot n f + p
 | 0, h => by omega
 | n + 1, h => by
  show g n + tot n g + m ≤ f n + tot n f + p
  by_cases e : k = n
  ·subst e
   rw [tot_same f g k fun j hj => hs j (by omega)]; omega
  ·have := tot_le f g k m p hs hv n (by omega)
   rw [hs n (by omega)]; omega
open Ch in
def val (t : T) : Nat := credit t + (t.qa.length + t.qb.length)
def Ev (f : Bool → Nat → Ch.T) : Nat := tot 256 fun k => val (f true k) + val (f false k)
def Gd (f : Bool → Nat → Ch.T) : Prop := ∀ c k, k < 256 → Ch.good (f c k) = true
theorem one_ch (f g : Bool → Nat → Ch.T) (c : Bool) (k : Nat) (hk : k < 256) (m p : Nat) (hs : ∀ c' j, (c' ≠ c ∨ j ≠ k) → g c' j = f c' j) (hg : Ch.good (g c k) = true) (hv : val (g c k) + m ≤ val (f c k) + p) (h : Gd f) : Gd g ∧ Ev g + m ≤ Ev f + p := by
 constructor
 ·intro c' j hj
  by_cases e : c' ≠ c ∨ j ≠ k
  ·rw [hs c' j e]; exact h c' j hj
  ·have e1 : c' = c := Classical.byContradiction fun q => e (.inl q)
   have e2 : j = k := Classical.byContradiction fun q => e (.inr q)
   rw [e1, e2]; exact hg
 ·refine tot_le _ _ k m p (fun j hj => ?_) ?_ 256 hk
  ·show val (g true j) + val (g false j) = val (f true j) + val (f false j)
   rw [hs true j (.inr hj), hs false j (.inr hj)]
  ·show val (g true k) + val (g false k) + m ≤ val (f true k) + val (f false k) + p
   cases c
   ·rw [hs true k (.inl (by decide))]; omega
   ·rw [hs false k (.inl (by decide))]; omega
theorem Ev_same (f g : Bool → Nat → Ch.T) (h : ∀ k, val (g true k) + val (g false k) = val (f true k) + val (f false k)) : Ev g = Ev f := tot_same _ _ 256 fun j _ => h j
theorem Ev_zero (f : Bool → Nat → Ch.T) (h : ∀ k, val (f true k) + val (f false k) = 0) : Ev f = 0 := by
 have : ∀ n, tot n (fun k => val (f true k) + val (f false k)) = 0 := by
  intro n
  induction n with
  | zero => rfl
  | succ n ih => exact (congrArg (· + tot n _) (h n)).trans ((Nat.zero_add _).trans ih)
 exact this 256
attribute [irreducible] Ev
def msg (d : Bool) (k : Nat) (t : GTok) : List Bool := if t.Kind = 3 ∧ t.Opt = k ∧ decide (253 ≤ t.Cmd) = d then [decide (t.Cmd = 251 ∨ t.Cmd = 253)] else []
def ms (d : Bool) (k : Nat) (ts : List GTok) : List Bool := ts.flatMap (msg d k)
theorem ms_app (d : Bool) (k : Nat) (a b : List GTok) : ms d k (a ++ b) = ms d k a ++ ms d k b := List.flatMap_append
theorem ms_cons (d : Bool) (k : Nat) (t : GTok) (b : List GTok) : ms d k (t :: b) = msg d k t ++ ms d k b := rfl
theorem ms_z (d : Bool) (k : Nat) (t : GTok) (h : Zt t) : msg d k t = [] := if_neg fun q => by have := h.1; have := q.1; omega
theorem ms_rt (d c : Bool) (j w k : Nat) (hw : w ≤ 2) : ms d j (rt c w k) = if d = (!c) ∧ j = k then Ch.said w else [] := by
 have : w = 0 ∨ w = 1 ∨ w = 2 := by omega
 by_cases e : j = k
 ·subst e
  rcases this with rfl | rfl | rfl <;> cases c <;> cases d <;> simp [ms, rt, msg, Ch.said, base]
 ·have e' : ¬ ((k : Int) = (j : Int)) := by omega
  rw [if_neg (fun q => e q.2)]
  rcases this with rfl | rfl | rfl <;> simp [ms, rt, msg, e']
theorem rt_nt (c : Bool) (w k : Nat) (hk : k < 256) (hw : w ≤ 2) : ∀ t ∈ rt c w k, Nt t := by
 have : w = 0 ∨ w = 1 ∨ w = 2 := by omega
 intro t ht
 rcases this with rfl | rfl | rfl
 ·cases ht
 all_goals
  rw [List.mem_singleton.1 ht]
  refine ⟨rfl, ?_, ?_, ?_, ?_, rfl⟩
  ·cases c <;> simp [base]
  ·cases c <;> simp [base]
  ·show (0 : Int) ≤ k; omega
  ·show (k : Int) ≤ 255; omega
def Ts (a b : GNeg) (ta tb : List GTok) (c : Bool) (k : Nat) : Ch.T := bif c then ⟨gt true a k, gt false b k, ms true k ta, ms false k tb⟩ else ⟨gt true b k, gt false a k, ms true k tb, ms false k ta⟩
theorem ch_hear (s o : Nat) (on ok : Bool) (q q' : List Bool) (h : Ch.good ⟨s, o, on :: q, q'⟩ = true) : Ch.good ⟨(Ch.hear s on ok).1, o, q, q' ++ Ch.said (Ch.hear s on ok).2⟩ = true ∧ val ⟨(Ch.hear s on ok).1, o, q, q' ++ Ch.said (Ch.hear s on ok).2⟩ + 1 ≤ val ⟨s, o, on :: q, q'⟩ + 0 := by
 have := (Ch.good_step h ok).2.2.1
 unfold Ch.fits Ch.hearA at this
 simp only [Bool.and_eq_true, decide_eq_true_eq] at this
 refine ⟨this.1, ?_⟩
 unfold val
 simp only [List.length_cons, List.length_append]
 have := this.2
 omega
theorem ch_hearB (s o : Nat) (on ok : Bool) (q q' : List Bool) (h : Ch.good ⟨o, s, q', on :: q⟩ = true) : Ch.good ⟨o, (Ch.hear s on ok).1, q' ++ Ch.said (Ch.hear s on ok).2, q⟩ = true ∧ val ⟨o, (Ch.hear s on ok).1, q' ++ Ch.said (Ch.hear s on ok).2, q⟩ + 1 ≤ val ⟨o, s, q', on :: q⟩ + 0 := by
 have := (Ch.good_step h ok).2.2.2
 unfold Ch.fits Ch.hearB at this
 simp only [Bool.and_eq_true, decide_eq_true_eq] at this
 refine ⟨this.1, ?_⟩
 unfold val
 simp only [List.length_cons, List.length_append]
 have := this.2
 omega
theorem ch_ask (s o : Nat) (on : Bool) (r : Nat × Nat) (e : Ch.ask s on = some r) (q q' : List Bool) (h : Ch.good ⟨s, o, q, q'⟩ = true) : Ch.good ⟨r.1, o, q, q' ++ Ch.said r.2⟩ = true ∧ val ⟨r.1, o, q, q' ++ Ch.said r.2⟩ + 0 ≤ val ⟨s, o, q, q'⟩ + 2 := by
 have := (Ch.good_step h on).1
 unfold Ch.askA at this
 simp only [e] at this
 unfold Ch.fits at this
 simp only [Option.map_some, Bool.and_eq_true, decide_eq_true_eq] at this
 refine ⟨this.1, ?_⟩
 unfold val
 simp only [List.length_append]
 have := this.2
 omega
theorem ch_askB (s o : Nat) (on : Bool) (r : Nat × Nat) (e : Ch.ask s on = some r) (q q' : List Bool) (h : Ch.good ⟨o, s, q', q⟩ = true) : Ch.good ⟨o, r.1, q' ++ Ch.said r.2, q⟩ = true ∧ val ⟨o, r.1, q' ++ Ch.said r.2, q⟩ + 0 ≤ val ⟨o, s, q', q⟩ + 2 := by
 have := (Ch.good_step h on).2.1
 unfold Ch.askB at this
 simp only [e] at this
 unfold Ch.fits at this
 simp only [Option.map_some, Bool.and_eq_true, decide_eq_true_eq] at this
 refine ⟨this.1, ?_⟩
 unfold val
 simp only [List.length_append]
 have := this.2
 omega
theorem gt_pt (c d : Bool) (n : GNeg) (j k z : Nat) (hz : z ≤ 5) : gt d (pU c n k z) j = if d = c ∧ j = k then z else gt d n j := by
 have hu : (u8 (z : Int)).toNat = z := by have := u8_u8 (z : Int); omega
 by_cases e : j = k
 ·subst e
  cases c <;> cases d <;> simp [gt, pU, upd, hu]
 ·rw [if_neg (fun q => e q.2)]
  cases c <;> cases d <;> simp [gt, pU, upd, e]
theorem Ts_other (a b : GNeg) (ta0 ta tb : List GTok) (c : Bool) (z w k : Nat) (hz : z ≤ 5) (hw : w ≤ 2) (hm : ∀ d j, (d ≠ c ∨ j ≠ k) → ms d j ta0 = ms d j ta) (c' : Bool) (j : Nat) (h : c' ≠ c ∨ j ≠ k) : Ts (pU c a k z) b ta (tb ++ rt c w k) c' j = Ts a b ta0 tb c' j := by
 have hn : ¬ (c' = c ∧ j = k) := fun q => h.elim (· q.1) (· q.2)
 cases c'
 ·show (⟨_, _, _, _⟩ : Ch.T) = ⟨_, _, _, _⟩
  rw [gt_pt _ _ _ _ _ _ hz, if_neg hn, ms_app, ms_rt _ _ _ _ _ hw, if_neg (fun q => hn ⟨by cases c; exact rfl; exact absurd q.1 (by decide), q.2⟩), List.append_nil, hm false j h]
 ·show (⟨_, _, _, _⟩ : Ch.T) = ⟨_, _, _, _⟩
  rw [gt_pt _ _ _ _ _ _ hz, if_neg hn, ms_app, ms_rt _ _ _ _ _ hw, if_neg (fun q => hn ⟨by cases c; exact absurd q.1 (by decide); exact rfl, q.2⟩), List.append_nil, hm true j h]
theorem Ts_this (a b : GNeg) (ta tb : List GTok) (c : Bool) (z w k : Nat) (hz : z ≤ 5) (hw : w ≤ 2) : Ts (pU c a k z) b ta (tb ++ rt c w k) c k = bif c then ⟨z, gt false b k, ms true k ta, ms false k tb ++ Ch.said w⟩ else ⟨gt true b k, z, ms true k tb ++ Ch.said w, ms false k ta⟩ := by
 cases c
 ·show (⟨_, _, _, _⟩ : Ch.T) = ⟨_, _, _, _⟩
  rw [gt_pt _ _ _ _ _ _ hz, if_pos ⟨rfl, rfl⟩, ms_app, ms_rt _ _ _ _ _ hw, if_pos ⟨rfl, rfl⟩]
 ·show (⟨_, _, _, _⟩ : Ch.T) = ⟨_, _, _, _⟩
  rw [gt_pt _ _ _ _ _ _ hz, if_pos ⟨rfl, rfl⟩, ms_app, ms_rt _ _ _ _ _ hw, if_pos ⟨rfl, rfl⟩]
def In (a b : GNeg) (ta tb : List GTok) : Prop := Gd (Ts a b ta tb)
def En (a b : GNeg) (ta tb : List GTok) : Nat := Ev (Ts a b ta tb)
theorem In.small {a b : GNeg} {ta tb : List GTok} (h : In a b ta tb) (c : Bool) (k : Nat) (hk : k < 256) : gt c a k ≤ 5 := by
 cases c
 ·exact (Ch.good_small (h false k hk)).2
 ·exact (Ch.good_small (h true k hk)).1
theorem In.okN {a b : GNeg} {ta tb : List GTok} (h : In a b ta tb) : okN a := fun k hk => ⟨h.small true k hk, h.small false k hk⟩
theorem In.swap {a b : GNeg} {ta tb : List GTok} (h : In a b ta tb) : In b a tb ta := fun c k hk => by
 cases c
 ·exact h true k hk
 ·exact h false k hk
theorem En_swap (a b : GNeg) (ta tb : List GTok) : En a b ta tb = En b a tb ta := Ev_same _ _ fun j => Nat.add_comm _ _
theorem hear_step {a b : GNeg} {t : GTok} {ta tb : List GTok} (h : In a b (t :: ta) tb) (ht : Nt t) : ∃ a' c w k, k < 256 ∧ w ≤ 2 ∧ f104 a t = some (a', rb c w k) ∧ In a' b ta (tb ++ rt c w k) ∧ En a' b ta (tb ++ rt c w k) + 1 ≤ En a b (t :: ta) tb := by
 obtain ⟨h1, h2, h3, h4, h5, h6⟩ := ht
 obtain ⟨k, hk⟩ : ∃ k : Nat, t.Opt = k := ⟨t.Opt.toNat, by omega⟩
 have hk' : k < 256 := by omega
 obtain ⟨c, on, hc⟩ : ∃ c on, t.Cmd = cmdN c on := by
  have : t.Cmd = 251 ∨ t.Cmd = 252 ∨ t.Cmd = 253 ∨ t.Cmd = 254 := by omega
  rcases this with e | e | e | e
  ·exact ⟨false, true, e⟩
  ·exact ⟨false, false, e⟩
  ·exact ⟨true, true, e⟩
  ·exact ⟨true, false, e⟩
 have hm : ∀ d j, msg d j t = if d = c ∧ j = k then [on] else [] := fun d j => by
  unfold msg
  rw [hk, hc]
  by_cases e : j = k
  ·subst e
   cases c <;> cases on <;> cases d <;> simp [h1, cmdN]
  ·have e' : ¬ ((k : Int) = (j : Int)) := by omega
   rw [if_neg (fun q => e' q.2.1), if_neg (fun q => e q.2)]
 obtain ⟨ok, e⟩ := hears_eq a k hk' c on t hk hc (h.small c k hk')
 have hs := hear_small (gt c a k) on ok (h.small c k hk')
 generalize hz : (Ch.hear (gt c a k) on ok).1 = z at *
 generalize hw : (Ch.hear (gt c a k) on ok).2 = w at *
 have := one_ch (Ts a b (t :: ta) tb) (Ts (pU c a k z) b ta (tb ++ rt c w k)) c k hk' 1 0 (fun c' j q => Ts_other a b (t :: ta) ta tb c z w k hs.1 hs.2 (fun d j q => by
  rw [ms_cons, hm, if_neg (fun x => q.elim (· x.1) (· x.2))]; rfl) c' j q)
 have hg := h c k hk'
 rw [Ts_this _ _ _ _ _ _ _ _ hs.1 hs.2] at this
 have key : Ch.good (Ts (pU c a k z) b ta (tb ++ rt c w k) c k) = true ∧ val (Ts (pU c a k z) b ta (tb ++ rt c w k) c k) + 1 ≤ val (Ts a b (t :: ta) tb c k) + 0 := by
  rw [Ts_this _ _ _ _ _ _ _ _ hs.1 hs.2]
  cases c
  ·have e0 : Ts a b (t :: ta) tb false k = ⟨gt true b k, gt false a k, ms true k tb, on :: ms false k ta⟩ := by
    show (⟨_, _, _, _⟩ : Ch.T) = ⟨_, _, _, _⟩
    rw [ms_cons false, hm, if_pos ⟨rfl, rfl⟩]; rfl
   rw [e0] at hg ⊢
   have := ch_hearB _ _ on ok _ _ hg
   rw [hz, hw] at this
   exact this
  ·have e0 : Ts a b (t :: ta) tb true k = ⟨gt true a k, gt false b k, on :: ms true k ta, ms false k tb⟩ := by
    show (⟨_, _, _, _⟩ : Ch.T) = ⟨_, _, _, _⟩
    rw [ms_cons true, hm, if_pos ⟨rfl, rfl⟩]; rfl
   rw [e0] at hg ⊢
   have := ch_hear _ _ on ok _ _ hg
   rw [hz, hw] at this
   exact this
 rw [Ts_this _ _ _ _ _ _ _ _ hs.1 hs.2] at key
 obtain ⟨r1, r2⟩ := this key.1 key.2 h
 exact ⟨_, c, w, k, hk', hs.2, e, r1, by unfold En; omega⟩
theorem ask_step {a b : GNeg} {ta tb : List GTok} (h : In a b ta tb) (us : Bool) (o : Int) (on : Bool) : (∃ e, e ≠ 0 ∧ f69 a us o on = some (a, [], e)) ∨
  ∃ a' w k, k < 256 ∧ w ≤ 2 ∧ f69 a us o on = some (a', rb us w k, 0) ∧ In a' b ta (tb ++ rt us w k) ∧ En a' b ta (tb ++ rt us w k) ≤ En a b ta tb + 2 := by
 rcases want_eq a h.okN us o on with e | ⟨k, r, hk, rfl, ea, e⟩
 ·exact .inl e
 ·right
  have hs := ask_small _ on r ea
  refine ⟨_, r.2, k, hk, hs.2, e, ?_⟩
  have := one_ch (Ts a b ta tb) (Ts (pU us a k r.1) b ta (tb ++ rt us r.2 k)) us k hk 0 2 (fun c' j q => Ts_other a b ta ta tb us r.1 r.2 k hs.1 hs.2 (fun _ _ _ => rfl) c' j q)
  have hg := h us k hk
  rw [Ts_this _ _ _ _ _ _ _ _ hs.1 hs.2] at this
  cases us
  ·obtain ⟨k1, k2⟩ := ch_askB (gt false a k) (gt true b k) on r ea (ms false k ta) (ms true k tb) hg
   exact this k1 k2 h
  ·obtain ⟨k1, k2⟩ := ch_ask (gt true a k) (gt false b k) on r ea (ms true k ta) (ms false k tb) hg
   exact this k1 k2 h
theorem Ts_z (a b : GNeg) (t : GTok) (h : Zt t) (ta tb : List GTok) : Ts a b (t :: ta) tb = Ts a b ta tb := by
 funext c k
 cases c
 ·show (⟨_, _, _, _⟩ : Ch.T) = ⟨_, _, _, _⟩
  rw [ms_cons false, ms_z _ _ _ h]; rfl
 ·show (⟨_, _, _, _⟩ : Ch.T) = ⟨_, _, _, _⟩
  rw [ms_cons true, ms_z _ _ _ h]; rfl
theorem Ts_za (a b : GNeg) (t : GTok) (h : Zt t) (ta tb : List GTok) : Ts a b ta (tb ++ [t]) = Ts a b ta tb := by
 have e : ∀ d j, ms d j [t] = [] := fun d j => by rw [ms_cons, ms_z _ _ _ h]; rfl
 funext c k
 cases c
 ·show (⟨_, _, _, _⟩ : Ch.T) = ⟨_, _, _, _⟩
  rw [ms_app, e, List.append_nil]
 ·show (⟨_, _, _, _⟩ : Ch.T) = ⟨_, _, _, _⟩
  rw [ms_app, e, List.append_nil]
theorem In.still {a b : GNeg} (h : In a b [] []) (k : Nat) (hk : k < 256) : (a.Us k).toNat = (b.Him k).toNat ∧ (a.Him k).toNat = (b.Us k).toNat ∧ (a.Us k).toNat ≤ 1 ∧ (a.Him k).toNat ≤ 1 := by
 have h1 := Ch.good_still (h true k hk) rfl rfl
 have h2 := Ch.good_still (h false k hk) rfl rfl
 have e1 : (a.Us k).toNat = (b.Him k).toNat := h1.1
 have e2 : (b.Us k).toNat = (a.Him k).toNat := h2.1
 have e3 : (a.Us k).toNat ≤ 1 := h1.2
 have e4 : (b.Us k).toNat ≤ 1 := h2.2
 omega
end Go.Proofs.YtobkkblijfhpoaaGreatDoor.Pm

