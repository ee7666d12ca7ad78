/- TopPast: a client on a new screen is right, and is its own copy. -/
import Derived.Test.YtobkkblijfhpoaaGreatDoorTpG
namespace Go.Proofs.YtobkkblijfhpoaaGreatDoor.Pm
open Go.Proofs.YtobkkblijfhpoaaGreatDoor.Args
open Go.ChangeShapes Go.WideShapes Go.ChangeAt Go.RowKit
set_option linter.unusedVariables false
set_option linter.unusedSimpArgs false
set_option maxRecDepth 100000
def XT : List UInt8 := [88, 84, 69, 82, 77]
def K0 : GKeys := GKeys.mk (upd (upd (upd (upd (upd (fun _ => 0) 10 2) 11 2) 12 2) 13 2) 14 2) (upd (upd (upd (upd (upd (fun _ => 0) 10 127) 11 21) 12 23) 13 18) 14 22)
def mkC (s : GScreen) (w : GWire) (n : GNeg) : GClient := ⟨w, false, [], ⟨0, 0, [], [], []⟩, s, n, ⟨[XT], 0⟩, [], K0, ⟨fun _ => 0⟩, ⟨[], false⟩, false⟩
def sN (W H : Nat) (st : GStops) : GScreen := sOf W H st (mkL (W * H) (fun _ => blank P0)) 0 0 false
theorem newG (W H : Nat) (h1 : 1 ≤ W ∧ W ≤ 160) (h2 : 1 ≤ H ∧ H ≤ 60) : f44 (W : Int) (H : Int) (GPen.mk 0 0 0) = some ⟨(W : Int), (H : Int), mkL (W * H) (fun _ => blank P0)⟩ := by
 unfold f44 f44_j0
 rw [size_ok, bs, pen_ok, bs, if_pos (by omega), bcf (by rfl), bcf (by rfl), blanksG W H _ h1 h2, bs]; rfl
theorem snew_ok (W H : Nat) (h1 : 1 ≤ W ∧ W ≤ 160) (h2 : 1 ≤ H ∧ H ≤ 60) : ∃ st, f23 (W : Int) (H : Int) = some (sOf W H st (mkL (W * H) (fun _ => blank P0)) 0 0 false) := by
 obtain ⟨st, hst⟩ := usual_ok
 have h9 := size_le W H h1.2 h2.2
 refine ⟨st, ?_⟩
 unfold f23
 rw [newG W H h1 h2, bs]
 unfold f23_j0
 show ((f45 ⟨(W : Int), (H : Int), mkL (W * H) (fun _ => blank P0)⟩).bind _) = _
 rw [cloneG W H _ (by rw [mkL_len]; omega), bs, hst, bs]; rfl
theorem schk (s : GScreen) (W H : Nat) (h1 : 1 ≤ W ∧ W ≤ 160) (h2 : 1 ≤ H ∧ H ≤ 60) (g : gcode s.Grid = 0) (o : gcode s.Other = 0) (gw : s.Grid.Wide = W) (gh : s.Grid.High = H) (ow : s.Other.Wide = W) (oh : s.Other.High = H) (row : s.Row = 0) (col : s.Col = 0) (late : s.Late = false) (top : s.Top = 0) (bot : s.Bottom = H)
  (pn : pcB s.Pen = true) (sp : pcB s.Saved.Pen = true) (md : s.Modes = 12) (p1 : s.Pages.1 = 1) (p2 : s.Pages.2 = 1) (q1 : s.Saved.Pages.1 = 1) (q2 : s.Saved.Pages.2 = 1) (sh : s.Shift = 0) (ssh : s.Saved.Shift = 0) (sr : s.Saved.Row = 0) (sc : s.Saved.Col = 0) (ti : s.Title = []) (pa : s.Past = []) : f55 s = some () := by
 have pl : f100 [] = some () := rfl
 have wi : ∀ a lo hi : Int, lo ≤ a → a ≤ hi → f98 a lo hi = some true := fun a lo hi x y => by rw [within_ok, dt x, dt y]; rfl
 have kn : f99 1 = some true := by rw [known_ok]; rfl
 unfold f55 
 rw [check_ok, bs, bct (dt g), check_ok, bs, bct (dt o), bct (dt (gw.trans ow.symm)), bct (dt (gh.trans oh.symm))]
 unfold f55_j0
 rw [ct, gh, gw, i64w ((H : Int) - 1) (by omega), i64w ((W : Int) - 1) (by omega), row, wi _ _ _ (by omega) (by omega), bs, ct, col, wi _ _ _ (by omega) (by omega), bs, ct, late, Bool.not_false, ct, top, bot, i64w ((H : Int) - 1) (by omega), wi _ _ _ (by omega) (by omega), bs, ct, bct (dt (by omega))]
 unfold f55_j1
 rw [ct, pen_ok, bs, pen0, pn, ct, pen_ok, bs, pen0, sp, ct, md, wi _ _ _ (by omega) (by omega), bs]
 unfold f55_j3
 rw [ct, p1, kn, bs, ct, q1, kn, bs]
 unfold f55_j4
 rw [ct, p2, kn, bs, ct, q2, kn, bs]
 unfold f55_j2
 rw [ct, sh, wi _ _ _ (by omega) (by omega), bs, ct, ssh, wi _ _ _ (by omega) (by omega), bs, ct, sr, wi _ _ _ (by omega) (by omega), bs, ct, sc, wi _ _ _ (by omega) (by omega), bs, ct, ti, bct (dt (by simp)), pa, pl, bs]
theorem schk_ok (W H : Nat) (st : GStops) (h1 : 1 ≤ W ∧ W ≤ 160) (h2 : 1 ≤ H ∧ H ≤ 60) : f55 (sOf W H st (mkL (W * H) (fun _ => blank P0)) 0 0 false) = some () := by
 have g : gcode ⟨(W : Int), (H : Int), mkL (W * H) (fun _ => blank P0)⟩ = 0 := gcode_ok W H _ h1 h2 (mkL_len _ _) (blk_rt W H)
 exact schk _ W H h1 h2 g g rfl rfl rfl rfl rfl rfl rfl rfl rfl (by decide : pcB ⟨0, 0, 0⟩ = true) (by decide : pcB ⟨0, 0, 0⟩ = true) rfl rfl rfl rfl rfl rfl rfl rfl rfl rfl rfl
theorem keys_ok : f57 K0 = some () := by
 unfold f57
 rw [loopO_of (n := 20) (r := ()) (by kernel_rfl), bs]
 kernel_rfl
theorem name_ok : f47 XT = some () := by
 unfold f47
 rw [loopO_of (n := 6) (r := ()) (by kernel_rfl), bs]
 kernel_rfl
theorem cont_nil (z : List UInt8) : f48 [] z = some () := rfl
theorem sorts_ok : f26 ⟨[XT], 0⟩ = some () := by
 have h : loopO (f26_l2 ⟨[XT], 0⟩) 0 = some () := by
  have e0 : f26_l2 ⟨[XT], 0⟩ 0 = some (.inl 1) := by
   unfold f26_l2 f26_l2_j3 f26_l2_j4
   rw [bct (dt (by decide)), ct]
   show ((idx [XT] 0).bind _) = _
   rw [show idx [XT] 0 = some XT from rfl, bs, name_ok, bs, show sub? [XT] 0 0 = some [] from rfl, bs, cont_nil, bs]
   rfl
  have e1 : f26_l2 ⟨[XT], 0⟩ 1 = some (.inr ()) := rfl
  exact loopO_of (n := 2) (by simp [loopF, e0, e1])
 unfold f26 f26_j0
 rw [h]; rfl
theorem vars_ok : f27 [] = some () := rfl
theorem args_ok : ∃ l, f95 [] = some l := by
 have h1 : libTrim [] [48, 49, 50, 51, 52, 53, 54, 55, 56, 57, 59] = some [] := by
  unfold libTrim
  rw [if_pos ⟨by simp, by simp, by decide⟩, trim_all [] _ (by simp)]
 have h2 : loopO (f95_l6 []) () = some () := loopO_done (by rfl)
 have h3 : libSplit [] [59] = some [[]] := by rw [split_ok [] 59 (by simp)]; rfl
 have h5 : loopO (f95_l2 []) ([], [[]], 1, 0) = some [-1] := by
  have e0 : f95_l2 [] ([], [[]], 1, 0) = some (.inl ([-1], [[]], 1, 1)) := by
   unfold f95_l2 f95_l2_j3 f95_l2_j4 f95_l2_j5
   rw [bct (dt (by decide)), ct]
   show (((idx [[]] 0) : Option (List UInt8)).bind _) = _
   rw [show idx ([[]] : List (List UInt8)) 0 = some [] from rfl, bs, bcf (df (by decide)), bcf (df (by decide)), app_ok _ _ _ (by simp), bs]
   rfl
  have e1 : f95_l2 [] ([-1], [[]], 1, 1) = some (.inr [-1]) := rfl
  exact loopO_of (n := 2) (by simp [loopF, e0, e1])
 unfold f95 f95_j0 f95_j1
 rw [h1, bs, show (!decide (([] : List UInt8) = [])) = false from rfl, cf, h2, bs]
 refine ⟨[-1], ?_⟩
 rw [h3, bs]
 have e : (([[]] : List (List UInt8)).length : Int) = 1 := rfl
 rw [e, h5, bs]
theorem pars_ok : f54 ⟨0, 0, [], [], []⟩ = some () := by
 obtain ⟨l, hl⟩ := args_ok
 have hi : f97 [] 3 = some true := by
  unfold f97
  rw [loopO_done (r := .inl ()) (by rfl)]; rfl
 unfold f54 f54_j0
 show ((f95 []).bind _) = _
 rw [hl, bs]
 show ((f97 [] 3).bind _) = _
 rw [hi, bs]
 rfl
theorem line_ok : f58 ⟨[], false⟩ = some () := rfl
theorem part_ok : f53 [] = some () := rfl
theorem nine (a : GClient) : loopO (f28_l0 a) ((fun i => ([0, 0, 0, 0, 0, 0, 0, 0, 0] : List Int).getD i 0), 0) = some () := loopO_of (n := 10) (by rfl)
theorem cloneS (W H : Nat) (st : GStops) (g : List GCell) (hg : g.length = W * H) (hW : W ≤ 160) (hH : H ≤ 60) : f59 (sOf W H st g 0 0 false) = some (sOf W H st g 0 0 false) := by
 have h9 := size_le W H hW hH
 unfold f59
 have e1 : f45 (sOf W H st g 0 0 false).Grid = some ((W : Int), (H : Int), g) := cloneG W H g (by omega)
 have e2 : f45 (sOf W H st g 0 0 false).Other = some ((W : Int), (H : Int), mkL (W * H) (fun _ => blank P0)) := cloneG W H _ (by rw [mkL_len]; omega)
 rw [e1, bs, e2, bs]
 have hl : loopO (f59_l0 (sOf W H st g 0 0 false)) (sOf W H st g 0 0 false, [], 0) = some (sOf W H st g 0 0 false, []) := loopO_done (by
  unfold f59_l0 f59_l0_j1
  try dsimp only []
  rw [bcf (df (by show ¬ (0 : Int) < (([] : List GLine).length : Int); simp)), cf])
 show ((loopO (f59_l0 (sOf W H st g 0 0 false)) (sOf W H st g 0 0 false, [], 0)).bind _) = _
 rw [hl, bs]; rfl
def zW : GWire := ⟨0, 0, 0, [], false⟩
def n0 : GNeg := ⟨fun _ => 0, fun _ => 0, fun _ => 0, fun _ => 0⟩
theorem wire_ok : f52 zW = some 0 := rfl
theorem chkC (s : GScreen) (hs : f55 s = some ()) : f28 (mkC s zW n0) = some () := by
 have hq : f56 n0 = some 0 := by
  rcases qchk_eq n0 with ⟨_, h⟩ | ⟨h, _⟩
  ·exact h
  ·exact absurd (fun i _ => ⟨(by decide : (0 : UInt8).toNat ≤ 5), (by decide : (0 : UInt8).toNat ≤ 5)⟩) h
 unfold f28 mkC
 dsimp only []
 rw [vars_ok, bs, wire_ok, bs, part_ok, bs, pars_ok, bs, hs, bs, hq, bs, sorts_ok, bs, keys_ok, bs, line_ok, bs, nine, bs]
theorem cloneC (s : GScreen) (w : GWire) (n : GNeg) (hs : f59 s = some s) : f29 (mkC s w n) = some (mkC s w n) := by
 have e1 : f24 [XT] = some [XT] := by
  unfold f24
  rw [app_ok _ _ _ (by simp), bs]; rfl
 have e2 : f25 [] = some [] := by
  unfold f25
  rw [app_ok _ _ _ (by simp), bs]; rfl
 unfold f29 mkC
 dsimp only []
 rw [hs, bs, e1, bs, e2, bs]
end Go.Proofs.YtobkkblijfhpoaaGreatDoor.Pm

namespace Go.Proofs.YtobkkblijfhpoaaGreatDoor.Pm
open Go.Proofs.YtobkkblijfhpoaaGreatDoor.Args
open Go.ChangeShapes Go.WideShapes Go.ChangeAt Go.RowKit
set_option linter.unusedVariables false
set_option linter.unusedSimpArgs false
set_option maxRecDepth 100000
theorem feed_loop (w : GWire) : ∀ (suf pre : List UInt8), (∀ b ∈ suf, b.toNat ≠ 255) → pre.length + suf.length ≤ 100000 →
  loopO (f102_l2 w (pre ++ suf)) (0, 0, 0, [], false, [], pre, [], (pre.length : Int)) = some (0, 0, 0, [], false, [], pre ++ suf, [])
 | [], pre, h, hl => loopO_done (by
   unfold f102_l2 f102_l2_j3
   simp only [List.append_nil]
   rw [decide_eq_false (Int.lt_irrefl _)]; rfl)
 | x :: t, pre, h, hl => by
  have e1 : pre ++ x :: t = (pre ++ [x]) ++ t := by simp
  simp only [List.length_cons] at hl
  have ih := feed_loop w t (pre ++ [x]) (fun b hb => h b (List.mem_cons_of_mem _ hb)) (by simp; omega)
  rw [← e1] at ih
  refine loopO_next ?_ ih
  unfold f102_l2 f102_l2_j3 f102_l2_j4
  simp only [lt_mid, cond_true, idx_mid, Option.bind_some]
  have hx := h x (List.mem_cons_self ..)
  unfold f156
  rw [decide_eq_true rfl, decide_eq_false (p := (x.toNat : Int) = 255) (by omega)]
  simp only [cond_true, cond_false]
  rw [app_ok _ _ _ (by simp; omega)]
  simp only [Option.bind_some]
  rw [wrap_nx pre x (by omega)]
theorem feed_plain (d : List UInt8) (h : ∀ b ∈ d, b.toNat ≠ 255) (hl : d.length ≤ 100000) (hne : d ≠ []) : f102 zW d = some (zW, [⟨1, 0, 0, d⟩]) := by
 have e := feed_loop zW d [] h (by simpa using hl)
 unfold f102 f102_j0 f102_j1
 rw [wire_ok]
 simp only [Option.bind_some, decide_true, Bool.not_true, cond_false]
 rw [show chk (decide (zW.Buf.length ≤ 140737488355328)) = some () from rfl]
 simp only [Option.bind_some]
 show ((loopO (f102_l2 zW ([] ++ d)) (0, 0, 0, [], false, [], [], [], (([] : List UInt8).length : Int))).bind _) = _
 rw [e]
 simp only [Option.bind_some, List.nil_append]
 unfold f157
 rw [decide_eq_true (p := 0 < (d.length : Int)) (by have := List.length_pos_iff.2 hne; omega)]
 simp only [cond_true]
 rw [app_ok _ _ _ (by simp)]
 rfl
def stepN (s : Bool × List UInt8) (c : UInt8) : Bool × List UInt8 :=
 if s.1 = true then
  (if c = 10 then (false, s.2 ++ [10]) else if c = 0 then (false, s.2 ++ [13]) else if c = 13 then (true, s.2 ++ [13]) else (false, s.2 ++ [13] ++ [c]))
 else if c = 13 then (true, s.2) else (false, s.2 ++ [c])
theorem u8_dec (c : UInt8) (n : Nat) (hn : n < 256) : decide ((c.toNat : Int) = (n : Int)) = decide (c = UInt8.ofNat n) := by
 by_cases h : c = UInt8.ofNat n
 ·subst h
  rw [decide_eq_true rfl]
  exact decide_eq_true (by have : (UInt8.ofNat n).toNat = n := (by simp; omega); omega)
 ·rw [decide_eq_false h]
  refine decide_eq_false fun q => h ?_
  have : c.toNat = n := by omega
  rw [← this]; simp
theorem nvt_loop (a : Bool) (b : Bool) : ∀ (suf pre : List UInt8) (s : Bool × List UInt8), s.2.length ≤ 2 * pre.length → pre.length + suf.length ≤ 100000 →
  loopO (f158_l1 a (pre ++ suf) b) (s.1, s.2, (pre.length : Int)) = some (suf.foldl stepN s)
 | [], pre, s, h, hl => loopO_done (by
   unfold f158_l1 f158_l1_j2
   simp only [lt_end, cond_false]; rfl)
 | x :: t, pre, s, h, hl => by
  have e1 : pre ++ x :: t = (pre ++ [x]) ++ t := by simp
  simp only [List.length_cons] at hl
  have hs : (stepN s x).2.length ≤ 2 * (pre ++ [x]).length := by
   unfold stepN
   repeat' split
   all_goals simp; omega
  have ih := nvt_loop a b t (pre ++ [x]) (stepN s x) hs (by simp; omega)
  rw [← e1] at ih
  refine loopO_next ?_ ih
  unfold f158_l1 f158_l1_j2 f158_l1_j3 f158_l1_j4
  simp only [lt_mid, cond_true, idx_mid, Option.bind_some]
  have d10 : decide ((x.toNat : Int) = 10) = decide (x = 10) := u8_dec x 10 (by omega)
  have d0 : decide ((x.toNat : Int) = 0) = decide (x = 0) := u8_dec x 0 (by omega)
  have d13 : decide ((x.toNat : Int) = 13) = decide (x = 13) := u8_dec x 13 (by omega)
  rw [d10, d0, d13, wrap_nx pre x (by omega)]
  obtain ⟨c, o⟩ := s
  have ho : o.length ≤ 200000 := by simp at h; omega
  unfold stepN
  cases c
  ·simp only [cond_false, Bool.false_eq_true, if_false]
   by_cases h13 : x = 13
   ·rw [decide_eq_true h13, if_pos h13]; rfl
   ·rw [decide_eq_false h13, if_neg h13]
    simp only [cond_false]
    rw [app_ok _ _ _ (by simp; omega)]; rfl
  ·simp only [cond_true, if_true]
   by_cases h10 : x = 10
   ·rw [decide_eq_true h10, if_pos h10]
    simp only [cond_true]
    rw [app_ok _ _ _ (by simp; omega)]; rfl
   ·rw [decide_eq_false h10, if_neg h10]
    by_cases h0 : x = 0
    ·rw [decide_eq_true h0, if_pos h0]
     simp only [cond_true, cond_false]
     rw [app_ok _ _ _ (by simp; omega)]; rfl
    ·rw [decide_eq_false h0, if_neg h0]
     simp only [cond_false]
     rw [app_ok _ _ _ (by simp; omega)]
     simp only [Option.bind_some]
     by_cases h13 : x = 13
     ·rw [decide_eq_true h13, if_pos h13]; rfl
     ·rw [decide_eq_false h13, if_neg h13]
      simp only [cond_false]
      rw [app_ok _ _ _ (by simp; omega)]; rfl
theorem nvt_ok (d : List UInt8) (hl : d.length ≤ 100000) : f158 false d false = some (d.foldl stepN (false, [])) := by
 have e := nvt_loop false false d [] (false, []) (by simp) (by simpa using hl)
 unfold f158 f158_j0
 simp only [cond_false]
 show ((loopO (f158_l1 false ([] ++ d) false) (false, [], (([] : List UInt8).length : Int))).bind _) = _
 rw [e]; rfl
def Ln (l : List UInt8) : Prop := (∀ b ∈ l, 32 ≤ b.toNat ∧ b.toNat ≤ 126) ∧ l.length ≤ 7
theorem nvt_plain : ∀ (l : List UInt8) (o : List UInt8), (∀ b ∈ l, 32 ≤ b.toNat ∧ b.toNat ≤ 126) → l.foldl stepN (false, o) = (false, o ++ l)
 | [], o, h => by rw [List.append_nil]; rfl
 | b :: l, o, h => by
  have hb := h b (List.mem_cons_self ..)
  have h13 : ¬ b = 13 := fun e => by subst e; have : (13 : UInt8).toNat = 13 := rfl; omega
  have : stepN (false, o) b = (false, o ++ [b]) := by unfold stepN; rw [if_neg (by simp), if_neg h13]
  rw [List.foldl_cons, this, nvt_plain l _ fun x hx => h x (List.mem_cons_of_mem _ hx)]
  simp
def sent (ls : List (List UInt8)) : List UInt8 := ls.flatMap fun l => l ++ [13, 0, 13, 10]
def come (ls : List (List UInt8)) : List UInt8 := ls.flatMap fun l => l ++ [13, 10]
theorem nvt_sent : ∀ (ls : List (List UInt8)) (o : List UInt8), (∀ l ∈ ls, Ln l) → (sent ls).foldl stepN (false, o) = (false, o ++ come ls)
 | [], o, h => by show (false, o) = _; simp [come]
 | l :: ls, o, h => by
  have e : sent (l :: ls) = l ++ ([13, 0, 13, 10] ++ sent ls) := by unfold sent; rw [List.flatMap_cons]; simp
  rw [e, List.foldl_append, nvt_plain l o (h l (List.mem_cons_self ..)).1, List.foldl_append]
  have : [13, 0, 13, 10].foldl stepN (false, o ++ l) = (false, o ++ l ++ [13] ++ [10]) := rfl
  rw [this, nvt_sent ls _ fun x hx => h x (List.mem_cons_of_mem _ hx)]
  unfold come; rw [List.flatMap_cons]; simp
def runes (s : List UInt8) : List Int := s.map fun b => (b.toNat : Int)
theorem utf_loop (a b : List UInt8) : ∀ (s : List UInt8) (o : List Int), (∀ x ∈ s, x.toNat < 128) → s.length + o.length ≤ 100000 → loopO (f159_l1 a b) (s, o) = some (o ++ runes s)
 | [], o, h, hl => loopO_done (by
   unfold f159_l1
   simp [runes])
 | x :: t, o, h, hl => by
  simp only [List.length_cons] at hl
  have ih := utf_loop a b t (o ++ [(x.toNat : Int)]) (fun y hy => h y (List.mem_cons_of_mem _ hy)) (by simp; omega)
  have e : o ++ [(x.toNat : Int)] ++ runes t = o ++ runes (x :: t) := by unfold runes; simp
  rw [e] at ih
  refine loopO_next ?_ ih
  unfold f159_l1 f159_l1_j2
  have hx := h x (List.mem_cons_self ..)
  simp only []
  rw [decide_eq_false (p := x :: t = []) (by simp)]
  simp only [Bool.not_false, cond_true]
  rw [show idx (x :: t) 0 = some x from idx_mid [] x t]
  simp only [Option.bind_some]
  rw [decide_eq_true (p := (x.toNat : Int) < 128) (by omega)]
  simp only [cond_true]
  rw [app_ok _ _ _ (by simp; omega)]
  simp only [Option.bind_some]
  rw [show sub? (x :: t) 1 ((x :: t).length : Int) = some t by
   have := sub_nat (x :: t) 1 (x :: t).length (by simp) (by omega)
   rw [List.take_length] at this
   exact this]
  rfl
theorem utf_ok (s : List UInt8) (h : ∀ x ∈ s, x.toNat < 128) (hl : s.length ≤ 100000) : f159 [] s = some (runes s) := by
 have e := utf_loop [] s s [] h (by simpa using hl)
 unfold f159 f159_j0
 rw [part_ok]
 simp only [Option.bind_some]
 rw [cat_ok _ _ (by simp; omega)]
 simp only [Option.bind_some, List.nil_append]
 rw [e]; rfl
def actO (c : Int) : GAct := if c < 32 then ⟨2, c, 0, [], [], []⟩ else ⟨1, c, 0, [], [], []⟩
def Rn (c : Int) : Prop := c = 10 ∨ c = 13 ∨ (32 ≤ c ∧ c ≤ 126)
theorem take_ok (c : Int) (hc : Rn c) (l : List GAct) (hl : l.length ≤ 100000) : f208 c 0 0 [] [] [] l = some (0, 0, [], [], [], l ++ [actO c]) := by
 unfold Rn at hc
 unfold f208 f208_j0 f208_j2 f208_j3 f208_j1
 rw [decide_eq_false (p := c < 0) (by omega), decide_eq_false (p := 1114111 < c) (by omega)]
 simp only [cond_false, show decide ((0 : Int) = 7) = false from rfl, show decide ((0 : Int) = 9) = false from rfl, show decide ((0 : Int) = 8) = false from rfl, show decide ((0 : Int) = 10) = false from rfl]
 unfold f242 f239 f96
 rw [decide_eq_false (p := c = 27) (by omega), decide_eq_false (p := c = 24) (by omega), decide_eq_false (p := c = 26) (by omega)]
 simp only [cond_false]
 unfold actO
 by_cases h : c < 32
 ·rw [decide_eq_true h, if_pos h]
  simp only [cond_true]
  rw [app_ok _ _ _ (by simp; omega)]
  simp only [Option.bind_some, cond_true]
 ·rw [decide_eq_false h, if_neg h, decide_eq_false (p := 127 ≤ c) (by omega)]
  simp only [cond_false, Option.bind_some, decide_true, cond_true]
  rw [app_ok _ _ _ (by simp; omega)]
  simp only [Option.bind_some]
theorem parse_loop (p : GParser) : ∀ (suf pre : List Int) (l : List GAct), (∀ c ∈ suf, Rn c) → l.length = pre.length → pre.length + suf.length ≤ 100000 →
  loopO (f160_l2 p (pre ++ suf)) (0, 0, [], [], [], l, (pre.length : Int)) = some (0, 0, [], [], [], l ++ suf.map actO)
 | [], pre, l, h, hk, hl => loopO_done (by
   unfold f160_l2 f160_l2_j3
   simp only [List.map_nil, List.append_nil]
   rw [decide_eq_false (Int.lt_irrefl _)]; rfl)
 | x :: t, pre, l, h, hk, hl => by
  have e1 : pre ++ x :: t = (pre ++ [x]) ++ t := by simp
  simp only [List.length_cons] at hl
  have ih := parse_loop p t (pre ++ [x]) (l ++ [actO x]) (fun y hy => h y (List.mem_cons_of_mem _ hy)) (by simp; omega) (by simp; omega)
  rw [← e1, List.append_assoc] at ih
  refine loopO_next ?_ ih
  unfold f160_l2 f160_l2_j3 f160_l2_j4
  simp only [lt_mid, cond_true, idx_mid, Option.bind_some]
  rw [take_ok x (h x (List.mem_cons_self ..)) l (by omega)]
  simp only [Option.bind_some]
  rw [wrap_nx pre x (by omega)]
theorem parse_ok (rs : List Int) (h : ∀ c ∈ rs, Rn c) (hl : rs.length ≤ 100000) : f160 ⟨0, 0, [], [], []⟩ rs = some (⟨0, 0, [], [], []⟩, rs.map actO) := by
 have e := parse_loop ⟨0, 0, [], [], []⟩ rs [] [] h rfl (by simpa using hl)
 unfold f160 f160_j0 f160_j1
 rw [pars_ok]
 simp only [Option.bind_some]
 show ((loopO (f160_l2 ⟨0, 0, [], [], []⟩ ([] ++ rs)) (0, 0, [], [], [], [], (([] : List Int).length : Int))).bind _) = _
 rw [e]; rfl
end Go.Proofs.YtobkkblijfhpoaaGreatDoor.Pm

namespace Go.Proofs.YtobkkblijfhpoaaGreatDoor.Pm
open Go.Proofs.YtobkkblijfhpoaaGreatDoor.Args
open Go.ChangeShapes Go.WideShapes Go.ChangeAt Go.RowKit
set_option linter.unusedVariables false
set_option linter.unusedSimpArgs false
set_option maxRecDepth 100000
def Pl (g : List GCell) : Prop := ∀ x ∈ g, x.Pen = P0 ∧ 32 ≤ x.Rune ∧ x.Rune ≤ 126
theorem wd_pl {a : Int} (h1 : 32 ≤ a) (h2 : a ≤ 126) : wd a = 1 := (wd_1 a 32 126 (by decide) h1 h2 (by decide) (by decide)).symm
theorem pl_cx {g : List GCell} (h : Pl g) (i : Nat) (hi : i < g.length) : (cx g i).Pen = P0 ∧ 32 ≤ (cx g i).Rune ∧ (cx g i).Rune ≤ 126 := by
 have : cx g i = g[i] := by unfold cx; simp [hi]
 rw [this]; exact h _ (List.getElem_mem hi)
theorem pl_lone {g : List GCell} (h : Pl g) (i : Nat) (hi : i < g.length) (hl : g.length ≤ 1000000) : f147 g (i : Int) = some false := by
 rw [lone_ok g i hi hl]
 have := pl_cx h i hi
 unfold loneF
 rw [if_neg (by omega), wd_pl this.2.1 this.2.2]
 rfl
theorem repair_pl (o n : Nat) (g : List GCell) (h : Pl g) (ho : o + n ≤ g.length) (hl : g.length ≤ 100000) : f170 o n g = some g := by
 unfold f170
 have hp : part? g o n = some ((g.drop o).take n) := by unfold part?; rw [if_pos ho]
 rw [hp, bs, cloneR _ (by simp; omega), bs]
 have hr : Pl ((g.drop o).take n) := fun x hx => h x (List.mem_of_mem_drop (List.mem_of_mem_take hx))
 have hn : ((g.drop o).take n).length = n := by simp; omega
 generalize (g.drop o).take n = r at *
 have := loop_to (body := f170_l0 o n g) (fun i => (r, (i : Int))) () n (by
  unfold f170_l0 f170_l0_j1
  rw [bcf (df (by omega)), cf]) 0 (by omega) (fun i _ hi => by
  unfold f170_l0 f170_l0_j1 f170_l0_j2
  rw [bct (dt (by omega)), ct, pl_lone hr i (by omega) (by omega), bs, cf, i64w _ (by omega)]; rfl)
 rw [show ((0 : Nat) : Int) = 0 from rfl] at this
 rw [this, bs]
def bl8 : List GCell := List.replicate 8 (blank P0)
def TT (st : GStops) (g : List GCell) (pa : List GLine) (r c : Nat) : Gterminal :=
 ⟨⟨⟨8, 3, g⟩, r, c, false, 0, 3, ⟨0, 0, 0⟩, 12, st, (1, 1), 0, ⟨0, 0, ⟨0, 0, 0⟩, false, (1, 1), 0⟩, ⟨8, 3, mkL (8 * 3) (fun _ => blank P0)⟩, [], pa⟩, []⟩
theorem is_ (st : GStops) (g : List GCell) (pa : List GLine) (r c : Nat) (l : List PD) (m : Int) (hm : bitI .and .i64 12 m = 0) : f274 (TT st g pa r c) l m = some false := by
 unfold f274
 show (bif (!decide (bitI .and .i64 12 m = 0)) then _ else _) = _
 rw [hm]; rfl
theorem pl_set {g : List GCell} (h : Pl g) (i : Nat) (b : Int) (hb : 32 ≤ b ∧ b ≤ 126) : Pl (g.set i ⟨b, P0⟩) := fun x hx => by
 rcases List.mem_or_eq_of_mem_set hx with q | q
 ·exact h x q
 ·subst q; exact ⟨rfl, hb.1, hb.2⟩
theorem put_pl (st : GStops) (g : List GCell) (hg : g.length = 24) (h : Pl g) (r c : Nat) (hr : r < 3) (hc : c < 8) (b : Int) (hb : 32 ≤ b ∧ b ≤ 126) : f277 8 3 (r : Int) (c : Int) b P0 g = some (g.set (8 * r + c) ⟨b, P0⟩) := by
 unfold f277
 have hv : f38v1 8 3 (r : Int) g = some (g, r * 8, 8) := by
  unfold f38v1
  have e1 : IntKind.i64.wrap ((r : Int) * 8) = ((r * 8 : Nat) : Int) := by rw [i64w _ (by omega)]; omega
  have e2 : IntKind.i64.wrap (IntKind.i64.wrap ((r : Int) + 1) * 8) = (((r + 1) * 8 : Nat) : Int) := by rw [i64w ((r : Int) + 1) (by omega), i64w _ (by omega)]; omega
  rw [e1, e2, chk_ok (by rw [dt (by omega), dt (by omega), dt (by omega)]; rfl), bs]
  have : ((((r + 1) * 8 : Nat) : Int).toNat - ((r * 8 : Nat) : Int).toNat) = 8 := by omega
  rw [this]; rfl
 rw [hv, bs]
 dsimp only []
 rw [chk_ok (dt rfl), bs, inR_nat c 8 hc, bs, List.getElem?_eq_getElem (by omega), bs, bs, width_ok, wd_pl hb.1 hb.2, bs, bcf (by rfl)]
 have e : r * 8 + c = 8 * r + c := by omega
 rw [e, repair_pl (r * 8) 8 _ (pl_set h _ b hb) (by rw [List.length_set]; omega) (by rw [List.length_set]; omega), bs, chk_ok (dt rfl), bs]
theorem print_ok (st : GStops) (g : List GCell) (pa : List GLine) (hg : g.length = 24) (h : Pl g) (r c : Nat) (hr : r < 3) (hc : c < 7) (b : Nat) (hb : 32 ≤ b ∧ b ≤ 126) : f246 (b : Int) (TT st g pa r c) = some (TT st (g.set (8 * r + c) ⟨(b : Int), P0⟩) pa r (c + 1)) := by
 have hu : ((u8 (b : Int)).toNat : Int) = b := by have := u8_u8 (b : Int); omega
 have hp : f271 1 (u8 (b : Int)) = some ((b : Int), 0) := by
  unfold f271
  rw [known_ok, bs]
  unfold f298
  rw [show (!(decide ((1 : Int) ≤ 1) && decide ((1 : Int) ≤ 4))) = false from rfl, cf, bcf (by rfl), hu, bcf (df (by omega)), bcf (by rfl), bcf (by rfl), bs]
 unfold f246
 rw [bct (dt (by omega)), bct (dt (by omega)), show inR (TT st g pa r c).Screen.Shift 2 = some 0 from rfl, bs, bct (by rfl)]
 rw [show f271 (TT st g pa r c).Screen.Pages.1 (u8 (b : Int)) = _ from hp, bs]
 unfold f246_j0 f246_j1 f246_j2 f246_j3 f246_j4
 dsimp only []
 rw [width_ok, wd_pl (by omega) (by omega), bs, bcf (by rfl), bcf (by rfl), show (TT st g pa r c).Screen.Late = false from rfl, cf, bcf (by rfl), is_ _ _ _ _ _ _ _ (by decide), bs, cf]
 rw [show f277 (TT st g pa r c).Screen.Grid.Wide (TT st g pa r c).Screen.Grid.High (TT st g pa r c).Screen.Row (TT st g pa r c).Screen.Col (b : Int) (TT st g pa r c).Screen.Pen (TT st g pa r c).Screen.Grid.Cells = _ from put_pl st g hg h r c hr (by omega) (b : Int) (by omega), bs]
 rw [chk_ok (dt (by rw [List.length_set]; rfl)), bs]
 have e : IntKind.i64.wrap ((TT st g pa r c).Screen.Col + 1) = ((c + 1 : Nat) : Int) := by show IntKind.i64.wrap ((c : Int) + 1) = _; rw [i64w _ (by omega)]; omega
 rw [e, bcf (df (by show ¬ IntKind.i64.wrap ((8 : Int) - 1) < _; rw [i64w _ (by omega)]; omega))]
 rfl
theorem chk_eq {a b : Nat} (h : a = b) : chk (decide (a = b)) = some () := chk_ok (dt h)
theorem col0 (st : GStops) (g : List GCell) (pa : List GLine) (r c : Nat) : f272 0 (TT st g pa r c) = some (TT st g pa r 0) := by
 unfold f272 f299
 rw [show IntKind.i64.wrap ((TT st g pa r c).Screen.Grid.Wide - 1) = 7 from i64w _ (by show -9223372036854775808 ≤ (8 : Int) - 1 ∧ (8 : Int) - 1 ≤ _; omega), bs]
 rfl
theorem cr_ok (st : GStops) (g : List GCell) (pa : List GLine) (r c : Nat) : f247 13 (TT st g pa r c) = some (TT st g pa r 0) := by
 unfold f247 f247_j0
 rw [bcf (by rfl), bcf (by rfl), bcf (by rfl), bcf (by rfl), bcf (by rfl), cf, bct (by rfl), col0, bs, chk_eq (by rfl), bs, chk_eq (by rfl), bs, chk_eq (by rfl), bs]
theorem scroll_eq (g : List GCell) (hg : g.length = 24) : scrollC 8 g 0 3 1 P0 = g.drop 8 ++ bl8 := by
 refine cx_ext _ _ (by unfold scrollC; rw [mkL_len]; simp [bl8]; omega) fun j hj => ?_
 have hj' : j < 24 := by unfold scrollC at hj; rw [mkL_len] at hj; omega
 unfold scrollC
 rw [mkL_cx _ _ _ (by omega), if_pos (by omega)]
 unfold mvR rowF
 by_cases h : j < 16
 ·rw [if_pos (by omega)]
  have e : (0 + (((j / 8 - 0 : Nat) : Int) + 1).toNat) * 8 + j % 8 = 8 + j := by omega
  rw [e]; unfold cx
  rw [List.getD_eq_getElem?_getD, List.getD_eq_getElem?_getD, List.getElem?_append_left (by simp; omega), List.getElem?_drop]
 ·rw [if_neg (by omega)]; unfold cx
  rw [List.getD_eq_getElem?_getD, List.getElem?_append_right (by simp; omega)]
  unfold bl8
  rw [List.getElem?_replicate, if_pos (by simp; omega)]; rfl
theorem low_ok (st : GStops) (g : List GCell) (pa : List GLine) (r c : Nat) (hr : r < 2) : f273 (TT st g pa r c) = some (TT st g pa (r + 1) c) := by
 have e2 : IntKind.i64.wrap ((TT st g pa r c).Screen.Bottom - 1) = 2 := i64w _ (by show -9223372036854775808 ≤ (3 : Int) - 1 ∧ (3 : Int) - 1 ≤ _; omega)
 have e3 : IntKind.i64.wrap ((TT st g pa r c).Screen.Grid.High - 1) = 2 := i64w _ (by show -9223372036854775808 ≤ (3 : Int) - 1 ∧ (3 : Int) - 1 ≤ _; omega)
 have e4 : IntKind.i64.wrap ((TT st g pa r c).Screen.Row + 1) = ((r + 1 : Nat) : Int) := by show IntKind.i64.wrap ((r : Int) + 1) = _; rw [i64w _ (by omega)]; omega
 unfold f273
 rw [e2, e3, e4, bcf (df (by show ¬ (r : Int) = 2; omega)), bct (dt (by show (r : Int) < 2; omega))]
 rfl
theorem bot_j0 (st : GStops) (g : List GCell) (pa : List GLine) (c : Nat) (t0 : Gterminal) (hg : g.length = 24) : f273_j0 t0 (TT st g pa 2 c) = some (TT st (g.drop 8 ++ bl8) pa 2 c) := by
 have hs := scrollin_ok 8 3 0 3 1 P0 g (by omega) (by omega) (by omega) (by omega) (by omega) (by omega) (by omega)
 rw [scroll_eq g hg] at hs
 unfold f273_j0 f276
 rw [bs]
 have hs' : f301 (TT st g pa 2 c).Screen.Grid.Wide (TT st g pa 2 c).Screen.Grid.High (TT st g pa 2 c).Screen.Top (TT st g pa 2 c).Screen.Bottom 1 (GPen.mk 0 0 (TT st g pa 2 c).Screen.Pen.Back) (TT st g pa 2 c).Screen.Grid.Cells = some (g.drop 8 ++ bl8) := hs
 rw [hs', bs, chk_eq (by show (g.drop 8 ++ bl8).length = g.length; simp [bl8]; omega), bs]
 rfl
theorem bot_ok (st : GStops) (g : List GCell) (pa : List GLine) (c : Nat) (hg : g.length = 24) (hp : pa.length < 40) : f273 (TT st g pa 2 c) = some (TT st (g.drop 8 ++ bl8) (pa ++ [⟨g.take 8⟩]) 2 c) := by
 have e2 : IntKind.i64.wrap ((TT st g pa 2 c).Screen.Bottom - 1) = 2 := i64w _ (by show -9223372036854775808 ≤ (3 : Int) - 1 ∧ (3 : Int) - 1 ≤ _; omega)
 have hr : f300 (TT st g pa 2 c).Screen.Grid 0 = some (g.take 8) := by
  unfold f300
  have := row_ok 8 3 g 0 (by omega) (by omega) (by omega) (by omega)
  rw [show f38 (TT st g pa 2 c).Screen.Grid 0 = some (rowL 8 g 0) from this, bs, cloneR _ (by unfold rowL; simp; omega), bs]
  rfl
 unfold f273
 rw [e2, bct (by rfl), bct (by rfl)]
 rw [show f274 (Gterminal.mk ({ (TT st g pa 2 c).Screen with Late := false }) (TT st g pa 2 c).sent) [] 256 = some false from is_ st g pa 2 c [] 256 (by decide), bs, bct (by rfl), hr, bs]
 rw [show (TT st g pa 2 c).Screen.Past = pa from rfl, app_ok _ _ _ (by simp; omega), bs, bcf (df (by simp; omega))]
 exact bot_j0 st g _ c _ hg
theorem lf_low (st : GStops) (g : List GCell) (pa : List GLine) (r c : Nat) (hr : r < 2) : f247 10 (TT st g pa r c) = some (TT st g pa (r + 1) c) := by
 unfold f247 f247_j0
 rw [bcf (by rfl), bcf (by rfl), bct (by rfl), ct, low_ok _ _ _ _ _ hr, bs, is_ _ _ _ _ _ _ _ (by decide), bs, cf]
theorem lf_bot (st : GStops) (g : List GCell) (pa : List GLine) (c : Nat) (hg : g.length = 24) (hp : pa.length < 40) : f247 10 (TT st g pa 2 c) = some (TT st (g.drop 8 ++ bl8) (pa ++ [⟨g.take 8⟩]) 2 c) := by
 unfold f247 f247_j0
 rw [bcf (by rfl), bcf (by rfl), bct (by rfl), ct, bot_ok _ _ _ _ hg hp, bs, is_ _ _ _ _ _ _ _ (by decide), bs, cf]
theorem act_p (c : Int) (t : Gterminal) : f210 ⟨1, c, 0, [], [], []⟩ t = (f246 c t).bind fun z => some z := by
 unfold f210
 exact bct (by rfl)
theorem act_c (c : Int) (t : Gterminal) : f210 ⟨2, c, 0, [], [], []⟩ t = (f247 c t).bind fun z => some z := by
 unfold f210
 rw [bcf (by rfl)]
 exact bct (by rfl)
end Go.Proofs.YtobkkblijfhpoaaGreatDoor.Pm

namespace Go.Proofs.YtobkkblijfhpoaaGreatDoor.Pm
open Go.Proofs.YtobkkblijfhpoaaGreatDoor.Args
open Go.ChangeShapes Go.WideShapes Go.ChangeAt Go.RowKit
set_option linter.unusedVariables false
set_option linter.unusedSimpArgs false
set_option maxRecDepth 100000
def sgn (b : UInt8) : GCell := ⟨(b.toNat : Int), P0⟩
def rowT (x : List UInt8) : List GCell := x.map sgn ++ List.replicate (8 - x.length) (blank P0)
theorem rowT_len {x : List UInt8} (h : x.length ≤ 8) : (rowT x).length = 8 := by unfold rowT; simp; omega
theorem rowT_set (p s : List GCell) (x : List UInt8) (b : UInt8) (h : x.length < 8) : (p ++ (rowT x ++ s)).set (p.length + x.length) (sgn b) = p ++ (rowT (x ++ [b]) ++ s) := by
 obtain ⟨k, hk⟩ : ∃ k, 8 - x.length = k + 1 := ⟨7 - x.length, by omega⟩
 have hk2 : 8 - (x ++ [b]).length = k := by simp; omega
 unfold rowT
 rw [hk, hk2, List.replicate_succ, List.set_append_right _ _ (by omega), List.map_append, List.append_assoc, List.append_assoc, List.append_assoc]
 rw [show p.length + x.length - p.length = x.length by omega, List.set_append_right _ _ (by simp), show x.length - (x.map sgn).length = 0 by simp]
 rfl
theorem pl_app {a b : List GCell} (ha : Pl a) (hb : Pl b) : Pl (a ++ b) := fun x hx => (List.mem_append.1 hx).elim (ha x) (hb x)
theorem pl_rep (n : Nat) : Pl (List.replicate n (blank P0)) := fun x hx => by
 rw [(List.mem_replicate.1 hx).2]; exact ⟨rfl, by decide, by decide⟩
theorem rowT_pl {x : List UInt8} (h : ∀ b ∈ x, 32 ≤ b.toNat ∧ b.toNat ≤ 126) : Pl (rowT x) := pl_app (fun y hy => by
 obtain ⟨b, hb, rfl⟩ := List.mem_map.1 hy
 have := h b hb
 exact ⟨rfl, by unfold sgn; show (32 : Int) ≤ (b.toNat : Int); omega, by unfold sgn; show (b.toNat : Int) ≤ 126; omega⟩) (pl_rep _)
def rows (L : List (List UInt8)) : List GCell := (L.map rowT).flatten
theorem rows_len : ∀ L : List (List UInt8), (∀ l ∈ L, Ln l) → (rows L).length = 8 * L.length
 | [], _ => rfl
 | l :: L, h => by
  have ih := rows_len L fun x hx => h x (List.mem_cons_of_mem _ hx)
  unfold rows at ih ⊢
  rw [List.map_cons, List.flatten_cons, List.length_append, ih, rowT_len (by have := (h l (List.mem_cons_self ..)).2; omega), List.length_cons]
  omega
theorem rows_pl : ∀ L : List (List UInt8), (∀ l ∈ L, Ln l) → Pl (rows L)
 | [], _ => fun x hx => by cases hx
 | l :: L, h => by
  have ih := rows_pl L fun x hx => h x (List.mem_cons_of_mem _ hx)
  unfold rows at ih ⊢
  rw [List.map_cons, List.flatten_cons]
  exact pl_app (rowT_pl (h l (List.mem_cons_self ..)).1) ih
def Ah (d : List (List UInt8)) : List (List UInt8) := d.drop (d.length - 2)
def GP (d : List (List UInt8)) (x : List UInt8) : List GCell := rows (Ah d) ++ (rowT x ++ List.replicate (8 * (2 - d.length)) (blank P0))
def PA (d : List (List UInt8)) : List GLine := (d.take (d.length - 2)).map fun l => ⟨rowT l⟩
theorem ah_ln {d : List (List UInt8)} (h : ∀ l ∈ d, Ln l) : ∀ l ∈ Ah d, Ln l := fun l hl => h l (List.mem_of_mem_drop hl)
theorem ah_len (d : List (List UInt8)) : (Ah d).length = min d.length 2 := by unfold Ah; simp; omega
theorem gp_len {d : List (List UInt8)} (x : List UInt8) (h : ∀ l ∈ d, Ln l) (hx : x.length ≤ 7) : (GP d x).length = 24 := by
 unfold GP
 rw [List.length_append, List.length_append, rows_len _ (ah_ln h), ah_len, rowT_len (by omega), List.length_replicate]
 omega
theorem gp_pl {d : List (List UInt8)} {x : List UInt8} (h : ∀ l ∈ d, Ln l) (hx : Ln x) : Pl (GP d x) := pl_app (rows_pl _ (ah_ln h)) (pl_app (rowT_pl hx.1) (pl_rep _))
def SS (st : GStops) (d : List (List UInt8)) (x : List UInt8) (c : Nat) : Gterminal := TT st (GP d x) (PA d) (min d.length 2) c
theorem sign_ok (st : GStops) (d : List (List UInt8)) (x : List UInt8) (b : UInt8) (h : ∀ l ∈ d, Ln l) (hx : Ln (x ++ [b])) :
  f246 ((b.toNat : Nat) : Int) (SS st d x x.length) = some (SS st d (x ++ [b]) (x ++ [b]).length) := by
 have hb := hx.1 b (by simp)
 have hl := hx.2
 rw [List.length_append, List.length_singleton] at hl
 have hx' : Ln x := ⟨fun y hy => hx.1 y (by simp [hy]), by omega⟩
 unfold SS
 rw [print_ok st (GP d x) (PA d) (gp_len x h (by omega)) (gp_pl h hx') (min d.length 2) x.length (by omega) (by omega) b.toNat hb]
 have e : (GP d x).set (8 * min d.length 2 + x.length) ⟨(b.toNat : Int), P0⟩ = GP d (x ++ [b]) := by
  have := rowT_set (rows (Ah d)) (List.replicate (8 * (2 - d.length)) (blank P0)) x b (by omega)
  rw [rows_len _ (ah_ln h), ah_len] at this
  exact this
 rw [e, List.length_append, List.length_singleton]
theorem two_last (d : List (List UInt8)) : d = [] ∨ (∃ a, d = [a]) ∨ ∃ e a b, d = e ++ [a, b] := by
 rcases Nat.lt_or_ge d.length 2 with h | h
 ·match d, h with
  | [], _ => exact .inl rfl
  | [a], _ => exact .inr (.inl ⟨a, rfl⟩)
 ·refine .inr (.inr ?_)
  have e := List.take_append_drop (d.length - 2) d
  have hl : (d.drop (d.length - 2)).length = 2 := by simp; omega
  match hd : d.drop (d.length - 2), hl with
  | [a, b], _ => exact ⟨_, a, b, by rw [← hd]; exact e.symm⟩
theorem ah_two (e : List (List UInt8)) (a b : List UInt8) : Ah (e ++ [a, b]) = [a, b] := by
 unfold Ah
 rw [show (e ++ [a, b]).length - 2 = e.length by simp]; simp
theorem pa_two (e : List (List UInt8)) (a b : List UInt8) : PA (e ++ [a, b]) = e.map fun l => ⟨rowT l⟩ := by
 unfold PA
 rw [show (e ++ [a, b]).length - 2 = e.length by simp]; simp
theorem lf_ok (st : GStops) (d : List (List UInt8)) (x : List UInt8) (h : ∀ l ∈ d, Ln l) (hx : Ln x) (hd : d.length ≤ 41) :
  f247 10 (SS st d x 0) = some (SS st (d ++ [x]) [] 0) := by
 have hx8 := rowT_len (x := x) (by have := hx.2; omega)
 unfold SS
 rcases two_last d with rfl | ⟨a, rfl⟩ | ⟨e, a, b, rfl⟩
 ·rw [lf_low _ _ _ _ _ (by show min 0 2 < 2; decide)]
  have e1 : GP [] x = GP ([] ++ [x]) [] := by
   show [] ++ (rowT x ++ List.replicate 16 (blank P0)) = (rowT x ++ []) ++ (bl8 ++ List.replicate 8 (blank P0))
   rw [List.nil_append, List.append_nil]; rfl
  rw [e1]; rfl
 ·rw [lf_low _ _ _ _ _ (by show min 1 2 < 2; decide)]
  have e1 : GP [a] x = GP ([a] ++ [x]) [] := by
   show (rowT a ++ []) ++ (rowT x ++ List.replicate 8 (blank P0)) = (rowT a ++ (rowT x ++ [])) ++ (bl8 ++ [])
   rw [List.append_nil, List.append_nil, List.append_nil, List.append_assoc]; rfl
  rw [e1]; rfl
 ·have ha := rowT_len (x := a) (by have := (h a (by simp)).2; omega)
  have hm : min (e ++ [a, b]).length 2 = 2 := by simp
  have hm2 : min (e ++ [a, b] ++ [x]).length 2 = 2 := by simp
  have hg := gp_len x h hx.2
  have hz : 8 * (2 - (e ++ [a, b]).length) = 0 := by simp
  have hz2 : 8 * (2 - (e ++ [a] ++ [b, x]).length) = 0 := by simp
  have eg : GP (e ++ [a, b]) x = rowT a ++ (rowT b ++ rowT x) := by
   unfold GP
   rw [ah_two, hz]
   show (rowT a ++ (rowT b ++ [])) ++ (rowT x ++ []) = _
   rw [List.append_nil, List.append_nil, List.append_assoc]
  have eg2 : GP (e ++ [a] ++ [b, x]) [] = rowT b ++ (rowT x ++ bl8) := by
   unfold GP
   rw [ah_two, hz2]
   show (rowT b ++ (rowT x ++ [])) ++ (rowT [] ++ []) = _
   rw [List.append_nil, List.append_nil, List.append_assoc]; rfl
  have eq : e ++ [a, b] ++ [x] = e ++ [a] ++ [b, x] := by simp
  rw [hm, hm2, lf_bot _ _ _ _ hg (by rw [pa_two]; simp at hd ⊢; omega), eq, eg, eg2, pa_two, pa_two]
  have t8 : (rowT a ++ (rowT b ++ rowT x)).take 8 = rowT a := by rw [← ha, List.take_left]
  have d8 : (rowT a ++ (rowT b ++ rowT x)).drop 8 = rowT b ++ rowT x := by rw [← ha, List.drop_left]
  rw [t8, d8, List.append_assoc, List.map_append]; rfl
noncomputable def runA : List GAct → Gterminal → Option Gterminal
 | [], t => some t
 | a :: l, t => (f210 a t).bind (runA l)
theorem runA_app : ∀ (a b : List GAct) (t : Gterminal), runA (a ++ b) t = (runA a t).bind (runA b)
 | [], b, t => by rw [List.nil_append]; exact (bs t (runA b)).symm
 | x :: a, b, t => by
  rw [List.cons_append]
  show (f210 x t).bind (runA (a ++ b)) = ((f210 x t).bind (runA a)).bind (runA b)
  cases f210 x t with
  | none => rfl
  | some y => rw [bs, bs, runA_app a b y]
theorem line_run (st : GStops) (d : List (List UInt8)) (h : ∀ l ∈ d, Ln l) : ∀ (s x : List UInt8), Ln (x ++ s) → runA ((runes s).map actO) (SS st d x x.length) = some (SS st d (x ++ s) (x ++ s).length)
 | [], x, hx => by rw [List.append_nil]; rfl
 | b :: s, x, hx => by
  have e : x ++ b :: s = (x ++ [b]) ++ s := by simp
  have hb := hx.1 b (by simp)
  have hx1 : Ln (x ++ [b]) := ⟨fun y hy => hx.1 y (by rw [e]; exact List.mem_append_left _ hy), by have := hx.2; rw [e, List.length_append] at this; omega⟩
  have ea : actO (b.toNat : Int) = ⟨1, (b.toNat : Int), 0, [], [], []⟩ := by unfold actO; rw [if_neg (by omega)]
  show (f210 (actO (b.toNat : Int)) (SS st d x x.length)).bind (runA ((runes s).map actO)) = _
  rw [ea, act_p, sign_ok st d x b h hx1, bs, bs, line_run st d h s (x ++ [b]) (by rw [← e]; exact hx), ← e]
theorem end_run (st : GStops) (d : List (List UInt8)) (x : List UInt8) (c : Nat) (h : ∀ l ∈ d, Ln l) (hx : Ln x) (hd : d.length ≤ 41) : runA ((runes [13, 10]).map actO) (SS st d x c) = some (SS st (d ++ [x]) [] 0) := by
 show (f210 ⟨2, 13, 0, [], [], []⟩ (SS st d x c)).bind (fun t => (f210 ⟨2, 10, 0, [], [], []⟩ t).bind fun t => some t) = _
 rw [act_c, show f247 13 (SS st d x c) = some (SS st d x 0) from cr_ok _ _ _ _ _, bs, bs, act_c, lf_ok st d x h hx hd, bs, bs]
theorem runes_app (a b : List UInt8) : (runes (a ++ b)).map actO = (runes a).map actO ++ (runes b).map actO := by unfold runes; simp
theorem all_run (st : GStops) : ∀ (ls d : List (List UInt8)), (∀ l ∈ d, Ln l) → (∀ l ∈ ls, Ln l) → d.length + ls.length ≤ 42 → runA ((runes (come ls)).map actO) (SS st d [] 0) = some (SS st (d ++ ls) [] 0)
 | [], d, h, hl, hn => by rw [List.append_nil]; rfl
 | l :: ls, d, h, hl, hn => by
  rw [List.length_cons] at hn
  have hll := hl l (List.mem_cons_self ..)
  have e : come (l :: ls) = l ++ ([13, 10] ++ come ls) := by unfold come; rw [List.flatMap_cons]; simp
  rw [e, runes_app, runA_app, show SS st d [] 0 = SS st d [] ([] : List UInt8).length from rfl, line_run st d h l [] (by rw [List.nil_append]; exact hll), bs, List.nil_append, runes_app, runA_app, end_run st d l _ h hll (by omega), bs]
  rw [all_run st ls (d ++ [l]) (fun y hy => by rcases List.mem_append.1 hy with q | q; exact h y q; rw [List.mem_singleton.1 q]; exact hll) (fun y hy => hl y (List.mem_cons_of_mem _ hy)) (by simp; omega)]
  simp
end Go.Proofs.YtobkkblijfhpoaaGreatDoor.Pm

