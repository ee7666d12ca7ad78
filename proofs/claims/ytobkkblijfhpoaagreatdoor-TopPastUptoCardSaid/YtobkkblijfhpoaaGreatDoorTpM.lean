/- TopPast: the client's work: bytes come, the screen is what the lines make of it. -/
import Derived.Test.YtobkkblijfhpoaaGreatDoorTpD
namespace Go.Proofs.YtobkkblijfhpoaaGreatDoor.Pm
open Go.Proofs.YtobkkblijfhpoaaGreatDoor.Args
open Go.ChangeShapes Go.WideShapes Go.ChangeAt Go.RowKit
set_option linter.unusedVariables false
set_option linter.unusedSimpArgs false
set_option maxRecDepth 100000
theorem idx_get {α : Type} (l : List α) (i : Nat) (h : i < l.length) : idx l (i : Int) = some l[i] := by
 unfold idx; rw [if_pos (by omega)]; simp [h]
theorem wrn (k : Nat) (h : k ≤ 1000000000) : IntKind.i64.wrap ((k : Int) + 1) = ((k + 1 : Nat) : Int) := by rw [i64w _ (by omega)]; omega
theorem act_no (c : Int) : (actO c).Args = [] ∧ (actO c).Text = [] := by unfold actO; split <;> exact ⟨rfl, rfl⟩
theorem acts_ok (l : List Int) (hl : l.length ≤ 100000) : f209 (l.map actO) = some () := by
 have h := loop_to (body := f209_l0 (l.map actO)) (fun i => (i : Int)) () l.length (by
  unfold f209_l0 f209_l0_j1
  rw [bcf (df (by rw [List.length_map]; omega)), cf]) 0 (by omega) (fun i _ hi => by
  have ha := act_no l[i]
  unfold f209_l0 f209_l0_j1 f209_l0_j2
  rw [bct (dt (by rw [List.length_map]; omega)), ct, idx_get _ i (by rw [List.length_map]; exact hi), bs, List.getElem_map, ha.1, ha.2, bcf (df (by decide)), bcf (df (by decide))]
  rw [show f232 [] = some () from rfl, bs, wrn i (by omega)])
 unfold f209
 rw [show loopO (f209_l0 (l.map actO)) 0 = some () from h, bs]
theorem run_loop (s : GScreen) (acts : List GAct) (hl : acts.length ≤ 100000) : ∀ (suf pre : List GAct) (t t' : Gterminal), pre ++ suf = acts → runA suf t = some t' → loopO (f161_l3 s acts) (t, (pre.length : Int)) = some t'
 | [], pre, t, t', e, h => loopO_done (by
  rw [List.append_nil] at e
  subst e
  unfold f161_l3 f161_l3_j4
  rw [bcf (df (by show ¬ (pre.length : Int) < (pre.length : Int); omega)), cf]
  have : t = t' := Option.some.inj h
  subst this; rfl)
 | a :: suf, pre, t, t', e, h => by
  have h' : (f210 a t).bind (runA suf) = some t' := h
  cases hy : f210 a t with
  | none => rw [hy] at h'; cases h'
  | some y =>
   rw [hy, bs] at h'
   have e1 : pre ++ a :: suf = (pre ++ [a]) ++ suf := by simp
   have ih := run_loop s acts hl suf (pre ++ [a]) y t' (by rw [← e1]; exact e) h'
   refine loopO_next ?_ ih
   subst e
   unfold f161_l3 f161_l3_j4 f161_l3_j5
   rw [bct (dt (by show (pre.length : Int) < ((pre ++ a :: suf).length : Int); simp; omega)), ct]
   show ((idx (pre ++ a :: suf) (pre.length : Int)).bind _) = _
   rw [idx_mid, bs, hy, bs, wrap_nx pre a (by simp at hl; omega)]
theorem runes_len (b : List UInt8) : (runes b).length = b.length := by unfold runes; simp
theorem start_eq (st : GStops) : (SS st [] [] 0).Screen = sN 8 3 st := by
 have e : GP [] [] = mkL (8 * 3) (fun _ => blank P0) := by
  have : GP [] [] = List.replicate 24 (blank P0) := rfl
  rw [this, rep_mkL]
 show (TT st (GP [] []) [] 0 0).Screen = _
 rw [e]; rfl
theorem run_ok (st : GStops) (b : List UInt8) (t : Gterminal) (hb : b.length ≤ 100000) (h : runA ((runes b).map actO) (SS st [] [] 0) = some t) : f161 (sN 8 3 st) ((runes b).map actO) = some (t.Screen, t.sent) := by
 have e : SS st [] [] 0 = Gterminal.mk (sN 8 3 st) [] := by rw [← start_eq]; rfl
 unfold f161 f161_j0 f161_j1 f161_j2
 rw [show f55 (sN 8 3 st) = some () from schk_ok 8 3 st (by omega) (by omega), bs, acts_ok _ (by rw [runes_len]; exact hb), bs]
 rw [show f59 (sN 8 3 st) = some (sN 8 3 st) from cloneS 8 3 st _ (by rw [mkL_len]) (by omega) (by omega), bs, ← e]
 have := run_loop (sN 8 3 st) ((runes b).map actO) (by rw [List.length_map, runes_len]; exact hb) _ [] _ t (List.nil_append _) h
 rw [show (([] : List GAct).length : Int) = 0 from rfl] at this
 rw [this, bs]
def CC (st : GStops) (ls : List (List UInt8)) : GClient := mkC (SS st ls [] 0).Screen zW n0
theorem come_len : ∀ ls : List (List UInt8), (∀ l ∈ ls, Ln l) → (come ls).length ≤ 9 * ls.length ∧ (sent ls).length ≤ 11 * ls.length
 | [], _ => ⟨Nat.le_refl _, Nat.le_refl _⟩
 | l :: ls, h => by
  have ih := come_len ls fun x hx => h x (List.mem_cons_of_mem _ hx)
  have hl := (h l (List.mem_cons_self ..)).2
  unfold come sent at ih ⊢
  rw [List.flatMap_cons, List.flatMap_cons, List.length_append, List.length_append, List.length_append, List.length_append, List.length_cons]
  simp only [List.length_cons, List.length_nil]
  omega
theorem come_rn : ∀ ls : List (List UInt8), (∀ l ∈ ls, Ln l) → ∀ b ∈ come ls, b.toNat = 10 ∨ b.toNat = 13 ∨ (32 ≤ b.toNat ∧ b.toNat ≤ 126) := fun ls h b hb => by
 unfold come at hb
 obtain ⟨l, hl, hb⟩ := List.mem_flatMap.1 hb
 rcases List.mem_append.1 hb with q | q
 ·exact .inr (.inr ((h l hl).1 b q))
 ·simp at q
  rcases q with rfl | rfl
  ·exact .inr (.inl rfl)
  ·exact .inl rfl
theorem sent_rn : ∀ ls : List (List UInt8), (∀ l ∈ ls, Ln l) → ∀ b ∈ sent ls, b.toNat ≠ 255 := fun ls h b hb => by
 unfold sent at hb
 obtain ⟨l, hl, hb⟩ := List.mem_flatMap.1 hb
 rcases List.mem_append.1 hb with q | q
 ·have := (h l hl).1 b q; omega
 ·simp at q
  rcases q with rfl | rfl | rfl | rfl <;> decide
theorem data_ok (st : GStops) (ls : List (List UInt8)) (h : ∀ l ∈ ls, Ln l) (hn : ls.length ≤ 42) : f103 (sent ls) ⟨CC st [], []⟩ = some ⟨CC st ls, []⟩ := by
 have hc := come_len ls h
 have hu : f107 ⟨CC st [], []⟩ [] 0 = some false := rfl
 have hN : f158 false (sent ls) false = some (false, come ls) := by
  rw [nvt_ok _ (by omega), nvt_sent ls [] h, List.nil_append]
 have hU : f159 [] (come ls) = some (runes (come ls)) := utf_ok _ (fun x hx => by have := come_rn ls h x hx; omega) (by omega)
 have hP : f160 ⟨0, 0, [], [], []⟩ (runes (come ls)) = some (⟨0, 0, [], [], []⟩, (runes (come ls)).map actO) := parse_ok _ (fun c hc => by
  unfold runes at hc
  obtain ⟨b, hb, rfl⟩ := List.mem_map.1 hc
  have := come_rn ls h b hb
  unfold Rn
  omega) (by rw [runes_len]; omega)
 have hR := run_ok st (come ls) (SS st ls [] 0) (by omega) (by
  have := all_run st ls [] (fun l hl => by cases hl) h (by simp; omega)
  rw [List.nil_append] at this; exact this)
 unfold f103 f103_j0 f103_j1
 rw [hu, bs, show f158 (Gworker.mk (CC st []) []).Client.Cr (sent ls) false = _ from hN, bs, show f159 (Gworker.mk (CC st []) []).Client.Part _ = _ from hU, bs]
 rw [show f160 (Gworker.mk (CC st []) []).Client.Psr (runes (come ls)) = _ from hP, bs]
 rw [← start_eq] at hR
 rw [show f161 (Gworker.mk (CC st []) []).Client.Screen ((runes (come ls)).map actO) = _ from hR, bs]
 rfl
theorem feed_nil : f102 zW [] = some (zW, []) := by
 unfold f102 f102_j0 f102_j1
 rw [wire_ok, bs, bcf (by rfl), chk_ok (by rfl), bs]
 have e := feed_loop zW [] [] (fun b hb => by cases hb) (by decide)
 rw [show ([] : List UInt8) ++ [] = [] from rfl, show (([] : List UInt8).length : Int) = 0 from rfl] at e
 rw [show loopO (f102_l2 zW []) (zW.Mode, zW.Cmd, zW.Opt, zW.Buf, zW.Over, zW.Buf, [], [], 0) = _ from e, bs]
 rfl
theorem bytes_ok (st : GStops) (ls : List (List UInt8)) (h : ∀ l ∈ ls, Ln l) (hn : ls.length ≤ 42) : f60 (sent ls) ⟨CC st [], []⟩ = some ⟨CC st ls, []⟩ := by
 have hc := come_len ls h
 unfold f60 f60_j0
 rw [bcf (df (by omega))]
 by_cases he : ls = []
 ·subst he
  rw [show f102 (Gworker.mk (CC st []) []).Client.Wire (sent []) = _ from feed_nil, bs]
  have : ∀ w : Gworker, loopO (f60_l1 (sent []) ⟨CC st [], []⟩) (w, ([] : List GTok), 0, 0) = some w := fun w => loopO_done (by
   unfold f60_l1 f60_l1_j2
   rw [bcf (df (by show ¬ (0 : Int) < 0; decide)), cf])
  rw [show (((zW, ([] : List GTok)) : GWire × List GTok).2.length : Int) = 0 from rfl, this, bs]
  rfl
 ·have hne : sent ls ≠ [] := by
   obtain ⟨l, r, rfl⟩ := List.exists_cons_of_ne_nil he
   unfold sent; simp
  rw [show f102 (Gworker.mk (CC st []) []).Client.Wire (sent ls) = _ from feed_plain (sent ls) (sent_rn ls h) (by omega) hne, bs]
  have e0 : f60_l1 (sent ls) ⟨CC st [], []⟩ (⟨CC st [], []⟩, [⟨1, 0, 0, sent ls⟩], 1, 0) = some (.inl (⟨CC st ls, []⟩, [⟨1, 0, 0, sent ls⟩], 1, 1)) := by
   unfold f60_l1 f60_l1_j2 f60_l1_j3
   rw [bct (by rfl), ct]
   show ((inR (0 : Int) 1).bind _) = _
   rw [show inR (0 : Int) 1 = some 0 from rfl, bs]
   show (bif (decide ((1 : Int) = 1)) then ((f103 (sent ls) ⟨CC st [], []⟩).bind _) else none) = _
   rw [bct (by rfl), data_ok st ls h hn, bs]
   rfl
  have e1 : f60_l1 (sent ls) ⟨CC st [], []⟩ (⟨CC st ls, []⟩, [⟨1, 0, 0, sent ls⟩], 1, 1) = some (.inr ⟨CC st ls, []⟩) := by
   unfold f60_l1 f60_l1_j2
   rw [bcf (by rfl), cf]
  have := loopO_next e0 (loopO_done e1)
  rw [show loopO (f60_l1 (sent ls) ⟨CC st [], []⟩) (Gworker.mk ({ (Gworker.mk (CC st []) []).Client with Wire := (zW, [GTok.mk 1 0 0 (sent ls)]).1 }) (Gworker.mk (CC st []) []).sent, (zW, [GTok.mk 1 0 0 (sent ls)]).2, ((zW, [GTok.mk 1 0 0 (sent ls)]).2.length : Int), 0) = _ from this, bs]
theorem cc0 (st : GStops) : CC st [] = mkC (sN 8 3 st) zW n0 := by unfold CC; rw [start_eq]
theorem do_ok (st : GStops) (ls : List (List UInt8)) (h : ∀ l ∈ ls, Ln l) (hn : ls.length ≤ 42) (ev : GEvent) (hk : ev.Kind = 1) (hd : ev.Data = sent ls) : f13 (CC st []) ev = some (CC st ls, []) := by
 unfold f13 f13_j0 f13_j1 f13_j2
 have e1 : f28 (CC st []) = some () := by rw [cc0]; exact chkC _ (schk_ok 8 3 st (by omega) (by omega))
 have e2 : f29 (CC st []) = some (CC st []) := by
  rw [cc0]; exact cloneC _ _ _ (cloneS 8 3 st _ (by rw [mkL_len]) (by omega) (by omega))
 rw [e1, bs, e2, bs]
 unfold f30
 rw [bct (dt hk), hd, bytes_ok st ls h hn, bs, bs]
theorem fresh_ok : ∃ st, f6 8 3 (GEnds.mk (fun _ => 0) (fun _ => 0)) = some (CC st []) := by
 obtain ⟨st, hst⟩ := snew_ok 8 3 (by omega) (by omega)
 refine ⟨st, ?_⟩
 unfold f6 f11
 rw [show f23 8 3 = _ from hst, bs]
 unfold f11_j0
 have e1 : f24 [[88, 84, 69, 82, 77]] = some [XT] := by
  unfold f24
  rw [app_ok _ _ _ (by simp), bs]; rfl
 have e2 : f25 [] = some [] := by
  unfold f25
  rw [app_ok _ _ _ (by simp), bs]; rfl
 rw [e1, bs, e2, bs, sorts_ok, bs]
 unfold f11_j1 f11_j2
 rw [vars_ok, bs, bs, cc0]
 rfl
end Go.Proofs.YtobkkblijfhpoaaGreatDoor.Pm

namespace Go.Proofs.YtobkkblijfhpoaaGreatDoor.Pm
open Go.Proofs.YtobkkblijfhpoaaGreatDoor.Args
open Go.ChangeShapes Go.WideShapes Go.ChangeAt Go.RowKit
set_option linter.unusedVariables false
set_option linter.unusedSimpArgs false
set_option maxRecDepth 100000
def Sg (b : List UInt8) : Prop := ∀ x ∈ b, 32 ≤ x.toNat ∧ x.toNat ≤ 126
theorem wr_tab : ((List.range 128).all fun n => decide (IntKind.i32.wrap (n : Int) = (n : Int)) && decide (IntKind.u32.wrap (n : Int) = (n : Int))) = true := by kernel_rfl
theorem utf8_app (b : UInt8) (hb : b.toNat ≤ 126) (o : List UInt8) (ho : o.length ≤ 1000000) : f43 (IntKind.i32.wrap (b.toNat : Int)) o = some (o ++ [b]) := by
 have ht := List.all_eq_true.1 wr_tab b.toNat (List.mem_range.2 (by omega))
 rw [Bool.and_eq_true] at ht
 have e1 := of_decide_eq_true ht.1
 have e2 := of_decide_eq_true ht.2
 have e3 : u8 (b.toNat : Int) = b := by
  unfold u8
  apply UInt8.toNat.inj
  simp
  omega
 unfold f43
 rw [e1, e2, bct (dt (by omega)), e3, app_ok _ _ _ (by simp; omega), bs]
theorem enc_loop : ∀ (suf pre : List UInt8), Sg suf → pre.length + suf.length ≤ 100000 → loopO (f21_l0 (runes (pre ++ suf))) (pre, (pre.length : Int)) = some (pre ++ suf)
 | [], pre, h, hl => loopO_done (by
  unfold f21_l0 f21_l0_j1
  rw [bcf (df (by rw [runes_len]; simp)), cf, List.append_nil])
 | b :: suf, pre, h, hl => by
  simp only [List.length_cons] at hl
  have e1 : pre ++ b :: suf = (pre ++ [b]) ++ suf := by simp
  have ih := enc_loop suf (pre ++ [b]) (fun x hx => h x (List.mem_cons_of_mem _ hx)) (by simp; omega)
  rw [← e1] at ih
  refine loopO_next ?_ ih
  have hb := h b (List.mem_cons_self ..)
  unfold f21_l0 f21_l0_j1 f21_l0_j2
  rw [bct (dt (by rw [runes_len]; simp; omega)), ct]
  have ei : idx (runes (pre ++ b :: suf)) (pre.length : Int) = some (b.toNat : Int) := by
   have := idx_mid (runes pre) (b.toNat : Int) (runes suf)
   rw [runes_len] at this
   unfold runes at this ⊢
   rw [List.map_append, List.map_cons]; exact this
  show ((idx (runes (pre ++ b :: suf)) (pre.length : Int)).bind _) = _
  rw [ei, bs, bcf (df (by omega)), bcf (df (by omega)), bcf (df (by omega)), utf8_app b hb.2 pre (by omega), bs, wrap_nx pre b (by omega)]
theorem enc_ok (b : List UInt8) (h : Sg b) (hl : b.length ≤ 100000) : f21 (runes b) = some b := by
 have := enc_loop b [] h (by simpa using hl)
 unfold f21
 rw [List.nil_append, show (([] : List UInt8).length : Int) = 0 from rfl] at this
 rw [this, bs]
def fl8 (x : List UInt8) : List UInt8 := x ++ List.replicate (8 - x.length) 32
theorem fl8_sg {x : List UInt8} (h : Ln x) : Sg (fl8 x) := fun b hb => by
 unfold fl8 at hb
 rcases List.mem_append.1 hb with q | q
 ·exact h.1 b q
 ·rw [(List.mem_replicate.1 q).2]; decide
theorem fl8_len {x : List UInt8} (h : Ln x) : (fl8 x).length = 8 := by unfold fl8; have := h.2; simp; omega
theorem rowT_rn (x : List UInt8) : (rowT x).map (fun c => c.Rune) = runes (fl8 x) := by
 unfold rowT fl8 runes
 rw [List.map_append, List.map_append, List.map_map, List.map_replicate, List.map_replicate]; rfl
def tr (x : List UInt8) : List UInt8 := Lib.trimRightB x 32
theorem drop_rep (k : Nat) (r : List UInt8) : (List.replicate k (32 : UInt8) ++ r).dropWhile (· == 32) = r.dropWhile (· == 32) := by
 induction k with
 | zero => rfl
 | succ k ih => rw [List.replicate_succ, List.cons_append, List.dropWhile_cons_of_pos (by rfl), ih]
theorem tr_fl8 (x : List UInt8) : tr (fl8 x) = tr x := by
 unfold tr fl8 Lib.trimRightB
 rw [List.reverse_append, List.reverse_replicate, drop_rep]
theorem trim_ok (x : List UInt8) (h : x.length ≤ 1000000) : libTrimRight x [32] = some (tr x) := by
 unfold libTrimRight
 exact if_pos ⟨by decide, by omega⟩
theorem rows_loop : ∀ (suf pre : List GCell), Pl suf → pre.length + suf.length ≤ 100000 → loopO (f18_l0 (pre ++ suf)) (pre.map (fun c => c.Rune), (pre.length : Int)) = some ((pre ++ suf).map (fun c => c.Rune))
 | [], pre, h, hl => loopO_done (by
  unfold f18_l0 f18_l0_j1
  rw [bcf (df (by simp)), cf, List.append_nil])
 | b :: suf, pre, h, hl => by
  simp only [List.length_cons] at hl
  have e1 : pre ++ b :: suf = (pre ++ [b]) ++ suf := by simp
  have ih := rows_loop suf (pre ++ [b]) (fun x hx => h x (List.mem_cons_of_mem _ hx)) (by simp; omega)
  rw [← e1] at ih
  refine loopO_next ?_ ih
  have hb := h b (List.mem_cons_self ..)
  unfold f18_l0 f18_l0_j1 f18_l0_j2
  rw [bct (lt_mid pre b suf), ct]
  show ((idx (pre ++ b :: suf) (pre.length : Int)).bind _) = _
  rw [idx_mid, bs, bct (by rw [df (by omega)]; rfl), app_ok _ _ _ (by simp; omega), bs, wrap_nx pre b (by omega), List.map_append]
  rfl
theorem row_text (x : List UInt8) (h : Ln x) : f18 (rowT x) = some (tr x) := by
 have := rows_loop (rowT x) [] (rowT_pl h.1) (by rw [rowT_len (by have := h.2; omega)]; decide)
 unfold f18
 rw [List.nil_append, rowT_rn, show (([] : List GCell).length : Int) = 0 from rfl] at this
 rw [show loopO (f18_l0 (rowT x)) ([], 0) = _ from this, bs, enc_ok _ (fl8_sg h) (by rw [fl8_len h]; decide), bs, trim_ok _ (by rw [fl8_len h]; decide), bs, tr_fl8]
theorem pl_okrt (g : List GCell) (hg : g.length = 24) (h : Pl g) : Rt 8 3 g := fun n hn i hi => by
 have hx := pl_cx h (n * 8 + i) (by omega)
 unfold okB
 have e : rowF 8 g n i = cx g (n * 8 + i) := rfl
 have hw := wd_pl hx.2.1 hx.2.2
 have hl : loneF (rowF 8 g n) 8 i = false := by
  unfold loneF
  rw [e, if_neg (by omega), hw]; rfl
 rw [hl, e, hx.1, hw, df (by omega)]; rfl
theorem start_ok (g : List GCell) (hg : g.length = 24) (h : Pl g) : f37 ⟨8, 3, g⟩ true (GPen.mk 0 0 0) = some (8, 3, g, 0) := by
 unfold f37 f37_j0 f37_j1
 rw [check_ok, bs, bcf (by rw [dt (show gcode ⟨8, 3, g⟩ = 0 from gcode_ok 8 3 g (by omega) (by omega) (by omega) (pl_okrt g hg h))]; rfl), bcf (by rfl), pen_ok, bs, bcf (by rfl)]
 rw [show f45 ⟨8, 3, g⟩ = _ from cloneG 8 3 g (by omega), bs]
 rfl
theorem text_loop (p s : List GCell) (g0 : GGrid) (r0 : Int) (ln : Nat) : ∀ (suf pre : List GCell), Pl suf → pre.length + suf.length = 8 →
  loopO (f19_l1 g0 r0) (pre.map (fun c => c.Rune), p ++ ((pre ++ suf) ++ s), p.length, 8, 8, (pre.length : Int)) = some ((pre ++ suf).map (fun c => c.Rune))
 | [], pre, h, hl => loopO_done (by
  unfold f19_l1 f19_l1_j2
  simp at hl
  rw [bcf (df (by show ¬ (pre.length : Int) < 8; omega)), cf, List.append_nil])
 | b :: suf, pre, h, hl => by
  simp only [List.length_cons] at hl
  have e1 : pre ++ b :: suf = (pre ++ [b]) ++ suf := by simp
  have ih := text_loop p s g0 r0 ln suf (pre ++ [b]) (fun x hx => h x (List.mem_cons_of_mem _ hx)) (by simp; omega)
  rw [← e1] at ih
  refine loopO_next ?_ ih
  have hb := h b (List.mem_cons_self ..)
  unfold f19_l1 f19_l1_j2 f19_l1_j3
  rw [bct (dt (by show (pre.length : Int) < 8; omega)), ct]
  show ((inR (pre.length : Int) 8).bind _) = _
  rw [inR_nat pre.length 8 (by omega), bs]
  have eg : (p ++ ((pre ++ b :: suf) ++ s))[p.length + pre.length]? = some b := by
   rw [List.getElem?_append_right (by omega), show p.length + pre.length - p.length = pre.length by omega, List.append_assoc, List.getElem?_append_right (Nat.le_refl _), Nat.sub_self]; rfl
  rw [eg, bs, bct (by rw [df (by omega)]; rfl), app_ok _ _ _ (by simp; omega), bs]
  rw [wrap_nx pre b (by omega), List.map_append]
  rfl
theorem text_ok (p s : List GCell) (x : List UInt8) (r : Nat) (hr : r < 3) (hp : p.length = 8 * r) (hg : (p ++ (rowT x ++ s)).length = 24) (hpl : Pl (p ++ (rowT x ++ s))) (h : Ln x) : f19 ⟨8, 3, p ++ (rowT x ++ s)⟩ (r : Int) = some (runes (fl8 x)) := by
 unfold f19 f19_j0
 rw [bct (dt (by omega)), bct (dt (by show (r : Int) < 3; omega)), start_ok _ hg hpl, bs, bcf (by rfl)]
 rw [show f38v1 8 3 (r : Int) (p ++ (rowT x ++ s)) = _ from rowv_ok 8 3 r _ (by omega) hr (by omega) (by omega), bs, chk_eq (by rfl), bs]
 have := text_loop p s ⟨8, 3, p ++ (rowT x ++ s)⟩ (r : Int) 0 (rowT x) [] (rowT_pl h.1) (by rw [rowT_len (by have := h.2; omega)]; rfl)
 rw [List.nil_append, rowT_rn] at this
 rw [show r * 8 = p.length by omega]
 rw [show loopO (f19_l1 ⟨8, 3, p ++ (rowT x ++ s)⟩ (r : Int)) ([], p ++ (rowT x ++ s), p.length, 8, ((8 : Nat) : Int), 0) = _ from this, bs]
theorem txt (x : List UInt8) (h : Ln x) : f21 (runes (fl8 x)) = some (fl8 x) ∧ libTrimRight (fl8 x) [32] = some (tr x) :=
 ⟨enc_ok _ (fl8_sg h) (by rw [fl8_len h]; decide), by rw [trim_ok _ (by rw [fl8_len h]; decide), tr_fl8]⟩
end Go.Proofs.YtobkkblijfhpoaaGreatDoor.Pm

namespace Go.Proofs.YtobkkblijfhpoaaGreatDoor.Pm
open Go.Proofs.YtobkkblijfhpoaaGreatDoor.Args
open Go.ChangeShapes Go.WideShapes Go.ChangeAt Go.RowKit
set_option linter.unusedVariables false
set_option linter.unusedSimpArgs false
set_option maxRecDepth 100000
def R3 (ls : List (List UInt8)) : List (List UInt8) := Ah ls ++ [] :: List.replicate (2 - ls.length) []
def Be (ls : List (List UInt8)) : List (List UInt8) := ls.take (ls.length - 2)
theorem rows_nil : ∀ k : Nat, rows (List.replicate k []) = List.replicate (8 * k) (blank P0)
 | 0 => rfl
 | k + 1 => by
  have ih := rows_nil k
  unfold rows at ih ⊢
  rw [List.replicate_succ, List.map_cons, List.flatten_cons, ih, show 8 * (k + 1) = 8 + 8 * k by omega, ← List.replicate_append_replicate]; rfl
theorem gp_rows (ls : List (List UInt8)) : GP ls [] = rows (R3 ls) := by
 have e : rows (R3 ls) = rows (Ah ls) ++ (rowT [] ++ rows (List.replicate (2 - ls.length) [])) := by
  unfold rows R3
  rw [List.map_append, List.flatten_append, List.map_cons, List.flatten_cons]
 rw [e, rows_nil]; rfl
theorem nil_ln : Ln [] := ⟨(fun b hb => (by cases hb)), (by decide)⟩
theorem r3_ln {ls : List (List UInt8)} (h : ∀ l ∈ ls, Ln l) : ∀ l ∈ R3 ls, Ln l := fun l hl => by
 unfold R3 at hl
 rcases List.mem_append.1 hl with q | q
 ·exact ah_ln h l q
 ·rcases List.mem_cons.1 q with q | q
  ·rw [q]; exact nil_ln
  ·rw [(List.mem_replicate.1 q).2]; exact nil_ln
theorem r3_len (ls : List (List UInt8)) : (R3 ls).length = 3 := by
 unfold R3
 rw [List.length_append, ah_len, List.length_cons, List.length_replicate]; omega
theorem be_r3 (ls : List (List UInt8)) : Be ls ++ R3 ls = ls ++ [] :: List.replicate (2 - ls.length) [] := by
 unfold Be R3 Ah
 rw [← List.append_assoc, List.take_append_drop]
theorem pa_be (ls : List (List UInt8)) : PA ls = (Be ls).map fun l => ⟨rowT l⟩ := rfl
theorem past_loop (a1 : List (List UInt8)) (c : GClient) (acc : List (List UInt8)) : ∀ (suf pre : List (List UInt8)), (∀ l ∈ suf, Ln l) → acc.length + pre.length + suf.length ≤ 1000 →
  loopO (f5_l16 a1) (c, acc ++ pre.map tr, (pre ++ suf).map (fun l => (⟨rowT l⟩ : GLine)), (((pre ++ suf).map (fun l => (⟨rowT l⟩ : GLine))).length : Int), (pre.length : Int)) = some (c, acc ++ (pre ++ suf).map tr)
 | [], pre, h, hl => loopO_done (by
  unfold f5_l16 f5_l16_j17
  rw [bcf (df (by show ¬ (pre.length : Int) < ((((pre ++ []).map (fun l => (⟨rowT l⟩ : GLine))).length : Nat) : Int); simp)), cf, List.append_nil])
 | b :: suf, pre, h, hl => by
  simp only [List.length_cons] at hl
  have e1 : pre ++ b :: suf = (pre ++ [b]) ++ suf := by simp
  have ih := past_loop a1 c acc suf (pre ++ [b]) (fun x hx => h x (List.mem_cons_of_mem _ hx)) (by simp; omega)
  rw [← e1] at ih
  refine loopO_next ?_ ih
  unfold f5_l16 f5_l16_j17 f5_l16_j18
  rw [bct (dt (by show (pre.length : Int) < ((((pre ++ b :: suf).map (fun l => (⟨rowT l⟩ : GLine))).length : Nat) : Int); simp; omega)), ct]
  have ei : idx ((pre ++ b :: suf).map (fun l => (⟨rowT l⟩ : GLine))) (pre.length : Int) = some ⟨rowT b⟩ := by
   have := idx_mid (pre.map (fun l => (⟨rowT l⟩ : GLine))) ⟨rowT b⟩ (suf.map (fun l => (⟨rowT l⟩ : GLine)))
   rw [List.length_map] at this
   rw [List.map_append, List.map_cons]; exact this
  show ((idx ((pre ++ b :: suf).map (fun l => (⟨rowT l⟩ : GLine))) (pre.length : Int)).bind _) = _
  rw [ei, bs, row_text b (h b (List.mem_cons_self ..)), bs]
  show ((app? 16 (acc ++ pre.map tr) [tr b]).bind _) = _
  rw [app_ok _ _ _ (by simp; omega), bs, List.append_assoc]
  refine congrArg some (congrArg Sum.inl ?_)
  show (c, acc ++ (pre.map tr ++ [tr b]), _, _, IntKind.i64.wrap ((pre.length : Int) + 1)) = _
  rw [wrap_nx pre b (by omega), show (pre ++ [b]).map tr = pre.map tr ++ [tr b] by simp]
theorem want_loop (rs : List (List UInt8)) : ∀ (suf pre : List (List UInt8)), (∀ l ∈ suf, Ln l) → pre.length + suf.length ≤ 1000 →
  loopO (f5_l7 (pre ++ suf)) (rs, pre.map tr, (pre.length : Int)) = some (rs, (pre ++ suf).map tr)
 | [], pre, h, hl => loopO_done (by
  unfold f5_l7 f5_l7_j8
  rw [bcf (df (by show ¬ (pre.length : Int) < ((pre ++ []).length : Int); simp)), cf, List.append_nil])
 | b :: suf, pre, h, hl => by
  simp only [List.length_cons] at hl
  have e1 : pre ++ b :: suf = (pre ++ [b]) ++ suf := by simp
  have ih := want_loop rs suf (pre ++ [b]) (fun x hx => h x (List.mem_cons_of_mem _ hx)) (by simp; omega)
  rw [← e1] at ih
  refine loopO_next ?_ ih
  have hb := (h b (List.mem_cons_self ..)).2
  unfold f5_l7 f5_l7_j8 f5_l7_j9
  rw [bct (dt (by show (pre.length : Int) < ((pre ++ b :: suf).length : Int); simp; omega)), ct]
  show ((idx (pre ++ b :: suf) (pre.length : Int)).bind _) = _
  rw [idx_mid, bs, trim_ok b (by omega), bs]
  show ((app? 16 (pre.map tr) [tr b]).bind _) = _
  rw [app_ok _ _ _ (by simp; omega), bs]
  refine congrArg some (congrArg Sum.inl ?_)
  show (rs, pre.map tr ++ [tr b], IntKind.i64.wrap ((pre.length : Int) + 1)) = _
  rw [wrap_nx pre b (by omega), List.map_append]; rfl
theorem pad3 (a1 rs w : List (List UInt8)) (h : w.length < 3) : f5_l6 a1 (rs, w) = some (.inl (rs, w ++ [[]])) := by
 unfold f5_l6
 rw [bct (dt (by show (w.length : Int) < 3; omega))]
 show ((app? 16 w [[]]).bind _) = _
 rw [app_ok _ _ _ (by simp; omega), bs]
theorem padN (a1 rs w : List (List UInt8)) (h : 3 ≤ w.length) (hn : w.length ≤ 100) (he : w.length = a1.length) : f5_l6 a1 (rs, w) = some (.inl (rs, w ++ [[]])) := by
 unfold f5_l6
 rw [bcf (df (by show ¬ (w.length : Int) < 3; omega)), bct (dt (by omega)), bct (dt (by show (w.length : Int) = (a1.length : Int); omega))]
 show ((app? 16 w [[]]).bind _) = _
 rw [app_ok _ _ _ (by simp; omega), bs]
theorem padE (a1 rs w : List (List UInt8)) (h : 3 ≤ w.length) (he : w.length ≠ a1.length) : f5_l6 a1 (rs, w) = some (.inr (rs, w)) := by
 unfold f5_l6
 rw [bcf (df (by show ¬ (w.length : Int) < 3; omega))]
 by_cases h2 : 2 < a1.length
 ·rw [bct (dt (by omega)), bcf (df (by show ¬ (w.length : Int) = (a1.length : Int); omega))]
 ·rw [bcf (df (by omega))]
theorem pad_ok (ls rs : List (List UInt8)) (hn : ls.length ≤ 42) : loopO (f5_l6 ls) (rs, ls.map tr) = some (rs, (ls ++ [] :: List.replicate (2 - ls.length) []).map tr) := by
 match ls, hn with
 | [], _ => exact loopO_next (pad3 _ _ _ (by decide)) (loopO_next (pad3 _ _ _ (by decide)) (loopO_next (pad3 _ _ _ (by decide)) (loopO_done (padE _ _ _ (by decide) (by decide)))))
 | [a], _ => exact loopO_next (pad3 _ _ _ (by show 1 < 3; decide)) (loopO_next (pad3 _ _ _ (by show 2 < 3; decide)) (loopO_done (padE _ _ _ (by show 3 ≤ 3; decide) (by show 3 ≠ 1; decide))))
 | [a, b], _ => exact loopO_next (pad3 _ _ _ (by show 2 < 3; decide)) (loopO_done (padE _ _ _ (by show 3 ≤ 3; decide) (by show 3 ≠ 2; decide)))
 | a :: b :: c :: r, hn =>
  have hl : ((a :: b :: c :: r).map tr).length = (a :: b :: c :: r).length := List.length_map _
  have h3 : 3 ≤ (a :: b :: c :: r).length := by simp
  have e : (a :: b :: c :: r) ++ [] :: List.replicate (2 - (a :: b :: c :: r).length) [] = (a :: b :: c :: r) ++ [[]] := by
   rw [show 2 - (a :: b :: c :: r).length = 0 by simp]; rfl
  rw [e, List.map_append]
  generalize a :: b :: c :: r = ls at *
  exact loopO_next (padN _ _ _ (by omega) (by omega) hl) (loopO_done (padE _ _ _ (by simp; omega) (by simp)))
theorem same_loop : ∀ (suf pre : List (List UInt8)), pre.length + suf.length ≤ 1000 → loopO (f22_l1 (pre ++ suf) (pre ++ suf)) (pre.length : Int) = some ()
 | [], pre, hl => loopO_done (by
  unfold f22_l1 f22_l1_j2
  rw [bcf (df (by simp)), cf])
 | b :: suf, pre, hl => by
  simp only [List.length_cons] at hl
  have e1 : pre ++ b :: suf = (pre ++ [b]) ++ suf := by simp
  have ih := same_loop suf (pre ++ [b]) (by simp; omega)
  rw [← e1] at ih
  refine loopO_next ?_ ih
  unfold f22_l1 f22_l1_j2 f22_l1_j3
  rw [bct (lt_mid pre b suf), ct, idx_mid, bs, bs, bcf (by rw [dt rfl]; rfl), wrap_nx pre b (by omega)]
theorem same_ok (l : List (List UInt8)) (hl : l.length ≤ 1000) : f22 l l = some () := by
 have := same_loop l [] (by simpa using hl)
 rw [List.nil_append, show (([] : List (List UInt8)).length : Int) = 0 from rfl] at this
 unfold f22 f22_j0
 rw [bcf (by rw [dt rfl]; rfl), this, bs]
theorem rest_ok (st : GStops) (ls : List (List UInt8)) (h : ∀ l ∈ ls, Ln l) (hn : ls.length ≤ 42) : f5_j2 ls (CC st ls) = some true := by
 obtain ⟨a, b, c, hr⟩ : ∃ a b c, R3 ls = [a, b, c] := by
  have := r3_len ls
  match hq : R3 ls, this with
  | [a, b, c], _ => exact ⟨a, b, c, rfl⟩
 have hln := r3_ln h
 rw [hr] at hln
 have ha := hln a (by simp)
 have hb := hln b (by simp)
 have hc := hln c (by simp)
 have eg : GP ls [] = rowT a ++ (rowT b ++ (rowT c ++ [])) := by rw [gp_rows, hr]; rfl
 have h24 := gp_len [] h (by decide)
 have hpl := gp_pl h nil_ln
 rw [eg] at h24 hpl
 have la := rowT_len (x := a) (by have := ha.2; omega)
 have lb := rowT_len (x := b) (by have := hb.2; omega)
 have t0 := text_ok [] (rowT b ++ (rowT c ++ [])) a 0 (by omega) rfl h24 hpl ha
 have t1 := text_ok (rowT a) (rowT c ++ []) b 1 (by omega) (by omega) h24 hpl hb
 have e2 : rowT a ++ (rowT b ++ (rowT c ++ [])) = (rowT a ++ rowT b) ++ (rowT c ++ []) := by rw [List.append_assoc]
 have t2 := text_ok (rowT a ++ rowT b) [] c 2 (by omega) (by rw [List.length_append]; omega) (by rw [← e2]; exact h24) (by rw [← e2]; exact hpl) hc
 rw [← e2, ← eg] at t2
 rw [← eg] at t1
 rw [List.nil_append, ← eg] at t0
 have hbe : ∀ l ∈ Be ls, Ln l := fun l hl => h l (List.mem_of_mem_take hl)
 have lbe : (Be ls).length ≤ 42 := by unfold Be; simp; omega
 have hp := past_loop ls (CC st ls) [] (Be ls) [] hbe (by simp; omega)
 simp only [List.nil_append] at hp
 rw [← pa_be] at hp
 unfold f5_j2
 rw [show loopO (f5_l16 ls) (CC st ls, [], (CC st ls).Screen.Past, ((CC st ls).Screen.Past.length : Int), 0) = _ from hp, bs]
 unfold f5_j3 f5_j10 f5_j11 f5_j12 f5_j13 f5_j14 f5_j15 f5_j4 f5_j5
 dsimp only []
 rw [show f19 (CC st ls).Screen.Grid 0 = _ from t0, bs, (txt a ha).1, bs, (txt a ha).2, bs, app_ok _ _ _ (by simp; omega), bs]
 rw [show f19 (CC st ls).Screen.Grid 1 = _ from t1, bs, (txt b hb).1, bs, (txt b hb).2, bs, app_ok _ _ _ (by simp; omega), bs]
 rw [show f19 (CC st ls).Screen.Grid 2 = _ from t2, bs, (txt c hc).1, bs, (txt c hc).2, bs, app_ok _ _ _ (by simp; omega), bs]
 have hw := want_loop ((Be ls).map tr ++ [tr a] ++ [tr b] ++ [tr c]) ls [] h (by simp; omega)
 rw [List.nil_append] at hw
 rw [show loopO (f5_l7 ls) ((Be ls).map tr ++ [tr a] ++ [tr b] ++ [tr c], [], 0) = _ from hw, bs]
 dsimp only []
 rw [pad_ok ls _ hn, bs]
 have ee : (Be ls).map tr ++ [tr a] ++ [tr b] ++ [tr c] = (ls ++ [] :: List.replicate (2 - ls.length) []).map tr := by
  rw [← be_r3, hr]; simp
 dsimp only []
 rw [ee, same_ok _ (by simp; omega), bs]
end Go.Proofs.YtobkkblijfhpoaaGreatDoor.Pm

namespace Go.Proofs.YtobkkblijfhpoaaGreatDoor.Pm
open Go.Proofs.YtobkkblijfhpoaaGreatDoor.Args
open Go.ChangeShapes Go.WideShapes Go.ChangeAt Go.RowKit
set_option linter.unusedVariables false
set_option linter.unusedSimpArgs false
set_option maxRecDepth 100000
theorem look_ok (a1 : List (List UInt8)) (st : GStops) (acc z : List UInt8) (k : Int) : ∀ (suf pre : List UInt8), pre ++ suf = z → (∀ b ∈ pre, 32 ≤ b.toNat ∧ b.toNat ≤ 126) → (pre ≠ [] → z.length ≤ 7) →
  ∃ r, loopO (f5_l19_l22 a1) (CC st [], acc, z, k, (z.length : Int), (pre.length : Int)) = some r ∧ (r = .inr true ∨ (r = .inl (CC st [], acc, z, k) ∧ Ln z))
 | [], pre, e, h, hl => by
  rw [List.append_nil] at e
  subst e
  refine ⟨.inl (CC st [], acc, pre, k), loopO_done ?_, .inr ⟨rfl, h, ?_⟩⟩
  ·unfold f5_l19_l22 f5_l19_l22_j23
   rw [bcf (df (by show ¬ (pre.length : Int) < (pre.length : Int); omega)), cf]
   rfl
  ·rcases List.eq_nil_or_concat pre with q | ⟨_, _, q⟩
   ·rw [q]; decide
   ·exact hl (by rw [q]; simp)
 | b :: suf, pre, e, h, hl => by
  have e1 : pre ++ b :: suf = (pre ++ [b]) ++ suf := by simp
  have step : f5_l19_l22 a1 (CC st [], acc, z, k, (z.length : Int), (pre.length : Int)) = f5_l19_l22_j24 a1 (CC st []) acc z k (z.length : Int) (pre.length : Int) := by
   unfold f5_l19_l22 f5_l19_l22_j23
   rw [bct (dt (by show (pre.length : Int) < (z.length : Int); rw [← e]; simp; omega)), ct]
   rfl
  have hb : idx z (pre.length : Int) = some b := by rw [← e]; exact idx_mid pre b suf
  by_cases h1 : b.toNat < 32
  ·refine ⟨.inr true, loopO_done ?_, .inl rfl⟩
   rw [step]; unfold f5_l19_l22_j24
   rw [hb, bs, bct (dt (by omega))]
  by_cases h2 : 126 < b.toNat
  ·refine ⟨.inr true, loopO_done ?_, .inl rfl⟩
   rw [step]; unfold f5_l19_l22_j24
   rw [hb, bs, bcf (df (by omega)), bs, bct (dt (by omega))]
  by_cases h3 : 7 < z.length
  ·refine ⟨.inr true, loopO_done ?_, .inl rfl⟩
   rw [step]; unfold f5_l19_l22_j24
   rw [hb, bs, bcf (df (by omega)), bs, bcf (df (by omega)), bct (dt (by omega))]
  obtain ⟨r, hr, hq⟩ := look_ok a1 st acc z k suf (pre ++ [b]) (by rw [← e1]; exact e) (fun x hx => by
   rcases List.mem_append.1 hx with q | q
   ·exact h x q
   ·rw [List.mem_singleton.1 q]; omega) (fun _ => by omega)
  refine ⟨r, loopO_next ?_ hr, hq⟩
  rw [step]; unfold f5_l19_l22_j24
  have hpl : pre.length < 1000 := by
   have : (pre ++ b :: suf).length = z.length := by rw [e]
   rw [List.length_append] at this; omega
  rw [hb, bs, bcf (df (by omega)), bs, bcf (df (by omega)), bcf (df (by omega)), wrap_nx pre b (by omega)]
  rfl
theorem sent_app (a b : List (List UInt8)) : sent (a ++ b) = sent a ++ sent b := by unfold sent; rw [List.flatMap_append]
theorem sent_one (l : List UInt8) : sent [l] = l ++ [13, 0, 13, 10] := by unfold sent; simp
theorem lines_ok (st : GStops) : ∀ (suf pre : List (List UInt8)), (∀ l ∈ pre, Ln l) → pre.length + suf.length ≤ 42 →
  ∃ r, loopO (f5_l19 (pre ++ suf)) (CC st [], sent pre, (pre.length : Int)) = some r ∧ (r = .inr true ∨ (r = .inl (CC st [], sent (pre ++ suf)) ∧ ∀ l ∈ pre ++ suf, Ln l))
 | [], pre, h, hl => by
  refine ⟨.inl (CC st [], sent (pre ++ [])), loopO_done ?_, .inr ⟨rfl, by rw [List.append_nil]; exact h⟩⟩
  unfold f5_l19 f5_l19_j20
  rw [bcf (df (by show ¬ (pre.length : Int) < ((pre ++ []).length : Int); simp)), cf, List.append_nil]
  rfl
 | z :: suf, pre, h, hl => by
  rw [List.length_cons] at hl
  have e1 : pre ++ z :: suf = (pre ++ [z]) ++ suf := by simp
  obtain ⟨r, hr, hq⟩ := look_ok (pre ++ z :: suf) st (sent pre) z (pre.length : Int) z [] (List.nil_append _) (fun b hb => by cases hb) (fun q => absurd rfl q)
  have step : f5_l19 (pre ++ z :: suf) (CC st [], sent pre, (pre.length : Int)) = f5_l19_j21 (pre ++ z :: suf) (CC st []) (sent pre) (pre.length : Int) := by
   unfold f5_l19 f5_l19_j20
   rw [bct (dt (by show (pre.length : Int) < ((pre ++ z :: suf).length : Int); simp; omega)), ct]
   rfl
  have hr' : loopO (f5_l19_l22 (pre ++ z :: suf)) ({ CC st [] with Screen := { (CC st []).Screen with Past := [] } }, sent pre, z, (pre.length : Int), (z.length : Int), 0) = some r := hr
  rcases hq with rfl | ⟨rfl, hz⟩
  ·refine ⟨.inr true, loopO_done ?_, .inl rfl⟩
   rw [step]; unfold f5_l19_j21
   rw [idx_mid, bs, hr', bs, seR]
  ·have hp := (come_len pre h).2
   have hz7 := hz.2
   obtain ⟨r, hr2, hq2⟩ := lines_ok st suf (pre ++ [z]) (fun l hl => by
    rcases List.mem_append.1 hl with q | q
    ·exact h l q
    ·rw [List.mem_singleton.1 q]; exact hz) (by simp; omega)
   rw [← e1] at hr2 hq2
   refine ⟨r, loopO_next ?_ hr2, hq2⟩
   rw [step]; unfold f5_l19_j21
   rw [idx_mid, bs, hr', bs, seL]
   dsimp only []
   rw [cat_ok z _ (by simp; omega), bs, cat_ok (sent pre) _ (by simp; omega), bs, wrap_nx pre z (by omega), sent_app, sent_one]
   rfl
theorem past_ok (ls : List (List UInt8)) : f5 ls = some true := by
 obtain ⟨st, hst⟩ := fresh_ok
 unfold f5 libLives
 rw [hst, bs, bs, bcf (by rfl)]
 by_cases hn : 42 < ls.length
 ·rw [bct (dt (by omega)), bs]
 ·rw [bcf (df (by omega))]
  obtain ⟨r, hr, hq⟩ := lines_ok st ls [] (fun l hl => by cases hl) (by simp; omega)
  rw [List.nil_append] at hr hq
  unfold f5_j0
  rw [show loopO (f5_l19 ls) ({ ({ CC st [] with Screen := { (CC st []).Screen with Past := [] } } : GClient) with Screen := { ({ CC st [] with Screen := { (CC st []).Screen with Past := [] } } : GClient).Screen with Past := [] } }, [], 0) = some r from hr, bs]
  rcases hq with rfl | ⟨rfl, h⟩
  ·rw [seR]
  ·rw [seL]
   have hd := do_ok st ls h (by omega) (GEvent.mk 1 (sent ls) (GKey.mk 0 0 0) (GMouse.mk 0 0 0 0 false) [] 0 0 false 0 false) rfl rfl
   show f5_j1 ls (CC st []) (sent ls) = _
   unfold f5_j1 f17
   rw [bs, show f13 ({ CC st [] with Screen := { (CC st []).Screen with Past := [] } }) (GEvent.mk 1 (sent ls) (GKey.mk 0 0 0) (GMouse.mk 0 0 0 0 false) [] 0 0 false 0 false) = _ from hd, bs]
   exact rest_ok st ls h (by omega)
end Go.Proofs.YtobkkblijfhpoaaGreatDoor.Pm

namespace Go.Proofs.YtobkkblijfhpoaaGreatDoor.Pm
open Go.Proofs.YtobkkblijfhpoaaGreatDoor.Args
open Go.ChangeShapes Go.WideShapes Go.ChangeAt Go.RowKit
theorem maxcell {w : World} (hsh : w.ShapedOpen Go.Proofs.Tryz.prog) : ∃ m, w.cell? ⟨0, 0, none⟩ = some (.int .i64 m) :=
 cell_of_shapedOpen_int (t := 3) (zero := #[.int .i64 0]) hsh (of_decide_eq_true (by kernel_rfl)) (by kernel_rfl) rfl (by kernel_rfl) (by kernel_rfl) (by kernel_rfl)
theorem TopPast_walk (v0 : Value) (w : World) (h0 : Arg (some 1048576) Go.Proofs.Tryz.prog w 48 v0) (hsh : w.ShapedOpen Go.Proofs.Tryz.prog) : Calls Go.Proofs.Tryz.prog 5 #[v0] w fun e w' => e = .returned (.bool true) ∧ Below w.heap.size w w' :=
 TopPast_calls (some 1048576) (fun a _ => past_ok a) v0 w h0 (maxcell hsh)
end Go.Proofs.YtobkkblijfhpoaaGreatDoor.Pm

