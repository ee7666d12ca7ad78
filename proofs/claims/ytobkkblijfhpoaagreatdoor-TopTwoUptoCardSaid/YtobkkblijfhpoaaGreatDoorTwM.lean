/- TopTwo: what an end does with what comes, and when it asks. -/
import Derived.Test.YtobkkblijfhpoaaGreatDoorTwC
namespace Go.Proofs.YtobkkblijfhpoaaGreatDoor.Pm
open Go.Proofs.YtobkkblijfhpoaaGreatDoor.Args
open Go.ChangeShapes Go.WideShapes Go.ChangeAt Go.RowKit
set_option linter.unusedVariables false
set_option linter.unusedSimpArgs false
set_option maxRecDepth 100000
def Ws (ts : List GTok) (u : List UInt8) : Prop := ∀ w way l, Pd w way l → Pd w (way ++ u) (l ++ ts)
theorem ws_nil : Ws [] [] := fun w way l h => by rw [List.append_nil, List.append_nil]; exact h
theorem Ws.app {t1 t2 : List GTok} {u1 u2 : List UInt8} (h1 : Ws t1 u1) (h2 : Ws t2 u2) : Ws (t1 ++ t2) (u1 ++ u2) := fun w way l h => by
 rw [← List.append_assoc, ← List.append_assoc]; exact h2 _ _ _ (h1 _ _ _ h)
theorem ws_one {t : GTok} {u : List UInt8} (ht : Nt t ∨ Zt t) (hu : Tw t u) : Ws [t] u := fun w way l h => h.app ht hu
theorem ws_rt (c : Bool) (w k : Nat) (hk : k < 256) (hw : w ≤ 2) : Ws (rt c w k) (rb c w k) ∧ (rb c w k).length ≤ 3 := by
 have hn := rt_nt c w k hk hw
 unfold rt rb at *
 by_cases h : w = 0
 ·rw [if_pos h, if_pos h]; exact ⟨ws_nil, by decide⟩
 ·rw [if_neg h] at hn
  rw [if_neg h, if_neg h]
  have := hn _ (List.mem_singleton.2 rfl)
  exact ⟨ws_one (.inl this) (nt_tw this), Nat.le_refl 3⟩
structure Sc (s : GScreen) : Prop where
 chk : f55 s = some ()
 clone : f59 s = some s
 size : ∃ d, f117 s.Grid.Wide s.Grid.High = some d ∧ d.length = 4 ∧ (esc d).length = 4
theorem w1 (d : List UInt8) (h : d.length = 4) : f171 ⟨4, 0, 31, d⟩ = f171_j0 ⟨4, 0, 31, d⟩ := by
 unfold f171
 simp only [show decide ((0 : Int) ≤ 31) = true from rfl, show decide ((31 : Int) ≤ 255) = true from rfl, show decide ((4 : Int) = 1) = false from rfl, show decide ((4 : Int) = 2) = false from rfl, show decide ((4 : Int) = 3) = false from rfl, show decide ((4 : Int) = 4) = true from rfl, show decide ((0 : Int) = 0) = true from rfl, cond_true, cond_false]
 rw [decide_eq_false (p := 4096 < (d.length : Int)) (by omega)]
 rfl
theorem w2 (x y d : List UInt8) (h : d.length = 4) (h2 : (esc d).length = 4) (l1 : x.length = 3) (l2 : y.length = 2) : (f114 d).bind (fun z5 => ((cat? x z5).bind fun z6 => ((cat? z6 y).bind fun z7 => (some z7)))) = some (x ++ esc d ++ y) := by
 rw [esc_eq_ d (by omega)]
 simp only [Option.bind_some]
 rw [cat_ok _ _ (by omega)]
 simp only [Option.bind_some]
 rw [cat_ok _ _ (by rw [List.length_append]; omega)]
 rfl
theorem write_z (d : List UInt8) (h : d.length = 4) (h2 : (esc d).length = 4) : f171 ⟨4, 0, 31, d⟩ = some ([255, 250, u8 31] ++ esc d ++ [255, 240]) := by
 rw [w1 d h]
 unfold f171_j0
 exact w2 [255, 250, u8 31] [255, 240] d h h2 rfl rfl
theorem zw {d : List UInt8} (h : d.length = 4) (h2 : (esc d).length = 4) : ∃ z x, Zt z ∧ z = ⟨4, 0, 31, d⟩ ∧ f171 z = some x ∧ Tw z x ∧ x.length = 9 := by
 have hz : Zt ⟨4, 0, 31, d⟩ := ⟨rfl, rfl, rfl, h⟩
 exact ⟨_, _, hz, rfl, write_z d h h2, zt_tw hz, by rw [List.length_append, List.length_append, h2]; rfl⟩
theorem size_sent {s : GScreen} (hs : Sc s) (c : GClient) (hc : c.Screen = s) (sent : List UInt8) (hl : sent.length ≤ 20000) : ∃ z u, Zt z ∧ Ws [z] u ∧ u.length = 9 ∧ f68 ⟨c, sent⟩ = some ⟨c, sent ++ u⟩ := by
 obtain ⟨d, e, h4, h5⟩ := hs.size
 obtain ⟨z, x, z1, z2, z3, z4, z5⟩ := zw h4 h5
 refine ⟨z, x, z1, ws_one (.inr z1) z4, z5, ?_⟩
 unfold f68 f118
 simp only [hc]
 rw [e]
 simp only [Option.bind_some]
 rw [← z2, z3]
 simp only [Option.bind_some]
 rw [cat_ok _ _ (by omega)]
 rfl
theorem us31 (c : GClient) (sent : List UInt8) : f67 31 ⟨c, sent⟩ = some (⟨c, sent⟩, decide (((c.Neg.Us 31).toNat : Int) = 1)) := by
 unfold f67
 have : inR (31 : Int) 256 = some 31 := rfl
 rw [this]
 simp only [Option.bind_some]
 cases decide (((c.Neg.Us 31).toNat : Int) = 1) <;> rfl
theorem neg_gen {s : GScreen} (hs : Sc s) (c c' : GClient) (hc : c.Screen = s) (n' : GNeg) (hc' : { c with Neg := n' } = c') (by' sent : List UInt8) (hb : by'.length ≤ 3) (hl : sent.length ≤ 10000) : ∃ zs u, (zs = [] ∨ ∃ z, zs = [z] ∧ Zt z) ∧ Ws zs u ∧ u.length ≤ 9 ∧ f70 n' by' ⟨c, sent⟩ = some ⟨c', sent ++ by' ++ u⟩ := by
 have hc2 : c'.Screen = s := by rw [← hc', ← hc]
 unfold f70
 rw [us31]
 simp only [Option.bind_some]
 rw [cat_ok _ _ (by omega)]
 simp only [Option.bind_some, hc', us31]
 cases decide (((c.Neg.Us 31).toNat : Int) = 1)
 ·simp only [Bool.not_false, cond_true]
  cases decide (((c'.Neg.Us 31).toNat : Int) = 1)
  ·exact ⟨[], [], .inl rfl, ws_nil, by decide, by rw [List.append_nil]; rfl⟩
  ·obtain ⟨z, u, h1, h2, h3, h4⟩ := size_sent hs c' hc2 (sent ++ by') (by rw [List.length_append]; omega)
   simp only [cond_true]
   exact ⟨[z], u, .inr ⟨z, rfl, h1⟩, h2, by omega, by rw [h4]; rfl⟩
 ·exact ⟨[], [], .inl rfl, ws_nil, by decide, by rw [List.append_nil]; rfl⟩
theorem negotiates {s : GScreen} (hs : Sc s) (w : GWire) (n n' : GNeg) (by' sent : List UInt8) (hb : by'.length ≤ 3) (hl : sent.length ≤ 10000) : ∃ zs u, (zs = [] ∨ ∃ z, zs = [z] ∧ Zt z) ∧ Ws zs u ∧ u.length ≤ 9 ∧ f70 n' by' ⟨mkC s w n, sent⟩ = some ⟨mkC s w n', sent ++ by' ++ u⟩ :=
 neg_gen hs (mkC s w n) (mkC s w n') rfl n' rfl by' sent hb hl
def Zc (l : List GTok) : Nat := (l.filter fun t => decide (t.Kind = 4)).length
theorem Zc_app (a b : List GTok) : Zc (a ++ b) = Zc a + Zc b := by unfold Zc; rw [List.filter_append, List.length_append]
theorem Zc_z {t : GTok} (h : Zt t) (l : List GTok) : Zc (t :: l) = Zc l + 1 := by unfold Zc; rw [List.filter_cons, if_pos (decide_eq_true h.1)]; rfl
theorem Zc_n {t : GTok} (h : Nt t) (l : List GTok) : Zc (t :: l) = Zc l := by unfold Zc; rw [List.filter_cons, if_neg (by have := h.1; simp; omega)]
theorem Zc_rt (c : Bool) (w k : Nat) : Zc (rt c w k) = 0 := by
 unfold rt; split <;> rfl
theorem In.more {a b : GNeg} {ta tb zs : List GTok} (hz : zs = [] ∨ ∃ z, zs = [z] ∧ Zt z) : Ts a b ta (tb ++ zs) = Ts a b ta tb ∧ Zc zs ≤ 1 := by
 rcases hz with rfl | ⟨z, rfl, h⟩
 ·exact ⟨by rw [List.append_nil], by decide⟩
 ·exact ⟨Ts_za a b z h ta tb, by rw [Zc_z h]; decide⟩
noncomputable def tokE (t : GTok) (g : Gworker) (l : List GTok) (m i : Int) : Option ((Gworker × (List GTok) × Int × Int) ⊕ Gworker) :=
 bif decide (t.Kind = 3) then ((f104 g.Client.Neg t).bind fun z41 => ((f70 z41.1 z41.2 g).bind fun z42 => some (.inl (z42, l, m, IntKind.i64.wrap (i + 1)))))
 else bif decide (t.Kind = 4) then ((f67 t.Opt g).bind fun z43 => bif z43.2 then ((f105 t z43.1).bind fun z44 => some (.inl (z44, l, m, IntKind.i64.wrap (i + 1)))) else some (.inl (z43.1, l, m, IntKind.i64.wrap (i + 1))))
 else some (.inl (g, l, m, IntKind.i64.wrap (i + 1)))
theorem tok_step {s : GScreen} (hs : Sc s) (w : GWire) {a b : GNeg} {t : GTok} {ta tb : List GTok} (h : In a b (t :: ta) tb) (ht : Nt t ∨ Zt t) (sent : List UInt8) (hl : sent.length ≤ 10000) (l : List GTok) (m i : Int) :
  ∃ a' u new, tokE t ⟨mkC s w a, sent⟩ l m i = some (.inl (⟨mkC s w a', sent ++ u⟩, l, m, IntKind.i64.wrap (i + 1))) ∧ Ws new u ∧ In a' b ta (tb ++ new) ∧
   u.length + 12 * En a' b ta (tb ++ new) ≤ 12 * En a b (t :: ta) tb ∧ 2 * En a' b ta (tb ++ new) + Zc ta + Zc new + 1 ≤ 2 * En a b (t :: ta) tb + Zc (t :: ta) := by
 unfold tokE
 rcases ht with ht | ht
 ·obtain ⟨a', c, w', k, hk, hw, e, h1, h2⟩ := hear_step h ht
  obtain ⟨hr1, hr2⟩ := ws_rt c w' k hk hw
  obtain ⟨zs, u, hz, z1, z2, z3⟩ := negotiates hs w a a' (rb c w' k) sent hr2 hl
  obtain ⟨g1, g2⟩ := In.more (a := a') (b := b) (ta := ta) (tb := tb ++ rt c w' k) hz
  have ee : En a' b ta (tb ++ (rt c w' k ++ zs)) = En a' b ta (tb ++ rt c w' k) := by unfold En; rw [← List.append_assoc, g1]
  rw [decide_eq_true ht.1]
  simp only [cond_true]
  rw [show f104 (Gworker.mk (mkC s w a) sent).Client.Neg t = _ from e]
  simp only [Option.bind_some]
  rw [z3]
  refine ⟨a', rb c w' k ++ u, rt c w' k ++ zs, by rw [← List.append_assoc]; rfl, hr1.app z1, ?_, ?_, ?_⟩
  ·unfold In; rw [← List.append_assoc, g1]; exact h1
  ·rw [ee, List.length_append]; omega
  ·rw [ee, Zc_app, Zc_rt, Zc_n ht]; omega
 ·have ez : Ts a b (t :: ta) tb = Ts a b ta tb := Ts_z a b t ht ta tb
  rw [decide_eq_false (by have := ht.1; omega), decide_eq_true ht.1, ht.2.2.1, us31]
  simp only [cond_true, cond_false, Option.bind_some]
  refine ⟨a, [], [], ?_, ws_nil, ?_, ?_, ?_⟩
  ·rw [List.append_nil]
   generalize decide (_ = (1 : Int)) = g
   cases g
   ·rfl
   ·unfold f105 f105_j0
    rw [ht.2.2.1]; rfl
  ·rw [List.append_nil]; unfold In; rw [← ez]; exact h
  ·rw [List.append_nil]; unfold En; rw [ez]; simp
  ·rw [List.append_nil, Zc_z ht]; unfold En; rw [ez]; show _ + _ + 0 + 1 ≤ _; omega
end Go.Proofs.YtobkkblijfhpoaaGreatDoor.Pm

namespace Go.Proofs.YtobkkblijfhpoaaGreatDoor.Pm
open Go.Proofs.YtobkkblijfhpoaaGreatDoor.Args
open Go.ChangeShapes Go.WideShapes Go.ChangeAt Go.RowKit
set_option linter.unusedVariables false
set_option linter.unusedSimpArgs false
set_option maxRecDepth 100000
theorem loop_toks {s : GScreen} (hs : Sc s) (w : GWire) {a b : GNeg} {t1 t2 tb : List GTok} (h : In a b (t1 ++ t2) tb) (ht : ∀ t ∈ t1, Nt t ∨ Zt t) (hE : En a b (t1 ++ t2) tb ≤ 800) (hn : 2 * En a b (t1 ++ t2) tb + Zc (t1 ++ t2) ≤ 100000) (p : List UInt8) (q : Gworker) :
  ∃ a' u new, loopO (f60_l1 p q) (⟨mkC s w a, []⟩, t1, (t1.length : Int), 0) = some ⟨mkC s w a', u⟩ ∧ Ws new u ∧ In a' b t2 (tb ++ new) ∧
   u.length + 12 * En a' b t2 (tb ++ new) ≤ 12 * En a b (t1 ++ t2) tb ∧ 2 * En a' b t2 (tb ++ new) + Zc t2 + Zc new + t1.length ≤ 2 * En a b (t1 ++ t2) tb + Zc (t1 ++ t2) := by
 obtain ⟨r, e, a', u, new, rfl, h1, h2, h3, h4⟩ := loopO_ind (body := f60_l1 p q)
  (fun n x => ∃ (i : Nat) (a' : GNeg) (u : List UInt8) (new : List GTok), x = (⟨mkC s w a', u⟩, t1, (t1.length : Int), (i : Int)) ∧ i ≤ t1.length ∧ n = t1.length - i ∧ Ws new u ∧ In a' b (t1.drop i ++ t2) (tb ++ new) ∧
   u.length + 12 * En a' b (t1.drop i ++ t2) (tb ++ new) ≤ 12 * En a b (t1 ++ t2) tb ∧ 2 * En a' b (t1.drop i ++ t2) (tb ++ new) + Zc (t1.drop i ++ t2) + Zc new + i ≤ 2 * En a b (t1 ++ t2) tb + Zc (t1 ++ t2))
  (fun r => ∃ a' u new, r = ⟨mkC s w a', u⟩ ∧ Ws new u ∧ In a' b t2 (tb ++ new) ∧
   u.length + 12 * En a' b t2 (tb ++ new) ≤ 12 * En a b (t1 ++ t2) tb ∧ 2 * En a' b t2 (tb ++ new) + Zc t2 + Zc new + t1.length ≤ 2 * En a b (t1 ++ t2) tb + Zc (t1 ++ t2)) (by
  rintro n x ⟨i, a', u, new, rfl, hi, rfl, h1, h2, h3, h4⟩
  unfold f60_l1 f60_l1_j2
  by_cases hlt : i < t1.length
  ·left
   rw [decide_eq_true (p := (i : Int) < (t1.length : Int)) (by omega)]
   simp only [cond_true]
   unfold f60_l1_j3
   rw [inR_nat i _ hlt]
   simp only [Option.bind_some]
   rw [List.getElem?_eq_getElem hlt]
   simp only [Option.bind_some]
   have hd : t1.drop i = t1[i] :: t1.drop (i + 1) := List.drop_eq_getElem_cons hlt
   have htt := ht _ (List.getElem_mem hlt)
   rw [hd, List.cons_append] at h2 h3 h4
   generalize t1[i] = t at *
   obtain ⟨b', v, new', e, g1, g2, g3, g4⟩ := tok_step hs w h2 htt u (by omega) t1 (t1.length : Int) (i : Int)
   have k1 : ¬ t.Kind = 1 := nt_kind htt
   have k2 : ¬ t.Kind = 2 := by rcases htt with x | x <;> (have := x.1; omega)
   rw [decide_eq_false k1, decide_eq_false k2]
   simp only [cond_false]
   refine ⟨_, _, e, ?_, i + 1, b', u ++ v, new ++ new', ?_, by omega, rfl, h1.app g1, ?_, ?_, ?_⟩
   ·omega
   ·rw [i64w _ (by omega)]; rfl
   ·rw [← List.append_assoc]; exact g2
   ·rw [← List.append_assoc, List.length_append]; omega
   ·rw [← List.append_assoc, Zc_app new new']; omega
  ·right
   have : i = t1.length := by omega
   subst this
   rw [decide_eq_false (p := (t1.length : Int) < (t1.length : Int)) (by omega)]
   rw [List.drop_length, List.nil_append] at h2 h3 h4
   exact ⟨_, rfl, a', u, new, rfl, h1, h2, h3, by omega⟩)
  (n := t1.length) (x := (⟨mkC s w a, []⟩, t1, (t1.length : Int), 0)) ⟨0, a, [], [], rfl, by omega, rfl, ws_nil, by rw [List.append_nil]; exact h, by rw [List.append_nil]; show 0 + _ ≤ _; rw [List.drop_zero]; omega, by rw [List.append_nil, List.drop_zero]; show _ + _ + 0 + 0 ≤ _; omega⟩
 exact ⟨a', u, new, e, h1, h2, h3, h4⟩
theorem do_bytes {s : GScreen} (hs : Sc s) {w : GWire} {a b : GNeg} {ta tb : List GTok} {d rest : List UInt8} (h : In a b ta tb) (hp : Pd w (d ++ rest) ta) (hd : d.length ≤ 4096) (hE : En a b ta tb ≤ 800) (ht : 2 * En a b ta tb + Zc ta ≤ 100000) (e : GEvent) (hk : e.Kind = 1) (he : e.Data = d) :
  ∃ w' a' u t2 new k, f13 (mkC s w a) e = some (mkC s w' a', u, 0) ∧ Pd w' rest t2 ∧ Ws new u ∧ In a' b t2 (tb ++ new) ∧
   u.length + 12 * En a' b t2 (tb ++ new) ≤ 12 * En a b ta tb ∧ 2 * En a' b t2 (tb ++ new) + Zc t2 + Zc new + k ≤ 2 * En a b ta tb + Zc ta ∧ ta.length = t2.length + k := by
 obtain ⟨w', t1, t2, rfl, hf, hp2⟩ := hp.cut hd
 have hw : f52 w = some 0 := by
  rcases chk_iff_ w with ⟨_, e⟩ | ⟨e, _⟩
  ·exact e
  ·exact absurd hp.ok e
 obtain ⟨a', u, new, el, h1, h2, h3, h4⟩ := loop_toks hs w' h (fun t m => hp.g t (List.mem_append_left _ m)) hE ht d ⟨mkC s w a, []⟩
 refine ⟨w', a', u, t2, new, t1.length, ?_, hp2, h1, h2, h3, h4, by rw [List.length_append]; omega⟩
 unfold f13 f13_j0 f13_j1
 rw [chkC s w a hs.chk hw h.okN, cloneC s w a hs.clone]
 simp only [Option.bind_some, decide_true, Bool.not_true, cond_false]
 unfold f30
 rw [hk, he]
 simp only [decide_true, cond_true]
 unfold f60 f60_j0
 rw [decide_eq_false (p := 4096 < (d.length : Int)) (by omega)]
 simp only [cond_false]
 rw [show (Gworker.mk (mkC s w a) []).Client.Wire = w from rfl, hf]
 simp only [Option.bind_some]
 have : ({ (Gworker.mk (mkC s w a) []).Client with Wire := w' } : GClient) = mkC s w' a := rfl
 rw [this, el]
 rfl
theorem do_want {s : GScreen} (hs : Sc s) {w : GWire} {a b : GNeg} {ta tb : List GTok} {way : List UInt8} (h : In a b ta tb) (hp : Pd w way ta) (e : GEvent) (hk : e.Kind = 6) :
  ∃ a' u new c, f13 (mkC s w a) e = some (mkC s w a', u, c) ∧ Ws new u ∧ In a' b ta (tb ++ new) ∧
   u.length + 12 * En a' b ta (tb ++ new) ≤ 12 * En a b ta tb + 36 ∧ 2 * En a' b ta (tb ++ new) + Zc new ≤ 2 * En a b ta tb + 5 := by
 have hw : f52 w = some 0 := by
  rcases chk_iff_ w with ⟨_, e⟩ | ⟨e, _⟩
  ·exact e
  ·exact absurd hp.ok e
 unfold f13 f13_j0 f13_j1
 rw [chkC s w a hs.chk hw h.okN, cloneC s w a hs.clone]
 simp only [Option.bind_some, decide_true, Bool.not_true, cond_false]
 unfold f30
 rw [hk]
 simp only [show decide ((6 : Int) = 1) = false from rfl, show decide ((6 : Int) = 2) = false from rfl, show decide ((6 : Int) = 3) = false from rfl, show decide ((6 : Int) = 4) = false from rfl, show decide ((6 : Int) = 5) = false from rfl, decide_true, cond_true, cond_false]
 rcases ask_step h e.Us e.Opt e.On with ⟨c, hc, ew⟩ | ⟨a', w', k, hk', hw', ew, h1, h2⟩
 ·refine ⟨a, [], [], c, ?_, ws_nil, by rw [List.append_nil]; exact h, by rw [List.append_nil]; show 0 + _ ≤ _; omega, by rw [List.append_nil]; show _ + 0 ≤ _; omega⟩
  rw [show f69 (Gworker.mk (mkC s w a) []).Client.Neg e.Us e.Opt e.On = _ from ew]
  simp only [Option.bind_some, decide_eq_false hc, cond_false, Bool.not_false, cond_true]
 ·obtain ⟨hr1, hr2⟩ := ws_rt e.Us w' k hk' hw'
  obtain ⟨zs, u, hz, z1, z2, z3⟩ := negotiates hs w a a' (rb e.Us w' k) [] hr2 (by decide)
  obtain ⟨g1, g2⟩ := In.more (a := a') (b := b) (ta := ta) (tb := tb ++ rt e.Us w' k) hz
  have ee : En a' b ta (tb ++ (rt e.Us w' k ++ zs)) = En a' b ta (tb ++ rt e.Us w' k) := by unfold En; rw [← List.append_assoc, g1]
  refine ⟨a', rb e.Us w' k ++ u, rt e.Us w' k ++ zs, 0, ?_, hr1.app z1, ?_, ?_, ?_⟩
  ·rw [show f69 (Gworker.mk (mkC s w a) []).Client.Neg e.Us e.Opt e.On = _ from ew]
   simp only [Option.bind_some, decide_true, cond_true]
   rw [z3]; rfl
  ·unfold In; rw [← List.append_assoc, g1]; exact h1
  ·rw [ee, List.length_append]; omega
  ·rw [ee, Zc_app, Zc_rt]; omega
end Go.Proofs.YtobkkblijfhpoaaGreatDoor.Pm

namespace Go.Proofs.YtobkkblijfhpoaaGreatDoor.Pm
open Go.Proofs.YtobkkblijfhpoaaGreatDoor.Args
open Go.ChangeShapes Go.WideShapes Go.ChangeAt Go.RowKit
set_option linter.unusedVariables false
set_option linter.unusedSimpArgs false
set_option maxRecDepth 100000
theorem cl_eq (k n : Nat) (hn : n ≤ 4096) : (if (if 4096 < (if (k : Int) < (n : Int) then (k : Int) else (n : Int)) then 4096 else (if (k : Int) < (n : Int) then (k : Int) else (n : Int))) > 0 then (if 4096 < (if (k : Int) < (n : Int) then (k : Int) else (n : Int)) then 4096 else (if (k : Int) < (n : Int) then (k : Int) else (n : Int))) else 0) = ((min k n : Nat) : Int) := by
 by_cases h : (k : Int) < (n : Int)
 ·rw [if_pos h, if_neg (c := 4096 < (k : Int)) (by omega)]
  by_cases h2 : (k : Int) > 0
  ·rw [if_pos h2]; omega
  ·rw [if_neg h2]; omega
 ·rw [if_neg h, if_neg (c := 4096 < (n : Int)) (by omega)]
  by_cases h2 : (n : Int) > 0
  ·rw [if_pos h2]; omega
  ·rw [if_neg h2]; omega
theorem happ0 (cA cB c' : GClient) (p q u : List UInt8) (e : GEvent) (c : Int) (hd : f13 cA e = some (c', u, c)) (hl : q.length + u.length ≤ 1000000000) : f8 0 e ⟨(cA, cB), (p, q)⟩ = some (⟨(c', cB), (p, q ++ u)⟩, c) := by
 unfold f8
 rw [show inR (0 : Int) 2 = some 0 from rfl]
 simp only [Option.bind_some, decide_true, cond_true, hd]
 rw [show inR (IntKind.i64.wrap (1 - 0)) 2 = some 1 from rfl]
 simp only [Option.bind_some, show decide (1 = 0) = false from rfl, cond_false]
 rw [cat_ok _ _ hl]
 rfl
theorem happ1 (cA cB c' : GClient) (p q u : List UInt8) (e : GEvent) (c : Int) (hd : f13 cB e = some (c', u, c)) (hl : p.length + u.length ≤ 1000000000) : f8 1 e ⟨(cA, cB), (p, q)⟩ = some (⟨(cA, c'), (p ++ u, q)⟩, c) := by
 unfold f8
 rw [show inR (1 : Int) 2 = some 1 from rfl]
 simp only [Option.bind_some, show decide (1 = 0) = false from rfl, cond_false, hd]
 rw [show inR (IntKind.i64.wrap (1 - 1)) 2 = some 0 from rfl]
 simp only [Option.bind_some, decide_true, cond_true]
 rw [cat_ok _ _ hl]
 rfl
theorem take_min {α : Type} (l : List α) (n : Nat) : l.take (min l.length n) = l.take n := by
 by_cases h : l.length ≤ n
 ·rw [Nat.min_eq_left h, List.take_length, List.take_of_length_le h]
 ·rw [Nat.min_eq_right (by omega)]
theorem drop_min {α : Type} (l : List α) (n : Nat) : l.drop (min l.length n) = l.drop n := by
 by_cases h : l.length ≤ n
 ·rw [Nat.min_eq_left h, List.drop_length, List.drop_of_length_le h]
 ·rw [Nat.min_eq_right (by omega)]
theorem sub_lo (p : List UInt8) (n : Nat) : sub? p 0 ((min p.length n : Nat) : Int) = some (p.take n) := by
 have := sub_nat p 0 (min p.length n) (by omega) (by omega)
 rw [List.drop_zero, take_min] at this
 exact this
theorem sub_hi (p : List UInt8) (n : Nat) : sub? p ((min p.length n : Nat) : Int) (p.length : Int) = some (p.drop n) := by
 have := sub_nat p (min p.length n) p.length (by omega) (by omega)
 rw [List.take_length, drop_min] at this
 exact this
def evB (d : List UInt8) : GEvent := GEvent.mk 1 d (GKey.mk 0 0 0) (GMouse.mk 0 0 0 0 false) [] 0 0 false 0 false
theorem ev_eq (d : List UInt8) : f17 d = some (evB d) := rfl
theorem arr0 (cA cB c' : GClient) (p q u : List UInt8) (n : Nat) (hn : n ≤ 4096) (hd : f13 cA (evB (p.take n)) = some (c', u, 0)) (hl : q.length + u.length ≤ 1000000000) : f9 0 (n : Int) ⟨(cA, cB), (p, q)⟩ = some ⟨(c', cB), (p.drop n, q ++ u)⟩ := by
 unfold f9
 rw [show inR (0 : Int) 2 = some 0 from rfl]
 simp only [Option.bind_some, decide_true, cond_true]
 rw [cl_eq _ _ hn, sub_lo]
 simp only [Option.bind_some]
 rw [sub_hi]
 simp only [Option.bind_some]
 rw [ev_eq]
 simp only [Option.bind_some]
 rw [happ0 _ _ _ _ _ _ _ _ hd hl]
 rfl
theorem arr1 (cA cB c' : GClient) (p q u : List UInt8) (n : Nat) (hn : n ≤ 4096) (hd : f13 cB (evB (q.take n)) = some (c', u, 0)) (hl : p.length + u.length ≤ 1000000000) : f9 1 (n : Int) ⟨(cA, cB), (p, q)⟩ = some ⟨(cA, c'), (p ++ u, q.drop n)⟩ := by
 unfold f9
 rw [show inR (1 : Int) 2 = some 1 from rfl]
 simp only [Option.bind_some, show decide (1 = 0) = false from rfl, cond_false]
 rw [cl_eq _ _ hn, sub_lo]
 simp only [Option.bind_some]
 rw [sub_hi]
 simp only [Option.bind_some]
 rw [ev_eq]
 simp only [Option.bind_some]
 rw [happ1 _ _ _ _ _ _ _ _ hd hl]
 rfl
structure Wi (sA sB : GScreen) (x : Gwire) (L Q : Nat) : Prop where
 h : ∃ wA wB a b ta tb p q, x = ⟨(mkC sA wA a, mkC sB wB b), (p, q)⟩ ∧ Pd wA p ta ∧ Pd wB q tb ∧ In a b ta tb ∧ p.length + q.length + 12 * En a b ta tb ≤ L ∧ 2 * En a b ta tb + Zc ta + Zc tb ≤ Q
theorem Wi.want {sA sB : GScreen} (hA : Sc sA) (hB : Sc sB) {x : Gwire} {L Q : Nat} (h : Wi sA sB x L Q) (hL : L ≤ 8000) (i : Int) (hi : i = 0 ∨ i = 1) (e : GEvent) (hk : e.Kind = 6) : ∃ y c, f8 i e x = some (y, c) ∧ Wi sA sB y (L + 36) (Q + 5) := by
 obtain ⟨wA, wB, a, b, ta, tb, p, q, rfl, hp, hq, hI, h1, h2⟩ := h.h
 rcases hi with rfl | rfl
 ·obtain ⟨a', u, new, c, e1, e2, e3, e4, e5⟩ := do_want hA hI hp e hk
  refine ⟨_, c, happ0 _ _ _ _ _ _ _ _ e1 (by omega), ⟨wA, wB, a', b, ta, tb ++ new, p, q ++ u, rfl, hp, e2 _ _ _ hq, e3, ?_, ?_⟩⟩
  ·rw [List.length_append]; omega
  ·rw [Zc_app]; omega
 ·obtain ⟨b', u, new, c, e1, e2, e3, e4, e5⟩ := do_want hB hI.swap hq e hk
  rw [En_swap b' a, En_swap b a] at e4 e5
  refine ⟨_, c, happ1 _ _ _ _ _ _ _ _ e1 (by omega), ⟨wA, wB, a, b', ta ++ new, tb, p ++ u, q, rfl, e2 _ _ _ hp, hq, e3.swap, ?_, ?_⟩⟩
  ·rw [List.length_append]; omega
  ·rw [Zc_app]; omega
theorem Wi.arr {sA sB : GScreen} (hA : Sc sA) (hB : Sc sB) {x : Gwire} {L Q : Nat} (h : Wi sA sB x L Q) (hL : L ≤ 8000) (hQ : Q ≤ 8000) (i : Int) (hi : i = 0 ∨ i = 1) (n : Nat) (hn : n ≤ 4096) : ∃ y Q', f9 i (n : Int) x = some y ∧ Wi sA sB y L Q' ∧ Q' ≤ Q ∧ (L ≤ n → (i = 0 → x.way.1 ≠ [] → Q' + 1 ≤ Q) ∧ (i = 1 → x.way.2 ≠ [] → Q' + 1 ≤ Q)) ∧ (i = 0 → ∃ u, y.way.2 = x.way.2 ++ u) := by
 obtain ⟨wA, wB, a, b, ta, tb, p, q, rfl, hp, hq, hI, h1, h2⟩ := h.h
 rcases hi with rfl | rfl
 ·obtain ⟨w', a', u, t2, new, k, e1, e2, e3, e4, e5, e6, e7⟩ := do_bytes hA (d := p.take n) (rest := p.drop n) hI (by rw [List.take_append_drop]; exact hp) (by rw [List.length_take]; omega) (by omega) (by omega) (evB (p.take n)) rfl rfl
  refine ⟨_, Q - k, arr0 _ _ _ _ _ _ n hn e1 (by omega), ⟨w', wB, a', b, t2, tb ++ new, p.drop n, q ++ u, rfl, e2, e3 _ _ _ hq, e4, ?_, ?_⟩, by omega, fun hl => ⟨fun _ hne => ?_, fun h => absurd h (by decide)⟩, fun _ => ⟨u, rfl⟩⟩
  ·rw [List.length_append, List.length_drop]; omega
  ·rw [Zc_app]; omega
  ·have hn0 : p.drop n = [] := List.drop_of_length_le (by omega)
   rw [hn0] at e2
   have ht := hp.some hne
   have ht2 := e2.done
   rw [ht2] at e7
   have := List.length_pos_iff.2 ht
   have : ([] : List GTok).length = 0 := rfl
   omega
 ·obtain ⟨w', b', u, t2, new, k, e1, e2, e3, e4, e5, e6, e7⟩ := do_bytes hB (d := q.take n) (rest := q.drop n) hI.swap (by rw [List.take_append_drop]; exact hq) (by rw [List.length_take]; omega) (by rw [En_swap]; omega) (by rw [En_swap]; omega) (evB (q.take n)) rfl rfl
  rw [En_swap b' a, En_swap b a] at e5 e6
  refine ⟨_, Q - k, arr1 _ _ _ _ _ _ n hn e1 (by omega), ⟨wA, w', a, b', ta ++ new, t2, p ++ u, q.drop n, rfl, e3 _ _ _ hp, e2, e4.swap, ?_, ?_⟩, by omega, fun hl => ⟨fun h => absurd h (by decide), fun _ hne => ?_⟩, fun h => absurd h (by decide)⟩
  ·rw [List.length_append, List.length_drop]; omega
  ·rw [Zc_app]; omega
  ·have hn0 : q.drop n = [] := List.drop_of_length_le (by omega)
   rw [hn0] at e2
   have ht := hq.some hne
   have ht2 := e2.done
   rw [ht2] at e7
   have := List.length_pos_iff.2 ht
   have : ([] : List GTok).length = 0 := rfl
   omega
theorem settles {sA sB : GScreen} (hA : Sc sA) (hB : Sc sB) {x : Gwire} {L Q : Nat} (h : Wi sA sB x L Q) (hL : L ≤ 4096) (hQ : Q ≤ 1000) : ∃ y Q', f10 x = some y ∧ Wi sA sB y L Q' ∧ y.way = ([], []) := by
 obtain ⟨y, e, Q', h1, h2⟩ := loopO_ind (body := f10_l0 x)
  (fun n z => ∃ (y : Gwire) (i Q' : Nat), z = (y, (i : Int)) ∧ Wi sA sB y L Q' ∧ i + Q' ≤ 1000 ∧ n = Q')
  (fun y => ∃ Q', Wi sA sB y L Q' ∧ y.way = ([], [])) (by
  rintro n z ⟨y, i, Q', rfl, hw, hi, rfl⟩
  unfold f10_l0 f10_l0_j1
  rw [decide_eq_true (p := (i : Int) < 2000) (by omega)]
  simp only [cond_true]
  have go : (y.way.1 ≠ [] ∨ y.way.2 ≠ []) → (∃ y' m, f10_l0_j2 x y (i : Int) = some (.inl y') ∧ m < n ∧ ∃ (y2 : Gwire) (i Q' : Nat), y' = (y2, (i : Int)) ∧ Wi sA sB y2 L Q' ∧ i + Q' ≤ 1000 ∧ m = Q') := by
   intro hne
   obtain ⟨y1, Q1, e1, w1, q1, g1, u1⟩ := hw.arr hA hB (by omega) (by omega) 0 (.inl rfl) 4096 (by omega)
   obtain ⟨y2, Q2, e2, w2, q2, g2, _⟩ := w1.arr hA hB (by omega) (by omega) 1 (.inr rfl) 4096 (by omega)
   have hlt : Q2 < n := by
    rcases hne with hne | hne
    ·have := (g1 hL).1 rfl hne; omega
    ·obtain ⟨u, eu⟩ := u1 rfl
     have := (g2 hL).2 rfl (by rw [eu]; intro hh; exact hne (List.append_eq_nil_iff.1 hh).1)
     omega
   refine ⟨(y2, IntKind.i64.wrap ((i : Int) + 1)), Q2, ?_, hlt, y2, i + 1, Q2, ?_, w2, by omega, rfl⟩
   ·unfold f10_l0_j2
    rw [show ((4096 : Nat) : Int) = 4096 from rfl] at e1 e2
    rw [e1]
    simp only [Option.bind_some]
    rw [e2]
    rfl
   ·rw [i64w _ (by omega)]; rfl
  by_cases c1 : y.way.1 = []
  ·by_cases c2 : y.way.2 = []
   ·right
    rw [decide_eq_true c1, decide_eq_true c2]
    exact ⟨_, rfl, n, hw, Prod.ext c1 c2⟩
   ·left
    rw [decide_eq_true c1, decide_eq_false c2]
    exact go (.inr c2)
  ·left
   rw [decide_eq_false c1]
   exact go (.inl c1))
  (n := Q) (x := (x, 0)) ⟨x, 0, Q, rfl, h, by omega, rfl⟩
 exact ⟨y, Q', by unfold f10; rw [e]; rfl, h1, h2⟩
theorem and_small (p : Int) (m : Nat) (hm : m ≤ 255) : ∃ r : Nat, r ≤ m ∧ bitI .and .i64 p (m : Int) = (r : Int) := by
 refine ⟨(BitVec.ofInt 64 p &&& BitVec.ofInt 64 (m : Int)).toNat, ?_, ?_⟩
 ·rw [BitVec.toNat_and, BitVec.toNat_ofInt, BitVec.toNat_ofInt]
  refine Nat.le_trans Nat.and_le_right ?_
  omega
 ·have h : (BitVec.ofInt 64 p &&& BitVec.ofInt 64 (m : Int)).toNat ≤ m := by
   rw [BitVec.toNat_and, BitVec.toNat_ofInt, BitVec.toNat_ofInt]
   refine Nat.le_trans Nat.and_le_right ?_
   omega
  have e : bitI .and .i64 p (m : Int) = IntKind.i64.wrap (((BitVec.ofInt 64 p &&& BitVec.ofInt 64 (m : Int)).toNat : Nat) : Int) := rfl
  rw [e, i64w _ (by omega)]
theorem bit_end (p : Int) : bitI .and .i64 p 1 = 0 ∨ bitI .and .i64 p 1 = 1 := by
 obtain ⟨r, h, e⟩ := and_small p 1 (by omega)
 rw [show (1 : Int) = ((1 : Nat) : Int) from rfl, e]
 omega
theorem ends_same (a1 a2 : GEnds) (a3 : List GEvent) (a4 : List Int) {sA sB : GScreen} {x : Gwire} {L Q : Nat} (h : Wi sA sB x L Q) (hw : x.way = ([], [])) : f3_j2 a1 a2 a3 a4 x = some true := by
 obtain ⟨wA, wB, a, b, ta, tb, p, q, rfl, hp, hq, hI, h1, h2⟩ := h.h
 have hp0 : p = [] := congrArg Prod.fst hw
 have hq0 : q = [] := congrArg Prod.snd hw
 subst hp0 hq0
 have ta0 := hp.done
 have tb0 := hq.done
 subst ta0 tb0
 unfold f3_j2
 obtain ⟨r, e, _⟩ := loopO_ind (body := f3_l3 a1 a2 a3 a4) (fun n z => ∃ i : Nat, z = (⟨(mkC sA wA a, mkC sB wB b), ([], [])⟩, (i : Int)) ∧ i ≤ 256 ∧ n = 256 - i) (fun _ => True) (by
  rintro n z ⟨i, rfl, hi, rfl⟩
  unfold f3_l3 f3_l3_j4
  by_cases hlt : i < 256
  ·left
   rw [decide_eq_true (p := (i : Int) < 256) (by omega)]
   simp only [cond_true]
   unfold f3_l3_j5
   obtain ⟨s1, s2, s3, s4⟩ := hI.still i hlt
   have f1 : decide (((a.Us i).toNat : Int) = ((b.Him i).toNat : Int)) = true := decide_eq_true (by omega)
   have f2 : decide (((a.Him i).toNat : Int) = ((b.Us i).toNat : Int)) = true := decide_eq_true (by omega)
   have f3 : decide (1 < ((a.Us i).toNat : Int)) = false := decide_eq_false (by omega)
   have f4 : decide (1 < ((a.Him i).toNat : Int)) = false := decide_eq_false (by omega)
   simp only [inR_nat i 256 hlt, Option.bind_some, show (mkC sA wA a).Neg = a from rfl, show (mkC sB wB b).Neg = b from rfl, f1, f2, f3, f4, Bool.not_true, cond_false]
   exact ⟨_, 256 - (i + 1), rfl, by omega, i + 1, by rw [i64w _ (by omega)]; rfl, by omega, rfl⟩
  ·right
   rw [decide_eq_false (p := (i : Int) < 256) (by omega)]
   exact ⟨_, rfl, trivial⟩)
  (n := 256) (x := (⟨(mkC sA wA a, mkC sB wB b), ([], [])⟩, 0)) ⟨0, rfl, by omega, rfl⟩
 rw [e]; rfl
end Go.Proofs.YtobkkblijfhpoaaGreatDoor.Pm

namespace Go.Proofs.YtobkkblijfhpoaaGreatDoor.Pm
open Go.Proofs.YtobkkblijfhpoaaGreatDoor.Args
open Go.ChangeShapes Go.WideShapes Go.ChangeAt Go.RowKit
set_option linter.unusedVariables false
set_option linter.unusedSimpArgs false
set_option maxRecDepth 100000
def n0 (a : GEnds) : GNeg := ⟨fun _ => 0, fun _ => 0, a.UsOk, a.HimOk⟩
theorem new_two (W H : Nat) (h1 : 1 ≤ W ∧ W ≤ 160) (h2 : 1 ≤ H ∧ H ≤ 60) (a : GEnds) : ∃ st, f11 (W : Int) (H : Int) [XT] [] a = some (mkC (sN W H st) zW (n0 a)) := by
 obtain ⟨st, e⟩ := snew_ok W H h1 h2
 refine ⟨st, ?_⟩
 unfold f11 f11_j0 f11_j1 f11_j2
 rw [e]
 simp only [Option.bind_some]
 have c1 : f24 [XT] = some [XT] := by
  unfold f24
  rw [app_row _ _ _ (by decide)]; rfl
 have c2 : f25 [] = some [] := by
  unfold f25
  rw [app_row _ _ _ (by decide)]; rfl
 rw [c1, c2]
 simp only [Option.bind_some]
 rw [sorts_ok, vars_ok]
 rfl
theorem sc_ok (W H : Nat) (st : GStops) (h1 : 1 ≤ W ∧ W ≤ 160) (h2 : 1 ≤ H ∧ H ≤ 60) (hz : ∃ d, f117 (W : Int) (H : Int) = some d ∧ d.length = 4 ∧ (esc d).length = 4) : Sc (sN W H st) :=
 ⟨schk_ok W H st h1 h2, cloneS W H st _ (by rw [mkL_len]) h1.2 h2.2, hz⟩
theorem fresh_ok (W H : Nat) (h1 : 1 ≤ W ∧ W ≤ 160) (h2 : 1 ≤ H ∧ H ≤ 60) (a : GEnds) : ∃ st, f6 (W : Int) (H : Int) a = some (mkC (sN W H st) zW (n0 a)) := by
 obtain ⟨st, e⟩ := new_two W H h1 h2 a
 refine ⟨st, ?_⟩
 unfold f6
 rw [show ([[88, 84, 69, 82, 77]] : List (List UInt8)) = [XT] from rfl, e]
 rfl
theorem start (a b : GEnds) (sA sB : GScreen) : Wi sA sB ⟨(mkC sA zW (n0 a), mkC sB zW (n0 b)), ([], [])⟩ 0 0 := by
 have e : ∀ c k, Ts (n0 a) (n0 b) [] [] c k = ⟨0, 0, [], []⟩ := fun c k => by cases c <;> rfl
 have hv : val ⟨0, 0, [], []⟩ = 0 := by decide
 have hE : En (n0 a) (n0 b) [] [] = 0 := Ev_zero _ fun k => by rw [e, e, hv]
 refine ⟨⟨zW, zW, n0 a, n0 b, [], [], [], [], rfl, pd_nil, pd_nil, fun c k _ => ?_, ?_, ?_⟩⟩
 ·rw [e]; decide
 ·rw [hE]; decide
 ·rw [hE]; decide
theorem all_wants (a1 a2 : GEnds) (a3 : List GEvent) (a4 : List Int) {sA sB : GScreen} (hA : Sc sA) (hB : Sc sB) (h3 : a3.length ≤ 100) (x : Gwire) (hx : Wi sA sB x 0 0) : ∃ y, loopO (f3_l6 a1 a2 a3 a4) (x, 0) = some y ∧ Wi sA sB y 3600 500 := by
 obtain ⟨y, e, h⟩ := loopO_ind (body := f3_l6 a1 a2 a3 a4)
  (fun n z => ∃ (y : Gwire) (i : Nat), z = (y, (i : Int)) ∧ i ≤ a3.length ∧ Wi sA sB y (36 * i) (5 * i) ∧ n = a3.length - i)
  (fun y => Wi sA sB y 3600 500) (by
  rintro n z ⟨y, i, rfl, hi, hw, rfl⟩
  unfold f3_l6 f3_l6_j7
  by_cases hlt : i < a3.length
  ·left
   rw [decide_eq_true (p := (i : Int) < (a3.length : Int)) (by omega)]
   simp only [cond_true]
   have go : ∀ (e : GEvent) (v : Int), e.Kind = 6 → ∃ y', f3_l6_j9 a1 a2 a3 a4 y e v (i : Int) = some (.inl (y', ((i + 1 : Nat) : Int))) ∧ Wi sA sB y' (36 * (i + 1)) (5 * (i + 1)) := by
    intro e v hk
    obtain ⟨y1, c, e1, w1⟩ := hw.want hA hB (by omega) (bitI .and .i64 v 1) (bit_end v) e hk
    obtain ⟨r, hr, er⟩ := and_small (Int.fdiv v (2 ^ 2)) 63 (by omega)
    obtain ⟨y2, Q2, e2, w2, q2, _, _⟩ := w1.arr hA hB (by omega) (by omega) (bitI .and .i64 (Int.fdiv v (2 ^ 1)) 1) (bit_end _) r (by omega)
    refine ⟨y2, ?_, ?_⟩
    ·unfold f3_l6_j9
     rw [e1]
     simp only [Option.bind_some]
     rw [show (63 : Int) = ((63 : Nat) : Int) from rfl, er, e2]
     simp only [Option.bind_some]
     rw [i64w _ (by omega)]; rfl
    ·obtain ⟨wA, wB, a, b, ta, tb, p, q, g1, g2, g3, g4, g5, g6⟩ := w2.h
     exact ⟨wA, wB, a, b, ta, tb, p, q, g1, g2, g3, g4, by omega, by omega⟩
   unfold f3_l6_j8
   rw [idx_nat a3 i a3[i] hlt]
   simp only [Option.bind_some]
   generalize a3.getD i a3[i] = ev
   by_cases h4 : i < a4.length
   ·rw [decide_eq_true (p := (i : Int) < (a4.length : Int)) (by omega)]
    simp only [cond_true]
    rw [idx_nat a4 i a4[i] h4]
    simp only [Option.bind_some]
    obtain ⟨y', e', w'⟩ := go ⟨6, ev.Data, ev.Key, ev.Mouse, ev.Runes, ev.Wide, ev.High, ev.Us, ev.Opt, ev.On⟩ (a4.getD i a4[i]) rfl
    exact ⟨_, _, e', by omega, y', i + 1, rfl, by omega, w', rfl⟩
   ·rw [decide_eq_false (p := (i : Int) < (a4.length : Int)) (by omega)]
    simp only [cond_false]
    obtain ⟨y', e', w'⟩ := go ⟨6, ev.Data, ev.Key, ev.Mouse, ev.Runes, ev.Wide, ev.High, ev.Us, ev.Opt, ev.On⟩ 0 rfl
    exact ⟨_, _, e', by omega, y', i + 1, rfl, by omega, w', rfl⟩
  ·right
   rw [decide_eq_false (p := (i : Int) < (a3.length : Int)) (by omega)]
   refine ⟨_, rfl, ?_⟩
   obtain ⟨wA, wB, a, b, ta, tb, p, q, g1, g2, g3, g4, g5, g6⟩ := hw.h
   exact ⟨wA, wB, a, b, ta, tb, p, q, g1, g2, g3, g4, by omega, by omega⟩)
  (n := a3.length) (x := (x, 0)) ⟨x, 0, rfl, by omega, hx, by omega⟩
 exact ⟨y, e, h⟩
theorem j0_ok (a1 a2 : GEnds) (a3 : List GEvent) (a4 : List Int) {sA sB : GScreen} (hA : Sc sA) (hB : Sc sB) (h3 : a3.length ≤ 100) (c d : GClient) (hc : { c with Screen := { c.Screen with Past := [] } } = mkC sA zW (n0 a1)) (hd : { d with Screen := { d.Screen with Past := [] } } = mkC sB zW (n0 a2)) : f3_j0 a1 a2 a3 a4 c d = some true := by
 obtain ⟨y, e, h⟩ := all_wants a1 a2 a3 a4 hA hB h3 _ (start a1 a2 sA sB)
 obtain ⟨z, Q, e2, h2, hw⟩ := settles hA hB h (by omega) (by omega)
 unfold f3_j0
 simp only [hc, hd]
 rw [e]
 simp only [Option.bind_some]
 unfold f3_j1
 rw [e2]
 simp only [Option.bind_some]
 exact ends_same a1 a2 a3 a4 h2 hw
theorem two_ok (a1 a2 : GEnds) (a3 : List GEvent) (a4 : List Int) : f3 a1 a2 a3 a4 = some true := by
 obtain ⟨sa, ea⟩ := fresh_ok 4 2 (by omega) (by omega) a1
 obtain ⟨sb, eb⟩ := fresh_ok 5 1 (by omega) (by omega) a2
 have hA := sc_ok 4 2 sa (by omega) (by omega) ⟨[0, 4, 0, 2], rfl, rfl, by decide⟩
 have hB := sc_ok 5 1 sb (by omega) (by omega) ⟨[0, 5, 0, 1], rfl, rfl, by decide⟩
 unfold f3
 rw [show (4 : Int) = ((4 : Nat) : Int) from rfl, show (2 : Int) = ((2 : Nat) : Int) from rfl, ea]
 simp only [Option.bind_some]
 rw [show (5 : Int) = ((5 : Nat) : Int) from rfl, show (1 : Int) = ((1 : Nat) : Int) from rfl, eb]
 simp only [Option.bind_some]
 unfold libLives
 simp only [Option.bind_some, decide_true, Bool.not_true, cond_false]
 by_cases h3 : a3.length ≤ 100
 ·rw [decide_eq_false (p := 100 < (a3.length : Int)) (by omega)]
  simp only [cond_false]
  exact j0_ok a1 a2 a3 a4 hA hB h3 _ _ rfl rfl
 ·rw [decide_eq_true (p := 100 < (a3.length : Int)) (by omega)]
  rfl
end Go.Proofs.YtobkkblijfhpoaaGreatDoor.Pm

namespace Go.Proofs.YtobkkblijfhpoaaGreatDoor.Pm
open Go.Proofs.YtobkkblijfhpoaaGreatDoor.Args
open Go.ChangeShapes Go.WideShapes Go.ChangeAt Go.RowKit
theorem maxcell {w : World} (hsh : w.ShapedOpen Go.Proofs.Tryz.prog) : ∃ m, w.cell? ⟨0, 0, none⟩ = some (.int .i64 m) :=
 cell_of_shapedOpen_int (t := 3) (zero := #[.int .i64 0]) hsh (of_decide_eq_true (by kernel_rfl)) (by kernel_rfl) rfl (by kernel_rfl) (by kernel_rfl) (by kernel_rfl)
theorem TopTwo_walk (v0 v1 v2 v3 : Value) (w : World) (h0 : Arg (some 1048576) Go.Proofs.Tryz.prog w 25 v0) (h1 : Arg (some 1048576) Go.Proofs.Tryz.prog w 25 v1) (h2 : Arg (some 1048576) Go.Proofs.Tryz.prog w 26 v2) (h3 : Arg (some 1048576) Go.Proofs.Tryz.prog w 27 v3) (hsh : w.ShapedOpen Go.Proofs.Tryz.prog) : Calls Go.Proofs.Tryz.prog 3 #[v0, v1, v2, v3] w fun e w' => e = .returned (.bool true) ∧ Below w.heap.size w w' :=
 TopTwo_calls (some 1048576) (fun a b c d _ _ _ _ => two_ok a b c d) v0 v1 v2 v3 w h0 h1 h2 h3 (maxcell hsh)
end Go.Proofs.YtobkkblijfhpoaaGreatDoor.Pm

