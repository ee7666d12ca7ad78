/- RS.t feed_ok two sub_fold wr_spec_ lives toks_same_ toks_big_ inR_nat merge_join fl flush_l esc_fold zW_ok wire_flush flush_nil u8n esc_len app_ok cat_ok Qu Tw s0_255 s1_ s2_ s3_ s4_255 s5_x maxcell wrap_nx lt_mid lt_end idx_mid fl_app: what the typed functions compute, and the laws. -/
import Derived.Test.YthblnlmpfgfgcaaDoorDIbZ
import Derived.Test.YthblnlmpfgfgcaaDoorPb
namespace Go.Proofs.YthblnlmpfgfgcaaDoor.Pm
open Go.Proofs.YthblnlmpfgfgcaaDoor.Args
open Go.ChangeShapes Go.WideShapes Go.ChangeAt Go.RowKit
set_option linter.unusedVariables false
set_option linter.unusedSimpArgs false
set_option maxRecDepth 100000
set_option maxHeartbeats 2000000
theorem i64w (n : Int) (h : -9223372036854775808 ≤ n ∧ n ≤ 9223372036854775807) : IntKind.i64.wrap n = n := IntWalk.i64_in n h
theorem idx_mid {α : Type} (pre : List α) (x : α) (t : List α) : idx (pre ++ x :: t) (pre.length : Int) = some x := by unfold idx; rw [if_pos (by omega)]; simp
theorem app_ok {α : Type} (b : Nat) (xs ys : List α) (h : (xs.length + ys.length) * b ≤ 140737488355328) : app? b xs ys = some (xs ++ ys) := by unfold app?; rw [if_pos h]
theorem wrap_nx {α : Type} (pre : List α) (x : α) (h : pre.length < 4000000000000) : IntKind.i64.wrap ((pre.length : Int) + 1) = ((pre ++ [x]).length : Int) := by rw [i64w _ (by omega)]; simp
theorem lt_mid {α : Type} (pre : List α) (x : α) (t : List α) : decide ((pre.length : Int) < ((pre ++ x :: t).length : Int)) = true := decide_eq_true (by simp; omega)
theorem lt_end {α : Type} (pre : List α) : decide ((pre.length : Int) < ((pre ++ []).length : Int)) = false := decide_eq_false (by simp)
/-- The receiver. -/
structure RS where
  mode : Int
  cmd : Int
  opt : Int
  wb : List UInt8
  over : Bool
  buf : List UInt8
  data : List UInt8
  l : List GTok
abbrev RT := Int × Int × Int × List UInt8 × Bool × List UInt8 × List UInt8 × List GTok
def RS.t (s : RS) : RT := (s.mode, s.cmd, s.opt, s.wb, s.over, s.buf, s.data, s.l)
def flushS (s : RS) : RS := if 0 < s.data.length then ⟨s.mode, s.cmd, s.opt, s.wb, s.over, s.buf, [], s.l ++ [⟨1, 0, 0, s.data⟩]⟩ else s
def tokS (t : GTok) (s : RS) : RS := ⟨s.mode, s.cmd, s.opt, s.wb, s.over, s.buf, (flushS s).data, (flushS s).l ++ [t]⟩
def subS (c : UInt8) (s : RS) : RS :=
  if s.buf.length = 4096 then ⟨s.mode, s.cmd, s.opt, s.wb, true, [], s.data, s.l⟩
  else if s.over then s else ⟨s.mode, s.cmd, s.opt, s.wb, s.over, s.buf ++ [c], s.data, s.l⟩
def endT (c : UInt8) (s : RS) : GTok := if c.toNat = 240 then (if s.over then ⟨5, 250, s.opt, []⟩ else ⟨4, 0, s.opt, s.buf⟩) else ⟨5, (c.toNat : Int), s.opt, []⟩
def endS (c : UInt8) (s : RS) : RS := ⟨0, 0, 0, [], false, [], (tokS (endT c s) s).data, (tokS (endT c s) s).l⟩
def setMode (s : RS) (m : Int) : RS := ⟨m, s.cmd, s.opt, s.wb, s.over, s.buf, s.data, s.l⟩
def addData (s : RS) (c : UInt8) : RS := ⟨s.mode, s.cmd, s.opt, s.wb, s.over, s.buf, s.data ++ [c], s.l⟩
def cmdS (c : UInt8) (s : RS) : RS :=
  if c.toNat = 255 then addData (setMode s 0) c
  else if 251 ≤ c.toNat then ⟨2, (c.toNat : Int), s.opt, s.wb, s.over, s.buf, s.data, s.l⟩
  else if c.toNat = 250 then setMode s 3
  else if 240 ≤ c.toNat then tokS ⟨2, (c.toNat : Int), 0, []⟩ (setMode s 0)
  else tokS ⟨5, (c.toNat : Int), 0, []⟩ (setMode s 0)
def stepS (s : RS) (c : UInt8) : RS :=
  if s.mode = 0 then (if c.toNat = 255 then setMode s 1 else addData s c)
  else if s.mode = 1 then cmdS c s
  else if s.mode = 2 then ⟨0, 0, s.opt, s.wb, s.over, s.buf, (tokS ⟨3, s.cmd, (c.toNat : Int), []⟩ s).data, (tokS ⟨3, s.cmd, (c.toNat : Int), []⟩ s).l⟩
  else if s.mode = 3 then ⟨4, s.cmd, (c.toNat : Int), s.wb, s.over, s.buf, s.data, s.l⟩
  else if s.mode = 4 then (if c.toNat = 255 then setMode s 5 else subS c s)
  else if c.toNat = 255 then subS c (setMode s 4) else endS c s
def small (s : RS) (n : Nat) : Prop := s.data.length ≤ n ∧ s.l.length ≤ 2 * n ∧ s.buf.length ≤ 5000
theorem flush_small (s : RS) (n : Nat) (h : small s n) (hn : n ≤ 1600000000000) : f24 s.mode s.cmd s.opt s.wb s.over s.buf s.data s.l = some (flushS s).t ∧ (flushS s).data.length = 0 ∧ (flushS s).l.length ≤ s.l.length + 1 ∧ (flushS s).buf = s.buf := by
  obtain ⟨h1, h2, h3⟩ := h
  unfold f24 flushS
  by_cases hd : 0 < s.data.length
  · rw [decide_eq_true (by omega), if_pos hd]
    simp only [cond_true]
    rw [app_ok 40 _ _ (by simp; omega)]
    exact ⟨rfl, by simp, by simp, by simp⟩
  · rw [decide_eq_false (by omega), if_neg hd]
    exact ⟨rfl, by omega, by omega, rfl⟩
theorem tok_ok (t : GTok) (s : RS) (n : Nat) (h : small s n) (hn : n ≤ 1600000000000) : f35 t s.mode s.cmd s.opt s.wb s.over s.buf s.data s.l = some (tokS t s).t ∧ small (tokS t s) (n + 1) := by
  obtain ⟨e, h1, h2, h3⟩ := flush_small s n h hn
  obtain ⟨g1, g2, g3⟩ := h
  have hm : (flushS s).mode = s.mode ∧ (flushS s).cmd = s.cmd ∧ (flushS s).opt = s.opt ∧ (flushS s).wb = s.wb ∧ (flushS s).over = s.over := by unfold flushS; split <;> exact ⟨rfl, rfl, rfl, rfl, rfl⟩
  obtain ⟨m1, m2, m3, m4, m5⟩ := hm
  unfold f35
  rw [e]
  simp only [Option.bind_some, RS.t]
  rw [app_ok 40 _ _ (by simp; omega)]
  refine ⟨?_, ?_, ?_, ?_⟩
  · simp only [Option.bind_some, tokS, m1, m2, m3, m4, m5, h3]
  · show (flushS s).data.length ≤ n + 1; omega
  · show ((flushS s).l ++ [t]).length ≤ 2 * (n + 1); simp; omega
  · exact g3
theorem sub_ok (c : UInt8) (s : RS) (n : Nat) (h : small s n) (hb : s.buf.length ≤ 4096) (hn : n ≤ 1600000000000) : f36 c s.mode s.cmd s.opt s.wb s.over s.buf s.data s.l = some (subS c s).t ∧ small (subS c s) (n + 1) ∧ (subS c s).buf.length ≤ 4096 := by
  obtain ⟨g1, g2, g3⟩ := h
  unfold f36 f36_j0 subS
  by_cases h1 : s.buf.length = 4096
  · rw [decide_eq_true (by omega), if_pos h1]
    exact ⟨rfl, ⟨by show s.data.length ≤ _; omega, by show s.l.length ≤ _; omega, by simp⟩, by simp⟩
  · rw [decide_eq_false (by omega), if_neg h1]
    simp only [cond_false]
    cases ho : s.over with
    | true =>
      simp only [Bool.not_true, cond_false, if_true]
      refine ⟨by simp only [RS.t, ho], ⟨by omega, by omega, g3⟩, hb⟩
    | false =>
      simp only [Bool.not_false, cond_true, Bool.false_eq_true, if_false]
      rw [app_ok 1 _ _ (by simp; omega)]
      exact ⟨rfl, ⟨by show s.data.length ≤ _; omega, by show s.l.length ≤ _; omega, by simp; omega⟩, by simp; omega⟩
theorem end_ok (c : UInt8) (s : RS) (n : Nat) (h : small s n) (hn : n ≤ 1600000000000) : ∃ b, f37 c s.mode s.cmd s.opt s.wb s.over s.buf s.data s.l = some ((tokS (endT c s) s).data, (tokS (endT c s) s).l, b) ∧ small (endS c s) (n + 1) := by
  have sm : small (endS c s) (n + 1) := by
    obtain ⟨_, q1, q2, _⟩ := tok_ok (endT c s) s n h hn
    exact ⟨q1, q2, by simp [endS]⟩
  have key : ∀ t, ∃ b, ((f35 t s.mode s.cmd s.opt s.wb s.over s.buf s.data s.l).bind fun z7 => (f37_j0 c s.mode s.cmd s.opt s.wb s.over s.buf s.data s.l z7.1 z7.2.1 z7.2.2.1 z7.2.2.2.1 z7.2.2.2.2.1 z7.2.2.2.2.2.1 z7.2.2.2.2.2.2.1 z7.2.2.2.2.2.2.2)) = some ((tokS t s).data, (tokS t s).l, b) := fun t => by
    obtain ⟨e, _⟩ := tok_ok t s n h hn
    rw [e]; exact ⟨_, rfl⟩
  unfold f37 endT
  by_cases hc : c.toNat = 240
  · rw [decide_eq_true (show (c.toNat : Int) = 240 by omega), if_pos hc]
    simp only [cond_true]
    cases ho : s.over with
    | true =>
      obtain ⟨b, e⟩ := key ⟨5, 250, s.opt, []⟩
      rw [ho] at e
      have : endS c s = endS c s := rfl
      unfold endS endT at sm
      rw [if_pos hc, ho] at sm
      exact ⟨b, e, by unfold endS endT; rw [if_pos hc, ho]; exact sm⟩
    | false =>
      obtain ⟨b, e⟩ := key ⟨4, 0, s.opt, s.buf⟩
      rw [ho] at e
      exact ⟨b, e, sm⟩
  · rw [decide_eq_false (show ¬ (c.toNat : Int) = 240 by omega), if_neg hc]
    simp only [cond_false]
    obtain ⟨b, e⟩ := key ⟨5, (c.toNat : Int), s.opt, []⟩
    exact ⟨b, e, sm⟩
theorem cmd_ok (c : UInt8) (s : RS) (n : Nat) (h : small s n) (hn : n ≤ 1600000000000) : f34 c s.mode s.cmd s.opt s.wb s.over s.buf s.data s.l = some (cmdS c s).t ∧ small (cmdS c s) (n + 1) ∧ (cmdS c s).buf = s.buf := by
  have h0 : small (setMode s 0) n := h
  obtain ⟨g1, g2, g3⟩ := h
  unfold f34 cmdS
  by_cases c1 : c.toNat = 255
  · rw [decide_eq_true (by omega), if_pos c1]
    simp only [cond_true]
    rw [app_ok 1 _ _ (by simp; omega)]
    exact ⟨rfl, ⟨by show (s.data ++ [c]).length ≤ _; simp; omega, by show s.l.length ≤ _; omega, g3⟩, rfl⟩
  · rw [decide_eq_false (by omega), if_neg c1]
    simp only [cond_false]
    by_cases c2 : 251 ≤ c.toNat
    · rw [decide_eq_true (by omega), if_pos c2]
      exact ⟨rfl, ⟨by show s.data.length ≤ _; omega, by show s.l.length ≤ _; omega, g3⟩, rfl⟩
    · rw [decide_eq_false (by omega), if_neg c2]
      simp only [cond_false]
      by_cases c3 : c.toNat = 250
      · rw [decide_eq_true (by omega), if_pos c3]
        exact ⟨rfl, ⟨by show s.data.length ≤ _; omega, by show s.l.length ≤ _; omega, g3⟩, rfl⟩
      · rw [decide_eq_false (by omega), if_neg c3]
        simp only [cond_false]
        by_cases c4 : 240 ≤ c.toNat
        · rw [decide_eq_true (by omega), if_pos c4]
          obtain ⟨e, q⟩ := tok_ok ⟨2, (c.toNat : Int), 0, []⟩ (setMode s 0) n h0 hn
          simp only [cond_true]
          rw [show f35 ⟨2, (c.toNat : Int), 0, []⟩ 0 s.cmd s.opt s.wb s.over s.buf s.data s.l = _ from e]
          exact ⟨rfl, q, rfl⟩
        · rw [decide_eq_false (by omega), if_neg c4]
          obtain ⟨e, q⟩ := tok_ok ⟨5, (c.toNat : Int), 0, []⟩ (setMode s 0) n h0 hn
          simp only [cond_false]
          rw [show f35 ⟨5, (c.toNat : Int), 0, []⟩ 0 s.cmd s.opt s.wb s.over s.buf s.data s.l = _ from e]
          exact ⟨rfl, q, rfl⟩
theorem step_ok (c : UInt8) (s : RS) (n : Nat) (h : small s n) (hb : s.buf.length ≤ 4096) (hn : n ≤ 1600000000000) : f23 c s.mode s.cmd s.opt s.wb s.over s.buf s.data s.l = some (stepS s c).t ∧ small (stepS s c) (n + 1) ∧ (stepS s c).buf.length ≤ 4096 := by
  have h' := h
  obtain ⟨g1, g2, g3⟩ := h'
  unfold f23 stepS
  by_cases m0 : s.mode = 0
  · rw [decide_eq_true m0, if_pos m0]
    simp only [cond_true]
    by_cases c1 : c.toNat = 255
    · rw [decide_eq_true (by omega), if_pos c1]
      exact ⟨rfl, ⟨by show s.data.length ≤ _; omega, by show s.l.length ≤ _; omega, g3⟩, hb⟩
    · rw [decide_eq_false (by omega), if_neg c1]
      simp only [cond_false]
      rw [app_ok 1 _ _ (by simp; omega)]
      exact ⟨rfl, ⟨by show (s.data ++ [c]).length ≤ _; simp; omega, by show s.l.length ≤ _; omega, g3⟩, hb⟩
  rw [decide_eq_false m0, if_neg m0]
  simp only [cond_false]
  by_cases m1 : s.mode = 1
  · rw [decide_eq_true m1, if_pos m1]
    obtain ⟨e, q, r⟩ := cmd_ok c s n h hn
    simp only [cond_true]
    rw [e]
    exact ⟨rfl, q, by rw [r]; exact hb⟩
  rw [decide_eq_false m1, if_neg m1]
  simp only [cond_false]
  by_cases m2 : s.mode = 2
  · rw [decide_eq_true m2, if_pos m2]
    obtain ⟨e, q1, q2, q3⟩ := tok_ok ⟨3, s.cmd, (c.toNat : Int), []⟩ s n h hn
    simp only [cond_true]
    rw [e]
    exact ⟨rfl, ⟨q1, q2, g3⟩, hb⟩
  rw [decide_eq_false m2, if_neg m2]
  simp only [cond_false]
  by_cases m3 : s.mode = 3
  · rw [decide_eq_true m3, if_pos m3]
    exact ⟨rfl, ⟨by show s.data.length ≤ _; omega, by show s.l.length ≤ _; omega, g3⟩, hb⟩
  rw [decide_eq_false m3, if_neg m3]
  simp only [cond_false]
  by_cases m4 : s.mode = 4
  · rw [decide_eq_true m4, if_pos m4]
    simp only [cond_true]
    by_cases c1 : c.toNat = 255
    · rw [decide_eq_true (by omega), if_pos c1]
      exact ⟨rfl, ⟨by show s.data.length ≤ _; omega, by show s.l.length ≤ _; omega, g3⟩, hb⟩
    · rw [decide_eq_false (by omega), if_neg c1]
      obtain ⟨e, q, r⟩ := sub_ok c s n h hb hn
      simp only [cond_false]
      rw [e]
      exact ⟨rfl, q, r⟩
  rw [decide_eq_false m4, if_neg m4]
  simp only [cond_false]
  by_cases c1 : c.toNat = 255
  · rw [decide_eq_true (by omega), if_pos c1]
    have h4 : small (setMode s 4) n := h
    obtain ⟨e, q, r⟩ := sub_ok c (setMode s 4) n h4 hb hn
    simp only [cond_true]
    rw [show f36 c 4 s.cmd s.opt s.wb s.over s.buf s.data s.l = _ from e]
    exact ⟨rfl, q, r⟩
  · rw [decide_eq_false (by omega), if_neg c1]
    obtain ⟨b, e, q⟩ := end_ok c s n h hn
    simp only [cond_false]
    rw [e]
    exact ⟨rfl, q, by simp [endS]⟩
theorem feed_loop (w : GWire) : ∀ (suf pre : List UInt8) (s : RS) (n : Nat), small s n → s.buf.length ≤ 4096 → n + suf.length ≤ 100000000000 → pre.length + suf.length ≤ 100000000000 →
    ∃ t, loopO (f12_l2 w (pre ++ suf)) (s.mode, s.cmd, s.opt, s.wb, s.over, s.buf, s.data, s.l, (pre.length : Int)) = some t ∧ t = (suf.foldl stepS s).t ∧ small (suf.foldl stepS s) (n + suf.length)
  | [], pre, s, n, h, hb, hn, hp => ⟨_, loopO_done (by
      unfold f12_l2 f12_l2_j3
      simp only [lt_end, cond_false]; rfl), rfl, h⟩
  | x :: t, pre, s, n, h, hb, hn, hp => by
    have e1 : pre ++ x :: t = (pre ++ [x]) ++ t := by simp
    simp only [List.length_cons] at hn hp
    obtain ⟨e, q, r⟩ := step_ok x s n h hb (by omega)
    obtain ⟨y, i1, i2, i3⟩ := feed_loop w t (pre ++ [x]) (stepS s x) (n + 1) q r (by omega) (by simp; omega)
    rw [← e1] at i1
    refine ⟨y, loopO_next ?_ i1, i2, by rw [show n + (x :: t).length = n + 1 + t.length by simp; omega]; exact i3⟩
    unfold f12_l2 f12_l2_j3 f12_l2_j4
    simp only [lt_mid, cond_true, idx_mid, Option.bind_some]
    rw [e, wrap_nx pre x (by omega)]; rfl
/-- How a wire begins, and ends. -/
def initS (w : GWire) : RS := ⟨w.Mode, w.Cmd, w.Opt, w.Buf, w.Over, w.Buf, [], []⟩
def wireS (s : RS) : GWire := ⟨s.mode, s.cmd, s.opt, s.buf, s.over⟩
theorem feed_ok (w : GWire) (s : List UInt8) (hw : f22 w = some 0) (hb : w.Buf.length ≤ 4096) (hs : s.length ≤ 70000000000) :
    f12 w s = some (wireS (flushS (s.foldl stepS (initS w))), (flushS (s.foldl stepS (initS w))).l, 0) := by
  unfold f12
  rw [hw]
  simp only [Option.bind_some, decide_true, Bool.not_true, cond_false]
  unfold f12_j0
  have hc : chk (decide (w.Buf.length ≤ 140737488355328)) = some () := by unfold chk; rw [if_pos (decide_eq_true (by omega))]
  rw [hc]
  simp only [Option.bind_some]
  obtain ⟨t, h1, h2, h3⟩ := feed_loop w s [] (initS w) 0 ⟨by simp [initS], by simp [initS], by show w.Buf.length ≤ _; omega⟩ hb (by omega) (by simp; omega)
  simp only [List.nil_append, List.length_nil] at h1
  rw [show (w.Mode, w.Cmd, w.Opt, w.Buf, w.Over, w.Buf, ([] : List UInt8), ([] : List GTok), (0 : Int)) = ((initS w).mode, (initS w).cmd, (initS w).opt, (initS w).wb, (initS w).over, (initS w).buf, (initS w).data, (initS w).l, ((0 : Nat) : Int)) from rfl, h1, h2]
  simp only [Option.bind_some, RS.t]
  unfold f12_j1
  obtain ⟨e, _⟩ := flush_small (s.foldl stepS (initS w)) _ h3 (by omega)
  rw [e]; rfl
/-- Bytes 255, doubled. -/
def es1 (b : UInt8) : List UInt8 := if b = 255 then [255, 255] else [b]
def esc (s : List UInt8) : List UInt8 := s.flatMap es1
theorem esc_cons (b : UInt8) (s : List UInt8) : esc (b :: s) = es1 b ++ esc s := by unfold esc; rw [List.flatMap_cons]
theorem esc_len : ∀ s : List UInt8, (esc s).length ≤ 2 * s.length
  | [] => by simp [esc]
  | b :: s => by
    have := esc_len s
    rw [esc_cons, List.length_append, List.length_cons]
    unfold es1; split <;> simp <;> omega
theorem rk_cons (b c : UInt8) (new : List UInt8) (h : b ≠ c) (t : List UInt8) (k : Nat) : Lib.replaceK [c] new k (b :: t) = b :: Lib.replaceK [c] new k t := by
  cases k with
  | zero => rfl
  | succ k =>
    have hge := Lib.indexByte_ge t c
    have hi : Lib.index (b :: t) [c] = if Lib.index t [c] = -1 then -1 else Lib.index t [c] + 1 := by
      rw [Lib.index_one, Lib.index_one, Lib.indexByte, if_neg (by simpa using h)]
      by_cases hm : Lib.indexByte t c = -1
      · rw [if_pos (by simpa using hm), if_pos hm]
      · rw [if_neg (by simpa using hm), if_neg hm]
    unfold Lib.replaceK
    rw [hi]
    by_cases hm : Lib.index t [c] = -1
    · rw [if_pos hm, if_pos (by rfl), if_pos (by rw [hm]; rfl)]
    · have hnn : 0 ≤ Lib.index t [c] := by rw [Lib.index_one] at hm ⊢; omega
      rw [if_neg hm, if_neg (by simp; omega), if_neg (by simpa using hm)]
      obtain ⟨i, hi2⟩ := Int.eq_ofNat_of_zero_le hnn
      rw [hi2, show ((i : Int) + 1).toNat = i + 1 by omega, show (i : Int).toNat = i by omega]
      simp
theorem rk_hit (c : UInt8) (new : List UInt8) (t : List UInt8) (k : Nat) : Lib.replaceK [c] new (k + 1) (c :: t) = new ++ Lib.replaceK [c] new k t := by
  have hi : Lib.index (c :: t) [c] = 0 := by rw [Lib.index_one, Lib.indexByte, if_pos (by simp)]
  rw [Lib.replaceK, hi, if_neg (by decide)]
  simp
theorem rall : ∀ s : List UInt8, Lib.replaceK [255] [255, 255] (Lib.count s [255]) s = esc s
  | [] => by
    rw [Lib.count_one]; rfl
  | b :: t => by
    have ih := rall t
    rw [esc_cons]
    by_cases h : b = 255
    · subst h
      rw [Lib.count_cons_eq, Nat.add_comm 1, rk_hit, ih]; rfl
    · rw [Lib.count_cons_ne b 255 t h, rk_cons b 255 _ h, ih]
      unfold es1; rw [if_neg h]; rfl
theorem esc_eq_ (s : List UInt8) (h : s.length ≤ 10000000) : f21 s = some (esc s) := by
  unfold f21 libReplaceAll
  have hcl : Lib.countB ⟨s.toArray⟩ ⟨([255] : List UInt8).toArray⟩ ≤ s.length + 1 := Lib.count_le s [255]
  have hb : Lib.countB ⟨s.toArray⟩ ⟨([255] : List UInt8).toArray⟩ * ([255, 255] : List UInt8).length ≤ (s.length + 1) * 2 := Nat.mul_le_mul_right 2 hcl
  rw [if_pos ⟨by omega, by decide, by omega⟩]
  simp only [Option.bind_some, Option.some.injEq]
  unfold Lib.replaceAll Lib.replace
  rw [if_neg (by decide)]
  unfold Lib.replaceNum
  rw [if_pos (by left; decide)]
  exact rall s
/-- A state in which data is read. -/
def dat (s : RS) (d : List UInt8) : RS := ⟨s.mode, s.cmd, s.opt, s.wb, s.over, s.buf, s.data ++ d, s.l⟩
theorem esc_fold : ∀ (x : List UInt8) (s : RS), s.mode = 0 → (esc x).foldl stepS s = dat s x
  | [], s, h => by simp [esc, dat]
  | b :: x, s, h => by
    rw [esc_cons, List.foldl_append]
    have hb : (es1 b).foldl stepS s = dat s [b] := by
      unfold es1
      by_cases h5 : b = 255
      · subst h5
        rw [if_pos rfl]
        simp only [List.foldl_cons, List.foldl_nil]
        have e1 : stepS s 255 = setMode s 1 := by unfold stepS; rw [if_pos h, if_pos (by decide)]
        have e2 : stepS (setMode s 1) 255 = cmdS 255 (setMode s 1) := by rfl
        rw [e1, e2]
        unfold cmdS
        rw [if_pos (by decide)]
        unfold addData setMode dat
        simp only [h]
      · have hn : ¬ b.toNat = 255 := fun e => h5 (UInt8.toNat.inj e)
        rw [if_neg h5]
        simp only [List.foldl_cons, List.foldl_nil]
        unfold stepS
        rw [if_pos h, if_neg hn]; rfl
    rw [hb, esc_fold x (dat s [b]) h]
    unfold dat
    simp
def zW : GWire := ⟨0, 0, 0, [], false⟩
theorem zW_ok : f22 zW = some 0 := rfl
theorem eq_loop (l : List GTok) : ∀ (suf pre : List GTok), pre ++ suf = l → l.length ≤ 1000000 → loopO (f14_l1 l l) (pre.length : Int) = some (.inl ())
  | [], pre, e, h => loopO_done (by
      subst e
      unfold f14_l1 f14_l1_j2
      simp only [lt_end, cond_false])
  | x :: t, pre, e, h => by
    have hx : l = pre ++ x :: t := e.symm
    refine loopO_next ?_ (eq_loop l t (pre ++ [x]) (by simp [hx]) h)
    have hp : pre.length < 1600000000000 := by rw [hx] at h; simp at h; omega
    rw [hx]
    unfold f14_l1 f14_l1_j2 f14_l1_j3
    simp only [lt_mid, cond_true, idx_mid, Option.bind_some, decide_true, Bool.and_self, Bool.not_true, cond_false]
    rw [wrap_nx pre x (by omega)]
theorem toks_same_ (l : List GTok) (h : l.length ≤ 1000000) : f14 l l = some true := by
  unfold f14
  rw [decide_eq_true rfl]
  simp only [Bool.not_true, cond_false]
  unfold f14_j0
  have := eq_loop l l [] rfl h
  rw [show ((0 : Int)) = (([] : List GTok).length : Int) from rfl, this]; rfl
theorem lives : f13 = some true := by
  unfold f13
  rw [show (⟨0, 0, 0, [], false⟩ : GWire) = zW from rfl, feed_ok zW _ zW_ok (by decide) (by decide)]
  simp only [Option.bind_some, decide_true, cond_true]
  have e : ([97, 255, 255, 98, 255, 251, 1, 255] : List UInt8).foldl stepS (initS zW) = ⟨1, 0, 0, [], false, [], [], [⟨1, 0, 0, [97, 255, 98]⟩, ⟨3, 251, 1, []⟩]⟩ := rfl
  rw [e]
  have e2 : flushS ⟨1, 0, 0, [], false, [], [], [⟨1, 0, 0, [97, 255, 98]⟩, ⟨3, 251, 1, []⟩]⟩ = ⟨1, 0, 0, [], false, [], [], [⟨1, 0, 0, [97, 255, 98]⟩, ⟨3, 251, 1, []⟩]⟩ := rfl
  rw [e2]
  simp only [wireS, decide_true, Bool.and_self, cond_true]
  rw [toks_same_ _ (by decide), esc_eq_ _ (by decide)]
  rfl
theorem maxcell {w : World} (hsh : w.ShapedOpen Go.Proofs.Tryd.prog) : ∃ m, w.cell? ⟨0, 0, none⟩ = some (.int .i64 m) :=
  cell_of_shapedOpen_int (t := 3) (zero := #[.int .i64 0]) hsh (of_decide_eq_true (by kernel_rfl)) (by kernel_rfl) rfl (by kernel_rfl) (by kernel_rfl) (by kernel_rfl)
/-- 'Option.bind_some', not by unfolding: the kernel must not look into 'cat?'. -/
theorem bs {α β : Type} (x : α) (f : α → Option β) : (some x).bind f = f x := by
  have h : ∀ o : Option α, o = some x → o.bind f = f x := fun o ho => by subst ho; rfl
  exact h _ rfl
theorem cf {α : Type} (x y : α) : (bif false then x else y) = y := by
  have h : ∀ b, b = false → (bif b then x else y) = y := fun b hb => by subst hb; rfl
  exact h _ rfl
theorem ct {α : Type} (x y : α) : (bif true then x else y) = x := by
  have h : ∀ b, b = true → (bif b then x else y) = x := fun b hb => by subst hb; rfl
  exact h _ rfl
/-- Data is read; and nothing waits. -/
def Cl (s : RS) : Prop := s.mode = 0 ∧ s.cmd = 0 ∧ s.opt = 0 ∧ s.buf = [] ∧ s.over = false
def Qu (s : RS) : Prop := Cl s ∧ s.data = []
theorem flush_nil (s : RS) : (flushS s).data = [] := by
  unfold flushS
  split
  · rfl
  · exact List.eq_nil_of_length_eq_zero (by omega)
theorem s0_255 (s : RS) (h : s.mode = 0) : stepS s 255 = setMode s 1 := by unfold stepS; rw [if_pos h, if_pos (by decide)]
theorem s1_ (s : RS) (c : UInt8) (h : s.mode = 1) : stepS s c = cmdS c s := by unfold stepS; rw [if_neg (by omega), if_pos h]
theorem s4_255 (s : RS) (h : s.mode = 4) : stepS s 255 = setMode s 5 := by
  unfold stepS; rw [if_neg (by omega), if_neg (by omega), if_neg (by omega), if_neg (by omega), if_pos h, if_pos (by decide)]
theorem s4_x (s : RS) (c : UInt8) (h : s.mode = 4) (hc : ¬ c.toNat = 255) : stepS s c = subS c s := by
  unfold stepS; rw [if_neg (by omega), if_neg (by omega), if_neg (by omega), if_neg (by omega), if_pos h, if_neg hc]
theorem s5_255 (s : RS) (h : s.mode = 5) : stepS s 255 = subS 255 (setMode s 4) := by
  unfold stepS; rw [if_neg (by omega), if_neg (by omega), if_neg (by omega), if_neg (by omega), if_neg (by omega), if_pos (by decide)]
theorem s5_x (s : RS) (c : UInt8) (h : s.mode = 5) (hc : ¬ c.toNat = 255) : stepS s c = endS c s := by
  unfold stepS; rw [if_neg (by omega), if_neg (by omega), if_neg (by omega), if_neg (by omega), if_neg (by omega), if_neg hc]
theorem s2_ (s : RS) (c : UInt8) (h : s.mode = 2) : stepS s c = ⟨0, 0, s.opt, s.wb, s.over, s.buf, (tokS ⟨3, s.cmd, (c.toNat : Int), []⟩ s).data, (tokS ⟨3, s.cmd, (c.toNat : Int), []⟩ s).l⟩ := by
  unfold stepS; rw [if_neg (by omega), if_neg (by omega), if_pos h]
theorem s3_ (s : RS) (c : UInt8) (h : s.mode = 3) : stepS s c = ⟨4, s.cmd, (c.toNat : Int), s.wb, s.over, s.buf, s.data, s.l⟩ := by
  unfold stepS; rw [if_neg (by omega), if_neg (by omega), if_neg (by omega), if_pos h]
theorem cmd_tok (s : RS) (c : UInt8) (h : 240 ≤ c.toNat ∧ c.toNat ≤ 249) : cmdS c s = tokS ⟨2, (c.toNat : Int), 0, []⟩ (setMode s 0) := by
  unfold cmdS; rw [if_neg (by omega), if_neg (by omega), if_neg (by omega), if_pos h.1]
/-- A command of two bytes. -/
theorem two (s : RS) (c : UInt8) (h : Cl s) (hc : 240 ≤ c.toNat ∧ c.toNat ≤ 249) : Qu ([255, c].foldl stepS s) ∧ ([255, c].foldl stepS s).l = (flushS s).l ++ [⟨2, (c.toNat : Int), 0, []⟩] := by
  obtain ⟨h1, h2, h3, h4, h5⟩ := h
  simp only [List.foldl_cons, List.foldl_nil]
  rw [s0_255 s h1, s1_ _ c rfl, cmd_tok _ c hc]
  have e : flushS (setMode (setMode s 1) 0) = ⟨0, (flushS s).cmd, (flushS s).opt, (flushS s).wb, (flushS s).over, (flushS s).buf, (flushS s).data, (flushS s).l⟩ := by
    unfold flushS setMode; split <;> rfl
  refine ⟨⟨⟨rfl, h2, h3, h4, h5⟩, ?_⟩, ?_⟩
  · show (flushS _).data = []; exact flush_nil _
  · show (flushS _).l ++ _ = _; rw [e]
theorem u8n (n : Int) (h : 0 ≤ n ∧ n ≤ 255) : ((u8 n).toNat : Int) = n := by have := u8_u8 n; omega
/-- Words of an option. -/
theorem sub_fold : ∀ (x : List UInt8) (s : RS), s.mode = 4 → s.over = false → s.buf.length + x.length ≤ 4096 → (esc x).foldl stepS s = ⟨4, s.cmd, s.opt, s.wb, false, s.buf ++ x, s.data, s.l⟩
  | [], s, h, ho, hl => by
    obtain ⟨a, b, c, d, e, f, g, i⟩ := s
    simp only at h ho
    subst h; subst ho
    simp [esc]
  | b :: x, s, h, ho, hl => by
    rw [List.length_cons] at hl
    rw [esc_cons, List.foldl_append]
    have hb : (es1 b).foldl stepS s = ⟨4, s.cmd, s.opt, s.wb, false, s.buf ++ [b], s.data, s.l⟩ := by
      unfold es1
      by_cases h5 : b = 255
      · subst h5
        rw [if_pos rfl]
        simp only [List.foldl_cons, List.foldl_nil]
        rw [s4_255 s h, s5_255 _ rfl]
        unfold subS setMode
        simp only [ho]
        rw [if_neg (by omega)]; rfl
      · have hn : ¬ b.toNat = 255 := fun e => h5 (UInt8.toNat.inj e)
        rw [if_neg h5]
        simp only [List.foldl_cons, List.foldl_nil]
        rw [s4_x s b h hn]
        unfold subS
        rw [if_neg (by omega), ho, h]; rfl
    rw [hb, sub_fold x _ rfl rfl (by simp; omega)]
    simp
/-- A token that may be written, and its bytes. -/
def Tw (t : GTok) (u : List UInt8) : Prop :=
  (t.Kind = 1 ∧ t.Cmd = 0 ∧ t.Opt = 0 ∧ u = esc t.Data) ∨
  ((t.Kind = 2 ∧ 240 ≤ t.Cmd ∧ t.Cmd ≤ 249 ∧ t.Opt = 0 ∧ t.Data = []) ∧ u = [255, u8 t.Cmd]) ∨
  ((t.Kind = 3 ∧ 251 ≤ t.Cmd ∧ t.Cmd ≤ 254 ∧ 0 ≤ t.Opt ∧ t.Opt ≤ 255 ∧ t.Data = []) ∧ u = [255, u8 t.Cmd, u8 t.Opt]) ∨
  ((t.Kind = 4 ∧ t.Cmd = 0 ∧ 0 ≤ t.Opt ∧ t.Opt ≤ 255 ∧ t.Data.length ≤ 4096) ∧ u = [255, 250, u8 t.Opt] ++ esc t.Data ++ [255, 240])
theorem cat_ok (xs ys : List UInt8) (h : xs.length + ys.length ≤ 1600000000000) : cat? xs ys = some (xs ++ ys) := by
  unfold cat?
  rw [if_pos (by show ((xs.length + ys.length : Nat) : Int) ≤ 9223372036854775807; omega)]
theorem cat3 (p q r : List UInt8) (hp : p.length ≤ 10) (hq : q.length ≤ 100000) (hr : r.length ≤ 10) : ((cat? p q).bind fun z6 => ((cat? z6 r).bind fun z7 => (some (z7, (0 : Int))))) = some (p ++ q ++ r, 0) := by
  rw [cat_ok p q (by omega)]
  simp only [bs]
  rw [cat_ok (p ++ q) r (by rw [List.length_append]; omega)]
  rfl
theorem j5_ok (t : GTok) (h : t.Data.length ≤ 4096) : f11_j5 t = some ([255, 250, u8 t.Opt] ++ esc t.Data ++ [255, 240], 0) := by
  have hl := esc_len t.Data
  have e : f11_j5 t = ((f21 t.Data).bind fun z5 => ((cat? ([255, 250, (u8 t.Opt)] : List UInt8) z5).bind fun z6 => ((cat? z6 ([255, 240] : List UInt8)).bind fun z7 => (some (z7, (0 : Int)))))) := rfl
  rw [e, esc_eq_ _ (by omega), bs]
  exact cat3 [255, 250, u8 t.Opt] (esc t.Data) [255, 240] (Nat.le_of_ble_eq_true rfl) (by omega) (Nat.le_of_ble_eq_true rfl)
theorem j4_spec (t : GTok) (p : Bool) (h : p = true → t.Kind = 4 ∧ t.Cmd = 0 ∧ 0 ≤ t.Opt ∧ t.Opt ≤ 255) : ∃ u e, f11_j4 t p = some (u, e) ∧ (e = 0 → Tw t u) := by
  unfold f11_j4
  cases p with
  | false => exact ⟨_, _, rfl, fun h => by cases h⟩
  | true =>
    obtain ⟨h1, h2, h3, h4⟩ := h rfl
    simp only [cond_true, Bool.cond_decide]
    split
    · exact ⟨_, _, rfl, fun h => by cases h⟩
    · rename_i hl
      rw [j5_ok t (by omega)]
      exact ⟨_, _, rfl, fun _ => .inr (.inr (.inr ⟨⟨h1, h2, h3, h4, by omega⟩, rfl⟩))⟩
theorem j3_spec (t : GTok) (p : Bool) (h : p = true → 0 ≤ t.Opt ∧ t.Opt ≤ 255) : ∃ u e, f11_j3 t p = some (u, e) ∧ (e = 0 → Tw t u) := by
  unfold f11_j3
  simp only [Bool.cond_decide]
  split
  · split
    · exact j4_spec t p fun hp => ⟨by assumption, by assumption, (h hp).1, (h hp).2⟩
    · exact j4_spec t false fun hp => by cases hp
  · exact j4_spec t false fun hp => by cases hp
theorem j2w_spec (t : GTok) (p : Bool) (h : p = true → 0 ≤ t.Opt ∧ t.Opt ≤ 255) : ∃ u e, f11_j2 t p = some (u, e) ∧ (e = 0 → Tw t u) := by
  have j3 := j3_spec t p h
  unfold f11_j2
  cases p with
  | false =>
    simp only [Bool.cond_decide, cond_false]
    repeat' split
    all_goals exact j3
  | true =>
    obtain ⟨h1, h2⟩ := h rfl
    simp only [Bool.cond_decide, cond_true]
    repeat' split
    all_goals first
      | exact j3
      | exact ⟨_, _, rfl, fun _ => .inr (.inr (.inl ⟨⟨by assumption, by assumption, by assumption, h1, h2, by assumption⟩, rfl⟩))⟩
theorem j1w_spec (t : GTok) (p : Bool) (h : p = true → 0 ≤ t.Opt ∧ t.Opt ≤ 255) : ∃ u e, f11_j1 t p = some (u, e) ∧ (e = 0 → Tw t u) := by
  have j2 := j2w_spec t p h
  unfold f11_j1
  by_cases k : t.Kind = 2
  · rw [decide_eq_true k]
    simp only [cond_true]
    by_cases c1 : 240 ≤ t.Cmd
    · rw [decide_eq_true c1]
      simp only [cond_true]
      by_cases c2 : t.Cmd ≤ 249
      · rw [decide_eq_true c2]
        simp only [cond_true]
        by_cases o : t.Opt = 0
        · by_cases d : t.Data = []
          · rw [decide_eq_true o, decide_eq_true d]
            simp only [decide_true, Bool.and_self, cond_true]
            exact ⟨_, _, rfl, fun _ => .inr (.inl ⟨⟨k, c1, c2, o, d⟩, rfl⟩)⟩
          · rw [decide_eq_true o, decide_eq_false d]
            exact ⟨[], 1, by simp, fun h => by cases h⟩
        · rw [decide_eq_false o]
          exact ⟨[], 1, by simp, fun h => by cases h⟩
      · rw [decide_eq_false c2]; exact j2
    · rw [decide_eq_false c1]; exact j2
  · rw [decide_eq_false k]; exact j2
theorem j0w_spec (t : GTok) (p : Bool) (h : p = true → 0 ≤ t.Opt ∧ t.Opt ≤ 255) (hl : t.Data.length ≤ 10000000) : ∃ u e, f11_j0 t p = some (u, e) ∧ (e = 0 → Tw t u) := by
  have j1 := j1w_spec t p h
  unfold f11_j0
  rw [esc_eq_ _ hl]
  simp only [Bool.cond_decide]
  repeat' split
  all_goals first
    | exact j1
    | exact ⟨_, _, rfl, fun _ => .inl ⟨by assumption, by assumption, by assumption, rfl⟩⟩
theorem wr_spec_ (t : GTok) (hl : t.Data.length ≤ 10000000) : ∃ u e, f11 t = some (u, e) ∧ (e = 0 → Tw t u) := by
  unfold f11
  simp only [Bool.cond_decide]
  repeat' split
  · exact j0w_spec t true (fun _ => ⟨by assumption, by assumption⟩) hl
  · exact j0w_spec t false (fun h => by cases h) hl
  · exact j0w_spec t false (fun h => by cases h) hl
theorem wire_flush (s : RS) : wireS (flushS s) = wireS s := by unfold flushS; split <;> rfl
theorem inR_nat (i n : Nat) (h : i < n) : inR (i : Int) n = some i := by unfold inR; rw [if_pos (by omega)]; simp
theorem toks_big_ (l : List GTok) (h : l.length ≤ 100000000000) : f14 l l = some true := by
  have lp : ∀ (suf pre : List GTok), pre ++ suf = l → loopO (f14_l1 l l) (pre.length : Int) = some (.inl ()) := by
    intro suf
    induction suf with
    | nil =>
      intro pre e
      refine loopO_done ?_
      subst e
      unfold f14_l1 f14_l1_j2
      simp only [lt_end, cond_false]
    | cons x t ih =>
      intro pre e
      have hx : l = pre ++ x :: t := e.symm
      refine loopO_next ?_ (ih (pre ++ [x]) (by simp [hx]))
      have hp : pre.length < 1600000000000 := by rw [hx] at h; simp at h; omega
      rw [hx]
      unfold f14_l1 f14_l1_j2 f14_l1_j3
      simp only [lt_mid, cond_true, idx_mid, Option.bind_some, decide_true, Bool.and_self, Bool.not_true, cond_false]
      rw [wrap_nx pre x (by omega)]
  unfold f14
  rw [decide_eq_true rfl]
  simp only [Bool.not_true, cond_false]
  unfold f14_j0
  have := lp l [] rfl
  rw [show ((0 : Int)) = (([] : List GTok).length : Int) from rfl, this]; rfl
/-- Data that waits, told. -/
def fl (l : List GTok) (d : List UInt8) : List GTok := if 0 < d.length then l ++ [⟨1, 0, 0, d⟩] else l
theorem fl_app (l : List GTok) (d : List UInt8) : ∃ r, fl l d = l ++ r ∧ ∀ l', fl l' d = l' ++ r := by
  unfold fl
  by_cases h : 0 < d.length
  · exact ⟨[⟨1, 0, 0, d⟩], by rw [if_pos h], fun l' => by rw [if_pos h]⟩
  · exact ⟨[], by rw [if_neg h]; simp, fun l' => by rw [if_neg h]; simp⟩
theorem flush_l (s : RS) : (flushS s).l = fl s.l s.data := by unfold flushS fl; split <;> rfl
theorem set_last (p : List GTok) (x y : GTok) : (p ++ [x]).set p.length y = p ++ [y] := by
  rw [List.set_append_right _ _ (Nat.le_refl _)]; simp
theorem merge_join (P : List GTok) (D t : GTok) (q : List GTok) (hk : t.Kind = 1) (g1 : t.Data ≠ []) (hP : P.length ≤ 100000000000) (hd : D.Data.length + t.Data.length ≤ 1600000000000) :
    f15_l0 ((P ++ [D]) ++ t :: q) (P ++ [D], true, ((P ++ [D]).length : Int)) = some (.inl (P ++ [⟨D.Kind, D.Cmd, D.Opt, D.Data ++ t.Data⟩], true, (((P ++ [D]) ++ [t]).length : Int))) := by
  have hl2 : (P ++ [D]).length = P.length + 1 := by simp
  have hin : inR (IntKind.i64.wrap (((P ++ [D]).length : Int) - 1)) (P ++ [D]).length = some P.length := by
    rw [i64w _ (by omega), show ((P ++ [D]).length : Int) - 1 = (P.length : Int) by omega]
    exact inR_nat _ _ (by omega)
  have hg : (P ++ [D])[P.length]? = some D := by simp
  have hct : cat? D.Data t.Data = some (D.Data ++ t.Data) := cat_ok _ _ hd
  have hs : (P ++ [D]).set P.length ⟨D.Kind, D.Cmd, D.Opt, D.Data ++ t.Data⟩ = P ++ [⟨D.Kind, D.Cmd, D.Opt, D.Data ++ t.Data⟩] := set_last P D _
  have hlt := lt_mid (P ++ [D]) t q
  have hix := idx_mid (P ++ [D]) t q
  have hw := wrap_nx (P ++ [D]) t (by omega)
  generalize hQ : P ++ [D] = Q at *
  unfold f15_l0 f15_l0_j1 f15_l0_j2
  rw [show decide ((Q, true, (Q.length : Int)).2.2 < ((Q ++ t :: q).length : Int)) = true from hlt]
  simp only [ct]
  rw [hix]
  simp only [bs]
  rw [decide_eq_true hk, decide_eq_false g1]
  simp only [Bool.not_true, cf, ct]
  rw [hin]
  simp only [bs]
  rw [hg]
  simp only [bs]
  rw [hct]
  simp only [bs]
  rw [hs, hw]
end Go.Proofs.YthblnlmpfgfgcaaDoor.Pm
