/- IacBack: tokens that are written are read as they were. -/
import Derived.Test.YthblnlmpfgfgcaaDoorIbG
namespace Go.Proofs.YthblnlmpfgfgcaaDoor.Pm
open Go.Proofs.YthblnlmpfgfgcaaDoor.Args
open Go.ChangeShapes Go.WideShapes Go.ChangeAt Go.RowKit
set_option linter.unusedVariables false
set_option linter.unusedSimpArgs false
set_option maxRecDepth 100000
/-- A part of the bytes is read. -/
theorem feed_part (w : GWire) : ∀ (x pre suf : List UInt8) (s : RS) (n : Nat) (r : RT), small s n → s.buf.length ≤ 4096 → n + x.length ≤ 1500000000000 → pre.length + x.length ≤ 3000000000000 →
    loopO (f12_l2 w (pre ++ x ++ suf)) ((x.foldl stepS s).mode, (x.foldl stepS s).cmd, (x.foldl stepS s).opt, (x.foldl stepS s).wb, (x.foldl stepS s).over, (x.foldl stepS s).buf, (x.foldl stepS s).data, (x.foldl stepS s).l, ((pre ++ x).length : Int)) = some r →
    loopO (f12_l2 w (pre ++ x ++ suf)) (s.mode, s.cmd, s.opt, s.wb, s.over, s.buf, s.data, s.l, (pre.length : Int)) = some r
  | [], pre, suf, s, n, r, h, hb, hn, hp, hl => by simpa using hl
  | c :: x, pre, suf, s, n, r, h, hb, hn, hp, hl => by
    simp only [List.length_cons] at hn hp
    obtain ⟨e, q, q2⟩ := step_ok c s n h hb (by omega)
    have e1 : pre ++ c :: x ++ suf = (pre ++ [c]) ++ x ++ suf := by simp
    have e2 : pre ++ c :: x ++ suf = pre ++ c :: (x ++ suf) := by simp
    have e3 : pre ++ c :: x = (pre ++ [c]) ++ x := by simp
    rw [e1, e3] at hl
    have ih := feed_part w x (pre ++ [c]) suf (stepS s c) (n + 1) r q q2 (by omega) (by simp; omega) hl
    rw [← e1] at ih
    refine loopO_next ?_ ih
    rw [e2]
    unfold f12_l2 f12_l2_j3 f12_l2_j4
    simp only [lt_mid, cond_true, idx_mid, Option.bind_some]
    rw [e, wrap_nx pre c (by omega)]; rfl
/-- What a token does to what was told, and to data that waits. -/
def rdT (p : List GTok × List UInt8) (t : GTok) : List GTok × List UInt8 := if t.Kind = 1 then (p.1, p.2 ++ t.Data) else (fl p.1 p.2 ++ [t], [])
theorem nofl (s : RS) (h : s.data = []) : flushS s = s := by unfold flushS; rw [h, if_neg (by simp)]
theorem read_one (t : GTok) (u : List UInt8) (ht : Tw t u) (s : RS) (hs : Cl s) : Cl (u.foldl stepS s) ∧ ((u.foldl stepS s).l, (u.foldl stepS s).data) = rdT (s.l, s.data) t := by
  have hcl := hs
  obtain ⟨h1, h2, h3, h4, h5⟩ := hs
  unfold rdT
  rcases ht with ⟨k, c, o, rfl⟩ | ⟨⟨k, c1, c2, o, d⟩, rfl⟩ | ⟨⟨k, c1, c2, o1, o2, d⟩, rfl⟩ | ⟨⟨k, c, o1, o2, hl⟩, rfl⟩
  · rw [esc_fold _ s h1, if_pos k]
    exact ⟨⟨h1, h2, h3, h4, h5⟩, rfl⟩
  · have hc := u8n t.Cmd (by omega)
    obtain ⟨⟨q1, q2⟩, q3⟩ := two s (u8 t.Cmd) hcl (by omega)
    rw [if_neg (by omega)]
    refine ⟨q1, ?_⟩
    rw [q2, q3, hc, flush_l]
    obtain ⟨a, b, c', d'⟩ := t
    simp only at k o d ⊢
    subst k; subst o; subst d; rfl
  · have hc := u8n t.Cmd (by omega)
    have ho := u8n t.Opt (by omega)
    have e : ([255, u8 t.Cmd, u8 t.Opt] : List UInt8).foldl stepS s = ⟨0, 0, s.opt, s.wb, s.over, s.buf, [], (flushS s).l ++ [⟨3, t.Cmd, t.Opt, []⟩]⟩ := by
      simp only [List.foldl_cons, List.foldl_nil]
      rw [s0_255 s h1, s1_ (setMode s 1) (u8 t.Cmd) rfl]
      have e2 : cmdS (u8 t.Cmd) (setMode s 1) = ⟨2, ((u8 t.Cmd).toNat : Int), s.opt, s.wb, s.over, s.buf, s.data, s.l⟩ := by
        unfold cmdS
        rw [if_neg (by omega), if_pos (by omega)]; rfl
      rw [e2, s2_ _ _ rfl]
      simp only [hc, ho, tokS]
      have e3 : ∀ m c, flushS ⟨m, c, s.opt, s.wb, s.over, s.buf, s.data, s.l⟩ = ⟨m, c, s.opt, s.wb, s.over, s.buf, (flushS s).data, (flushS s).l⟩ := fun m c => by unfold flushS; split <;> rfl
      rw [e3]
      simp only [flush_nil]
    rw [e, if_neg (by omega)]
    refine ⟨⟨rfl, rfl, h3, h4, h5⟩, ?_⟩
    rw [flush_l]
    obtain ⟨a, b, c', d'⟩ := t
    simp only at k d ⊢
    subst k; subst d; rfl
  · have ho := u8n t.Opt (by omega)
    have e : ([255, 250, u8 t.Opt] ++ esc t.Data ++ [255, 240] : List UInt8).foldl stepS s = ⟨0, 0, 0, [], false, [], [], (flushS s).l ++ [⟨4, 0, t.Opt, t.Data⟩]⟩ := by
      rw [List.foldl_append, List.foldl_append]
      have e1 : ([255, 250, u8 t.Opt] : List UInt8).foldl stepS s = ⟨4, s.cmd, t.Opt, s.wb, s.over, s.buf, s.data, s.l⟩ := by
        simp only [List.foldl_cons, List.foldl_nil]
        rw [s0_255 s h1, s1_ (setMode s 1) 250 rfl]
        have e2 : cmdS 250 (setMode s 1) = setMode (setMode s 1) 3 := by
          unfold cmdS
          rw [if_neg (by decide), if_neg (by decide), if_pos (by decide)]
        rw [e2, s3_ _ _ rfl, ho]; rfl
      rw [e1, sub_fold t.Data ⟨4, s.cmd, t.Opt, s.wb, s.over, s.buf, s.data, s.l⟩ rfl h5 (by show s.buf.length + _ ≤ _; rw [h4]; simpa using hl)]
      simp only [List.foldl_cons, List.foldl_nil]
      rw [s4_255 _ rfl, s5_x _ 240 rfl (by decide)]
      unfold endS endT
      rw [if_pos (by decide)]
      simp only [setMode, tokS, h4, List.nil_append, Bool.false_eq_true, if_false]
      have e3 : ∀ m c o b ov bf, flushS ⟨m, c, o, b, ov, bf, s.data, s.l⟩ = ⟨m, c, o, b, ov, bf, (flushS s).data, (flushS s).l⟩ := fun m c o b ov bf => by unfold flushS; split <;> rfl
      rw [e3]
      simp only [flush_nil]
    rw [e, if_neg (by omega)]
    refine ⟨⟨rfl, rfl, rfl, rfl, rfl⟩, ?_⟩
    rw [flush_l]
    obtain ⟨a, b, c', d'⟩ := t
    simp only at k c ⊢
    subst k; subst c; rfl
/-- What Write tells. -/
noncomputable def wr (t : GTok) : List UInt8 × Int := (f11 t).getD ([], 1)
theorem wr_ok (t : GTok) (hl : t.Data.length ≤ 1048576) : f11 t = some (wr t) ∧ ((wr t).2 = 0 → Tw t (wr t).1) := by
  obtain ⟨u, e, h1, h2⟩ := wr_spec_ t (by omega)
  have : wr t = (u, e) := by unfold wr; rw [h1]; rfl
  rw [this]
  exact ⟨h1, h2⟩
theorem tw_len (t : GTok) (u : List UInt8) (h : Tw t u) (hl : t.Data.length ≤ 1048576) : u.length ≤ 2100000 := by
  have := esc_len t.Data
  rcases h with ⟨_, _, _, rfl⟩ | ⟨_, rfl⟩ | ⟨_, rfl⟩ | ⟨_, rfl⟩ <;> simp <;> omega
noncomputable def wants (l : List GTok) : List GTok := l.filter fun t => decide ((wr t).2 = 0)
noncomputable def bytes (l : List GTok) : List UInt8 := (wants l).flatMap fun t => (wr t).1
theorem wants_app (a b : List GTok) : wants (a ++ b) = wants a ++ wants b := by unfold wants; rw [List.filter_append]
theorem bytes_app (a b : List GTok) : bytes (a ++ b) = bytes a ++ bytes b := by unfold bytes; rw [wants_app, List.flatMap_append]
/-- Tokens that may be written, none too long. -/
def Ws (l : List GTok) : Prop := ∀ t ∈ l, t.Data.length ≤ 1048576 ∧ f11 t = some (wr t) ∧ Tw t (wr t).1
theorem ws_bytes : ∀ l : List GTok, Ws l → (l.flatMap fun t => (wr t).1).length ≤ 2100000 * l.length
  | [], _ => by simp
  | t :: l, h => by
    rw [List.flatMap_cons, List.length_append, List.length_cons]
    have h1 := h t List.mem_cons_self
    have := tw_len t _ h1.2.2 h1.1
    have := ws_bytes l (fun x hx => h x (List.mem_cons_of_mem _ hx))
    omega
theorem wants_ws (l : List GTok) (h : ∀ t ∈ l, t.Data.length ≤ 1048576) : Ws (wants l) := by
  intro t ht
  unfold wants at ht
  rw [List.mem_filter] at ht
  obtain ⟨h1, h2⟩ := ht
  obtain ⟨q1, q2⟩ := wr_ok t (h t h1)
  exact ⟨h t h1, q1, q2 (of_decide_eq_true h2)⟩
theorem wants_len (l : List GTok) : (wants l).length ≤ l.length := List.length_filter_le _ _
/-- The law's own loop. -/
theorem back_loop (l : List GTok) (hd : ∀ t ∈ l, t.Data.length ≤ 1048576) (hn : l.length ≤ 1048576) : ∀ (suf pre : List GTok), l = pre ++ suf →
    loopO (f4_l1 l) (bytes pre, wants pre, (pre.length : Int)) = some (bytes l, wants l)
  | [], pre, e => loopO_done (by
      subst e
      unfold f4_l1 f4_l1_j2
      simp only [lt_end, cond_false]
      simp)
  | t :: suf, pre, e => by
    have hp : pre.length < 1048576 := by rw [e] at hn; simp at hn; omega
    have hlt : decide ((pre.length : Int) < (l.length : Int)) = true := by rw [e]; exact lt_mid pre t suf
    have hix : idx l (pre.length : Int) = some t := by rw [e]; exact idx_mid pre t suf
    have ih := back_loop l hd hn suf (pre ++ [t]) (by simp [e])
    have ht := hd t (by rw [e]; simp)
    obtain ⟨q1, q2⟩ := wr_ok t ht
    refine loopO_next ?_ ih
    unfold f4_l1 f4_l1_j2 f4_l1_j3
    simp only [hlt, cond_true]
    rw [hix, bs, q1, bs]
    have hw1 : wants [t] = if (wr t).2 = 0 then [t] else [] := by unfold wants; by_cases h : (wr t).2 = 0 <;> simp [h]
    have hb1 : bytes [t] = if (wr t).2 = 0 then (wr t).1 else [] := by unfold bytes; rw [hw1]; by_cases h : (wr t).2 = 0 <;> simp [h]
    have hwp := wants_len pre
    have hbp : (bytes pre).length ≤ 2100000 * pre.length := by
      have := ws_bytes (wants pre) (wants_ws pre (fun x hx => hd x (by rw [e]; simp [hx])))
      unfold bytes; omega
    by_cases h : (wr t).2 = 0
    · have hul := tw_len t _ (q2 h) ht
      rw [decide_eq_true h, ct]
      have hb : blw? (bytes pre) (wr t).1 = some (bytes (pre ++ [t])) := by
        unfold blw?
        rw [if_pos (by omega), bytes_app, hb1, if_pos h]
      rw [hb, bs, app_ok 40 _ _ (by simp; omega), bs, wrap_nx pre t (by omega), wants_app, hw1, if_pos h]
    · rw [decide_eq_false h, cf, wrap_nx pre t (by omega), wants_app, bytes_app, hw1, hb1, if_neg h, if_neg h, List.append_nil, List.append_nil]
/-- All tokens are read. -/
theorem rd_len (p : List GTok × List UInt8) (t : GTok) : (rdT p t).1.length ≤ p.1.length + 2 ∧ (rdT p t).2.length ≤ p.2.length + t.Data.length := by
  unfold rdT fl
  split
  · exact ⟨by simp, by simp⟩
  · split <;> exact ⟨by simp, by simp⟩
theorem feed_all (w : GWire) : ∀ (x : List GTok) (pre : List UInt8) (s : RS) (k : Nat), Ws x → Cl s → k + x.length ≤ 1048576 → s.l.length ≤ 2 * k → s.data.length ≤ 1048576 * k → pre.length ≤ 2100000 * k →
    ∃ s', Cl s' ∧ (s'.l, s'.data) = x.foldl rdT (s.l, s.data) ∧ s'.l.length ≤ 2 * (k + x.length) ∧ s'.data.length ≤ 1048576 * (k + x.length) ∧
      loopO (f12_l2 w (pre ++ x.flatMap fun t => (wr t).1)) (s.mode, s.cmd, s.opt, s.wb, s.over, s.buf, s.data, s.l, (pre.length : Int)) = some s'.t
  | [], pre, s, k, hw, hs, hk, h1, h2, h3 => ⟨s, hs, rfl, by simpa using h1, by simpa using h2, loopO_done (by
      unfold f12_l2 f12_l2_j3
      simp only [List.flatMap_nil, lt_end, cond_false]; rfl)⟩
  | t :: x, pre, s, k, hw, hs, hk, h1, h2, h3 => by
    simp only [List.length_cons] at hk
    obtain ⟨d1, d2, d3⟩ := hw t List.mem_cons_self
    have hul := tw_len t _ d3 d1
    obtain ⟨c1, c2⟩ := read_one t _ d3 s hs
    have hr := rd_len (s.l, s.data) t
    rw [← c2] at hr
    simp only at hr
    obtain ⟨s', g1, g2, g3, g4, g5⟩ := feed_all w x (pre ++ (wr t).1) ((wr t).1.foldl stepS s) (k + 1) (fun y hy => hw y (List.mem_cons_of_mem _ hy)) c1 (by omega) (by omega) (by omega) (by rw [List.length_append]; omega)
    refine ⟨s', g1, by rw [g2, c2, List.foldl_cons], by simp only [List.length_cons]; omega, by simp only [List.length_cons]; omega, ?_⟩
    rw [List.flatMap_cons, ← List.append_assoc]
    refine feed_part w (wr t).1 pre (x.flatMap fun t => (wr t).1) s (1048576 * k + 2 * k) _ ⟨by omega, by omega, by rw [hs.2.2.2.1]; simp⟩ (by rw [hs.2.2.2.1]; simp) (by omega) (by omega) ?_
    exact g5
/-- Merge over tokens that may be written. -/
theorem merge_one (L : List GTok) (d : List UInt8) (pre : List GTok) (t : GTok) (q : List GTok) (ht : Tw t (wr t).1) (hd : t.Data.length ≤ 1048576) (hL : L.length ≤ 10000000) (hdd : d.length ≤ 1500000000000) (hp : pre.length ≤ 1048576) :
    f15_l0 (pre ++ t :: q) (fl L d, decide (d ≠ []), (pre.length : Int)) = some (.inl (fl (rdT (L, d) t).1 (rdT (L, d) t).2, decide ((rdT (L, d) t).2 ≠ []), ((pre ++ [t]).length : Int))) := by
  unfold f15_l0 f15_l0_j1 f15_l0_j2
  simp only [lt_mid, cond_true]
  rw [idx_mid, bs, wrap_nx pre t (by omega)]
  have hfl : (fl L d).length ≤ L.length + 1 := by unfold fl; split <;> simp
  unfold rdT
  by_cases hk : t.Kind = 1
  · have h0 : t.Cmd = 0 ∧ t.Opt = 0 := by
      rcases ht with ⟨_, c, o, _⟩ | ⟨⟨k, _⟩, _⟩ | ⟨⟨k, _⟩, _⟩ | ⟨⟨k, _⟩, _⟩
      · exact ⟨c, o⟩
      all_goals omega
    rw [if_pos hk, decide_eq_true hk, Bool.not_true, cf]
    by_cases hD : t.Data = []
    · rw [decide_eq_true hD, ct, hD, List.append_nil]
    · rw [decide_eq_false hD, cf]
      have hne : d ++ t.Data ≠ [] := fun h => hD (List.append_eq_nil_iff.1 h).2
      by_cases hd0 : d = []
      · subst hd0
        have e1 : fl L [] = L := by unfold fl; rw [if_neg (by simp)]
        have e2 : fl L t.Data = L ++ [t] := by
          unfold fl
          rw [if_pos (List.length_pos_iff.2 hD)]
          obtain ⟨a, b, c, e⟩ := t
          simp only at hk h0
          obtain ⟨h0, h0'⟩ := h0
          subst hk; subst h0; subst h0'; rfl
        simp only [List.nil_append]
        rw [e1, e2, decide_eq_false (by simp), cf, app_ok 40 _ _ (by simp; omega), bs, decide_eq_true hD]
      · have hp0 : 0 < d.length := List.length_pos_iff.2 hd0
        have e1 : fl L d = L ++ [⟨1, 0, 0, d⟩] := by unfold fl; rw [if_pos hp0]
        have e2 : fl L (d ++ t.Data) = L ++ [⟨1, 0, 0, d ++ t.Data⟩] := by unfold fl; rw [if_pos (by rw [List.length_append]; omega)]
        rw [e1, e2, decide_eq_true hd0, decide_eq_true hne, ct]
        have hin : inR (IntKind.i64.wrap (((L ++ [(⟨1, 0, 0, d⟩ : GTok)]).length : Int) - 1)) (L ++ [(⟨1, 0, 0, d⟩ : GTok)]).length = some L.length := by
          have hl2 : (L ++ [(⟨1, 0, 0, d⟩ : GTok)]).length = L.length + 1 := by simp
          rw [i64w _ (by omega), show ((L ++ [(⟨1, 0, 0, d⟩ : GTok)]).length : Int) - 1 = (L.length : Int) by omega]
          exact inR_nat _ _ (by omega)
        have hg : (L ++ [(⟨1, 0, 0, d⟩ : GTok)])[L.length]? = some ⟨1, 0, 0, d⟩ := by simp
        rw [hin, bs, hg, bs]
        have hct : cat? d t.Data = some (d ++ t.Data) := cat_ok _ _ (by omega)
        simp only
        rw [hct, bs, bs, hg, bs, set_last, bs]
  · rw [if_neg hk, decide_eq_false hk, Bool.not_false, ct, app_ok 40 _ _ (by simp; omega), bs]
    have e1 : fl (fl L d ++ [t]) [] = fl L d ++ [t] := by unfold fl; rw [if_neg (by simp)]
    simp only
    rw [e1]
    simp
theorem merge_all (l : List GTok) (hn : l.length ≤ 1048576) (hw : Ws l) : ∀ (suf pre : List GTok) (L : List GTok) (d : List UInt8), l = pre ++ suf → L.length ≤ 2 * pre.length → d.length ≤ 1048576 * pre.length →
    loopO (f15_l0 l) (fl L d, decide (d ≠ []), (pre.length : Int)) = some (fl (suf.foldl rdT (L, d)).1 (suf.foldl rdT (L, d)).2)
  | [], pre, L, d, e, h1, h2 => loopO_done (by
      subst e
      unfold f15_l0 f15_l0_j1
      simp only [lt_end, cond_false, List.foldl_nil])
  | t :: q, pre, L, d, e, h1, h2 => by
    have hp : pre.length < 1048576 := by rw [e] at hn; simp at hn; omega
    obtain ⟨d1, d2, d3⟩ := hw t (by rw [e]; simp)
    have hr := rd_len (L, d) t
    simp only at hr
    have ih := merge_all l hn hw q (pre ++ [t]) (rdT (L, d) t).1 (rdT (L, d) t).2 (by simp [e]) (by simp; omega) (by simp; omega)
    rw [List.foldl_cons]
    refine loopO_next ?_ ih
    rw [e]
    exact merge_one L d pre t q d3 d1 (by omega) (by omega) (by omega)
theorem iacBack (l : List GTok) (hn : l.length ≤ 1048576) (hd : ∀ t ∈ l, t.Data.length ≤ 1048576) : f4 l = some true := by
  unfold f4
  have h0 := back_loop l hd hn l [] rfl
  have h0 : loopO (f4_l1 l) ([], [], 0) = some (bytes l, wants l) := h0
  rw [h0, bs]
  unfold f4_j0
  have hwl := wants_len l
  have hws := wants_ws l hd
  obtain ⟨s', g1, g2, g3, g4, g5⟩ := feed_all zW (wants l) [] (initS zW) 0 hws ⟨rfl, rfl, rfl, rfl, rfl⟩ (by omega) (by simp [initS]) (by simp [initS]) (by simp)
  have g5 : loopO (f12_l2 zW (bytes l)) (0, 0, 0, [], false, [], [], [], 0) = some s'.t := g5
  have hs : small s' (1048576 * 1048576 + 2 * 1048576) := ⟨by omega, by omega, by rw [g1.2.2.2.1]; simp⟩
  obtain ⟨e, _⟩ := flush_small s' _ hs (by omega)
  have hF : f12 zW (bytes l) = some (zW, fl s'.l s'.data, 0) := by
    unfold f12
    rw [zW_ok, bs, decide_eq_true rfl, Bool.not_true, cf]
    unfold f12_j0
    have hc : chk (decide (zW.Buf.length ≤ 140737488355328)) = some () := by unfold chk; rw [if_pos (decide_eq_true (by show (0 : Nat) ≤ _; omega))]
    rw [hc, bs]
    have g5 : loopO (f12_l2 zW (bytes l)) (zW.Mode, zW.Cmd, zW.Opt, zW.Buf, zW.Over, zW.Buf, [], [], 0) = some s'.t := g5
    rw [g5, bs]
    unfold f12_j1
    simp only [RS.t] at e ⊢
    rw [e, bs, ← flush_l]
    obtain ⟨q1, q2, q3, q4, q5⟩ := g1
    have m1 : (flushS s').mode = s'.mode ∧ (flushS s').cmd = s'.cmd ∧ (flushS s').opt = s'.opt ∧ (flushS s').over = s'.over ∧ (flushS s').buf = s'.buf := by unfold flushS; split <;> exact ⟨rfl, rfl, rfl, rfl, rfl⟩
    obtain ⟨m1, m2, m3, m4, m5⟩ := m1
    simp only [m1, m2, m3, m4, m5, q1, q2, q3, q4, q5]
    rfl
  have hF : f12 (GWire.mk 0 0 0 [] false) (bytes l) = some (zW, fl s'.l s'.data, 0) := hF
  have hM : f15 (wants l) = some (fl s'.l s'.data) := by
    unfold f15
    have h := merge_all (wants l) (by omega) hws (wants l) [] [] [] rfl (by simp) (by simp)
    have h : loopO (f15_l0 (wants l)) ([], false, 0) = some (fl ((wants l).foldl rdT ([], [])).1 ((wants l).foldl rdT ([], [])).2) := h
    have g2 : (s'.l, s'.data) = (wants l).foldl rdT ([], []) := g2
    rw [h, bs, ← g2]
  rw [hF, bs, lives, bs, ct]
  simp only [zW, decide_true, Bool.and_true, cond_true]
  rw [hM, bs]
  have hfl : (fl s'.l s'.data).length ≤ 100000000 := by
    unfold fl; split
    · simp; omega
    · omega
  rw [toks_big_ _ (by omega), bs]
theorem IacBack_walk (v0 : Value) (w : World) (h0 : Arg (some 1048576) Go.Proofs.Tryd.prog w 48 v0) (hsh : w.ShapedOpen Go.Proofs.Tryd.prog) : Calls Go.Proofs.Tryd.prog 4 #[v0] w fun e w' => e = .returned (.bool true) ∧ Below w.heap.size w w' :=
  IacBack_calls (some 1048576) (fun l h => iacBack l h.1 (fun t ht => (h.2 t ht).2.2.2.2)) v0 w h0 (maxcell hsh)
end Go.Proofs.YthblnlmpfgfgcaaDoor.Pm
