/- Iac: however bytes are cut, the same is told. -/
import Derived.Test.YtjndlncimgoacaaDoorIcR
namespace Go.Proofs.YtjndlncimgoacaaDoor.Pm
open Go.Proofs.YtjndlncimgoacaaDoor.Args
open Go.ChangeShapes Go.WideShapes Go.ChangeAt Go.RowKit
set_option linter.unusedVariables false
set_option linter.unusedSimpArgs false
set_option maxRecDepth 100000
set_option maxHeartbeats 2000000
/-- Data that waits, told. -/
def fl (l : List GTok) (d : List UInt8) : List GTok := if 0 < d.length then l ++ [⟨1, 0, 0, d⟩] else l
/-- What is told behind it, joined. -/
def jo (l1 : List GTok) (d1 : List UInt8) : List GTok → List GTok
  | [] => fl l1 d1
  | t :: q => if t.Kind = 1 then l1 ++ ⟨1, 0, 0, d1 ++ t.Data⟩ :: q else fl l1 d1 ++ t :: q
theorem jo_app (l1 : List GTok) (d1 : List UInt8) (m r : List GTok) (h : m ≠ []) : jo l1 d1 (m ++ r) = jo l1 d1 m ++ r := by
  cases m with
  | nil => exact absurd rfl h
  | cons t q =>
    simp only [List.cons_append, jo]
    split <;> simp
theorem fl_app (l : List GTok) (d : List UInt8) : ∃ r, fl l d = l ++ r ∧ ∀ l', fl l' d = l' ++ r := by
  unfold fl
  by_cases h : 0 < d.length
  · exact ⟨[⟨1, 0, 0, d⟩], by rw [if_pos h], fun l' => by rw [if_pos h]⟩
  · exact ⟨[], by rw [if_neg h]; simp, fun l' => by rw [if_neg h]; simp⟩
theorem flush_l (s : RS) : (flushS s).l = fl s.l s.data := by unfold flushS fl; split <;> rfl
theorem jo_fl (l1 : List GTok) (d1 d : List UInt8) : jo l1 d1 (fl [] d) = fl l1 (d1 ++ d) := by
  by_cases h : 0 < d.length
  · unfold fl
    rw [if_pos h, if_pos (by rw [List.length_append]; omega)]
    simp only [List.nil_append, jo]
    rw [if_pos trivial]
  · have : d = [] := List.eq_nil_of_length_eq_zero (by omega)
    subst this
    rw [List.append_nil]; rfl
structure Sm (l1 : List GTok) (d1 : List UInt8) (s s' : RS) : Prop where
  mode : s'.mode = s.mode
  cmd : s'.cmd = s.cmd
  opt : s'.opt = s.opt
  over : s'.over = s.over
  buf : s'.buf = s.buf
  tok : (s'.l = [] ∧ s.l = l1 ∧ s.data = d1 ++ s'.data) ∨ (s'.l ≠ [] ∧ s.l = jo l1 d1 s'.l ∧ s.data = s'.data)
theorem sm_flush {l1 : List GTok} {d1 : List UInt8} {s s' : RS} (h : Sm l1 d1 s s') : (flushS s).l = jo l1 d1 (flushS s').l := by
  rw [flush_l, flush_l]
  rcases h.tok with ⟨a, b, c⟩ | ⟨a, b, c⟩
  · rw [a, b, c, jo_fl]
  · obtain ⟨r, e1, e2⟩ := fl_app s'.l s'.data
    rw [c, e1, b, e2, jo_app l1 d1 _ _ a]
theorem sm_tok {l1 : List GTok} {d1 : List UInt8} {s s' : RS} (h : Sm l1 d1 s s') (t : GTok) (hk : t.Kind ≠ 1) : Sm l1 d1 (tokS t s) (tokS t s') := by
  refine ⟨h.mode, h.cmd, h.opt, h.over, h.buf, .inr ⟨?_, ?_, ?_⟩⟩
  · show (flushS s').l ++ [t] ≠ []; simp
  · show (flushS s).l ++ [t] = jo l1 d1 ((flushS s').l ++ [t])
    rw [sm_flush h]
    by_cases hm : (flushS s').l = []
    · rw [hm]
      simp only [List.nil_append, jo]
      rw [if_neg hk]
    · rw [jo_app _ _ _ _ hm]
  · show (flushS s).data = (flushS s').data
    rw [flush_nil, flush_nil]
theorem sm_sub {l1 : List GTok} {d1 : List UInt8} {s s' : RS} (h : Sm l1 d1 s s') (c : UInt8) : Sm l1 d1 (subS c s) (subS c s') := by
  unfold subS
  rw [h.buf, h.over]
  by_cases h1 : s.buf.length = 4096
  · rw [if_pos h1, if_pos h1]; exact ⟨h.mode, h.cmd, h.opt, rfl, rfl, h.tok⟩
  · rw [if_neg h1, if_neg h1]
    by_cases h2 : s.over = true
    · rw [if_pos h2, if_pos h2]; exact h
    · rw [if_neg h2, if_neg h2]; exact ⟨h.mode, h.cmd, h.opt, rfl, rfl, h.tok⟩
theorem sm_add {l1 : List GTok} {d1 : List UInt8} {s s' : RS} (h : Sm l1 d1 s s') (c : UInt8) : Sm l1 d1 (addData s c) (addData s' c) := by
  refine ⟨h.mode, h.cmd, h.opt, h.over, h.buf, ?_⟩
  rcases h.tok with ⟨a, b, e⟩ | ⟨a, b, e⟩
  · exact .inl ⟨a, b, by show s.data ++ [c] = d1 ++ (s'.data ++ [c]); rw [e]; simp⟩
  · exact .inr ⟨a, b, by show s.data ++ [c] = s'.data ++ [c]; rw [e]⟩
theorem sm_mode {l1 : List GTok} {d1 : List UInt8} {s s' : RS} (h : Sm l1 d1 s s') (m : Int) : Sm l1 d1 (setMode s m) (setMode s' m) := ⟨rfl, h.cmd, h.opt, h.over, h.buf, h.tok⟩
theorem sm_step {l1 : List GTok} {d1 : List UInt8} {s s' : RS} (h : Sm l1 d1 s s') (c : UInt8) : Sm l1 d1 (stepS s c) (stepS s' c) := by
  unfold stepS
  rw [h.mode]
  by_cases m0 : s.mode = 0
  · rw [if_pos m0, if_pos m0]
    by_cases c1 : c.toNat = 255
    · rw [if_pos c1, if_pos c1]; exact sm_mode h 1
    · rw [if_neg c1, if_neg c1]; exact sm_add h c
  rw [if_neg m0, if_neg m0]
  by_cases m1 : s.mode = 1
  · rw [if_pos m1, if_pos m1]
    unfold cmdS
    by_cases c1 : c.toNat = 255
    · rw [if_pos c1, if_pos c1]; exact sm_add (sm_mode h 0) c
    rw [if_neg c1, if_neg c1]
    by_cases c2 : 251 ≤ c.toNat
    · rw [if_pos c2, if_pos c2]; exact ⟨rfl, rfl, h.opt, h.over, h.buf, h.tok⟩
    rw [if_neg c2, if_neg c2]
    by_cases c3 : c.toNat = 250
    · rw [if_pos c3, if_pos c3]; exact sm_mode h 3
    rw [if_neg c3, if_neg c3]
    by_cases c4 : 240 ≤ c.toNat
    · rw [if_pos c4, if_pos c4]; exact sm_tok (sm_mode h 0) _ (show ¬ (2 : Int) = 1 by decide)
    · rw [if_neg c4, if_neg c4]; exact sm_tok (sm_mode h 0) _ (show ¬ (5 : Int) = 1 by decide)
  rw [if_neg m1, if_neg m1]
  by_cases m2 : s.mode = 2
  · rw [if_pos m2, if_pos m2, h.cmd]
    have g := sm_tok h ⟨3, s.cmd, (c.toNat : Int), []⟩ (show ¬ (3 : Int) = 1 by decide)
    exact ⟨rfl, rfl, h.opt, h.over, h.buf, g.tok⟩
  rw [if_neg m2, if_neg m2]
  by_cases m3 : s.mode = 3
  · rw [if_pos m3, if_pos m3]; exact ⟨rfl, h.cmd, rfl, h.over, h.buf, h.tok⟩
  rw [if_neg m3, if_neg m3]
  by_cases m4 : s.mode = 4
  · rw [if_pos m4, if_pos m4]
    by_cases c1 : c.toNat = 255
    · rw [if_pos c1, if_pos c1]; exact sm_mode h 5
    · rw [if_neg c1, if_neg c1]; exact sm_sub h c
  rw [if_neg m4, if_neg m4]
  by_cases c1 : c.toNat = 255
  · rw [if_pos c1, if_pos c1]; exact sm_sub (sm_mode h 4) c
  · rw [if_neg c1, if_neg c1]
    have e : endT c s' = endT c s := by unfold endT; rw [h.over, h.opt, h.buf]
    have hk : (endT c s).Kind ≠ 1 := by
      unfold endT
      split
      · split
        · exact (show ¬ (5 : Int) = 1 by decide)
        · exact (show ¬ (4 : Int) = 1 by decide)
      · exact (show ¬ (5 : Int) = 1 by decide)
    have g := sm_tok h (endT c s) hk
    unfold endS
    rw [e]
    exact ⟨rfl, rfl, rfl, rfl, rfl, g.tok⟩
theorem sm_fold {l1 : List GTok} {d1 : List UInt8} : ∀ (x : List UInt8) (s s' : RS), Sm l1 d1 s s' → Sm l1 d1 (x.foldl stepS s) (x.foldl stepS s')
  | [], s, s', h => h
  | c :: x, s, s', h => sm_fold x _ _ (sm_step h c)
/-- No token is longer than what came. -/
def Ld (n : Nat) (s : RS) : Prop := s.data.length ≤ n ∧ ∀ t ∈ s.l, t.Data.length ≤ n + 5000
theorem ld_tok (n : Nat) (t : GTok) (s : RS) (h : Ld n s) (ht : t.Data.length ≤ 5000) : (tokS t s).data.length ≤ n + 1 ∧ ∀ u ∈ (tokS t s).l, u.Data.length ≤ n + 1 + 5000 := by
  obtain ⟨h1, h2⟩ := h
  refine ⟨by show (flushS s).data.length ≤ _; rw [flush_nil]; simp, fun u hu => ?_⟩
  have hu : u ∈ (flushS s).l ++ [t] := hu
  rw [flush_l] at hu
  rcases List.mem_append.1 hu with hu | hu
  · unfold fl at hu
    split at hu
    · rcases List.mem_append.1 hu with hu | hu
      · have := h2 u hu; omega
      · rw [List.mem_singleton] at hu; subst hu; simp only; omega
    · have := h2 u hu; omega
  · rw [List.mem_singleton] at hu; subst hu; omega
theorem ld_step (n : Nat) (s : RS) (c : UInt8) (h : Ld n s) (hb : s.buf.length ≤ 4096) : Ld (n + 1) (stepS s c) := by
  have same : ∀ s' : RS, s'.data = s.data → s'.l = s.l → Ld (n + 1) s' := fun s' a b => ⟨by rw [a]; have := h.1; omega, fun t ht => by rw [b] at ht; have := h.2 t ht; omega⟩
  have add : ∀ s' : RS, s'.data = s.data ++ [c] → s'.l = s.l → Ld (n + 1) s' := fun s' a b => ⟨by rw [a]; have := h.1; simp; omega, fun t ht => by rw [b] at ht; have := h.2 t ht; omega⟩
  have sub : ∀ s' : RS, s'.data = s.data → s'.l = s.l → (subS c s').data = s.data ∧ (subS c s').l = s.l := fun s' a b => by
    unfold subS
    split
    · exact ⟨a, b⟩
    · split <;> exact ⟨a, b⟩
  unfold stepS
  split
  · split
    · exact same _ rfl rfl
    · exact add _ rfl rfl
  split
  · unfold cmdS
    split
    · exact add _ rfl rfl
    split
    · exact same _ rfl rfl
    split
    · exact same _ rfl rfl
    split
    · exact ld_tok n _ (setMode s 0) h (Nat.zero_le _)
    · exact ld_tok n _ (setMode s 0) h (Nat.zero_le _)
  split
  · exact ld_tok n ⟨3, s.cmd, (c.toNat : Int), []⟩ s h (Nat.zero_le _)
  split
  · exact same _ rfl rfl
  split
  · split
    · exact same _ rfl rfl
    · obtain ⟨a, b⟩ := sub s rfl rfl
      exact same _ a b
  · split
    · obtain ⟨a, b⟩ := sub (setMode s 4) rfl rfl
      exact same _ a b
    · have ht : (endT c s).Data.length ≤ 5000 := by
        unfold endT
        split
        · split
          · exact Nat.zero_le _
          · show s.buf.length ≤ 5000; omega
        · exact Nat.zero_le _
      exact ld_tok n (endT c s) s h ht
theorem ld_fold : ∀ (x : List UInt8) (s : RS) (n : Nat), small s n → s.buf.length ≤ 4096 → n + x.length ≤ 100000000 → Ld n s → Ld (n + x.length) (x.foldl stepS s)
  | [], s, n, _, _, _, h => h
  | c :: x, s, n, hs, hb, hn, h => by
    simp only [List.length_cons] at hn
    obtain ⟨_, q, r⟩ := step_ok c s n hs hb (by omega)
    rw [show n + (c :: x).length = n + 1 + x.length by simp; omega]
    exact ld_fold x _ (n + 1) q r (by omega) (ld_step n s c h hb)
theorem fl_can (l : List GTok) (d : List UInt8) (h1 : Can false l) (h2 : opE false l = false) : Can false (fl l d) := by
  unfold fl
  split
  · rename_i hp
    refine (can_app l _ false).2 ⟨h1, ?_⟩
    rw [h2]
    unfold Can
    rw [if_pos rfl]
    exact ⟨⟨fun e => by simp only at e; rw [e] at hp; simp at hp, rfl, rfl, rfl⟩, trivial⟩
  · exact h1
theorem set_last (p : List GTok) (x y : GTok) : (p ++ [x]).set p.length y = p ++ [y] := by
  rw [List.set_append_right _ _ (Nat.le_refl _)]; simp
theorem merge_join (P : List GTok) (D t : GTok) (q : List GTok) (hk : t.Kind = 1) (g1 : t.Data ≠ []) (hP : P.length ≤ 100000000) (hd : D.Data.length + t.Data.length ≤ 1000000000) :
    f13_l0 ((P ++ [D]) ++ t :: q) (P ++ [D], true, ((P ++ [D]).length : Int)) = some (.inl (P ++ [⟨D.Kind, D.Cmd, D.Opt, D.Data ++ t.Data⟩], true, (((P ++ [D]) ++ [t]).length : Int))) := by
  have hl2 : (P ++ [D]).length = P.length + 1 := by simp
  have hin : inR (IntKind.i64.wrap (((P ++ [D]).length : Int) - 1)) (P ++ [D]).length = some P.length := by
    rw [i64w _ (by omega), show ((P ++ [D]).length : Int) - 1 = (P.length : Int) by omega]
    exact inR_nat _ _ (by omega)
  have hg : (P ++ [D])[P.length]? = some D := by simp
  have hct : cat? D.Data t.Data = some (D.Data ++ t.Data) := cat_ok _ _ hd
  have hs : (P ++ [D]).set P.length ⟨D.Kind, D.Cmd, D.Opt, D.Data ++ t.Data⟩ = P ++ [⟨D.Kind, D.Cmd, D.Opt, D.Data ++ t.Data⟩] := set_last P D _
  have hlt := lt_mid (P ++ [D]) t q
  have hix := idx_mid (P ++ [D]) t q
  have hw := wrap_nx (P ++ [D]) t (by omega)
  generalize hQ : P ++ [D] = Q at *
  unfold f13_l0 f13_l0_j1 f13_l0_j2
  rw [show decide ((Q, true, (Q.length : Int)).2.2 < ((Q ++ t :: q).length : Int)) = true from hlt]
  simp only [ct]
  rw [hix]
  simp only [bs]
  rw [decide_eq_true hk, decide_eq_false g1]
  simp only [Bool.not_true, cf, ct]
  rw [hin]
  simp only [bs]
  rw [hg]
  simp only [bs]
  rw [hct]
  simp only [bs]
  rw [hs, hw]
/-- Merge over what was told in two goes. -/
theorem merge_two (l1 : List GTok) (d1 : List UInt8) (m : List GTok) (h1 : Can false l1) (h2 : opE false l1 = false) (hm : Can false m) (hl : l1.length + m.length ≤ 90000000) (hd : d1.length ≤ 100000000) (hd2 : ∀ t ∈ m, t.Data.length ≤ 100000000) :
    f13 (fl l1 d1 ++ m) = some (jo l1 d1 m) := by
  have hfl : (fl l1 d1).length ≤ l1.length + 1 := by unfold fl; split <;> simp
  cases m with
  | nil =>
    rw [List.append_nil]
    exact merge_same _ (fl_can l1 d1 h1 h2) (by simp at hl; omega)
  | cons t q =>
    simp only [List.length_cons] at hl
    by_cases hk : t.Kind = 1
    · have hm' := hm
      unfold Can at hm'
      rw [if_pos hk] at hm'
      obtain ⟨⟨g1, g2, g3, g4⟩, g5⟩ := hm'
      simp only [jo]
      rw [if_pos hk]
      by_cases hp : 0 < d1.length
      · have e : fl l1 d1 = l1 ++ [⟨1, 0, 0, d1⟩] := by unfold fl; rw [if_pos hp]
        rw [e]
        have hc : Can false (l1 ++ [⟨1, 0, 0, d1⟩]) := by rw [← e]; exact fl_can l1 d1 h1 h2
        have ho : opE false (l1 ++ [⟨1, 0, 0, d1⟩]) = true := by rw [opE_app]; simp [opE]
        unfold f13
        have hl2 : (l1 ++ [(⟨1, 0, 0, d1⟩ : GTok)]).length = l1.length + 1 := by simp
        have step : f13_l0 ((l1 ++ [⟨1, 0, 0, d1⟩]) ++ t :: q) (l1 ++ [⟨1, 0, 0, d1⟩], true, ((l1 ++ [(⟨1, 0, 0, d1⟩ : GTok)]).length : Int)) = some (.inl (l1 ++ [⟨1, 0, 0, d1 ++ t.Data⟩], true, (((l1 ++ [(⟨1, 0, 0, d1⟩ : GTok)]) ++ [t]).length : Int))) := by
          exact merge_join l1 ⟨1, 0, 0, d1⟩ t q hk g1 (by omega) (by have := hd2 t (List.mem_cons_self ..); simp only; omega)
        have last : loopO (f13_l0 (((l1 ++ [⟨1, 0, 0, d1⟩]) ++ [t]) ++ q ++ [])) (l1 ++ [⟨1, 0, 0, d1 ++ t.Data⟩], true, (((l1 ++ [(⟨1, 0, 0, d1⟩ : GTok)]) ++ [t]).length : Int)) = some (l1 ++ ⟨1, 0, 0, d1 ++ t.Data⟩ :: q) := by
          refine merge_run q [] ((l1 ++ [⟨1, 0, 0, d1⟩]) ++ [t]) (l1 ++ [⟨1, 0, 0, d1 ++ t.Data⟩]) true _ (by simp; omega) (by simp; omega) g5 ?_
          rw [List.append_nil]
          have := merge_done ((l1 ++ [⟨1, 0, 0, d1⟩]) ++ [t] ++ q) (l1 ++ [⟨1, 0, 0, d1 ++ t.Data⟩] ++ q) (opE true q)
          rw [show l1 ++ [⟨1, 0, 0, d1 ++ t.Data⟩] ++ q = l1 ++ ⟨1, 0, 0, d1 ++ t.Data⟩ :: q by simp] at this ⊢
          exact this
        have all := merge_run (l1 ++ [⟨1, 0, 0, d1⟩]) (t :: q) [] [] false (l1 ++ ⟨1, 0, 0, d1 ++ t.Data⟩ :: q) (by simp; omega) (by simp; omega) hc (by
          simp only [List.nil_append]
          rw [ho]
          refine loopO_next step ?_
          rw [show (l1 ++ [⟨1, 0, 0, d1⟩]) ++ t :: q = ((l1 ++ [⟨1, 0, 0, d1⟩]) ++ [t]) ++ q ++ [] by simp]
          exact last)
        simp only [List.nil_append, List.length_nil] at all
        rw [show (([], false, 0) : List GTok × Bool × Int) = ([], false, ((0 : Nat) : Int)) from rfl, all]; rfl
      · have hd0 : d1 = [] := List.eq_nil_of_length_eq_zero (by omega)
        subst hd0
        have e : fl l1 [] = l1 := by unfold fl; rw [if_neg (by simp)]
        rw [e, merge_same _ ((can_app l1 _ false).2 ⟨h1, by rw [h2]; exact hm⟩) (by simp; omega)]
        have ht : (⟨1, 0, 0, t.Data⟩ : GTok) = t := by
          obtain ⟨a, b, c, d⟩ := t
          simp only at hk g3 g4
          subst hk; subst g3; subst g4; rfl
        rw [List.nil_append, ht]
    · have hany : ∀ op, Can op (t :: q) := fun op => by
        unfold Can at hm ⊢
        rw [if_neg hk] at hm ⊢; exact hm
      simp only [jo]
      rw [if_neg hk]
      exact merge_same _ ((can_app _ _ false).2 ⟨fl_can l1 d1 h1 h2, hany _⟩) (by simp; omega)
theorem iacCuts (w : GWire) (a b : List UInt8) (ha : a.length ≤ 1048576) (hb' : b.length ≤ 1048576) : f6 w a b = some true := by
  rcases f15_iff w with ⟨hw, e⟩ | ⟨hw, e⟩
  · have hb := buf_ok w hw
    have sm := init_ok w hb
    have tl := fold_tl a (initS w) 0 sm hb (by omega) ⟨trivial, rfl⟩
    have iv := fold_iv a (initS w) hw
    have fw := fold_few w a hb (by omega)
    have ld := ld_fold a (initS w) 0 sm hb (by omega) ⟨by simp [initS], fun t ht => by simp [initS] at ht⟩
    have ssm := fold_small a (initS w) 0 sm hb (by omega)
    obtain ⟨x, hx⟩ : ∃ x, x = wireS (a.foldl stepS (initS w)) := ⟨_, rfl⟩
    have hxok : okW2 x := by rw [hx]; exact iv
    have ex : f15 x = some 0 := by
      rcases f15_iff x with ⟨_, e⟩ | ⟨n, _⟩
      · exact e
      · exact absurd hxok n
    have hxb := buf_ok x hxok
    have sm2 := init_ok x hxb
    have tl2 := fold_tl b (initS x) 0 sm2 hxb (by omega) ⟨trivial, rfl⟩
    have fw2 := fold_few x b hxb (by omega)
    have ld2 := ld_fold b (initS x) 0 sm2 hxb (by omega) ⟨by simp [initS], fun t ht => by simp [initS] at ht⟩
    have fw3 := fold_few w (a ++ b) hb (by rw [List.length_append]; omega)
    have sim : Sm (a.foldl stepS (initS w)).l (a.foldl stepS (initS w)).data (b.foldl stepS (a.foldl stepS (initS w))) (b.foldl stepS (initS x)) := by
      refine sm_fold b _ _ ⟨?_, ?_, ?_, ?_, ?_, .inl ⟨rfl, rfl, by simp [initS]⟩⟩ <;> rw [hx] <;> rfl
    have r1 := feed_ok w a e hb (by omega)
    have r2 := feed_ok x b ex hxb (by omega)
    have r3 := feed_ok w (a ++ b) e hb (by rw [List.length_append]; omega)
    rw [wire_flush] at r1 r2 r3
    rw [← hx] at r1
    rw [List.foldl_append] at r3 fw3
    have hwire : wireS (b.foldl stepS (a.foldl stepS (initS w))) = wireS (b.foldl stepS (initS x)) := by
      unfold wireS; rw [sim.mode, sim.cmd, sim.opt, sim.over, sim.buf]
    rw [hwire] at r3
    have hfl := sm_flush sim
    have cn2 := flush_can _ tl2
    have hm : ∀ t ∈ (flushS (b.foldl stepS (initS x))).l, t.Data.length ≤ 100000000 := fun t ht => by
      rw [flush_l] at ht
      unfold fl at ht
      split at ht
      · rcases List.mem_append.1 ht with ht | ht
        · have := ld2.2 t ht; omega
        · rw [List.mem_singleton] at ht; subst ht; have := ld2.1; simp only; omega
      · have := ld2.2 t ht; omega
    have hcat : cat? a b = some (a ++ b) := cat_ok a b (by omega)
    have hlen1 : (a.foldl stepS (initS w)).l.length ≤ 30000000 := by have := ssm.2.1; omega
    have mg := merge_two (a.foldl stepS (initS w)).l (a.foldl stepS (initS w)).data (flushS (b.foldl stepS (initS x))).l tl.1 tl.2 cn2 (by omega) (by have := ld.1; omega) hm
    rw [← flush_l, ← hfl] at mg
    generalize hL1 : (flushS (a.foldl stepS (initS w))).l = L1 at *
    generalize hL2 : (flushS (b.foldl stepS (initS x))).l = L2 at *
    generalize hL3 : (flushS (b.foldl stepS (a.foldl stepS (initS w)))).l = L3 at *
    generalize hY : wireS (b.foldl stepS (initS x)) = y at *
    unfold f6
    rw [r1, lives]
    simp only [bs, Bool.not_true, cf, decide_true]
    unfold f6_j0
    rw [r2]
    simp only [bs]
    rw [hcat]
    simp only [bs]
    rw [r3]
    simp only [bs, decide_true, ct, Bool.and_self]
    unfold f16
    rw [app_ok 40 [] L1 (by simp; omega)]
    simp only [bs, List.nil_append]
    rw [app_ok 40 L1 L2 (by omega)]
    simp only [bs]
    rw [mg]
    simp only [bs]
    rw [f12_big L3 (by omega)]
    simp only [bs]
  · unfold f6
    have : f8 w a = some (w, [], 4) := by
      unfold f8
      rw [e]; rfl
    rw [this, lives]
    simp only [bs, Bool.not_true, cf]
    rw [decide_eq_false (show ¬ (4 : Int) = 0 by decide)]
    simp only [Bool.not_false, ct]
    unfold f6_j1
    rw [lives]
    simp only [bs, ct, decide_true, Bool.and_self]
theorem IacCuts_walk (v0 v1 v2 : Value) (w : World) (h0 : Arg (some 1048576) Go.Proofs.Tryd.prog w 23 v0) (h1 : Arg (some 1048576) Go.Proofs.Tryd.prog w 9 v1) (h2 : Arg (some 1048576) Go.Proofs.Tryd.prog w 9 v2) (hsh : w.ShapedOpen Go.Proofs.Tryd.prog) : Calls Go.Proofs.Tryd.prog 6 #[v0, v1, v2] w fun e w' => e = .returned (.bool true) ∧ Below w.heap.size w w' :=
  IacCuts_calls (some 1048576) (fun w a b _ ha hb => iacCuts w a b (by have := ha.2; unfold FitN at this; omega) (by have := hb.2; unfold FitN at this; omega)) v0 v1 v2 w h0 h1 h2 (maxcell hsh)
end Go.Proofs.YtjndlncimgoacaaDoor.Pm
