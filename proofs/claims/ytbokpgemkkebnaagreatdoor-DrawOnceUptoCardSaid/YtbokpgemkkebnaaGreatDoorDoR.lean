/- Draw: a row is drawn, and all of them. -/
import Derived.Test.YtbokpgemkkebnaaGreatDoorDoS
namespace Go.Proofs.YtbokpgemkkebnaaGreatDoor.Dr
open Go.Proofs.YtbokpgemkkebnaaGreatDoor.Pm
open Go.Proofs.YtbokpgemkkebnaaGreatDoor.Pr (Fed fed_print)
open Go.Proofs.YtbokpgemkkebnaaGreatDoor.Args
open Go.ChangeShapes Go.WideShapes Go.ChangeAt Go.RowKit
set_option linter.unusedVariables false
set_option linter.unusedSimpArgs false
set_option maxRecDepth 100000
theorem wd_rng {c : Int} (h : 0 < wd c) : (32 ≤ c ∧ c ≤ 1114111) ∧ ¬ (127 ≤ c ∧ c ≤ 159) := by
 have h0 : ¬ (c < 0 ∨ 1114111 < c) := fun q => by
  unfold wd at h; rw [if_pos (by rcases q with q | q; exact .inl q; exact .inr (.inl q))] at h; omega
 have h1 : ¬ c ≤ 31 := fun q => by have := wd_0 c 0 31 (by decide) (by omega) q; omega
 have h2 : ¬ (127 ≤ c ∧ c ≤ 159) := fun q => by have := wd_0 c 127 159 (by decide) q.1 q.2; omega
 exact ⟨by omega, h2⟩
theorem okB_at {g : Nat → GCell} {W i : Nat} (h : okB g W i = true) : pcB (g i).Pen = true ∧ ((g i).Rune ≠ 0 → 0 < wd (g i).Rune) ∧ loneF g W i = false := by
 unfold okB at h
 simp only [Bool.and_eq_true, Bool.or_eq_true, decide_eq_true_eq, Bool.not_eq_true', decide_eq_false_iff_not] at h
 refine ⟨h.1, fun h0 => ?_, h.2.2⟩
 have := wd_cases (g i).Rune
 rcases h.2.1 with q | q
 ·exact absurd q h0
 ·omega
theorem tl_at {g : Nat → GCell} {W k : Nat} (h : tlF g W k = true) : k < W ∧ (g k).Rune = 0 ∧ (g k).Pen = (g (k - 1)).Pen := by
 unfold tlF at h
 simp only [Bool.and_eq_true, decide_eq_true_eq] at h
 exact ⟨h.1, h.2.1, (peq_iff _ _).1 h.2.2⟩
theorem next_ne {g : Nat → GCell} {W i : Nat} (h : okB g W (i + 1) = true) (hw : wd (g i).Rune ≠ 2) : (g (i + 1)).Rune ≠ 0 := fun h0 => by
 have := ((notlone g W (i + 1)).1 (okB_at h).2.2).1 h0
 exact hw this.2.1
theorem next_tl {g : Nat → GCell} {W i : Nat} (h : okB g W i = true) (hw : wd (g i).Rune = 2) : i + 1 < W ∧ (g (i + 1)).Rune = 0 ∧ (g (i + 1)).Pen = (g i).Pen := by
 have := ((notlone g W i).1 (okB_at h).2.2).2 hw
 exact tl_at this
theorem put_step (W H n k : Nat) (c c' : List GCell) (g : Nat → GCell) (hc : c.length = W * H) (hn : n < H) (hW : W ≤ 160) (hk : k < W) (hg : ∀ i, i < W → okB g W i = true) (h0 : (g k).Rune ≠ 0) (hpre : ∀ j, j < k → rowF W c n j = g j)
  (hc' : c' = repL (putC c (n * W) k (g k).Rune (g k).Pen) (n * W) W) :
  c'.length = W * H ∧ (∀ j : Nat, (j : Int) < k + wd (g k).Rune → rowF W c' n j = g j) ∧ ∀ m, m < H → m ≠ n → ∀ j, j < W → rowF W c' m j = rowF W c m j := by
 have hwd := (okB_at (hg k hk)).2.1 h0
 have hw2 := wd_cases (g k).Rune
 have hlen : (putC c (n * W) k (g k).Rune (g k).Pen).length = W * H := by unfold putC; rw [mkL_len, hc]
 have hlen' : c'.length = W * H := by rw [hc', repL_len, hlen]
 have hput : ∀ j, j < W * H → cx (putC c (n * W) k (g k).Rune (g k).Pen) j = if j = n * W + (k + 1) ∧ wd (g k).Rune = 2 then ⟨0, (g k).Pen⟩ else if j = n * W + k then ⟨(g k).Rune, (g k).Pen⟩ else cx c j := fun j hj => by
  unfold putC
  rw [mkL_cx _ _ _ (by rw [hc]; exact hj)]
 -- the row, put but not repaired
 have hf : ∀ j : Nat, (j : Int) < k + wd (g k).Rune → j < W → cx (putC c (n * W) k (g k).Rune (g k).Pen) (n * W + j) = g j := fun j hj hjW => by
  rw [hput _ (mul_lt n H W j hn hjW)]
  by_cases e1 : j = k + 1
  ·subst e1
   have h2 : wd (g k).Rune = 2 := by omega
   rw [if_pos ⟨rfl, h2⟩]
   obtain ⟨_, t1, t2⟩ := next_tl (hg k hk) h2
   cases hx : g (k + 1) with
   | mk r p => rw [hx] at t1 t2; rw [← t1, ← t2]
  ·rw [if_neg (by omega)]
   by_cases e2 : j = k
   ·subst e2; rw [if_pos rfl]
   ·rw [if_neg (by omega)]
    exact hpre j (by omega)
 have hkW : (k : Int) + wd (g k).Rune ≤ W := by
  by_cases h2 : wd (g k).Rune = 2
  ·have := (next_tl (hg k hk) h2).1; omega
  ·omega
 refine ⟨hlen', fun j hj => ?_, fun m hm hne j hj => ?_⟩
 ·have hjW : j < W := by omega
  show cx c' (n * W + j) = g j
  rw [hc', repL_cx _ _ _ _ (by rw [hlen]; exact mul_lt n H W j hn hjW), if_pos (by omega), show n * W + j - n * W = j by omega]
  unfold repF
  have hl : loneF (fun i => cx (putC c (n * W) k (g k).Rune (g k).Pen) (n * W + i)) W j = false := by
   have hf' : ∀ i : Nat, (i : Int) < k + wd (g k).Rune → i < W → (fun i => cx (putC c (n * W) k (g k).Rune (g k).Pen) (n * W + i)) i = g i := hf
   generalize (fun i => cx (putC c (n * W) k (g k).Rune (g k).Pen) (n * W + i)) = f at hf' ⊢
   rw [notlone, hf' j hj hjW]
   have hgj := (notlone g W j).1 (okB_at (hg j hjW)).2.2
   refine ⟨fun q => ?_, fun q => ?_⟩
   ·obtain ⟨q1, q2, q3⟩ := hgj.1 q
    refine ⟨q1, by rw [hf' (j - 1) (by omega) (by omega)]; exact q2, ?_⟩
    unfold tlF at q3 ⊢
    rw [hf' j hj hjW, hf' (j - 1) (by omega) (by omega)]; exact q3
   ·have q3 := hgj.2 q
    have hj1 : (j + 1 : Int) < k + wd (g k).Rune := by
     rcases Nat.lt_trichotomy j k with hlt | rfl | hgt
     ·by_cases e : j + 1 = k
      ·have := (next_tl (hg j hjW) q).2.1
       rw [e] at this; exact absurd this h0
      ·omega
     ·rw [q]; omega
     ·have : j = k + 1 := by omega
      have h2 : wd (g k).Rune = 2 := by omega
      have := (next_tl (hg k hk) h2).2.1
      rw [‹j = k + 1›, this, wd0] at q
      omega
    have hjW1 := (tl_at q3).1
    unfold tlF at q3 ⊢
    rw [hf' (j + 1) (by omega) hjW1, show j + 1 - 1 = j from rfl, hf' j hj hjW]; exact q3
  rw [if_neg (by rw [hl]; decide)]
  exact hf j hj hjW
 ·have hx := mul_lt m H W j hm hj
  have hfar : ¬ (n * W ≤ m * W + j ∧ m * W + j < n * W + W) := fun q => by
   rcases Nat.lt_or_ge m n with h | h
   ·have := Nat.mul_le_mul_right W (show m + 1 ≤ n from h)
    rw [Nat.succ_mul] at this; omega
   ·have := Nat.mul_le_mul_right W (show n + 1 ≤ m by omega)
    rw [Nat.succ_mul] at this; omega
  show cx c' (m * W + j) = cx c (m * W + j)
  rw [hc', repL_cx _ _ _ _ (by rw [hlen]; exact hx), if_neg hfar, hput _ hx]
  have hkk : wd (g k).Rune = 2 → k + 1 < W := fun h2 => (next_tl (hg k hk) h2).1
  rw [if_neg (fun q => hfar (by have := hkk q.2; omega)), if_neg (fun q => hfar (by omega))]
noncomputable def run : List GAct → Gterminal → Option Gterminal
 | [], t => some t
 | x :: xs, t => (f35 x t).bind (run xs)
theorem run_app : ∀ (xs ys : List GAct) (t u : Gterminal), run xs t = some u → run (xs ++ ys) t = run ys u
 | [], ys, t, u, h => by cases h; rfl
 | x :: xs, ys, t, u, h => by
  have h' : (f35 x t).bind (run xs) = some u := h
  show (f35 x t).bind (run (xs ++ ys)) = _
  cases hz : f35 x t with
  | none => rw [hz] at h'; cases h'
  | some z =>
   rw [hz, bs] at h'
   rw [bs]; exact run_app xs ys z u h'
def Good (x : GAct) : Prop := x.Args.length ≤ 20 ∧ x.Text = [] ∧ ∀ n ∈ x.Args, -1 ≤ n ∧ n ≤ 16383
def Sim (a : GScreen) (out : List Int) (t : Gterminal) : Prop := ∃ acts, Fed out acts ∧ acts.length ≤ out.length ∧ (∀ x ∈ acts, Good x) ∧ run acts ⟨a, []⟩ = some t
theorem Sim.nil (a : GScreen) : Sim a [] ⟨a, []⟩ := ⟨[], Fed.nil, Nat.le_refl _, fun x hx => (by cases hx), rfl⟩
theorem fed_ne {u : List Int} {x : GAct} (h : Fed u [x]) : 1 ≤ u.length := by
 cases u with
 | nil =>
  have := h [] (by simp)
  have h2 : (some (Pr.gr []) : Option Pr.T6) = some (Pr.gr [x]) := this
  have h3 := congrArg (fun o : Option Pr.T6 => o.map fun z => z.2.2.2.2.2.length) h2
  cases h3
 | cons c t => simp
theorem Sim.step {a : GScreen} {out u : List Int} {t t' : Gterminal} {x : GAct} (h : Sim a out t) (hf : Fed u [x]) (hg : Good x) (ha : f35 x t = some t') : Sim a (out ++ u) t' := by
 obtain ⟨acts, h1, h2, h3, h4⟩ := h
 have := fed_ne hf
 refine ⟨acts ++ [x], h1.app hf, by simp; omega, fun y hy => ?_, ?_⟩
 ·rcases List.mem_append.1 hy with hy | hy
  ·exact h3 y hy
  ·rw [List.mem_singleton.1 hy]; exact hg
 ·rw [run_app _ _ _ _ h4]
  show (f35 x t).bind (run []) = _
  rw [ha, bs]; rfl
theorem good_sm {l : List Int} (code : Int) (h : Sm l) (hl : l.length ≤ 20) : Good ⟨4, code, 0, [], l, []⟩ := ⟨hl, rfl, fun n hn => by have := h n hn; omega⟩
def At (g : Nat → GCell) (W i k : Nat) : Prop := (i < W ∧ (g i).Rune = 0 ∧ k = i + 1) ∨ ((i < W → (g i).Rune ≠ 0) ∧ k = i)
theorem to_sim {a : GScreen} (p q : GPen) (hp : pcB p = true) (hq : pcB q = true) (out : List Int) (ho : out.length ≤ 10000000) {c : List GCell} {r k : Int} {lt : Bool} (h : Sim a out (TT a c r k lt p)) :
  ∃ o, f13 q p.Flags p.Fore p.Back out = some (o, q.Flags, q.Fore, q.Back) ∧ Sim a o (TT a c r k lt q) ∧ o.length ≤ out.length + 83 := by
 obtain ⟨o, e, hh⟩ := to_ok p q hp hq out ho
 refine ⟨o, e, ?_⟩
 rcases hh with ⟨rfl, rfl⟩ | ⟨l, t, rfl, hf, tl, h0, hl, h20, hs⟩
 ·exact ⟨h, by omega⟩
 ·exact ⟨h.step hf (good_sm 109 hl h20) (act_m a c r k lt p q l h0 hl hs), by simp; omega⟩
section
variable {a : GScreen} {W H : Nat} (ok : Ok a W H)
include ok
theorem signs_ok (b : GScreen) (n : Nat) (hn : n < H) (bc : List GCell) (hbc : bc.length = W * H) (hR : Rt W H bc) (c : List GCell) (hc : c.length = W * H) (p : GPen) (hp : pcB p = true) (out : List Int) (ho : out.length ≤ 2000000) (hS : Sim a out (TT a c n 0 false p)) :
  ∃ (o : List Int) (q : GPen) (c' : List GCell) (k' : Int) (lt' : Bool), loopO (f5_l2_l6 a b) (out, p.Flags, p.Fore, p.Back, (n : Int), rowL W bc n, ((rowL W bc n).length : Int), 0) = some (o, q.Flags, q.Fore, q.Back, (n : Int)) ∧ pcB q = true ∧ Sim a o (TT a c' n k' lt' q) ∧ c'.length = W * H ∧
   (∀ j, j < W → rowF W c' n j = rowF W bc n j) ∧ (∀ m, m < H → m ≠ n → ∀ j, j < W → rowF W c' m j = rowF W c m j) ∧ o.length ≤ out.length + 84 * W := by
 have hw := ok.w
 have hll := rowL_len W H bc n hbc hn
 have hg := hR n hn
 have hx : ∀ i, i < W → cx (rowL W bc n) i = rowF W bc n i := fun i hi => rowL_cx W H bc n i hbc hn hi
 generalize hgd : rowF W bc n = g at hg hx
 generalize rowL W bc n = l at hll hx
 obtain ⟨r, hr, h1⟩ := loopO_ind (body := f5_l2_l6 a b) (fun z (x : List Int × Int × Int × Int × Int × List GCell × Int × Int) => ∃ (i k : Nat) (q : GPen) (c' : List GCell) (k' : Int) (lt' : Bool), x = (x.1, q.Flags, q.Fore, q.Back, (n : Int), l, (l.length : Int), (i : Int)) ∧ i ≤ W ∧ z = W - i ∧ At g W i k ∧ pcB q = true ∧ Sim a x.1 (TT a c' n k' lt' q) ∧ (k < W → k' = (k : Int) ∧ lt' = false) ∧ c'.length = W * H ∧
   (∀ j, j < k → j < W → rowF W c' n j = g j) ∧ (∀ m, m < H → m ≠ n → ∀ j, j < W → rowF W c' m j = rowF W c m j) ∧ x.1.length ≤ out.length + 84 * i)
  (fun (r : List Int × Int × Int × Int × Int) => ∃ (q : GPen) (c' : List GCell) (k' : Int) (lt' : Bool), r = (r.1, q.Flags, q.Fore, q.Back, (n : Int)) ∧ pcB q = true ∧ Sim a r.1 (TT a c' n k' lt' q) ∧ c'.length = W * H ∧ (∀ j, j < W → rowF W c' n j = g j) ∧ (∀ m, m < H → m ≠ n → ∀ j, j < W → rowF W c' m j = rowF W c m j) ∧ r.1.length ≤ out.length + 84 * W) (by
  rintro z ⟨o, x2, x3, x4, x5, x6, x7, x8⟩ ⟨i, k, q, c', k', lt', hxe, hi, rfl, hat, hq, hSim, hk', hc', hpre, hoth, hol⟩
  cases hxe
  try dsimp only [] at hSim hol
  unfold f5_l2_l6
  try dsimp only []
  by_cases hlt : i < W
  ·left
   rw [bct (dt (by omega))]
   unfold f5_l2_l6_j7 f5_l2_l6_j8
   rw [ct, inR_nat i _ (by omega), bs, cx_get _ _ (by omega), bs, wr1 i (by omega), hx i hlt]
   rcases hat with ⟨_, h0, rfl⟩ | ⟨h0, rfl⟩
   ·rw [dt h0, Bool.not_true, cf]
    refine ⟨_, W - (i + 1), rfl, by omega, i + 1, i + 1, q, c', k', lt', rfl, by omega, rfl, .inr ⟨fun h => ?_, rfl⟩, hq, hSim, hk', hc', hpre, hoth, by show o.length ≤ _; omega⟩
    exact next_ne (hg _ h) (by rw [h0, wd0]; decide)
   ·have h0 := h0 hlt
    obtain ⟨hpen, hwd, _⟩ := okB_at (hg k hlt)
    have hwd := hwd h0
    obtain ⟨rfl, rfl⟩ := hk' hlt
    obtain ⟨o2, e2, hS2, l2⟩ := to_sim q (g k).Pen hq hpen o (by omega) hSim
    rw [df h0, Bool.not_false, ct, e2, bs, app_ok 8 _ _ (by simp; omega), bs]
    have hkw : (k : Int) + wd (g k).Rune ≤ W := by
     rcases wd_cases (g k).Rune with e | e | e
     ·omega
     ·omega
     ·have := (next_tl (hg k hlt) e).1; omega
    obtain ⟨k2, lt2, e3, h3⟩ := act_p ok c' n k (g k).Pen (g k).Rune hc' hn hwd hkw
    obtain ⟨p1, p2, p3⟩ := put_step W H n k c' _ g hc' hn hw.2 hlt hg h0 (fun j hj => hpre j hj (by omega)) rfl
    obtain ⟨w1, w2⟩ := wd_rng hwd
    have hS3 := hS2.step (fed_print _ w1 w2) (x := ⟨1, (g k).Rune, 0, [], [], []⟩) ⟨by simp, rfl, fun n hn => by cases hn⟩ e3
    have hoth' : ∀ m, m < H → m ≠ n → ∀ j, j < W → rowF W (repL (putC c' (n * W) k (g k).Rune (g k).Pen) (n * W) W) m j = rowF W c m j := fun m hm hne j hj => (p3 m hm hne j hj).trans (hoth m hm hne j hj)
    rcases wd_cases (g k).Rune with e | e | e
    ·omega
    ·refine ⟨_, W - (k + 1), rfl, by omega, k + 1, k + 1, (g k).Pen, _, k2, lt2, rfl, by omega, rfl, .inr ⟨fun h => next_ne (hg _ h) (by rw [e]; decide), rfl⟩, hpen, hS3, fun h => ?_, p1, fun j hj hjW => p2 j (by omega), hoth', by simp; omega⟩
     have := h3 (by omega)
     exact ⟨by omega, this.2⟩
    ·obtain ⟨t1, t2, t3⟩ := next_tl (hg k hlt) e
     refine ⟨_, W - (k + 1), rfl, by omega, k + 1, k + 2, (g k).Pen, _, k2, lt2, rfl, by omega, rfl, .inl ⟨t1, t2, rfl⟩, hpen, hS3, fun h => ?_, p1, fun j hj hjW => p2 j (by omega), hoth', by simp; omega⟩
     have := h3 (by omega)
     exact ⟨by omega, this.2⟩
  ·right
   have : i = W := by omega
   subst this
   rw [bcf (df (by omega))]
   unfold f5_l2_l6_j7
   rw [cf]
   have hk : k = i := by
    rcases hat with ⟨h, _⟩ | ⟨_, h⟩
    ·omega
    ·exact h
   exact ⟨_, rfl, q, c', k', lt', rfl, hq, hSim, hc', fun j hj => hpre j (by omega) hj, hoth, hol⟩) (n := W) (x := (out, p.Flags, p.Fore, p.Back, (n : Int), l, (l.length : Int), 0)) (by
   by_cases h : 0 < W ∧ (g 0).Rune = 0
   · -- no row begins with a second half
    have := ((notlone g W 0).1 (okB_at (hg 0 h.1)).2.2).1 h.2
    exact absurd rfl this.1
   ·exact ⟨0, 0, p, c, 0, false, rfl, by omega, by omega, .inr ⟨fun q1 q2 => h ⟨q1, q2⟩, rfl⟩, hp, hS, fun _ => ⟨rfl, rfl⟩, hc, fun j hj => by omega, fun m _ _ j _ => rfl, by show out.length ≤ _; omega⟩)
 obtain ⟨q, c', k', lt', e, q1, q2, q3, q4, q5, q6⟩ := h1
 obtain ⟨o, x2, x3, x4, x5⟩ := r
 cases e
 exact ⟨o, q, c', k', lt', hr, q1, q2, q3, q4, q5, q6⟩
end
end Go.Proofs.YtbokpgemkkebnaaGreatDoor.Dr
