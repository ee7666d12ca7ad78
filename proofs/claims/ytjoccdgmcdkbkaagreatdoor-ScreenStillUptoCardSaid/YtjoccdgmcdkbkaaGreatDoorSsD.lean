/- ScreenStill: the run, and the law. -/
import Derived.Test.YtjoccdgmcdkbkaaGreatDoorSsC
import Derived.Test.YtjoccdgmcdkbkaaGreatDoorDSsZ
namespace Go.Proofs.YtjoccdgmcdkbkaaGreatDoor.Pm
open Go.Proofs.YtjoccdgmcdkbkaaGreatDoor.Args
open Go.ChangeShapes Go.WideShapes Go.ChangeAt Go.RowKit
set_option linter.unusedVariables false
set_option linter.unusedSimpArgs false
set_option maxRecDepth 100000
theorem cloneC (l : List GCell) (h : l.length ≤ 1048576) : f60 l = some l := by
  unfold f60
  rw [app_ok _ _ _ (by simp; omega), bs]; rfl
theorem cloneG (g : GGrid) (h : g.Cells.length ≤ 1048576) : f54 g = some g := by
  unfold f54
  rw [cloneC _ h, bs]
theorem cloneA (l : List GAct) (h : l.length ≤ 1048576) : f19 l = some l := by
  unfold f19
  rw [app_ok _ _ _ (by simp; omega), bs]; rfl
structure SzS (s : GScreen) : Prop where
  g : s.Grid.Cells.length ≤ 1048576
  o : s.Other.Cells.length ≤ 1048576
  p : s.Past.length ≤ 1048576
  l : ∀ x ∈ s.Past, x.Cells.length ≤ 1048576
def LL0 : GLine := ⟨[]⟩
theorem cloneS (s : GScreen) (h : SzS s) : f36 s = some s := by
  unfold f36
  rw [cloneG _ h.g, bs, cloneG _ h.o, bs]
  have hp := h.p
  have hl := loop_to (body := f36_l0 s) (fun i => (s, s.Past.take i, (i : Int))) (s, s.Past) s.Past.length ?_ 0 (by omega) ?_
  · have hl' : loopO (f36_l0 s) ({ s with Grid := s.Grid, Other := s.Other }, [], 0) = some (s, s.Past) := hl
    rw [hl', bs]
  · unfold f36_l0 f36_l0_j1
    try dsimp only []
    rw [bcf (df (by omega)), cf, List.take_length]
  · intro i _ hi
    have hc : (s.Past.getD i LL0).Cells.length ≤ 1048576 := by
      have : s.Past.getD i LL0 = s.Past[i] := by simp [hi]
      rw [this]; exact h.l _ (List.getElem_mem hi)
    unfold f36_l0 f36_l0_j1 f36_l0_j2
    try dsimp only []
    rw [bct (dt (by omega)), ct, idx_nat s.Past i LL0 hi, bs, cloneC _ hc, bs, app_ok 24 _ _ (by rw [List.length_take]; simp; omega), bs, wr1 i (by omega)]
    have e : s.Past.take i ++ [GLine.mk (s.Past.getD i LL0).Cells] = s.Past.take (i + 1) := by
      rw [List.take_add_one]
      have : s.Past[i]? = some (s.Past.getD i LL0) := by simp [hi]
      rw [this]; rfl
    rw [e]
/-- A search over a list of known length. -/
theorem scanI {α : Type} {body : Int → Option (Int ⊕ (Unit ⊕ Int))} {l : List α} (hl : l.length ≤ 1048576) (q : Nat → Bool)
    (h0 : body (l.length : Int) = some (.inr (.inl ()))) (h1 : ∀ i : Nat, i < l.length → body (i : Int) = if q i = true then some (.inr (.inr (i : Int))) else some (.inl ((i + 1 : Nat) : Int))) :
    (∃ r, loopO body 0 = some r ∧ ((r = .inl () ∧ ∀ i : Nat, i < l.length → q i = false) ∨ ∃ i : Nat, r = .inr (i : Int))) := by
  obtain ⟨r, hr, hp⟩ := loopO_ind (body := body) (fun k x => ∃ i : Nat, x = (i : Int) ∧ i ≤ l.length ∧ k = l.length - i ∧ ∀ j : Nat, j < i → q j = false) (fun r => (r = .inl () ∧ ∀ i : Nat, i < l.length → q i = false) ∨ ∃ i : Nat, r = .inr (i : Int)) (by
    rintro k x ⟨i, rfl, hi, rfl, hq⟩
    by_cases hlt : i < l.length
    · rw [h1 i hlt]
      by_cases hb : q i = true
      · right; rw [if_pos hb]; exact ⟨_, rfl, .inr ⟨i, rfl⟩⟩
      · left; rw [if_neg hb]
        refine ⟨_, l.length - (i + 1), rfl, by omega, i + 1, rfl, by omega, rfl, fun j hj => ?_⟩
        by_cases e : j = i
        · subst e; simpa using hb
        · exact hq j (by omega)
    · have : i = l.length := by omega
      subst this
      right; exact ⟨_, h0, .inl ⟨rfl, hq⟩⟩) (n := l.length) (x := 0) ⟨0, rfl, by omega, by omega, fun j hj => by omega⟩
  exact ⟨r, hr, hp⟩
theorem within0 (a lo hi : Int) : ∃ b, f49 a lo hi = some b := by
  unfold f49
  simp only [Bool.cond_decide]
  split
  · split <;> exact ⟨_, rfl⟩
  · exact ⟨_, rfl⟩
theorem bad_ok (l : List Int) (hl : l.length ≤ 1048576) : ∃ b, f61 l = some b := by
  unfold f61 f84
  have hw : ∀ z : Int, ∃ b, f62 z = some b := fun z => by
    unfold f62
    obtain ⟨b, hb⟩ := within0 z (-1) 16383
    rw [hb, bs]; exact ⟨_, rfl⟩
  obtain ⟨r, hr, hp⟩ := scanI (body := f84_l0 l) hl (fun i => (f62 (l.getD i 0)).getD false) (by
    unfold f84_l0 f84_l0_j1
    rw [bcf (df (by omega)), cf]) (fun i hi => by
    obtain ⟨b, hb⟩ := hw (l.getD i 0)
    unfold f84_l0 f84_l0_j1 f84_l0_j2
    rw [bct (dt (by omega)), ct, idx_nat l i 0 hi, bs, hb, bs, wr1 i (by omega)]
    cases b with
    | true => rw [ct, Option.getD_some, if_pos rfl]
    | false => rw [cf, Option.getD_some, if_neg (by decide)])
  rw [hr, bs]
  cases r with
  | inl u => rw [Sum.elim_inl, bs]; simp only [Bool.cond_decide]; split <;> exact ⟨_, rfl⟩
  | inr u => rw [Sum.elim_inr, bs]; simp only [Bool.cond_decide]; split <;> exact ⟨_, rfl⟩
def A0 : GAct := ⟨0, 0, 0, [], [], []⟩
theorem actions_ok (l : List GAct) (hl : l.length ≤ 1048576) (h : ∀ x ∈ l, x.Args.length ≤ 1048576) : ∃ n, f37 l = some n := by
  unfold f37
  obtain ⟨r, hr, _⟩ := loopO_ind (body := f37_l0 l) (fun k x => ∃ i : Nat, x = (i : Int) ∧ i ≤ l.length ∧ k = l.length - i) (fun _ => True) (by
    rintro k x ⟨i, rfl, hi, rfl⟩
    unfold f37_l0
    by_cases hlt : i < l.length
    · rw [bct (dt (by omega))]
      unfold f37_l0_j1 f37_l0_j2
      rw [ct, idx_nat l i A0 hlt, bs, wr1 i (by omega)]
      obtain ⟨b, hb⟩ := bad_ok (l.getD i A0).Args (by
        have : l.getD i A0 = l[i] := by simp [hlt]
        rw [this]; exact h _ (List.getElem_mem hlt))
      rw [hb, bs]
      simp only [Bool.cond_decide]
      split
      · right; exact ⟨_, rfl, trivial⟩
      split
      · right; exact ⟨_, rfl, trivial⟩
      cases b with
      | true => right; rw [ct]; exact ⟨_, rfl, trivial⟩
      | false => left; rw [cf]; exact ⟨_, l.length - (i + 1), rfl, by omega, i + 1, rfl, by omega, rfl⟩
    · rw [bcf (df (by omega))]
      unfold f37_l0_j1
      rw [cf]
      right; exact ⟨_, rfl, trivial⟩) (n := l.length) (x := 0) ⟨0, rfl, by omega, by omega⟩
  rw [hr, bs]
  cases r <;> exact ⟨_, rfl⟩
/-- What a run keeps. -/
structure Still (u : Prop) (s s' : GScreen) : Prop where
  g : s'.Grid = s.Grid
  o : s'.Other = s.Other
  p : s'.Past = s.Past
  ti : s'.Title = s.Title
  pg : u ∨ s'.Pages = s.Pages
  sh : u ∨ s'.Shift = s.Shift
theorem run_still (s : GScreen) (l : List GAct) (u : Prop) (hs : SzS s) (hl : l.length ≤ 1048576) (h : ∀ x ∈ l, OkA x) (hu : ∀ x ∈ l, x.Code = 117 → u) : ∃ s' o n, f14 s l = some (s', o, n) ∧ Still u s s' := by
  have me : Still u s s := ⟨rfl, rfl, rfl, rfl, .inr rfl, .inr rfl⟩
  have hc : ∃ n, f28 s = some n := by
    rcases scr_check s hs.p with h | h
    · exact ⟨_, h⟩
    · exact ⟨_, h.1⟩
  obtain ⟨c, hc⟩ := hc
  unfold f14
  rw [hc, bs]
  by_cases c0 : c = 0
  case neg =>
    rw [df c0, Bool.not_false, ct, cloneS s hs, bs]
    exact ⟨_, _, _, rfl, me⟩
  rw [dt c0, Bool.not_true, cf]
  unfold f14_j0
  obtain ⟨n, hn⟩ := actions_ok l hl (fun x hx => (h x hx).l)
  rw [hn, bs]
  by_cases n0 : n = 0
  case neg =>
    rw [df n0, Bool.not_false, ct, cloneS s hs, bs]
    exact ⟨_, _, _, rfl, me⟩
  rw [dt n0, Bool.not_true, cf]
  unfold f14_j1
  rw [cloneS s hs, bs]
  obtain ⟨t', ht, k⟩ := loopO_ind (body := f14_l3 s l) (fun k x => ∃ i : Nat, x.2 = (i : Int) ∧ i ≤ l.length ∧ k = l.length - i ∧ x.1.sent.length ≤ 60 * i ∧ Still u s x.1.Screen) (fun r => Still u s r.Screen) (by
    rintro k ⟨t, _⟩ ⟨i, rfl, hi, rfl, hse, hk⟩
    unfold f14_l3
    try dsimp only [] at hse hk ⊢
    by_cases hlt : i < l.length
    · left
      rw [bct (dt (by omega))]
      unfold f14_l3_j4 f14_l3_j5
      have e : l.getD i A0 = l[i] := by simp [hlt]
      have hx : l.getD i A0 ∈ l := by rw [e]; exact List.getElem_mem hlt
      obtain ⟨t', h1, k1⟩ := act_ok (l.getD i A0) (h _ hx) t (by omega)
      have k2 := k1.w (hu _ hx)
      rw [ct, idx_nat l i A0 hlt, bs, h1, bs, wr1 i (by omega)]
      have hse' := k2.se
      refine ⟨_, l.length - (i + 1), rfl, by omega, i + 1, rfl, by omega, rfl, by show t'.sent.length ≤ _; omega, ⟨k2.g.trans hk.g, k2.o.trans hk.o, k2.p.trans hk.p, k2.ti.trans hk.ti, ?_, ?_⟩⟩
      · rcases hk.pg with a | a
        · exact .inl a
        · exact k2.pg.imp id fun b => b.trans a
      · rcases hk.sh with a | a
        · exact .inl a
        · exact k2.sh.imp id fun b => b.trans a
    · right
      rw [bcf (df (by omega))]
      unfold f14_l3_j4
      rw [cf]
      exact ⟨_, rfl, hk⟩) (n := l.length) (x := (Gterminal.mk s [], 0)) ⟨0, rfl, by omega, by omega, by simp, me⟩
  rw [ht, bs]
  unfold f14_j2
  exact ⟨_, _, _, rfl, k⟩
theorem same_cells (l : List GCell) (hl : l.length ≤ 1048576) : f41 l l = some true := by
  unfold f41
  rw [dt rfl, Bool.not_true, cf]
  unfold f41_j0
  have h := loop_to (body := f41_l1 l l) (fun i => (i : Int)) (.inl ()) l.length ?_ 0 (by omega) ?_
  · have h' : loopO (f41_l1 l l) 0 = some (.inl ()) := h
    rw [h', bs]; rfl
  · unfold f41_l1 f41_l1_j2
    rw [bcf (df (by omega)), cf]
  · intro i _ hi
    unfold f41_l1 f41_l1_j2 f41_l1_j3
    rw [bct (dt (by omega)), ct, idx_nat l i ⟨0, ⟨0, 0, 0⟩⟩ hi, bs, bs, dt rfl, dt rfl, dt rfl, dt rfl, wr1 i (by omega)]
    rfl
theorem same_grid (g : GGrid) (hl : g.Cells.length ≤ 1048576) : f22 g g = some true := by
  unfold f22
  rw [bct (dt rfl), bct (dt rfl), same_cells _ hl, bs]
theorem has117 (l : List GAct) (hl : l.length ≤ 1048576) : ∃ b, f20 l = some b ∧ (b = false → ∀ x ∈ l, x.Code ≠ 117) := by
  unfold f20 f40
  obtain ⟨r, hr, hp⟩ := scanI (body := f40_l0 l) hl (fun i => decide ((l.getD i A0).Code = 117)) (by
    unfold f40_l0 f40_l0_j1
    rw [bcf (df (by omega)), cf]) (fun i hi => by
    unfold f40_l0 f40_l0_j1 f40_l0_j2 f21
    rw [bct (dt (by omega)), ct, idx_nat l i A0 hi, bs, wr1 i (by omega)]
    by_cases e : (l.getD i A0).Code = 117
    · rw [bct (dt e), bs, ct, dt e, if_pos rfl]
    · rw [bcf (df e), bs, cf, df e, if_neg (by decide)])
  rw [hr, bs]
  rcases hp with ⟨rfl, hq⟩ | ⟨i, rfl⟩
  · rw [Sum.elim_inl, bs, bcf (by decide)]
    refine ⟨_, rfl, fun _ x hx => ?_⟩
    obtain ⟨i, hi, rfl⟩ := List.mem_iff_getElem.1 hx
    have := of_decide_eq_false (hq i hi)
    simpa [hi] using this
  · rw [Sum.elim_inr, bs, bct (dt (by omega))]
    exact ⟨_, rfl, fun h => by cases h⟩
end Go.Proofs.YtjoccdgmcdkbkaaGreatDoor.Pm
