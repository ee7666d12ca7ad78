/- The small machine: how a run of it is followed. No program is named here. -/
import Derived.Test.YtobkkblijfhpoaaGreatDoorPg
namespace Go.Proofs.YtobkkblijfhpoaaGreatDoor.Pm

inductive It where
 | seq (b : PCode)
 | blk (id : Nat)
section
variable {γ : Orc} {Q : PX → St → Prop}
def Kont (γ : Orc) (Q : PX → St → Prop) : List It → PX → St → Prop
 | [], e, st => Q e st
 | .seq b :: k, .normal, st => ∃ n e st1, prun γ n b st = some (e, st1) ∧ Kont γ Q k e st1
 | .seq _ :: k, .exit i, st => Kont γ Q k (.exit i) st
 | .seq _ :: k, .ret, st => Kont γ Q k .ret st
 | .blk _ :: k, .normal, st => Kont γ Q k .normal st
 | .blk id :: k, .exit i, st => if i = id then Kont γ Q k .normal st else Kont γ Q k (.exit i) st
 | .blk _ :: k, .ret, st => Kont γ Q k .ret st
def R (γ : Orc) (Q : PX → St → Prop) (c : PCode) (k : List It) (st : St) : Prop := ∃ n e st1, prun γ n c st = some (e, st1) ∧ Kont γ Q k e st1
theorem K_nil (e : PX) (st : St) : Kont γ Q [] e st = Q e st := by cases e <;> rfl
theorem K_blkX (id : Nat) (k : List It) (i : Nat) (st : St) : Kont γ Q (.blk id :: k) (.exit i) st = if i = id then Kont γ Q k .normal st else Kont γ Q k (.exit i) st := rfl
theorem R_skip (k : List It) (st : St) : R γ Q .skip k st = Kont γ Q k .normal st :=
 propext ⟨fun ⟨_, _, _, h, q⟩ => by simp only [prun, Option.some.injEq, Prod.mk.injEq] at h; obtain ⟨rfl, rfl⟩ := h; exact q, fun q => ⟨0, _, _, rfl, q⟩⟩
theorem R_exit (i : Nat) (k : List It) (st : St) : R γ Q (.exit i) k st = Kont γ Q k (.exit i) st :=
 propext ⟨fun ⟨_, _, _, h, q⟩ => by simp only [prun, Option.some.injEq, Prod.mk.injEq] at h; obtain ⟨rfl, rfl⟩ := h; exact q, fun q => ⟨0, _, _, rfl, q⟩⟩
theorem R_ret (k : List It) (st : St) : R γ Q .ret k st = Kont γ Q k .ret st :=
 propext ⟨fun ⟨_, _, _, h, q⟩ => by simp only [prun, Option.some.injEq, Prod.mk.injEq] at h; obtain ⟨rfl, rfl⟩ := h; exact q, fun q => ⟨0, _, _, rfl, q⟩⟩
theorem R_keep (L : List Nat) (B : List (Nat × Loc)) (A : List NA) (c : PCode) (k : List It) (st : St) : R γ Q (.keep L B A c) k st = R γ Q c k (keepSt L B A st) := rfl
theorem R_seq (a b : PCode) (k : List It) (st : St) : R γ Q (.seq a b) k st = R γ Q a (.seq b :: k) st := by
 refine propext ⟨?_, ?_⟩
 ·rintro ⟨n, e, st1, h, q⟩
  simp only [prun] at h
  split at h
  ·rename_i st' hs
   exact ⟨n, .normal, st', hs, n, e, st1, h, q⟩
  ·rename_i hne
   refine ⟨n, e, st1, h, ?_⟩
   cases e with
   | normal => exact absurd h (hne st1)
   | exit i => exact q
   | ret => exact q
 ·rintro ⟨n, e, st1, h, q⟩
  cases e with
  | normal =>
   obtain ⟨n2, e2, st2, h2, q⟩ := q
   refine ⟨max n n2, e2, st2, ?_, q⟩
   simp only [prun, prun_mono (Nat.le_max_left n n2) _ _ _ h, prun_mono (Nat.le_max_right n n2) _ _ _ h2]
  | exit i => exact ⟨n, _, st1, by simp only [prun, h], q⟩
  | ret => exact ⟨n, _, st1, by simp only [prun, h], q⟩
theorem R_block (id : Nat) (c : PCode) (k : List It) (st : St) : R γ Q (.block id c) k st = R γ Q c (.blk id :: k) st := by
 refine propext ⟨?_, ?_⟩
 ·rintro ⟨n, e, st1, h, q⟩
  simp only [prun] at h
  cases hq : prun γ n c st with
  | none => rw [hq] at h; cases h
  | some r =>
   obtain ⟨e', s⟩ := r
   rw [hq] at h
   refine ⟨n, e', s, hq, ?_⟩
   cases e' with
   | normal => simp only [blk, Option.some.injEq, Prod.mk.injEq] at h; obtain ⟨rfl, rfl⟩ := h; exact q
   | ret => simp only [blk, Option.some.injEq, Prod.mk.injEq] at h; obtain ⟨rfl, rfl⟩ := h; exact q
   | exit i =>
    simp only [blk] at h
    rw [K_blkX]
    split at h
    ·rename_i hi; simp only [Option.some.injEq, Prod.mk.injEq] at h; obtain ⟨rfl, rfl⟩ := h; rw [if_pos hi]; exact q
    ·rename_i hi; simp only [Option.some.injEq, Prod.mk.injEq] at h; obtain ⟨rfl, rfl⟩ := h; rw [if_neg hi]; exact q
 ·rintro ⟨n, e, st1, h, q⟩
  cases e with
  | normal => exact ⟨n, .normal, st1, by simp only [prun, h, blk], q⟩
  | ret => exact ⟨n, .ret, st1, by simp only [prun, h, blk], q⟩
  | exit i =>
   rw [K_blkX] at q
   by_cases hi : i = id
   ·rw [if_pos hi] at q; exact ⟨n, .normal, st1, by simp only [prun, h, blk, if_pos hi], q⟩
   ·rw [if_neg hi] at q; exact ⟨n, .exit i, st1, by simp only [prun, h, blk, if_neg hi], q⟩
def condB (b : Option Bool) (x y : Prop) : Prop := match b with | some true => x | some false => y | none => False
theorem R_cond (c : Operand) (t e : PCode) (k : List It) (st : St) : R γ Q (.cond c t e) k st = condB ((ρof st.s c).bool?) (R γ Q t k st) (R γ Q e k st) := by
 unfold R
 cases hb : (ρof st.s c).bool? with
 | none => simp only [prun, hb, condB]; simp
 | some b => cases b <;> simp only [prun, hb, condB, if_true, Bool.false_eq_true, if_false]
def optS (o : Option St) (K : St → Prop) : Prop := match o with | some st => K st | none => False
def guardS (b : Option Bool) (want : Bool) (x y : Prop) : Prop := match b with | some c => if c = want then x else y | none => False
theorem R_regD0 (pos : List PO) (k : List It) (st : St) : R γ Q (.regD pos []) k st = R γ Q (.reg pos) k st := by
 have key : ∀ (pos : List PO) (st : St), (runD γ pos st).map (·.2) = runL γ pos st := by
  intro pos
  induction pos with
  | nil => intro st; rfl
  | cons o r ih =>
   intro st
   simp only [runD, runL]
   cases exec1 γ o st with
   | none => rfl
   | some x =>
    simp only
    rw [← ih]
    cases runD γ r (apply x st) <;> rfl
 unfold R
 simp only [prun, ← key]
 cases runD γ pos st with
 | none => rfl
 | some q => obtain ⟨a, b⟩ := q; simp
def RD (γ : Orc) (Q : PX → St → Prop) (prs : List (Nat × Nat)) (k : List It) : List (List (Nat × Bool)) → List PO → St → Prop
 | acc, [], st => (prs.all fun x => apart (acc.getD x.1 []) (acc.getD x.2 [])) = true ∧ Kont γ Q k .normal st
 | acc, o :: r, st => match exec1 γ o st with
  | some x => RD γ Q prs k (acc ++ [x.tc]) r (apply x st)
  | none => False
theorem R_regD (pos : List PO) (prs : List (Nat × Nat)) (k : List It) (st : St) : R γ Q (.regD pos prs) k st = RD γ Q prs k [] pos st := by
 have key : ∀ (pos : List PO) (st : St) (acc : List (List (Nat × Bool))), RD γ Q prs k acc pos st ↔ ∃ outs st', runD γ pos st = some (outs, st') ∧ (prs.all fun x => apart ((acc ++ outs.map (·.tc)).getD x.1 []) ((acc ++ outs.map (·.tc)).getD x.2 [])) = true ∧ Kont γ Q k .normal st' := by
  intro pos
  induction pos with
  | nil =>
   intro st acc
   simp only [RD, runD]
   constructor
   ·rintro ⟨h1, h2⟩; exact ⟨[], st, rfl, by simpa using h1, h2⟩
   ·rintro ⟨outs, st', h, h1, h2⟩
    simp only [Option.some.injEq, Prod.mk.injEq] at h
    obtain ⟨rfl, rfl⟩ := h
    exact ⟨by simpa using h1, h2⟩
  | cons o r ih =>
   intro st acc
   simp only [RD, runD]
   cases exec1 γ o st with
   | none => simp
   | some x =>
    simp only
    rw [ih]
    constructor
    ·rintro ⟨outs, st', h, h1, h2⟩
     exact ⟨x :: outs, st', by rw [h], by simpa using h1, h2⟩
    ·rintro ⟨outs, st', h, h1, h2⟩
     split at h
     ·rename_i l s hs
      simp only [Option.some.injEq, Prod.mk.injEq] at h
      obtain ⟨rfl, rfl⟩ := h
      exact ⟨l, s, hs, by simpa using h1, h2⟩
     ·cases h
 have tc : ∀ (outs : List Out) (i : Nat), tcs outs i = ([] ++ outs.map (fun o : Out => o.tc)).getD i [] := by
  intro outs i
  simp only [tcs, List.nil_append, List.getD_eq_getElem?_getD, List.getElem?_map]
  cases outs[i]? <;> rfl
 refine propext ⟨?_, fun h => ?_⟩
 ·rintro ⟨n, e, st1, h, q⟩
  simp only [prun] at h
  split at h
  ·rename_i outs st' hs
   split at h
   ·rename_i hap
    simp only [Option.some.injEq, Prod.mk.injEq] at h
    obtain ⟨rfl, rfl⟩ := h
    exact (key pos st []).2 ⟨outs, st', hs, by simpa only [tc] using hap, q⟩
   ·cases h
  ·cases h
 ·obtain ⟨outs, st', hs, hap, q⟩ := (key pos st []).1 h
  refine ⟨0, .normal, st', ?_, q⟩
  simp only [prun, hs]
  rw [if_pos (by simpa only [tc] using hap)]
def optT (o : Option (St × List (Nat × Bool))) (K : List (Nat × Bool) → St → Prop) : Prop := match o with | some (st, t) => K t st | none => False
def DoneX (fx : Bool) (m : Nat) (rs : List PR) (r : PV × List Blk) : PX → St → Prop
 | .normal, st => outX fx st m rs = some r
 | .ret, st => outX fx st m rs = some r
 | .exit _, _ => False
def DoneF (fc : FCode) (m : Nat) (r : PV × List Blk) (e : PX) (st : St) : Prop := DoneX (fxC fc.fin) m fc.res r e (finSt fc.fin st)
theorem pfunI_done {γ : Orc} {fc : FCode} {args : List PV} {bs : List Blk} {r : PV × List Blk} (hl : args.length ≤ fc.N) (h : R γ (DoneF fc bs.length r) fc.body [] (st0 args bs)) : pfunI γ fc args bs = some r := by
 obtain ⟨n, e, st1, h1, q⟩ := h
 rw [K_nil] at q
 refine pfunI_of (n := n) ?_
 unfold pfun
 rw [if_pos hl, h1]
 cases e with
 | normal => exact q
 | ret => exact q
 | exit i => exact q.elim
theorem lev_of {codes : Nat → Option FCode} {base : Orc} {d f : Nat} {fc : FCode} {args : List PV} {bs : List Blk} {r : PV × List Blk} (hc : codes f = some fc) (hz : fc.z = false) (hl : args.length ≤ fc.N) (hd : 1 ≤ d)
  (h : R (lev codes base (d - 1)) (DoneF fc bs.length r) fc.body [] (st0 args bs)) : lev codes base d f args bs = some r := by
 obtain ⟨d, rfl⟩ : ∃ x, d = x + 1 := ⟨d - 1, by omega⟩
 simp only [Nat.add_sub_cancel] at h
 simp only [lev, hc, pfunZ, hz]
 rw [if_neg (by simp)]
 exact pfunI_done hl h
theorem lev_ofZ {codes : Nat → Option FCode} {base : Orc} {d f m : Nat} {fc : FCode} {cs : List PD} {ar : List PV} {bs : List Blk} {r : PV × List Blk} (hc : codes f = some fc) (hz : fc.z = true) (hl : ar.length + 1 ≤ fc.N) (hd : 1 ≤ d)
  (h1 : R (lev codes base (d - 1)) (DoneF fc bs.length r) fc.body [] (st0 (.slz false m cs :: ar) bs)) (h2 : m = 0 → R (lev codes base (d - 1)) (DoneF fc bs.length r) fc.body [] (st0 (.slz true 0 [] :: ar) bs)) : lev codes base d f (.d (.sl m cs) :: ar) bs = some r := by
 obtain ⟨d, rfl⟩ : ∃ x, d = x + 1 := ⟨d - 1, by omega⟩
 simp only [Nat.add_sub_cancel] at h1 h2
 simp only [lev, hc, pfunZ, hz, if_true, pfunI_done (args := .slz false m cs :: ar) (by simpa using hl) h1]
 by_cases hm : m = 0
 ·rw [if_pos (.inr (pfunI_done (by simpa using hl) (h2 hm)))]
 ·rw [if_pos (.inl hm)]
end
-- reading
end Go.Proofs.YtobkkblijfhpoaaGreatDoor.Pm
