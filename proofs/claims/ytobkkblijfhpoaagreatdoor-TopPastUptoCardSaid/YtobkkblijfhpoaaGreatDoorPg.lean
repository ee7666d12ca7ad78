/- The small machine: whatever it tells of a function's call is so. No program is named here. -/
import Derived.Test.YtobkkblijfhpoaaGreatDoorPf
namespace Go.Proofs.YtobkkblijfhpoaaGreatDoor.Pm
open Go.RowKit

section
variable {P : Program} {E : Nat → Prop} {m : List Blk} {φ0 φ : Nat → Phys} {H : Nat → Cel} {w0 w : World} {γ : Orc}
def βof (φ : Nat → Phys) (F : List Nat) (j : Nat) : Phys := match F[j]? with | some i => φ i | none => .nil none
def φM (φ : Nat → Phys) (M : Nat) (i : Nat) : Phys := if i < M then φ i else .nil none
theorem yo_sub (M : Nat) (F : List Nat) : ∀ b, b < w.heap.size → ¬ Xof E φ b → ¬ Yo E (φM φ M) (βof φ F) b := by
 intro b _ hx hy
 rcases hy with h | ⟨i, c, h⟩ | ⟨j, c, h⟩
 ·exact hx (.inl h)
 ·unfold φM at h
  split at h
  ·exact hx (.inr ⟨i, c, h⟩)
  ·cases h
 ·unfold βof at h
  split at h
  ·rename_i i _; exact hx (.inr ⟨i, c, h⟩)
  ·cases h
def sameK : Blk → Blk → Prop
 | .box _, .box _ => True
 | .own e k cs, b => b = .own e k cs
 | _, _ => False
mutual
theorem outV_rep (hm : Mem E m φ0 w0 φ H w) {bs' : List Blk} (hbs : ∀ i b, i < m.length → (H i).b = some b → ∃ b', bs'[i]? = some b' ∧ sameK b b') : ∀ (p : PV) (ids : List Nat) (r : PV) (ids' : List Nat) (v : Value), outV H m.length p ids = some (r, ids') → RepV (Xof E φ) w (RefAt φ H) p v →
  (∃ t, ids' = ids ++ t) ∧ (ids.Nodup → ids'.Nodup) ∧ ((∀ i ∈ ids, m.length ≤ i) → ∀ i ∈ ids', m.length ≤ i) ∧ ∀ F, (∃ t, F = ids' ++ t) → RepV (Yo E (φM φ m.length) (βof φ F)) w (RefOut (φM φ m.length) bs' (βof φ F)) r v ∧ ∀ x ∈ owns r, ∃ i, F[x.1]? = some i ∧ (H i).b = some x.2
 | .d x, ids, r, ids', v, h, q => by
  simp only [outV, Option.some.injEq, Prod.mk.injEq] at h
  obtain ⟨rfl, rfl⟩ := h
  exact ⟨⟨[], by simp⟩, id, id, fun F _ => ⟨RepD.sub (yo_sub _ F) q, fun x hx => by simp [owns] at hx⟩⟩
 | .nil, ids, r, ids', v, h, q => by
  simp only [outV, Option.some.injEq, Prod.mk.injEq] at h
  obtain ⟨rfl, rfl⟩ := h
  exact ⟨⟨[], by simp⟩, id, id, fun F _ => ⟨q, fun x hx => by simp [owns] at hx⟩⟩
 | .un, ids, r, ids', v, h, q => by
  simp only [outV, Option.some.injEq, Prod.mk.injEq] at h
  obtain ⟨rfl, rfl⟩ := h
  exact ⟨⟨[], by simp⟩, id, id, fun F _ => ⟨trivial, fun x hx => by simp [owns] at hx⟩⟩
 | .agg cs, ids, r, ids', v, h, q => by
  simp only [outV] at h
  split at h
  ·rename_i l i hl
   simp only [Option.some.injEq, Prod.mk.injEq] at h
   obtain ⟨rfl, rfl⟩ := h
   obtain ⟨vs, hv, q⟩ := q
   obtain ⟨h1, h2, h2', h3⟩ := outL_rep hm hbs cs ids l i _ hl q
   exact ⟨h1, h2, h2', fun F hF => ⟨⟨vs, hv, (h3 F hF).1⟩, (h3 F hF).2⟩⟩
  ·cases h
 | .tup cs, ids, r, ids', v, h, q => by
  simp only [outV] at h
  split at h
  ·rename_i l i hl
   simp only [Option.some.injEq, Prod.mk.injEq] at h
   obtain ⟨rfl, rfl⟩ := h
   obtain ⟨vs, hv, q⟩ := q
   obtain ⟨h1, h2, h2', h3⟩ := outL_rep hm hbs cs ids l i _ hl q
   exact ⟨h1, h2, h2', fun F hF => ⟨⟨vs, hv, (h3 F hF).1⟩, (h3 F hF).2⟩⟩
  ·cases h
 | .r (.ptr i g o), ids, r, ids', v, h, q => by
  simp only [outV] at h
  split at h
  ·rename_i b hl
   split at h
   ·rename_i hi
    simp only [Option.some.injEq, Prod.mk.injEq] at h
    obtain ⟨rfl, rfl⟩ := h
    obtain ⟨hg, hb⟩ := hm.blk_at hl
    obtain ⟨q1, _, q3⟩ := q
    obtain ⟨b1, c1, h1, h2⟩ := q3 hg (by rw [hb]; rfl)
    refine ⟨⟨[], by simp⟩, id, id, fun F _ => ⟨⟨q1, Nat.le_refl _, fun _ _ => ⟨b1, c1, ?_, h2⟩⟩, fun x hx => by simp [owns] at hx⟩⟩
    unfold φM; rw [if_pos hi]; exact h1
   ·cases h
  ·simp only [Option.some.injEq, Prod.mk.injEq] at h
   obtain ⟨rfl, rfl⟩ := h
   exact ⟨⟨[], by simp⟩, id, id, fun F _ => ⟨trivial, fun x hx => by simp [owns] at hx⟩⟩
 | .r (.msl i g l n), ids, r, ids', v, h, q => by
  simp only [outV] at h
  split at h
  ·rename_i e k cs hl
   obtain ⟨hg, hb⟩ := hm.blk_at hl
   obtain ⟨q1, _, q2⟩ := q
   split at h
   ·rename_i hi
    simp only [Option.some.injEq, Prod.mk.injEq] at h
    obtain ⟨rfl, rfl⟩ := h
    refine ⟨⟨[], by simp⟩, id, id, fun F _ => ⟨⟨q1, Nat.le_refl _, fun _ e' k' cs' hb' => ?_⟩, fun x hx => by simp [owns] at hx⟩⟩
    obtain ⟨b', h1, h2⟩ := hbs i _ hi hb
    simp only [H0] at hb'
    rw [h1] at hb'; cases hb'
    have h2 : Blk.own e' k' cs' = .own e k cs := h2
    cases h2
    have := q2 hg _ _ _ hb
    unfold φM; rw [if_pos hi]; exact this
   ·rename_i hi
    split at h
    ·rename_i hh
     simp only [Option.some.injEq, Prod.mk.injEq] at h
     obtain ⟨rfl, rfl⟩ := h
     obtain ⟨rfl, hcl, hni'⟩ := hh
     obtain ⟨hk, hle, hp⟩ := q2 hg e k cs hb
     have hni : i ∉ ids := fun hi => by
      have : ids.any (Nat.beq i) = true := List.any_eq_true.2 ⟨i, hi, by simp⟩
      rw [hni'] at this; cases this
     refine ⟨⟨[i], rfl⟩, fun hnd => ?_, fun hall j hj => ?_, fun F ⟨t, hF⟩ => ?_⟩
     ·rw [List.nodup_append]
      exact ⟨hnd, by simp, fun a ha b hb => by simp at hb; subst hb; exact fun e => hni (e ▸ ha)⟩
     ·rcases List.mem_append.1 hj with hj | hj
      ·exact hall j hj
      ·simp at hj; subst hj; omega
     ·have hFi : F[ids.length]? = some i := by rw [hF]; simp
      have hβ : βof φ F ids.length = φ i := by unfold βof; rw [hFi]
      refine ⟨⟨hk, hcl, ?_⟩, fun x hx => ?_⟩
      ·rw [hβ]
       cases hφ : φ i with
       | nil a =>
        rw [hφ] at hp
        obtain ⟨hv, _, rfl⟩ := hp
        exact ⟨hv, List.eq_nil_of_length_eq_zero (by rw [hcl]; simp)⟩
       | blk b c =>
        rw [hφ] at hp
        obtain ⟨a, c', hv, h1, h2, h3, h4, h5⟩ := hp
        rw [h4 rfl] at hv
        obtain rfl : c' = c := by omega
        exact ⟨hv, h1⟩
      ·simp only [owns, List.mem_singleton] at hx
       subst hx
       exact ⟨i, hFi, hb⟩
    ·cases h
  ·simp only [Option.some.injEq, Prod.mk.injEq] at h
   obtain ⟨rfl, rfl⟩ := h
   exact ⟨⟨[], by simp⟩, id, id, fun F _ => ⟨trivial, fun x hx => by simp [owns] at hx⟩⟩
 | .r (.own ..), _, _, _, _, h, _ => by simp [outV] at h
 | .rptr _, _, _, _, _, h, _ => by simp [outV] at h
 | .slz .., _, _, _, _, h, _ => by simp [outV] at h
 | .fn .., _, _, _, _, h, _ => by simp [outV] at h
theorem outL_rep (hm : Mem E m φ0 w0 φ H w) {bs' : List Blk} (hbs : ∀ i b, i < m.length → (H i).b = some b → ∃ b', bs'[i]? = some b' ∧ sameK b b') : ∀ (ps : List PV) (ids : List Nat) (rs : List PV) (ids' : List Nat) (vs : List Value), outL H m.length ps ids = some (rs, ids') → RepL (Xof E φ) w (RefAt φ H) ps vs →
  (∃ t, ids' = ids ++ t) ∧ (ids.Nodup → ids'.Nodup) ∧ ((∀ i ∈ ids, m.length ≤ i) → ∀ i ∈ ids', m.length ≤ i) ∧ ∀ F, (∃ t, F = ids' ++ t) → RepL (Yo E (φM φ m.length) (βof φ F)) w (RefOut (φM φ m.length) bs' (βof φ F)) rs vs ∧ ∀ x ∈ ownsL rs, ∃ i, F[x.1]? = some i ∧ (H i).b = some x.2
 | [], ids, rs, ids', vs, h, q => by
  simp only [outL, Option.some.injEq, Prod.mk.injEq] at h
  obtain ⟨rfl, rfl⟩ := h
  exact ⟨⟨[], by simp⟩, id, id, fun F _ => ⟨q, fun x hx => by simp [ownsL] at hx⟩⟩
 | p :: ps, ids, rs, ids', vs, h, ⟨v, r', e, q1, q2⟩ => by
  subst e
  simp only [outL] at h
  split at h
  ·rename_i x i hx
   split at h
   ·rename_i l j hl
    simp only [Option.some.injEq, Prod.mk.injEq] at h
    obtain ⟨rfl, rfl⟩ := h
    obtain ⟨⟨t1, rfl⟩, a2, a2', a3⟩ := outV_rep hm hbs p ids x i v hx q1
    obtain ⟨⟨t2, rfl⟩, b2, b2', b3⟩ := outL_rep hm hbs ps (ids ++ t1) l j r' hl q2
    refine ⟨⟨t1 ++ t2, by simp⟩, fun hn => b2 (a2 hn), fun ha => b2' (a2' ha), fun F ⟨t, hF⟩ => ?_⟩
    have c1 := a3 F ⟨t2 ++ t, by rw [hF]; simp⟩
    have c2 := b3 F ⟨t, hF⟩
    refine ⟨⟨v, r', rfl, c1.1, c2.1⟩, fun y hy => ?_⟩
    simp only [ownsL, List.mem_append] at hy
    rcases hy with hy | hy
    ·exact c1.2 y hy
    ·exact c2.2 y hy
   ·cases h
  ·cases h
end
theorem outB_same {M : Nat} {b b' : Blk} {ids ids' : List Nat} (h : outB H M b ids = some (b', ids')) : sameK b b' := by
 cases b with
 | box cs =>
  simp only [outB] at h
  split at h
  ·simp only [Option.some.injEq, Prod.mk.injEq] at h; obtain ⟨rfl, _⟩ := h; trivial
  ·cases h
 | own e k cs => simp only [outB, Option.some.injEq, Prod.mk.injEq] at h; obtain ⟨rfl, _⟩ := h; rfl
theorem outBs_get {M : Nat} : ∀ {is ids : List Nat} {l : List Blk} {ids' : List Nat}, outBs H M is ids = some (l, ids') → l.length = is.length ∧ ∀ (p i : Nat), is[p]? = some i → ∃ b b', (H i).b = some b ∧ l[p]? = some b' ∧ sameK b b'
 | [], ids, l, ids', h => by
  simp only [outBs, Option.some.injEq, Prod.mk.injEq] at h
  obtain ⟨rfl, rfl⟩ := h
  exact ⟨rfl, fun p i hp => by simp at hp⟩
 | i :: is, ids, l, ids', h => by
  simp only [outBs] at h
  split at h
  ·rename_i b hb
   split at h
   ·rename_i x j hx
    split at h
    ·rename_i l' k hl
     simp only [Option.some.injEq, Prod.mk.injEq] at h
     obtain ⟨rfl, rfl⟩ := h
     obtain ⟨h1, h2⟩ := outBs_get hl
     refine ⟨by simp [h1], fun p i' hp => ?_⟩
     cases p with
     | zero => simp at hp; subst hp; exact ⟨b, x, hb, rfl, outB_same hx⟩
     | succ p => simpa using h2 p i' (by simpa using hp)
    ·cases h
   ·cases h
  ·cases h
theorem outBs_rep (hm : Mem E m φ0 w0 φ H w) {bs' : List Blk} (hbs : ∀ i b, i < m.length → (H i).b = some b → ∃ b', bs'[i]? = some b' ∧ sameK b b') : ∀ (is ids : List Nat) (l : List Blk) (ids' : List Nat), (∀ i ∈ is, i < m.length) → outBs H m.length is ids = some (l, ids') →
  (∃ t, ids' = ids ++ t) ∧ (ids.Nodup → ids'.Nodup) ∧ ((∀ i ∈ ids, m.length ≤ i) → ∀ i ∈ ids', m.length ≤ i) ∧ ∀ F, (∃ t, F = ids' ++ t) → (∀ (p i : Nat) (b' : Blk), is[p]? = some i → l[p]? = some b' → RepBg (Yo E (φM φ m.length) (βof φ F)) w (RefOut (φM φ m.length) bs' (βof φ F)) (φ i) b') ∧ ∀ x ∈ l.flatMap ownsB, ∃ i, F[x.1]? = some i ∧ (H i).b = some x.2
 | [], ids, l, ids', _, h => by
  simp only [outBs, Option.some.injEq, Prod.mk.injEq] at h
  obtain ⟨rfl, rfl⟩ := h
  exact ⟨⟨[], by simp⟩, id, id, fun F _ => ⟨fun p i b' hp => by simp at hp, fun x hx => by simp at hx⟩⟩
 | i :: is, ids, l, ids', hlt, h => by
  simp only [outBs] at h
  split at h
  ·rename_i b hb
   split at h
   ·rename_i x j hx
    split at h
    ·rename_i l' k hl
     simp only [Option.some.injEq, Prod.mk.injEq] at h
     obtain ⟨rfl, rfl⟩ := h
     have hrep := hm.rep i b hb
     have one : (∃ t, j = ids ++ t) ∧ (ids.Nodup → j.Nodup) ∧ ((∀ i ∈ ids, m.length ≤ i) → ∀ i ∈ j, m.length ≤ i) ∧ ∀ F, (∃ t, F = j ++ t) → RepBg (Yo E (φM φ m.length) (βof φ F)) w (RefOut (φM φ m.length) bs' (βof φ F)) (φ i) x ∧ ∀ y ∈ ownsB x, ∃ i, F[y.1]? = some i ∧ (H i).b = some y.2 := by
      cases b with
      | own e k2 cs =>
       simp only [outB, Option.some.injEq, Prod.mk.injEq] at hx
       obtain ⟨rfl, rfl⟩ := hx
       refine ⟨⟨[], by simp⟩, id, id, fun F _ => ⟨?_, fun y hy => by simp [ownsB] at hy⟩⟩
       cases hφ : φ i with
       | nil a => rw [hφ] at hrep; exact hrep
       | blk b1 c1 =>
        rw [hφ] at hrep
        obtain ⟨q0, cur, xs, r1, r2, r3, r4, r5, r6, r7⟩ := hrep
        exact ⟨q0, cur, xs, r1, r2, r3, r4, r5, r6, RepL.sub_d (yo_sub _ F) r7⟩
      | box cs =>
       simp only [outB] at hx
       split at hx
       ·rename_i l2 i2 hl2
        simp only [Option.some.injEq, Prod.mk.injEq] at hx
        obtain ⟨rfl, rfl⟩ := hx
        cases hφ : φ i with
        | nil a => rw [hφ] at hrep; exact hrep.elim
        | blk b1 c1 =>
         rw [hφ] at hrep
         obtain ⟨vs, T, h1, h2⟩ := hrep
         obtain ⟨a1, a2, a2', a3⟩ := outL_rep hm hbs cs ids l2 i2 _ hl2 h2
         exact ⟨a1, a2, a2', fun F hF => ⟨⟨vs, T, h1, (a3 F hF).1⟩, (a3 F hF).2⟩⟩
       ·cases hx
     obtain ⟨⟨t1, rfl⟩, a2, a2', a3⟩ := one
     obtain ⟨⟨t2, rfl⟩, b2, b2', b3⟩ := outBs_rep hm hbs is (ids ++ t1) l' k (fun i hi => hlt i (by simp [hi])) hl
     refine ⟨⟨t1 ++ t2, by simp⟩, fun hn => b2 (a2 hn), fun ha => b2' (a2' ha), fun F ⟨t, hF⟩ => ?_⟩
     have c1 := a3 F ⟨t2 ++ t, by rw [hF]; simp⟩
     have c2 := b3 F ⟨t, hF⟩
     refine ⟨fun p i' b' hp hb' => ?_, fun y hy => ?_⟩
     ·cases p with
      | zero => simp at hp hb'; subst hp; subst hb'; exact c1.1
      | succ p => exact c2.1 p i' b' (by simpa using hp) (by simpa using hb')
     ·simp only [List.flatMap_cons, List.mem_append] at hy
      rcases hy with hy | hy
      ·exact c1.2 y hy
      ·exact c2.2 y hy
    ·cases h
   ·cases h
  ·cases h
theorem kin_trans {b0 b b' : Blk} (h : kin b0 (some b)) (k : sameK b b') : kin b0 (some b') := by
 cases b with
 | box => cases b' with
  | box => cases b0 <;> first | trivial | exact h | exact h.elim
  | own => exact k.elim
 | own => have : b' = _ := k; subst this; exact h
def Refines (P : Program) (N : Nat) (c : Code) (pc : PCode) : Prop :=
 ∀ {γ : Orc} {w0 : World} {φ0 : Nat → Phys} {E : Nat → Prop} {m : List Blk}, Snd P γ w0 φ0 → ∀ (n : Nat) {st st' : St} {e : PX} {a : Act} {w : World} {Q : Exit → Act → World → Prop},
  prun γ n pc st = some (e, st') → Rel E m φ0 w0 N st a w → (∀ a' w', Rel E m φ0 w0 N st' a' w' → Q (exOf e) a' w') → c.wp P Q a w
def OkF (P : Program) (br : List Nat) (f : Nat) (fc : FCode) : Prop :=
 ∃ fn c, P.funcs[f]? = some fn ∧ fn.body = some c ∧ (fn.name == "runtime.NumGoroutine") = false ∧ fc.N = fn.ntmps ∧ Refines P fn.ntmps c fc.body ∧ compR P fn.results.toList = some fc.res
theorem compF_ok {P : Program} {br : List Nat} {f : Nat} {fc : FCode} (hc : compF P br f = some (eraseF fc)) : OkF P br f fc := by
 unfold compF at hc
 split at hc
 ·rename_i fn hfn
  split at hc
  ·rename_i c hbody
   split at hc
   ·cases hc
   ·rename_i hname
    split at hc
    ·rename_i pc pr hpc hpr
     obtain ⟨fN, fB, fR, fF, fZ⟩ := fc
     simp only [eraseF, Option.some.injEq, FCode.mk.injEq] at hc
     obtain ⟨rfl, rfl, rfl, -⟩ := hc
     exact ⟨fn, c, hfn, hbody, by simpa using hname, rfl, @fun γ w0 φ0 E m hγ n st st' e a w Q he hr hQ => code_ok hγ n hpc he hr hQ, hpr⟩
    ·cases hc
  ·cases hc
 ·cases hc
theorem pfun_snd {W : World} {Φ : Nat → Phys} (hγ : Snd P γ W Φ) {br : List Nat} {f n : Nat} {fc : FCode} {args : List PV} {bs bs' : List Blk} {r : PV} (hc : OkF P br f fc) (h : pfun γ n fc args bs = some (r, bs')) :
  canEnter P f ∧ ∀ (E : Nat → Prop) (w : World) (φ0 : Nat → Phys) (vs : List Value), Later W Φ w φ0 → (∀ b, E b → b < w.heap.size) → Passed E w φ0 bs → RepL E w (RefAt φ0 (H0 bs)) args vs →
   Calls P f vs.toArray w fun e w' => ∃ v φ1 β, e = .returned v ∧ Chg φ0 w w' ∧ OutOk E w w' φ0 bs r bs' v φ1 β := by
 obtain ⟨fN, fB, fR, fF, fZ⟩ := fc
 obtain ⟨fn, c, hfn, hbody, hname, hN, hpc, hpr⟩ := hc
 have hN : fN = fn.ntmps := hN
 have hpc : Refines P fn.ntmps c fB := hpc
 have hpr : compR P fn.results.toList = some fR := hpr
 subst hN
 refine ⟨fun args w => ?_, fun E w φ0 vs hLat hE hpas hargs => ?_⟩
 ·simp only [callFunc, Sem.run_bind, run_program, Result.andThen_ok, hfn, hbody]
  have hname : (fn.name == "runtime.NumGoroutine") = false := by simpa using hname
  simp [hname]
 ·unfold pfun at h
  split at h
  ·rename_i hlen
   have hal := hargs.len
   have hlen : args.length ≤ fn.ntmps := hlen
   refine calls_of_wp hfn hbody ?_
   have hX : ∀ b, Xof E φ0 b → E b := fun b hb => by
    rcases hb with hb | ⟨i, c, hb⟩
    ·exact hb
    ·exact (hpas.dom i b c hb).2
   have hch : Ch E (Xof E φ0) w w := ⟨Nat.le_refl _, fun b _ hb => ⟨rfl, fun hx => hb (hX b hx)⟩⟩
   have hm0 : Mem E bs φ0 w φ0 (H0 bs) w := by
    refine ⟨fun i b hb => ?_, hpas.inj, fun i b c hi => ?_, hE, hpas.lt8, fun i b0 hi => ⟨?_, fun _ => rfl⟩, Nat.le_refl _, rfl, rfl, rfl, fun _ _ _ => rfl⟩
    ·have q := hpas.rep i b hb
     generalize φ0 i = pi at *
     cases pi with
     | nil a => cases b <;> exact q
     | blk k c =>
      cases b with
      | box cs => obtain ⟨vs', T, h1, h2⟩ := q; exact ⟨vs', T, h1, RepL.keep hch (fun _ _ h => h) _ _ h2⟩
      | own e kk cs =>
       obtain ⟨q0, cur, xs, r1, r2, r3, r4, r5, r6, r7⟩ := q
       exact ⟨q0, cur, xs, r1, r2, r3, r4, r5, r6, RepL.keep hch (fun _ _ h => h) _ _ r7⟩
    ·obtain ⟨h1, h2⟩ := hpas.dom i b c hi
     exact ⟨hE b h2, .inr ⟨h1, c, hi⟩⟩
    ·simp only [H0, hi]
     cases b0 <;> first | trivial | exact ⟨rfl, rfl⟩
   have hrel : Rel E bs φ0 w fn.ntmps (st0 args bs) { tmps := vs.toArray ++ Array.replicate (fn.ntmps - vs.toArray.size) undef, defers := [] } w := by
    refine ⟨⟨φ0, hm0, fun t => ?_⟩, rfl, by simp; omega⟩
    simp only [st0, List.getD_eq_getElem?_getD]
    by_cases ht : t < args.length
    ·obtain ⟨v, hv, q⟩ := hargs.get t args[t] (by simp [ht])
     rw [List.getElem?_eq_getElem ht]
     have hev : Act.eval { tmps := vs.toArray ++ Array.replicate (fn.ntmps - vs.toArray.size) undef, defers := [] } (.tmp t) = v := by
      simp only [Act.eval, Array.getD_eq_getD_getElem?]
      rw [Array.getElem?_append_left (by simp; omega)]
      simp [hv]
     rw [hev]
     exact RepV.keep hch (fun _ _ h => h) _ _ q
    ·rw [List.getElem?_eq_none (by omega)]; trivial
   have fin : ∀ {fx : Bool} {st : St} {a' : Act} {w' : World}, outX fx st bs.length fR = some (r, bs') → Rel E bs φ0 w fn.ntmps st a' w' → a'.defers = [] ∧ ∃ v, (results fn a'.tmps).run P w' = .ok v w' ∧ ∃ v' φ1 β, Ending.returned v = .returned v' ∧ Chg φ0 w w' ∧ OutOk E w w' φ0 bs r bs' v' φ1 β := by
    intro fx st a' w' hox ⟨⟨φ, hm, hs⟩, hd, _⟩
    obtain ⟨bs1, ho, hbs', hgen⟩ : ∃ bs1, outR st bs.length fR = some (r, bs1) ∧ bs' = bs1 ++ (if fx = true then [.box []] else []) ∧ (fx = true → genOk st.h bs.length = true) := by
     cases fx with
     | false => exact ⟨bs', hox, by simp, fun h => by cases h⟩
     | true =>
      simp only [outX] at hox
      split at hox
      ·rename_i r1 bs1 h1
       split at hox
       ·rename_i hg
        simp only [Option.some.injEq, Prod.mk.injEq] at hox
        obtain ⟨rfl, rfl⟩ := hox
        exact ⟨bs1, h1, by simp, fun _ => hg⟩
       ·cases hox
      ·cases hox
    have hown0 : ownsAll r bs' = ownsAll r bs1 := by
     subst hbs'
     unfold ownsAll
     rw [List.flatMap_append]
     cases fx <;> simp [ownsB, ownsL]
    clear hox
    refine ⟨hd, ?_⟩
    have hb : Chg φ0 w w' := ⟨hm.os, hm.tape, hm.out, hm.sz, fun k hk hne => hm.fr k hk (fun i c _ => hne i c)⟩
    unfold outR at ho
    split at ho
    ·rename_i bs2 ids hbs2
     split at ho
     ·rename_i l hl
      split at ho
      ·rename_i x ids2 hx
       simp only [Option.some.injEq, Prod.mk.injEq] at ho
       obtain ⟨rfl, rfl⟩ := ho
       obtain ⟨g1, g2⟩ := outBs_get hbs2
       have hat : ∀ i, i < bs.length → bs'[i]? = bs2[i]? := fun i hi => by
        rw [hbs', List.getElem?_append_left (by rw [g1]; simpa using hi)]
       have hbs : ∀ i b, i < bs.length → (st.h i).b = some b → ∃ b', bs'[i]? = some b' ∧ sameK b b' := fun i b hi hb => by
        obtain ⟨b1, b', h1, h2, h3⟩ := g2 i i (by simp [hi])
        rw [hb] at h1; cases h1
        exact ⟨b', by rw [hat i hi]; exact h2, h3⟩
       obtain ⟨vs', h1, h2⟩ := resV_ok hm hs hpr hl
       have hres : ∃ v, (results fn a'.tmps).run P w' = .ok v w' ∧ RepV (Xof E φ) w' (RefAt φ st.h) (resP l) v := by
        have e : results fn a'.tmps = (do let vs ← fn.results.mapM (resOf a'.tmps); pure (if h : vs.size = 1 then vs[0] else .tuple vs)) := rfl
        have hrun : (results fn a'.tmps).run P w' = .ok (if h : vs'.toArray.size = 1 then vs'.toArray[0] else .tuple vs'.toArray) w' := by
         rw [e, Sem.run_bind, Array.mapM_eq_mapM_toList]
         simp only [Sem.run_map, h1, Result.andThen_ok, Sem.run_pure]
        refine ⟨_, hrun, ?_⟩
        have hvl := h2.len
        match l, vs', h2, hvl with
        | [p], [v], h2, _ =>
         obtain ⟨v', rr, e, h3, _⟩ := h2
         cases e
         exact h3
        | [], [], h2, _ => exact ⟨#[], rfl, h2⟩
        | p :: q :: r, v :: u :: t, h2, _ =>
         have hn1 : ¬ ((v :: u :: t).toArray.size = 1) := by simp
         rw [dif_neg hn1]
         exact ⟨_, rfl, h2⟩
        | [_], [], _, hvl => simp at hvl
        | [_], _ :: _ :: _, _, hvl => simp at hvl
        | [], _ :: _, _, hvl => simp at hvl
        | _ :: _ :: _, [], _, hvl => simp at hvl
        | _ :: _ :: _, [_], _, hvl => simp at hvl
       obtain ⟨v, hrun, hv⟩ := hres
       obtain ⟨⟨t1, ht1⟩, a2, a2', a3⟩ := outBs_rep hm hbs (List.range bs.length) [] bs2 ids (fun i hi => List.mem_range.1 hi) hbs2
       obtain ⟨⟨t2, ht2⟩, c2, c2', c3⟩ := outV_rep hm hbs (resP l) ids _ ids2 v hx hv
       have hnd := c2 (a2 List.nodup_nil)
       have hge := c2' (a2' (by simp))
       obtain ⟨e1, e2⟩ := a3 ids2 ⟨t2, ht2⟩
       obtain ⟨e3, e4⟩ := c3 ids2 ⟨[], by simp⟩
       refine ⟨v, hrun, v, φM φ bs.length, βof φ ids2, rfl, hb, ?_⟩
       have βb : ∀ j b c, βof φ ids2 j = .blk b c → ∃ i, ids2[j]? = some i ∧ φ i = .blk b c := by
        intro j b c hj
        unfold βof at hj
        split at hj
        ·rename_i i hi; exact ⟨i, hi, hj⟩
        ·cases hj
       have φb : ∀ i b c, φM φ bs.length i = .blk b c → i < bs.length ∧ φ i = .blk b c := by
        intro i b c hi
        unfold φM at hi
        split at hi
        ·exact ⟨‹_›, hi⟩
        ·cases hi
       have hblen : bs2.length = bs.length := by rw [g1]; simp
       have hblen' : bs'.length = bs.length ∨ bs'.length = bs.length + 1 := by
        rw [hbs', List.length_append, hblen]; cases fx <;> simp
       have hfx : bs'.length = bs.length + 1 → fx = true := fun h => by
        rw [hbs', List.length_append, hblen] at h
        cases fx with
        | true => rfl
        | false => simp at h
       refine ⟨e3, fun i b hil hi => ?_, fun x hx => ?_, hblen', fun i b hi => ?_, fun i b c hi => ?_, fun i j b c c' hi hj => ?_, fun i j b c c' hi hj => ?_, fun i j b c c' hi hj => ?_, fun j b c hj => ?_⟩
       ·rw [hat i hil] at hi
        have := e1 i i b (by simp [hil]) hi
        unfold φM; rw [if_pos hil]; exact this
       ·rw [hown0] at hx
        have hxx : ∃ i, ids2[x.1]? = some i ∧ (st.h i).b = some x.2 := by
         rcases List.mem_append.1 hx with hx | hx
         ·exact e4 x hx
         ·exact e2 x hx
        have hyo : ∃ e k cs, x.2 = .own e k cs := by
         rcases List.mem_append.1 hx with h | h
         ·exact owns_own _ x h
         ·obtain ⟨bb, hbb, h⟩ := List.mem_flatMap.1 h
          cases bb with
          | box cs => exact ownsL_own cs x h
          | own => simp [ownsB] at h
        obtain ⟨i, hi, hbk⟩ := hxx
        have hβ : βof φ ids2 x.1 = φ i := by unfold βof; rw [hi]
        have q := hm.rep i _ hbk
        obtain ⟨e, k, cs, hown⟩ := hyo
        rw [hβ]
        rw [hown] at q ⊢
        cases hφ : φ i with
        | nil a => rw [hφ] at q; exact q
        | blk b1 c1 =>
         rw [hφ] at q
         obtain ⟨q0, cur, xs, r1, r2, r3, r4, r5, r6, r7⟩ := q
         exact ⟨q0, cur, xs, r1, r2, r3, r4, r5, r6, RepL.sub_d (yo_sub _ _) r7⟩
       ·have hil := (List.getElem?_eq_some_iff.1 hi).1
        obtain ⟨p1, p2⟩ := hm.pass i b hi
        obtain ⟨b1, b', h1, h2, h3⟩ := g2 i i (by simp [hil])
        rw [h1] at p1
        rw [hat i hil, h2]
        refine ⟨kin_trans p1 h3, fun hbx => ?_⟩
        unfold φM; rw [if_pos hil]
        refine p2 (hbx.imp id fun hl => ?_)
        have hg := hgen (hfx hl)
        unfold genOk at hg
        exact Nat.eq_of_beq_eq_true (List.all_eq_true.1 hg i (List.mem_range.2 hil))
       ·obtain ⟨hil, h1⟩ := φb i b c hi
        have := hm.lt i b c h1
        exact ⟨hil, this.1, this.2.imp id fun h => h.2⟩
       ·exact hm.inj i j b c c' (φb i b c hi).2 (φb j b c' hj).2
       ·obtain ⟨a, ha, h1⟩ := βb i b c hi
        obtain ⟨a', ha', h2⟩ := βb j b c' hj
        have := hm.inj a a' b c c' h1 h2
        subst this
        exact (List.getElem?_inj (List.getElem?_eq_some_iff.1 ha).1 hnd).1 (ha.trans ha'.symm)
       ·obtain ⟨hil, h1⟩ := φb i b c hi
        obtain ⟨a, ha, h2⟩ := βb j b c' hj
        have := hm.inj i a b c c' h1 h2
        subst this
        have := hge i (List.mem_of_getElem? ha)
        omega
       ·obtain ⟨i, hi, h1⟩ := βb j b c hj
        have := hm.lt i b c h1
        refine ⟨?_, this.1⟩
        rcases this.2 with h | ⟨h, _⟩
        ·exact h
        ·have := hge i (List.mem_of_getElem? hi); omega
      ·cases ho
     ·cases ho
    ·cases ho
   split at h
   ·rename_i st hst
    exact hpc (hγ.at hLat) n hst hrel fun a' w' hr' => fin h (rel_fin fF hr')
   ·rename_i st hst
    exact hpc (hγ.at hLat) n hst hrel fun a' w' hr' => fin h (rel_fin fF hr')
   ·cases h
  ·cases h
theorem lev_snd {W : World} {Φ : Nat → Phys} {br : List Nat} {codes : Nat → Option FCode} {base : Orc} (hb : Snd P base W Φ) (hc : ∀ f fc, codes f = some fc → OkF P br f fc) : ∀ n, Snd P (lev codes base n) W Φ
 | 0 => hb
 | n + 1 => by
  intro f args bs r bs' h
  simp only [lev] at h
  split at h
  ·rename_i fc hfc
   unfold pfunZ at h
   split at h
   ·split at h
    ·rename_i m cs ar
     split at h
     ·rename_i r' hr'
      split at h
      ·rename_i hor
       cases h
       obtain ⟨k, hk⟩ := pfunI_spec hr'
       have s1 := pfun_snd (lev_snd hb hc n) (hc f fc hfc) hk
       refine ⟨s1.1, fun E w φ0 vs hL hE hp hr => ?_⟩
       obtain ⟨v, rest, rfl, hv, hrest⟩ := hr
       have hv : RepD E w (.sl m cs) v := hv
       obtain ⟨a, c, e1, h1, h2, h3, h4⟩ := hv
       cases a with
       | some ad => exact s1.2 E w φ0 _ hL hE hp ⟨v, rest, rfl, ⟨⟨some ad, c, e1, h1, h2, h3, h4⟩, some ad, c, e1, rfl⟩, hrest⟩
       | none =>
        have hm : m = 0 := by have := h3 rfl; omega
        rcases hor with hor | hor
        ·exact absurd hm hor
        ·obtain ⟨k2, hk2⟩ := pfunI_spec hor
         have s2 := pfun_snd (lev_snd hb hc n) (hc f fc hfc) hk2
         subst hm
         exact s2.2 E w φ0 _ hL hE hp ⟨v, rest, rfl, ⟨⟨none, c, e1, h1, h2, h3, .inl rfl⟩, none, c, e1, rfl⟩, hrest⟩
      ·cases h
     ·cases h
    ·cases h
   ·obtain ⟨k, hk⟩ := pfunI_spec h
    exact pfun_snd (lev_snd hb hc n) (hc f fc hfc) hk
  ·exact hb f args bs r bs' h
theorem lev_calls {br : List Nat} {codes : Nat → Option FCode} {base : Orc} (hb : Snd P base w fun _ => .nil none) (hc : ∀ f fc, codes f = some fc → OkF P br f fc) {n f : Nat} {args : List PV} {r : PV} (h : lev codes base n f args [] = some (r, [])) {vs : List Value} (hargs : RepL (fun _ => False) w (fun _ _ => False) args vs) :
  Calls P f vs.toArray w fun e w' => ∃ v φ1 β, e = .returned v ∧ Below w.heap.size w w' ∧ OutOk (fun _ => False) w w' (fun _ => .nil none) [] r [] v φ1 β := by
 have hpas : Passed (fun _ => False) w (fun _ => .nil none) [] := ⟨by simp, (fun i b c h => by cases h), (fun i j b c c' h => by cases h), (fun i b h => by simp at h)⟩
 refine ((lev_snd hb hc n f args [] r [] h).2 _ w (fun _ => .nil none) vs .refl (fun _ h => h.elim) hpas (RepL.keep (Ch.refl _ _) (fun _ _ h => h.elim) _ _ hargs)).mono ?_
 rintro e w' ⟨v, φ1, β, rfl, hb, ho⟩
 exact ⟨v, φ1, β, rfl, ⟨hb.os, hb.tape, hb.out, hb.size, fun k hk => hb.blk k hk (fun i c h => by cases h)⟩, ho⟩
end
end Go.Proofs.YtobkkblijfhpoaaGreatDoor.Pm
