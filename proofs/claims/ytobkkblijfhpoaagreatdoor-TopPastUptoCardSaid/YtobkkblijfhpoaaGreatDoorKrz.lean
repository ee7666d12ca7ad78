/- Calls whose arguments are known, with library functions, and with functions whose own slices are taken as data: the kernel runs the small machine. No program is named here. -/
import Derived.Test.YtobkkblijfhpoaaGreatDoorKrn
namespace Go.Proofs.YtobkkblijfhpoaaGreatDoor.Pm
open Go.RowKit
set_option linter.unusedVariables false
set_option linter.unusedSimpArgs false
def dz1 : PV → Option PV
 | .r (.own _ _ _ n cs) => some (.d (.sl n cs))
 | .d x => some (.d x)
 | _ => none
def dzL : List PV → Option (List PV)
 | [] => some []
 | p :: ps => match dz1 p, dzL ps with
  | some x, some l => some (x :: l)
  | _, _ => none
def dzV : PV → Option PV
 | .tup cs => (dzL cs).map .tup
 | p => dz1 p
def dzO (F : List Nat) (γ : Orc) : Orc := fun f args bs => match F.any (Nat.beq f) with
 | true => (match bs with
  | [] => (match γ f args [] with
   | some (r, []) => (match dzV r with
    | some x => some (x, [])
    | none => none)
   | _ => none)
  | _ => none)
 | false => γ f args bs
section
variable {E : Nat → Prop} {φ1 β : Nat → Phys} {w w' : World}
theorem Yo_less (b : Nat) (h : ¬ Yo E φ1 β b) : ¬ Yo E φ1 (fun _ => .nil none) b := fun q => by
 rcases q with q | q | ⟨j, c, q⟩
 ·exact h (.inl q)
 ·exact h (.inr (.inl q))
 ·cases q
theorem dz1_rep (hE : ∀ b, E b → b < w.heap.size) (h1 : ∀ i b c, φ1 i ≠ .blk b c) (hn : ∀ j b c, β j = .blk b c → w.heap.size ≤ b ∧ b < w'.heap.size) {p p' : PV} {v : Value} (hp : dz1 p = some p') (ho : ∀ x ∈ owns p, RepBg (Yo E φ1 β) w' (fun _ _ => False) (β x.1) x.2) (q : RepV (Yo E φ1 β) w' (RefOut φ1 [] β) p v) :
  RepV (Yo E φ1 (fun _ => .nil none)) w' (RefOut φ1 [] (fun _ => .nil none)) p' v ∧ owns p' = [] := by
 unfold dz1 at hp
 split at hp
 ·rename_i j e k n cs
  cases hp
  refine ⟨?_, rfl⟩
  have hb := ho (j, .own e k cs) (by simp [owns])
  obtain ⟨k0, hlen, q⟩ := q
  show RepD _ w' (.sl n cs) v
  cases hβ : β j with
  | nil a =>
   rw [hβ] at q
   obtain ⟨rfl, rfl⟩ := q
   have n0 : n = 0 := by
    rcases Nat.eq_zero_or_pos n with h | h
    ·exact h
    ·have := Nat.mul_pos h k0
     rw [← hlen] at this; simp at this
   subst n0
   exact ⟨a, 0, rfl, Nat.le_refl _, by simp, fun _ => rfl, .inl rfl⟩
  | blk b c =>
   rw [hβ] at q
   obtain ⟨rfl, hnc⟩ := q
   have hb : RepBg (Yo E φ1 β) w' (fun _ _ => False) (β j) (.own e k cs) := hb
   rw [hβ] at hb
   obtain ⟨_, cur, xs, hrow, hsz, hc, _, _, hx, hr⟩ := hb
   obtain ⟨n1, n2⟩ := hn j b c hβ
   refine ⟨some ⟨b, 0, none⟩, c, rfl, hnc, hc, fun h => (by cases h), .inr ⟨b, 0, rfl, fun y => ?_, n2, RepC.of_list (fun b _ h => Yo_less b h) hr fun i u hu => ?_⟩⟩
   ·rcases y with y | ⟨i, c, y⟩ | ⟨i, c, y⟩
    ·have := hE b y; omega
    ·exact h1 _ _ _ y
    ·cases y
   ·rw [Nat.zero_add, hrow.cell]
    subst hx
    rw [List.getElem?_take] at hu
    split at hu
    ·simpa using hu
    ·cases hu
 ·cases hp
  exact ⟨RepD.sub (fun b _ h => Yo_less b h) q, rfl⟩
 ·cases hp
theorem dzL_rep (hE : ∀ b, E b → b < w.heap.size) (h1 : ∀ i b c, φ1 i ≠ .blk b c) (hn : ∀ j b c, β j = .blk b c → w.heap.size ≤ b ∧ b < w'.heap.size) : ∀ {ps ps' : List PV} {vs : List Value}, dzL ps = some ps' → (∀ x ∈ ownsL ps, RepBg (Yo E φ1 β) w' (fun _ _ => False) (β x.1) x.2) → RepL (Yo E φ1 β) w' (RefOut φ1 [] β) ps vs →
  RepL (Yo E φ1 (fun _ => .nil none)) w' (RefOut φ1 [] (fun _ => .nil none)) ps' vs ∧ ownsL ps' = []
 | [], ps', vs, h, _, q => by
  simp only [dzL, Option.some.injEq] at h; subst h
  exact ⟨q, rfl⟩
 | p :: ps, ps', vs, h, ho, ⟨v, r, e, q1, q2⟩ => by
  simp only [dzL] at h
  split at h
  ·rename_i x l hx hl
   cases h
   obtain ⟨a1, a2⟩ := dz1_rep hE h1 hn hx (fun y hy => ho y (by simp only [ownsL]; exact List.mem_append_left _ hy)) q1
   obtain ⟨b1, b2⟩ := dzL_rep hE h1 hn hl (fun y hy => ho y (by simp only [ownsL]; exact List.mem_append_right _ hy)) q2
   exact ⟨⟨v, r, e, a1, b1⟩, by simp only [ownsL, a2, b2]; rfl⟩
  ·cases h
theorem dzV_rep (hE : ∀ b, E b → b < w.heap.size) (h1 : ∀ i b c, φ1 i ≠ .blk b c) (hn : ∀ j b c, β j = .blk b c → w.heap.size ≤ b ∧ b < w'.heap.size) {p p' : PV} {v : Value} (hp : dzV p = some p') (ho : ∀ x ∈ owns p, RepBg (Yo E φ1 β) w' (fun _ _ => False) (β x.1) x.2) (q : RepV (Yo E φ1 β) w' (RefOut φ1 [] β) p v) :
  RepV (Yo E φ1 (fun _ => .nil none)) w' (RefOut φ1 [] (fun _ => .nil none)) p' v ∧ owns p' = [] := by
 unfold dzV at hp
 split at hp
 ·rename_i cs
  simp only [Option.map_eq_some_iff] at hp
  obtain ⟨l, hl, rfl⟩ := hp
  obtain ⟨vs, e, q⟩ := q
  obtain ⟨a1, a2⟩ := dzL_rep hE h1 hn hl ho q
  exact ⟨⟨vs, e, a1⟩, a2⟩
 ·exact dz1_rep hE h1 hn hp ho q
end
theorem dzO_snd {P : Program} {W : World} {Φ : Nat → Phys} {F : List Nat} {γ : Orc} (h : Snd P γ W Φ) : Snd P (dzO F γ) W Φ := by
 intro f args bs r bs' hr
 unfold dzO at hr
 split at hr
 ·split at hr
  ·split at hr
   ·rename_i r0 h0
    split at hr
    ·rename_i x hx
     cases hr
     obtain ⟨c, k⟩ := h f args [] r0 [] h0
     refine ⟨c, fun E w φ0 vs hL hE hp ha => (k E w φ0 vs hL hE hp ha).mono ?_⟩
     rintro e w' ⟨v, φ1, β, rfl, hc, o⟩
     have h1 : ∀ i b c, φ1 i ≠ .blk b c := fun i b c q => by
      have := (o.dom i b c q).1; simp at this
     obtain ⟨a1, a2⟩ := dzV_rep hE h1 o.new hx (fun y hy => o.own y (by unfold ownsAll; simpa using hy)) o.rep
     refine ⟨v, φ1, fun _ => .nil none, rfl, hc, ⟨a1, fun i b hi => (by simp at hi), fun y hy => ?_, .inl rfl, fun i b hi => (by simp at hi), o.dom, o.inj1, fun i j b c c' q => (by cases q), fun i j b c c' _ q => (by cases q), fun j b c q => (by cases q)⟩⟩
     unfold ownsAll at hy
     rw [a2] at hy; simp at hy
    ·cases hr
   ·cases hr
  ·cases hr
 ·exact h f args bs r bs' hr
noncomputable def codesX (ex : List Nat) (codes : Nat → Option FCode) (f : Nat) : Option FCode := match ex.any (Nat.beq f) with
 | true => none
 | false => codes f
theorem codesX_ok {P : Program} {br ex : List Nat} {codes : Nat → Option FCode} (hc : ∀ f fc, codes f = some fc → OkF P br f fc) (f : Nat) (fc : FCode) (h : codesX ex codes f = some fc) : OkF P br f fc := by
 unfold codesX at h
 split at h
 ·cases h
 ·exact hc f fc h
end Go.Proofs.YtobkkblijfhpoaaGreatDoor.Pm
