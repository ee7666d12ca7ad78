/- Calls whose arguments are known, and copies of a slice that may be nil: the kernel runs the small machine. No program is named here. -/
import Derived.Test.YtobkkblijfhpoaaGreatDoorKrz
namespace Go.Proofs.YtobkkblijfhpoaaGreatDoor.Pm
open Go.RowKit
set_option linter.unusedVariables false
def oneO (f : Nat) (o : List PV → List Blk → Option (PV × List Blk)) : Orc := fun g args bs => match Nat.beq g f with
 | true => o args bs
 | false => none
def zed (f : Nat) (o : List PV → List Blk → Option (PV × List Blk)) (ar : List PV) (bs : List Blk) : Option (PV × List Blk) :=
 match dzO [f] (oneO f o) f (.slz false 0 [] :: ar) bs with
 | some (.d (.sl 0 []), []) => (match dzO [f] (oneO f o) f (.slz true 0 [] :: ar) bs with
  | some (.d (.sl 0 []), []) => some (.d (.sl 0 []), [])
  | _ => none)
 | _ => none
noncomputable def levE (F : List Nat) (codes : Nat → Option FCode) (base : Orc) (n : Nat) : Nat → Orc
 | 0, f, args, bs => base f args bs
 | d + 1, f, args, bs => match codes f with
  | some fc => if fc.z = true then (match args with
   | .d (.sl 0 []) :: ar => zed f (pfun (dzO F (levE F codes base n d)) n fc) ar bs
   | .d (.sl (m + 1) cs) :: ar => pfun (dzO F (levE F codes base n d)) n fc (.slz false (m + 1) cs :: ar) bs
   | _ => none) else pfun (dzO F (levE F codes base n d)) n fc args bs
  | none => base f args bs
theorem levE_snd {P : Program} {W : World} {Φ : Nat → Phys} {br : List Nat} {F : List Nat} {codes : Nat → Option FCode} {base : Orc} {k : Nat} (hb : Snd P base W Φ) (hc : ∀ f fc, codes f = some fc → OkF P br f fc) : ∀ n, Snd P (levE F codes base k n) W Φ
 | 0 => hb
 | n + 1 => by
  intro f args bs r bs' h
  simp only [levE] at h
  split at h
  ·rename_i fc hfc
   split at h
   ·split at h
    ·rename_i ar
     have h1 : Snd P (oneO f (pfun (dzO F (levE F codes base k n)) k fc)) W Φ := by
      intro g args' bs1 r1 bs2 hh
      unfold oneO at hh
      split at hh
      ·rename_i hg
       have hg' := Nat.eq_of_beq_eq_true hg
       exact pfun_snd (dzO_snd (levE_snd hb hc n)) (hc g fc (hg' ▸ hfc)) hh
      ·cases hh
     unfold zed at h
     split at h
     ·rename_i e1
      split at h
      ·rename_i e2
       cases h
       have s1 := (dzO_snd (F := [f]) h1) _ _ _ _ _ e1
       have s2 := (dzO_snd (F := [f]) h1) _ _ _ _ _ e2
       refine ⟨s1.1, fun E w φ0 vs hL hE hp hr => ?_⟩
       obtain ⟨v, rest, rfl, hv, hrest⟩ := hr
       have hv : RepD E w (.sl 0 []) v := hv
       obtain ⟨a, c, e1, h1, h2, h3, h4⟩ := hv
       cases a with
       | some ad => exact s1.2 E w φ0 _ hL hE hp ⟨v, rest, rfl, ⟨⟨some ad, c, e1, h1, h2, h3, h4⟩, some ad, c, e1, rfl⟩, hrest⟩
       | none => exact s2.2 E w φ0 _ hL hE hp ⟨v, rest, rfl, ⟨⟨none, c, e1, h1, h2, h3, .inl rfl⟩, none, c, e1, rfl⟩, hrest⟩
      ·cases h
     ·cases h
    ·rename_i m cs ar
     have s1 := pfun_snd (dzO_snd (levE_snd hb hc n)) (hc f fc hfc) h
     refine ⟨s1.1, fun E w φ0 vs hL hE hp hr => ?_⟩
     obtain ⟨v, rest, rfl, hv, hrest⟩ := hr
     have hv : RepD E w (.sl (m + 1) cs) v := hv
     obtain ⟨a, c, e1, h1, h2, h3, h4⟩ := hv
     cases a with
     | some ad => exact s1.2 E w φ0 _ hL hE hp ⟨v, rest, rfl, ⟨⟨some ad, c, e1, h1, h2, h3, h4⟩, some ad, c, e1, rfl⟩, hrest⟩
     | none => exact absurd (h3 rfl) (by omega)
    ·cases h
   ·exact pfun_snd (dzO_snd (levE_snd hb hc n)) (hc f fc hfc) h
  ·exact hb f args bs r bs' h
theorem lok_LivesE {P : Program} {W : World} {Φ : Nat → Phys} {br F : List Nat} {codes : Nat → Option FCode} {base : Orc} {k n f : Nat} (hc : ∀ f fc, codes f = some fc → OkF P br f fc) (hb : ∀ w φ0, Later W Φ w φ0 → Snd P base w (fun _ => .nil none)) (h : levE F codes base k n f [] [] = some (.d (.bool true), [])) : LibOk P W Φ (f, livesO libLives) := by
 have s : ∀ w φ0, Later W Φ w φ0 → Snd P (levE F codes base k n) w (fun _ => .nil none) := fun w φ0 hL => levE_snd (hb w φ0 hL) hc n
 refine ⟨((s W Φ .refl) f [] [] _ [] h).1, fun args r hr E w φ0 R vs hL hE ha => ?_⟩
 cases args with
 | cons a tl => cases hr
 | nil =>
  have hr' : r = .d (.bool true) := by
   simp only [livesO, libLives, Option.map_some, Option.some.injEq] at hr; exact hr.symm
  subst hr'
  have hvs : vs = [] := ha
  subst hvs
  have hpas : Passed (fun _ => False) w (fun _ => .nil none) [] := ⟨by simp, (fun i b c h => by cases h), (fun i j b c c' h => by cases h), (fun i b h => by simp at h)⟩
  refine (((s w φ0 hL) f [] [] _ [] h).2 _ w (fun _ => .nil none) [] .refl (fun _ h => h.elim) hpas rfl).mono ?_
  rintro e w' ⟨v, φ1, β, rfl, hb, ho⟩
  have hv : v = .bool true := ho.rep
  subst hv
  exact ⟨_, rfl, rfl, ⟨hb.os, hb.tape, hb.out, hb.size, fun k hk => hb.blk k hk (fun i c h => by cases h)⟩⟩
end Go.Proofs.YtobkkblijfhpoaaGreatDoor.Pm
