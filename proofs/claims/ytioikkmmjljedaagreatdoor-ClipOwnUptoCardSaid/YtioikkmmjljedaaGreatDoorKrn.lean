/- Calls whose arguments are known: the kernel runs the small machine itself. No program is named here. -/
import Derived.Test.YtioikkmmjljedaaGreatDoorLb0
namespace Go.Proofs.YtioikkmmjljedaaGreatDoor.Pm
open Go.RowKit
theorem compC_erase {P : Program} {br : List Nat} {N : Nat} : ∀ (c : Code) (pc : PCode), compC P br N c = some pc → erase pc = pc
  | .skip, pc, h => by simp only [compC, Option.some.injEq] at h; subst h; rfl
  | .label _, pc, h => by simp only [compC, Option.some.injEq] at h; subst h; rfl
  | .region _ ops draw, pc, h => by
    simp only [compC] at h
    split at h
    · split at h
      · split at h
        · cases h; rfl
        · cases h
      · cases h; rfl
    · cases h
  | .seq a b, pc, h => by
    simp only [compC] at h
    split at h
    · rename_i x y hx hy
      cases h
      simp only [erase, compC_erase a x hx, compC_erase b y hy]
    · cases h
  | .cond c t e, pc, h => by
    simp only [compC] at h
    split at h
    · rename_i x y hx hy
      cases h
      simp only [erase, compC_erase t x hx, compC_erase e y hy]
    · cases h
  | .block id c, pc, h => by
    simp only [compC] at h
    split at h
    · rename_i x hx
      cases h
      simp only [erase, compC_erase c x hx]
    · cases h
  | .loop c, pc, h => by
    simp only [compC] at h
    split at h
    · rename_i x hx
      cases h
      simp only [erase, compC_erase c x hx]
    · cases h
  | .exit _, pc, h => by simp only [compC, Option.some.injEq] at h; subst h; rfl
  | .ret, pc, h => by simp only [compC, Option.some.injEq] at h; subst h; rfl
  | .rangeFunc .., pc, h => by simp [compC] at h
  | .scope _, pc, h => by simp [compC] at h
  | .goto _, pc, h => by simp [compC] at h
/-- The program's own codes; z: functions that copy a slice, fx: functions whose blocks stay where they lie. -/
noncomputable def codesK (P : Program) (br z fx : List Nat) (f : Nat) : Option FCode :=
  (compF P br f).map fun c => ⟨c.N, c.body, c.res, if fx.any (Nat.beq f) = true then some ([3000000, 2000000], [], []) else none, z.any (Nat.beq f)⟩
theorem codesK_ok {P : Program} {br z fx : List Nat} (f : Nat) (fc : FCode) (h : codesK P br z fx f = some fc) : compF P br f = some (eraseF fc) := by
  unfold codesK at h
  cases hc : compF P br f with
  | none => rw [hc] at h; cases h
  | some c =>
    rw [hc] at h
    simp only [Option.map_some, Option.some.injEq] at h
    subst h
    unfold compF at hc
    split at hc
    · split at hc
      · split at hc
        · cases hc
        · split at hc
          · rename_i hb hr
            cases hc
            simp only [eraseF, compC_erase _ _ hb]
          · cases hc
      · cases hc
    · cases hc
/-- Calls, so deep, each loop so often. -/
noncomputable def levN (codes : Nat → Option FCode) (base : Orc) (n : Nat) : Nat → Orc
  | 0, f, args, bs => base f args bs
  | d + 1, f, args, bs => match codes f with
    | some fc => if fc.z = true then (match args with
      | .d (.sl m cs) :: ar => if Nat.beq m 0 = true then none else pfun (levN codes base n d) n fc (.slz false m cs :: ar) bs
      | _ => none) else pfun (levN codes base n d) n fc args bs
    | none => base f args bs
theorem levN_snd {P : Program} {W : World} {Φ : Nat → Phys} {br : List Nat} {codes : Nat → Option FCode} {base : Orc} {k : Nat} (hb : Snd P base W Φ) (hc : ∀ f fc, codes f = some fc → compF P br f = some (eraseF fc)) : ∀ n, Snd P (levN codes base k n) W Φ
  | 0 => hb
  | n + 1 => by
    intro f args bs r bs' h
    simp only [levN] at h
    split at h
    · rename_i fc hfc
      split at h
      · split at h
        · rename_i m cs ar
          split at h
          · cases h
          · rename_i hm0
            have s1 := pfun_snd (levN_snd hb hc n) (hc f fc hfc) h
            refine ⟨s1.1, fun E w φ0 vs hL hE hp hr => ?_⟩
            obtain ⟨v, rest, rfl, hv, hrest⟩ := hr
            have hv : RepD E w (.sl m cs) v := hv
            obtain ⟨a, c, e1, h1, h2, h3, h4⟩ := hv
            cases a with
            | some ad => exact s1.2 E w φ0 _ hL hE hp ⟨v, rest, rfl, ⟨⟨some ad, c, e1, h1, h2, h3, h4⟩, some ad, c, e1, rfl⟩, hrest⟩
            | none =>
              have hm : m = 0 := by have := h3 rfl; omega
              subst hm
              exact absurd rfl hm0
        · cases h
      · exact pfun_snd (levN_snd hb hc n) (hc f fc hfc) h
    · exact hb f args bs r bs' h
/-- A function of no arguments that tells true. -/
def livesO (g : Option Bool) : List PV → Option PV
  | [] => g.map fun b => .d (.bool b)
  | _ => none
def libLives : Option Bool := some true
theorem livesO_ {g : Option Bool} {z : Bool} (h : g = some z) : livesO g [] = some (.d (.bool z)) := by rw [h]; rfl
theorem lok_Lives {P : Program} {W : World} {Φ : Nat → Phys} {br : List Nat} {codes : Nat → Option FCode} {k n f : Nat} (hc : ∀ f fc, codes f = some fc → compF P br f = some (eraseF fc)) (h : levN codes base0 k n f [] [] = some (.d (.bool true), [])) : LibOk P W Φ (f, livesO libLives) := by
  have s : ∀ w : World, Snd P (levN codes base0 k n) w (fun _ => .nil none) := fun w => levN_snd (base0_snd _) hc n
  refine ⟨((s W) f [] [] _ [] h).1, fun args r hr E w φ0 R vs hL hE ha => ?_⟩
  cases args with
  | cons a tl => cases hr
  | nil =>
    have hr' : r = .d (.bool true) := by
      simp only [livesO, libLives, Option.map_some, Option.some.injEq] at hr; exact hr.symm
    subst hr'
    have hvs : vs = [] := ha
    subst hvs
    have hpas : Passed (fun _ => False) w (fun _ => .nil none) [] := ⟨by simp, (fun i b c h => by cases h), (fun i j b c c' h => by cases h), (fun i b h => by simp at h)⟩
    refine (((s w) f [] [] _ [] h).2 _ w (fun _ => .nil none) [] .refl (fun _ h => h.elim) hpas rfl).mono ?_
    rintro e w' ⟨v, φ1, β, rfl, hb, ho⟩
    have hv : v = .bool true := ho.rep
    subst hv
    exact ⟨_, rfl, rfl, ⟨hb.os, hb.tape, hb.out, hb.size, fun k hk => hb.blk k hk (fun i c h => by cases h)⟩⟩
end Go.Proofs.YtioikkmmjljedaaGreatDoor.Pm
