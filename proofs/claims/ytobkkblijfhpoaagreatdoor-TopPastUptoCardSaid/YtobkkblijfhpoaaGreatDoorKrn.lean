/- Calls whose arguments are known: the kernel runs the small machine itself. No program is named here. -/
import Derived.Test.YtobkkblijfhpoaaGreatDoorLb0
namespace Go.Proofs.YtobkkblijfhpoaaGreatDoor.Pm
open Go.RowKit
theorem compC_erase {P : Program} {br : List Nat} {N : Nat} : ∀ (c : Code) (pc : PCode), compC P br N c = some pc → erase pc = pc
 | .skip, pc, h => by simp only [compC, Option.some.injEq] at h; subst h; rfl
 | .label _, pc, h => by simp only [compC, Option.some.injEq] at h; subst h; rfl
 | .region _ ops draw, pc, h => by
  simp only [compC] at h
  split at h
  ·split at h
   ·split at h
    ·cases h; rfl
    ·cases h
   ·cases h; rfl
  ·cases h
 | .seq a b, pc, h => by
  simp only [compC] at h
  split at h
  ·rename_i x y hx hy
   cases h
   simp only [erase, compC_erase a x hx, compC_erase b y hy]
  ·cases h
 | .cond c t e, pc, h => by
  simp only [compC] at h
  split at h
  ·rename_i x y hx hy
   cases h
   simp only [erase, compC_erase t x hx, compC_erase e y hy]
  ·cases h
 | .block id c, pc, h => by
  simp only [compC] at h
  split at h
  ·rename_i x hx
   cases h
   simp only [erase, compC_erase c x hx]
  ·cases h
 | .loop c, pc, h => by
  simp only [compC] at h
  split at h
  ·rename_i x hx
   cases h
   simp only [erase, compC_erase c x hx]
  ·cases h
 | .exit _, pc, h => by simp only [compC, Option.some.injEq] at h; subst h; rfl
 | .ret, pc, h => by simp only [compC, Option.some.injEq] at h; subst h; rfl
 | .rangeFunc .., pc, h => by simp [compC] at h
 | .scope _, pc, h => by simp [compC] at h
 | .goto _, pc, h => by simp [compC] at h
noncomputable def codesK (P : Program) (br z fx : List Nat) (f : Nat) : Option FCode :=
 (compF P br f).map fun c => ⟨c.N, c.body, c.res, if fx.any (Nat.beq f) = true then some ([3000000, 2000000], [], []) else none, z.any (Nat.beq f)⟩
theorem codesK_ok {P : Program} {br z fx : List Nat} (f : Nat) (fc : FCode) (h : codesK P br z fx f = some fc) : OkF P br f fc := by
 refine compF_ok ?_
 unfold codesK at h
 cases hc : compF P br f with
 | none => rw [hc] at h; cases h
 | some c =>
  rw [hc] at h
  simp only [Option.map_some, Option.some.injEq] at h
  subst h
  unfold compF at hc
  split at hc
  ·split at hc
   ·split at hc
    ·cases hc
    ·split at hc
     ·rename_i hb hr
      cases hc
      simp only [eraseF, compC_erase _ _ hb]
     ·cases hc
   ·cases hc
  ·cases hc
def livesO (g : Option Bool) : List PV → Option PV
 | [] => g.map fun b => .d (.bool b)
 | _ => none
def libLives : Option Bool := some true
theorem livesO_ {g : Option Bool} {z : Bool} (h : g = some z) : livesO g [] = some (.d (.bool z)) := by rw [h]; rfl
end Go.Proofs.YtobkkblijfhpoaaGreatDoor.Pm
