/- What is known of functions without code. -/
import Derived.Test.YtobkkblijfhpoaaGreatDoorPb
namespace Go.Proofs.YtobkkblijfhpoaaGreatDoor.Pm
open Go.RowKit
set_option linter.unusedVariables false
set_option linter.unusedSimpArgs false
def pl1 : PV → Bool
 | .d _ => true
 | _ => false
def pl : PV → Bool
 | .d _ => true
 | .tup cs => cs.all pl1
 | _ => false
def libO (l : List (Nat × (List PV → Option PV))) : Orc := fun f args bs =>
 match bs with
 | [] => match l.find? (fun x => Nat.beq x.1 f) with
  | some x => match x.2 args with
   | some r => if pl r = true then some (r, []) else none
   | none => none
  | none => none
 | _ => none
def LibOk (P : Program) (W : World) (Φ : Nat → Phys) (x : Nat × (List PV → Option PV)) : Prop :=
 canEnter P x.1 ∧ ∀ args r, x.2 args = some r → ∀ (E : Nat → Prop) (w : World) (φ0 : Nat → Phys) (R : Ref → Value → Prop) (vs : List Value), Later W Φ w φ0 → (∀ b, E b → b < w.heap.size) → RepL E w R args vs →
  Calls P x.1 vs.toArray w fun e w' => ∃ v, e = .returned v ∧ RepV (fun b => b < w.heap.size) w' (fun _ _ => False) r v ∧ Below w.heap.size w w'
theorem pl1_d {c : PV} (h : pl1 c = true) : ∃ x, c = .d x := by
 unfold pl1 at h
 split at h
 ·exact ⟨_, rfl⟩
 ·cases h
theorem pl_cases {r : PV} (h : pl r = true) : (∃ x, r = .d x) ∨ ∃ cs, r = .tup cs ∧ cs.all pl1 = true := by
 unfold pl at h
 split at h
 ·exact .inl ⟨_, rfl⟩
 ·exact .inr ⟨_, rfl, h⟩
 ·cases h
theorem pl_owns {r : PV} (h : pl r = true) : ownsAll r [] = [] := by
 have hl : ∀ cs : List PV, cs.all pl1 = true → ownsL cs = [] := fun cs => by
  induction cs with
  | nil => intro _; rfl
  | cons c cs ih =>
   intro h
   rw [List.all_cons, Bool.and_eq_true] at h
   have := ih h.2
   obtain ⟨x, rfl⟩ := pl1_d h.1
   show owns (.d x) ++ ownsL cs = []
   rw [this]; rfl
 rcases pl_cases h with ⟨x, rfl⟩ | ⟨cs, rfl, h⟩
 ·rfl
 ·show ownsL cs ++ [] = []
  rw [hl cs h]; rfl
theorem pl_sub {X X' : Nat → Prop} {w : World} {R R' : Ref → Value → Prop} (hX : ∀ b, b < w.heap.size → ¬ X b → ¬ X' b) {r : PV} {v : Value} (h : pl r = true) (hv : RepV X w R r v) : RepV X' w R' r v := by
 have hl : ∀ (cs : List PV) (vs : List Value), cs.all pl1 = true → RepL X w R cs vs → RepL X' w R' cs vs := fun cs => by
  induction cs with
  | nil => intro vs _ h; exact h
  | cons c cs ih =>
   intro vs h hr
   rw [List.all_cons, Bool.and_eq_true] at h
   obtain ⟨v, r, e, q1, q2⟩ := hr
   refine ⟨v, r, e, ?_, ih r h.2 q2⟩
   obtain ⟨x, rfl⟩ := pl1_d h.1
   exact RepD.sub hX q1
 rcases pl_cases h with ⟨x, rfl⟩ | ⟨cs, rfl, h⟩
 ·exact RepD.sub hX hv
 ·obtain ⟨vs, e, q⟩ := hv
  exact ⟨vs, e, hl _ _ h q⟩
theorem libO_snd {P : Program} {W : World} {Φ : Nat → Phys} {l : List (Nat × (List PV → Option PV))} (h : ∀ x ∈ l, LibOk P W Φ x) : Snd P (libO l) W Φ := by
 intro f args bs r bs' hr
 unfold libO at hr
 split at hr
 ·split at hr
  ·rename_i x hx
   split at hr
   ·rename_i r' hr'
    split at hr
    ·rename_i hpl
     cases hr
     have hmem := List.mem_of_find?_eq_some hx
     have hf : x.1 = f := Nat.eq_of_beq_eq_true (List.find?_some (p := fun x : Nat × (List PV → Option PV) => Nat.beq x.1 f) hx)
     obtain ⟨h1, h2⟩ := h x hmem
     rw [hf] at h1 h2
     have h3 := h2 args r hr'
     refine ⟨h1, fun E w φ0 vs hL hE hp ha => ?_⟩
     refine (h3 E w φ0 _ vs hL hE ha).mono ?_
     rintro e w' ⟨v, rfl, hv, hb⟩
     refine ⟨v, fun _ => .nil none, fun _ => .nil none, rfl, ⟨hb.os, hb.tape, hb.output, hb.size, fun b hlt _ => hb.block b hlt⟩, ?_⟩
     have hno : ownsAll r [] = [] := pl_owns hpl
     refine ⟨pl_sub (fun b _ hb hy => hb (by rcases hy with hy | ⟨i, c, hy⟩ | ⟨i, c, hy⟩ <;> first | exact hE b hy | cases hy)) hpl hv, (fun i b hil hi => by simp at hi), (fun x hx => by rw [hno] at hx; cases hx), .inl rfl, (fun i b hi => by simp at hi), (fun i b c hi => by cases hi), (fun i j b c c' hi => by cases hi), (fun i j b c c' hi => by cases hi), (fun i j b c c' hi => by cases hi), fun j b c hi => by cases hi⟩
    ·cases hr
   ·cases hr
  ·cases hr
 ·cases hr
theorem lib_call {codes : Nat → Option FCode} {l : List (Nat × (List PV → Option PV))} {f : Nat} {o : List PV → Option PV} {args : List PV} {r : PV} (hc : codes f = none) (hf : l.find? (fun x => Nat.beq x.1 f) = some (f, o)) (hp : pl r = true) (ho : o args = some r) : ∀ n, lev codes (libO l) n f args [] = some (r, []) := by
 have hb : libO l f args [] = some (r, []) := by
  unfold libO
  rw [hf]; simp only [ho]; rw [if_pos hp]
 intro n
 cases n with
 | zero => exact hb
 | succ n => simp only [lev, hc]; exact hb
end Go.Proofs.YtobkkblijfhpoaaGreatDoor.Pm
