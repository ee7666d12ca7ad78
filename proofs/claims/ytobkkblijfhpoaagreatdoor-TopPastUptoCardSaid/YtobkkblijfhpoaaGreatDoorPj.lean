/- The small machine: blocks under other names, blocks given up, empty slices made one's own. No program is named here. -/
import Derived.Test.YtobkkblijfhpoaaGreatDoorPz
namespace Go.Proofs.YtobkkblijfhpoaaGreatDoor.Pm
open Go.RowKit

mutual
def mvV (M : Nat → Option Nat) (H : Nat → Cel) (ng : Nat → Nat) : PV → PV
 | .agg cs => .agg (mvL M H ng cs)
 | .tup cs => .tup (mvL M H ng cs)
 | .fn f cs => .fn f (mvL M H ng cs)
 | .r (.msl j g l n) => match look H j g with
  | some (.own _ k cs) => (match M j with
   | some i => .r (.msl i (ng i) l n)
   | none => .d (.sl n ((cs.drop (l * k)).take (n * k))))
  | _ => .un
 | .r (.ptr j g o) => match look H j g, M j with
  | some _, some i => .r (.ptr i (ng i) o)
  | _, _ => .un
 | .r (.own ..) => .un
 | p => p
def mvL (M : Nat → Option Nat) (H : Nat → Cel) (ng : Nat → Nat) : List PV → List PV
 | [] => []
 | p :: ps => mvV M H ng p :: mvL M H ng ps
end
def mvB (M : Nat → Option Nat) (H : Nat → Cel) (ng : Nat → Nat) : Option Blk → Option Blk
 | some (.box cs) => some (.box (mvL M H ng cs))
 | b => b
def hB (G : Nat → Nat) (i : Nat) : Cel := ⟨G i, none⟩
def upL {α : Type} (f : Nat → α) : List Nat → (Nat → α) → (Nat → α)
 | [], b => b
 | i :: l, b => up (upL f l b) i (f i)
def newOf : List (Nat × Nat) → Nat → Option Nat
 | [], _ => none
 | (i, j) :: r, x => if Nat.beq x j = true then some i else newOf r x
def oldOf : List (Nat × Nat) → Nat → Option Nat
 | [], _ => none
 | (i, j) :: r, x => if Nat.beq x i = true then some j else oldOf r x
def ngOf (L : List Nat) (H : Nat → Cel) (i : Nat) : Nat := if (Nat.blt i 8 && (!Nat.beq (H i).g 0 || L.any (Nat.beq (1000000 + i)))) = true then 1 else 0
theorem ngOf_0 {L : List Nat} {H : Nat → Cel} {i : Nat} (hi : i < 8) (h : ngOf L H i = 0) : (H i).g = 0 := by
 unfold ngOf at h
 split at h
 ·cases h
 ·rename_i hc
  have h1 : Nat.blt i 8 = true := Nat.ble_eq_true_of_le hi
  rw [h1, Bool.true_and] at hc
  simp at hc
  exact hc.1
def celOf (L : List Nat) (B : List (Nat × Nat)) (H : Nat → Cel) (i : Nat) : Cel := match oldOf B i with
 | some j => ⟨ngOf L H i, mvB (newOf B) H (ngOf L H) (H j).b⟩
 | none => ⟨0, none⟩
def mvOk (B : List (Nat × Nat)) (H : Nat → Cel) : Bool :=
 ((List.range 8).all fun i => (match oldOf B i with | some j => Nat.beq i j | none => (H i).b.isNone)) && (distinct (B.map (·.1)) && distinct (B.map (·.2)))
def mvSt (L : List Nat) (B : List (Nat × Nat)) (st : St) : St :=
 if mvOk B st.h = true then
  ⟨upL (fun t => mvV (newOf B) st.h (ngOf L st.h) (st.s t)) L (fun _ => .un), upL (celOf L B st.h) (B.map (·.1)) (hB fun _ => 0)⟩
 else st
inductive NA where
 | slot (t : Nat) (p : Option Nat) (i e k : Nat)
 | cell (b p i e k : Nat)
def nilTo (i g : Nat) : PV := if Nat.ble 1 i = true then .r (.msl i g 0 0) else .d (.sl 0 [])
def nilH (i e k : Nat) (H : Nat → Cel) : Nat → Cel := if Nat.ble 1 i = true then up H i ⟨(H i).g + 1, some (.own e k [])⟩ else H
def nilOk (i e k : Nat) (H : Nat → Cel) : Bool := Nat.beq i 0 || (Nat.ble 8 i || (match (H i).b with
 | some (.own e' k' _) => Nat.beq e' e && Nat.beq k' k
 | _ => false))
def isNil : PV → Bool
 | .nil => true
 | _ => false
def nilAct : NA → St → St
 | .slot t none i e k, st => if (isNil (st.s t) && (Nat.blt 0 k && nilOk i e k st.h)) = true then ⟨up st.s t (nilTo i ((st.h i).g + 1)), nilH i e k st.h⟩ else st
 | .slot t (some p) i e k, st => match st.s t with
  | .agg cs => if ((match cs[p]? with | some x => isNil x | none => false) && (Nat.blt 0 k && nilOk i e k st.h)) = true then ⟨up st.s t (.agg (cs.set p (nilTo i ((st.h i).g + 1)))), nilH i e k st.h⟩ else st
  | _ => st
 | .cell b p i e k, st => match (st.h b).b with
  | some (.box cs) => if ((match cs[p]? with | some x => isNil x | none => false) && (Nat.blt 0 k && nilOk i e k st.h) && !Nat.beq b i) = true then ⟨st.s, up (nilH i e k st.h) b ⟨(st.h b).g, some (.box (cs.set p (nilTo i ((st.h i).g + 1))))⟩⟩ else st
  | _ => st
inductive Loc where
 | id (j : Nat)
 | slot (t : Nat) (p : Option Nat)
 | cell (b p : Nat)
def refB : PV → Option Nat
 | .r (.msl i _ _ _) => some i
 | .r (.ptr i _ _) => some i
 | _ => none
def locB (st : St) : Loc → Option Nat
 | .id j => some j
 | .slot t none => refB (st.s t)
 | .slot t (some p) => match st.s t with
  | .agg cs => (match cs[p]? with | some x => refB x | none => none)
  | _ => none
 | .cell b p => match (st.h b).b with
  | some (.box cs) => (match cs[p]? with | some x => refB x | none => none)
  | _ => none
def resB (st : St) : List (Nat × Loc) → List (Nat × Nat)
 | [] => []
 | (i, l) :: r => match locB st l with
  | some j => (i, j) :: resB st r
  | none => resB st r
def acts (A : List NA) (st : St) : St := A.foldl (fun st a => nilAct a st) st
def keepSt (L : List Nat) (B : List (Nat × Loc)) (A : List NA) (st : St) : St := mvSt L (resB (acts A st) B) (acts A st)

section
variable {P : Program} {E : Nat → Prop} {m : List Blk} {φ0 φ φ' : Nat → Phys} {H H' : Nat → Cel} {w0 w : World} {N : Nat} {KL : List Nat}
def phOf (B : List (Nat × Nat)) (φ : Nat → Phys) (i : Nat) : Phys := match oldOf B i with | some j => φ j | none => .nil none
theorem upL_eq {α : Type} (f : Nat → α) (b : Nat → α) : ∀ (l : List Nat) (i : Nat), upL f l b i = if inL l i = true then f i else b i
 | [], i => rfl
 | x :: l, i => by
  simp only [upL]
  by_cases e : i = x
  ·subst e; rw [up_same, if_pos (by simp [inL])]
  ·rw [up_ne _ _ _ _ e, upL_eq f b l i]
   have : inL (x :: l) i = inL l i := by simp [inL, e]
   rw [this]
theorem new_old : ∀ {B : List (Nat × Nat)} {i j : Nat}, distinct (B.map (·.1)) = true → distinct (B.map (·.2)) = true → (oldOf B i = some j ↔ newOf B j = some i)
 | [], i, j, _, _ => by simp [oldOf, newOf]
 | (a, b) :: r, i, j, h1, h2 => by
  simp only [List.map_cons, distinct, Bool.and_eq_true, List.all_eq_true, Bool.not_eq_true'] at h1 h2
  have ih := new_old (B := r) (i := i) (j := j) h1.2 h2.2
  have mem1 : ∀ {r : List (Nat × Nat)} {i j : Nat}, oldOf r i = some j → (i, j) ∈ r := by
   intro r
   induction r with
   | nil => intro i j h; simp [oldOf] at h
   | cons x r ih =>
    intro i j h
    simp only [oldOf] at h
    split at h
    ·rename_i e; have e := Nat.eq_of_beq_eq_true e; cases h; subst e; simp
    ·exact List.mem_cons_of_mem _ (ih h)
  have mem2 : ∀ {r : List (Nat × Nat)} {i j : Nat}, newOf r j = some i → (i, j) ∈ r := by
   intro r
   induction r with
   | nil => intro i j h; simp [newOf] at h
   | cons x r ih =>
    intro i j h
    simp only [newOf] at h
    split at h
    ·rename_i e; have e := Nat.eq_of_beq_eq_true e; cases h; subst e; simp
    ·exact List.mem_cons_of_mem _ (ih h)
  simp only [oldOf, newOf]
  constructor
  ·intro h
   split at h
   ·rename_i e; have e := Nat.eq_of_beq_eq_true e; cases h; subst e; simp
   ·rename_i e
    have hm := mem1 h
    have hjb : ¬ Nat.beq j b = true := fun hb => by
     have hb := Nat.eq_of_beq_eq_true hb
     have := h2.1 j (List.mem_map_of_mem (f := fun x => x.2) hm)
     rw [hb] at this; simp at this
    rw [if_neg hjb]; exact ih.1 h
  ·intro h
   split at h
   ·rename_i e; have e := Nat.eq_of_beq_eq_true e; cases h; subst e; simp
   ·rename_i e
    have hm := mem2 h
    have hia : ¬ Nat.beq i a = true := fun hb => by
     have hb := Nat.eq_of_beq_eq_true hb
     have := h1.1 i (List.mem_map_of_mem (f := fun x => x.1) hm)
     rw [hb] at this; simp at this
    rw [if_neg hia]; exact ih.2 h
section
variable {B : List (Nat × Nat)}
mutual
theorem mvV_rep (hm : Mem E m φ0 w0 φ H w) (hd1 : distinct (B.map (·.1)) = true) (hd2 : distinct (B.map (·.2)) = true) (h8 : ∀ j, newOf B j = none → (H j).b ≠ none → m.length ≤ j)
  (ch : Ch (Xof E φ) (Xof E (phOf B φ)) w w) (hH : ∀ i j, oldOf B i = some j → H' i = celOf KL B H i) :
  ∀ (p : PV) (v : Value), RepV (Xof E φ) w (RefAt φ H) p v → RepV (Xof E (phOf B φ)) w (RefAt (phOf B φ) H') (mvV (newOf B) H (ngOf KL H) p) v
 | .d x, v, q => RepD.keep ch x v q
 | .rptr cs, v, ⟨b, o, e, hx, hl, hc⟩ => ⟨b, o, e, (ch.blk b hl hx).2, hl, RepC.keep ch cs b o hx hl hc⟩
 | .nil, v, q => q
 | .slz z n cs, v, ⟨q1, q2⟩ => ⟨RepD.keep ch (.sl n cs) v q1, q2⟩
 | .un, v, _ => trivial
 | .agg cs, v, ⟨vs, e, q⟩ => ⟨vs, e, mvL_rep hm hd1 hd2 h8 ch hH cs _ q⟩
 | .tup cs, v, ⟨vs, e, q⟩ => ⟨vs, e, mvL_rep hm hd1 hd2 h8 ch hH cs _ q⟩
 | .fn f cs, v, ⟨vs, e, q⟩ => ⟨vs, e, mvL_rep hm hd1 hd2 h8 ch hH cs _ q⟩
 | .r (.own ..), v, q => q.elim
 | .r (.ptr j g o), v, q => by
  unfold mvV
  split
  ·rename_i b i hl hM
   obtain ⟨hg, hb⟩ := hm.blk_at hl
   have ho := (new_old hd1 hd2).2 hM
   obtain ⟨q0, q1, q2⟩ := q
   have e := hH i j ho
   have goal : RefAt (phOf B φ) H' (.ptr i (ngOf KL H i) o) v := by
    refine ⟨q0, by rw [e]; simp only [celOf, ho]; exact Nat.le_refl _, fun _ _ => ?_⟩
    obtain ⟨x, c, hp, hv⟩ := q2 hg (by rw [hb]; rfl)
    exact ⟨x, c, by simp only [phOf, ho]; exact hp, hv⟩
   unfold RepV; exact goal
  ·trivial
 | .r (.msl j g l n), v, q => by
  unfold mvV
  split
  ·rename_i e k cs hl
   obtain ⟨hg, hb⟩ := hm.blk_at hl
   split
   ·rename_i i hM
    have ho := (new_old hd1 hd2).2 hM
    obtain ⟨q0, q1, q2⟩ := q
    have eH := hH i j ho
    have goal : RefAt (phOf B φ) H' (.msl i (ngOf KL H i) l n) v := by
     refine ⟨q0, by rw [eH]; simp only [celOf, ho]; exact Nat.le_refl _, fun _ e' k' cs' hb' => ?_⟩
     rw [eH] at hb'
     simp only [celOf, ho, hb, mvB, Option.some.injEq, Blk.own.injEq] at hb'
     obtain ⟨rfl, rfl, rfl⟩ := hb'
     have := q2 hg _ _ _ hb
     simp only [phOf, ho]; exact this
    unfold RepV; exact goal
   ·rename_i hM
    have ha : asL H (.r (.msl j g l n)) = some (n, (cs.drop (l * k)).take (n * k)) := by simp only [asL, hl]
    obtain ⟨a, c, us, hv, h1, h2, h3, h4, h5⟩ := hm.list_at ha q
    refine ⟨a, c, hv, h1, h2, h3, ?_⟩
    rcases h5 with h5 | ⟨b, o, ea, hbs, hc⟩
    ·exact .inl h5
    ·by_cases hne : (cs.drop (l * k)).take (n * k) = []
     ·exact .inl hne
     ·obtain ⟨_, _, q2⟩ := q
      obtain ⟨hk, hle, hp⟩ := q2 hg e k cs hb
      have hjm : m.length ≤ j := h8 j hM (by rw [hb]; simp)
      have hx : ¬ Xof E (phOf B φ) b := by
       cases hφ : φ j with
       | nil a' => rw [hφ] at hp; obtain ⟨_, _, rfl⟩ := hp; exact absurd (by simp) hne
       | blk b1 c1 =>
        rw [hφ] at hp
        obtain ⟨a', c', hv', _, _, h6, _, _⟩ := hp
        have h6 := h6 (by
         rcases Nat.eq_zero_or_pos n with h0 | h0
         ·subst h0; exact absurd (by simp) hne
         ·exact h0)
        rw [hv] at hv'; cases hv'
        rw [h6] at ea; cases ea
        rintro (hx | ⟨i', c2, hx⟩)
        ·have := hm.ext _ hx
         rcases (hm.lt j _ c1 hφ).2 with h | ⟨h, _⟩ <;> omega
        ·unfold phOf at hx
         split at hx
         ·rename_i j' ho'
          have := hm.inj _ _ _ _ _ hφ hx
          subst this
          rw [(new_old hd1 hd2).1 ho'] at hM; cases hM
         ·cases hx
      refine .inr ⟨b, o, ea, hx, hbs, RepC.of fun j' y hy => ?_⟩
      obtain ⟨u, hu1, hu2⟩ := h4.d_get j' y hy
      exact ⟨u, hc j' u hu1, RepD.keep ch y u hu2⟩
  ·trivial
theorem mvL_rep (hm : Mem E m φ0 w0 φ H w) (hd1 : distinct (B.map (·.1)) = true) (hd2 : distinct (B.map (·.2)) = true) (h8 : ∀ j, newOf B j = none → (H j).b ≠ none → m.length ≤ j)
  (ch : Ch (Xof E φ) (Xof E (phOf B φ)) w w) (hH : ∀ i j, oldOf B i = some j → H' i = celOf KL B H i) :
  ∀ (p : List PV) (v : List Value), RepL (Xof E φ) w (RefAt φ H) p v → RepL (Xof E (phOf B φ)) w (RefAt (phOf B φ) H') (mvL (newOf B) H (ngOf KL H) p) v
 | [], _, q => q
 | p :: ps, _, ⟨v, r, e, q1, q2⟩ => ⟨v, r, e, mvV_rep hm hd1 hd2 h8 ch hH p v q1, mvL_rep hm hd1 hd2 h8 ch hH ps r q2⟩
end
end
theorem Mem.move (hm : Mem E m φ0 w0 φ H w) {B : List (Nat × Nat)} (hB : mvOk B H = true) {H' : Nat → Cel} (hH : ∀ i, H' i = celOf KL B H i) :
  Mem E m φ0 w0 (phOf B φ) H' w ∧ ∀ p v, RepV (Xof E φ) w (RefAt φ H) p v → RepV (Xof E (phOf B φ)) w (RefAt (phOf B φ) H') (mvV (newOf B) H (ngOf KL H) p) v := by
 simp only [mvOk, Bool.and_eq_true, List.all_eq_true, List.mem_range] at hB
 obtain ⟨hB0, hd1, hd2⟩ := hB
 have own : ∀ i, i < m.length → oldOf B i = some i := by
  intro i hi
  have h1 := hB0 i (by have := hm.m8; omega)
  split at h1
  ·rename_i j hj
   have := Nat.eq_of_beq_eq_true h1
   subst this; exact hj
  ·have := (hm.pass i m[i] (by simp [hi])).1
   have h0 : (H i).b = none := by simpa using h1
   rw [h0] at this
   cases hk : m[i] with
   | box => rw [hk] at this; exact this.elim
   | own => rw [hk] at this; exact this.elim
 have h8 : ∀ j, newOf B j = none → (H j).b ≠ none → m.length ≤ j := by
  intro j hj hb
  apply Classical.byContradiction
  intro hc
  have := (new_old hd1 hd2).1 (own j (by omega))
  rw [this] at hj; cases hj
 have sub : ∀ b, Xof E (phOf B φ) b → Xof E φ b := by
  rintro b (h | ⟨i, c, h⟩)
  ·exact .inl h
  ·unfold phOf at h
   split at h
   ·exact .inr ⟨_, c, h⟩
   ·cases h
 have ch : Ch (Xof E φ) (Xof E (phOf B φ)) w w := ⟨Nat.le_refl _, fun b _ hb => ⟨rfl, fun h => hb (sub b h)⟩⟩
 have conv := mvV_rep (H' := H') hm hd1 hd2 h8 ch (fun i j _ => hH i)
 have convL := mvL_rep (H' := H') hm hd1 hd2 h8 ch (fun i j _ => hH i)
 refine ⟨⟨?_, ?_, ?_, hm.ext, hm.m8, ?_, hm.sz, hm.os, hm.tape, hm.out, hm.fr⟩, conv⟩
 ·intro i b hb
  rw [hH] at hb
  simp only [celOf] at hb
  split at hb
  ·rename_i j hj
   have hφ : phOf B φ i = φ j := by simp only [phOf, hj]
   rw [hφ]
   cases hq : (H j).b with
   | none => rw [hq] at hb; cases hb
   | some bb =>
    rw [hq] at hb
    have q := hm.rep j bb hq
    cases bb with
    | box cs =>
     simp only [mvB, Option.some.injEq] at hb; subst hb
     cases hpj : φ j with
     | nil => rw [hpj] at q; exact q
     | blk x c =>
      rw [hpj] at q
      obtain ⟨vs, T, q1, q2⟩ := q
      exact ⟨vs, T, q1, convL _ _ q2⟩
    | own e k cs =>
     simp only [mvB, Option.some.injEq] at hb; subst hb
     cases hpj : φ j with
     | nil => rw [hpj] at q; exact q
     | blk x c =>
      rw [hpj] at q
      obtain ⟨q0, cur, xs, q1, q2, q3, q4, q5, q6, q7⟩ := q
      refine ⟨q0, cur, xs, q1, q2, q3, q4, q5, q6, ?_⟩
      have e : ∀ l : List PD, mvL (newOf B) H (ngOf KL H) (l.map .d) = l.map .d := by
       intro l
       induction l with
       | nil => rfl
       | cons a l ih => simp [mvL, mvV, ih]
      have := convL _ _ q7
      rw [e] at this; exact this
  ·cases hb
 ·intro i i' b c c' hi hi'
  unfold phOf at hi hi'
  split at hi
  ·rename_i j hj
   split at hi'
   ·rename_i j' hj'
    have := hm.inj _ _ _ _ _ hi hi'
    subst this
    have h1 := (new_old hd1 hd2).1 hj
    have h2 := (new_old hd1 hd2).1 hj'
    rw [h1] at h2; exact Option.some.inj h2
   ·cases hi'
  ·cases hi
 ·intro i b c hi
  unfold phOf at hi
  split at hi
  ·rename_i j hj
   refine ⟨(hm.lt j b c hi).1, ?_⟩
   rcases (hm.lt j b c hi).2 with h | ⟨h, hc⟩
   ·exact .inl h
   ·have := own j h
    have h1 := (new_old hd1 hd2).1 hj
    have h2 := (new_old hd1 hd2).1 this
    rw [h1] at h2
    have := Option.some.inj h2
    subst this
    exact .inr ⟨h, hc⟩
  ·cases hi
 ·intro i b0 hi
  have hil := (List.getElem?_eq_some_iff.1 hi).1
  obtain ⟨p1, p2⟩ := hm.pass i b0 hi
  have ho := own i hil
  have hg : (H' i).g = 0 → (H i).g = 0 := fun h => by
   rw [hH] at h; simp only [celOf, ho] at h
   exact ngOf_0 (by have := hm.m8; omega) h
  refine ⟨?_, fun h => by simp only [phOf, ho]; exact p2 (h.imp id hg)⟩
  rw [hH]; simp only [celOf, ho]
  cases hq : (H i).b with
  | none => rw [hq] at p1; exact p1
  | some b => rw [hq] at p1; cases b <;> cases b0 <;> first | exact p1 | exact p1.elim
theorem rel_mv {st : St} {a : Act} {w : World} (L : List Nat) (B : List (Nat × Nat)) (hr : Rel E m φ0 w0 N st a w) : Rel E m φ0 w0 N (mvSt L B st) a w := by
 unfold mvSt
 split
 rotate_left
 ·exact hr
 rename_i hk
 obtain ⟨φ, hm, hs⟩ := hr.all
 have hin : ∀ i, inL (B.map (·.1)) i = true ↔ ∃ j, oldOf B i = some j := by
  intro i
  clear hk
  induction B with
  | nil => simp [inL, oldOf]
  | cons x r ih =>
   obtain ⟨a, b⟩ := x
   simp only [oldOf, List.map_cons]
   by_cases e : i = a
   ·subst e; simp [inL]
   ·have h1 : inL (a :: r.map (·.1)) i = inL (r.map (·.1)) i := by simp [inL, e]
    rw [h1, if_neg (by simpa using e)]; exact ih
 obtain ⟨m1, fr⟩ := hm.move (KL := L) hk (H' := upL (celOf L B st.h) (B.map (·.1)) (hB fun _ => 0)) (fun i => by
   rw [upL_eq]
   by_cases h : inL (B.map (·.1)) i = true
   ·rw [if_pos h]
   ·rw [if_neg h]
    have : oldOf B i = none := by
     cases ho : oldOf B i with
     | none => rfl
     | some j => exact absurd ((hin i).2 ⟨j, ho⟩) h
    simp [celOf, ngOf, this, hB])
 refine ⟨⟨phOf B φ, m1, fun t => ?_⟩, hr.defers, hr.size⟩
 show RepV (Xof E (phOf B φ)) w (RefAt (phOf B φ) _) (upL (fun t => mvV (newOf B) st.h (ngOf L st.h) (st.s t)) L (fun _ => .un) t) _
 rw [upL_eq]
 split
 ·exact fr _ _ (hs t)
 ·trivial
theorem isNil_eq {p : PV} (h : isNil p = true) : p = .nil := by cases p <;> first | rfl | cases h
theorem Mem.nilTo (hm : Mem E m φ0 w0 φ H w) (i e k : Nat) (hk : 0 < k) (hok : nilOk i e k H = true) {v : Value} (hv : RepV (Xof E φ) w (RefAt φ H) .nil v) :
  ∃ φ', (∀ j, j ≠ i → φ' j = φ j) ∧ Mem E m φ0 w0 φ' (nilH i e k H) w ∧ Tr E φ H w φ' (nilH i e k H) w ∧ RepV (Xof E φ') w (RefAt φ' (nilH i e k H)) (Pm.nilTo i ((H i).g + 1)) v := by
 obtain ⟨a, rfl⟩ := hv
 unfold nilH Pm.nilTo
 split
 ·rename_i h8
  have h8' : 1 ≤ i := Nat.le_of_ble_eq_true h8
  have hkin : i < m.length → (∀ b0, kin b0 (H i).b → kin b0 (some (.own e k []))) ∧ ∃ e' k' cs, (H i).b = some (.own e' k' cs) := by
   intro hlt
   have hm8 := hm.m8
   unfold nilOk at hok
   have h0 : Nat.beq i 0 = false := by cases h : Nat.beq i 0; rfl; have := Nat.eq_of_beq_eq_true h; omega
   have h9 : Nat.ble 8 i = false := by cases h : Nat.ble 8 i; rfl; have := Nat.le_of_ble_eq_true h; omega
   rw [h0, h9, Bool.false_or, Bool.false_or] at hok
   split at hok
   ·rename_i e' k' cs hb
    rw [Bool.and_eq_true] at hok
    have e1 := Nat.eq_of_beq_eq_true hok.1
    have e2 := Nat.eq_of_beq_eq_true hok.2
    subst e1; subst e2
    exact ⟨fun b0 hk0 => by rw [hb] at hk0; cases b0 <;> first | exact hk0 | exact hk0.elim, _, _, _, hb⟩
   ·cases hok
  have key := hm.upd (φ' := up φ i (.nil a)) (H' := up H i ⟨(H i).g + 1, some (.own e k [])⟩) (w' := w) (fun j => j = i) (fun j hj => ⟨up_ne _ _ _ _ hj, up_ne _ _ _ _ hj⟩) (fun j hj => by subst hj; rw [up_same]; exact .inl (Nat.lt_succ_self _)) (fun _ _ _ => rfl)
   (fun j b' c' hj hp => by subst hj; rw [up_same] at hp; cases hp) (fun a a' _ _ _ h1 h2 _ _ => h1.trans h2.symm) (fun j hj hjm => by subst hj; rw [up_same]; exact ⟨(hkin hjm).1, .inr (hkin hjm).2⟩) (Nat.le_refl _) ⟨rfl, rfl, rfl⟩ (by
    intro tr j b' hj hb'
    subst hj
    rw [up_same] at hb'
    simp only [Option.some.injEq] at hb'
    subst hb'
    rw [up_same]
    exact ⟨hk, rfl⟩)
  refine ⟨up φ i (.nil a), fun j hj => up_ne _ _ _ _ hj, key.1, key.2, ?_⟩
  have := ref_nil (φ := up φ i (.nil a)) (H := up H i ⟨(H i).g + 1, some (.own e k [])⟩) (i := i) (k := k) (e := e) (by rw [up_same]) (by rw [up_same]) hk
  rw [up_same] at this
  unfold RepV; exact this
 ·exact ⟨φ, fun _ _ => rfl, hm, Tr.refl, ⟨a, 0, rfl, Nat.le_refl _, by simp, fun _ => rfl, .inl rfl⟩⟩
theorem RepL.set {X : Nat → Prop} {R : Ref → Value → Prop} {x : PV} : ∀ {ps : List PV} {vs : List Value} {p : Nat}, RepL X w R ps vs → (∀ v, vs[p]? = some v → RepV X w R x v) → RepL X w R (ps.set p x) vs
 | [], _, _, h, _ => h
 | _ :: _, _, 0, ⟨v, r, e, h1, h2⟩, hx => ⟨v, r, e, hx v (by subst e; rfl), h2⟩
 | _ :: _, _, p + 1, ⟨v, r, e, h1, h2⟩, hx => ⟨v, r, e, h1, RepL.set h2 (fun u hu => hx u (by subst e; simpa using hu))⟩
theorem rel_nil {st : St} {a : Act} {w : World} (x : NA) (hr : Rel E m φ0 w0 N st a w) : Rel E m φ0 w0 N (nilAct x st) a w := by
 obtain ⟨φ, hm, hs⟩ := hr.all
 cases x with
 | slot t p i e k =>
  cases p with
  | none =>
   simp only [nilAct]
   split
   rotate_left
   ·exact hr
   rename_i hc
   simp only [Bool.and_eq_true] at hc
   have e0 := isNil_eq hc.1
   have hk : 0 < k := Nat.le_of_ble_eq_true hc.2.1
   obtain ⟨φ1, f1, m1, t1, r1⟩ := hm.nilTo i e k hk hc.2.2 (v := a.eval (.tmp t)) (by have := hs t; rwa [e0] at this)
   refine ⟨⟨φ1, m1, fun t' => ?_⟩, hr.defers, hr.size⟩
   show RepV _ _ _ (up st.s t _ t') _
   by_cases e : t' = t
   ·subst e; rw [up_same]; exact r1
   ·rw [up_ne _ _ _ _ e]; exact t1.v (hs t')
  | some p =>
   simp only [nilAct]
   split
   rotate_left
   ·exact hr
   rename_i cs ecs
   have hst := hs t
   rw [ecs] at hst
   obtain ⟨vs, ev, q⟩ := hst
   cases hq : cs[p]? with
   | none => exact hr
   | some y =>
    simp only []
    split
    rotate_left
    ·exact hr
    rename_i hc
    have hc := (Bool.and_eq_true _ _).mp hc
    have hc3 := (Bool.and_eq_true _ _).mp hc.2
    have hk : 0 < k := Nat.le_of_ble_eq_true hc3.1
    have e0 := isNil_eq hc.1
    subst e0
    obtain ⟨v, hv, hvr⟩ := q.get p _ hq
    obtain ⟨φ1, f1, m1, t1, r1⟩ := hm.nilTo i e k hk hc3.2 (v := v) hvr
    refine ⟨⟨φ1, m1, fun t' => ?_⟩, hr.defers, hr.size⟩
    show RepV _ _ _ (up st.s t _ t') _
    by_cases e : t' = t
    ·subst e; rw [up_same]; exact ⟨vs, ev, RepL.set (t1.l q) (fun u hu => by rw [hv] at hu; cases hu; exact r1)⟩
    ·rw [up_ne _ _ _ _ e]; exact t1.v (hs t')
 | cell b p i e k =>
  simp only [nilAct]
  split
  rotate_left
  ·exact hr
  rename_i cs ecs
  cases hq : cs[p]? with
  | none => exact hr
  | some y =>
   simp only []
   split
   rotate_left
   ·exact hr
   rename_i hc
   have hc := (Bool.and_eq_true _ _).mp hc
   have hc1 := (Bool.and_eq_true _ _).mp hc.1
   have hc3 := (Bool.and_eq_true _ _).mp hc1.2
   have hk : 0 < k := Nat.le_of_ble_eq_true hc3.1
   have hbi : b ≠ i := fun h => by have := hc.2; simp [h] at this
   have e0 := isNil_eq hc1.1
   subst e0
   have hrep := hm.rep b _ ecs
   cases hφ : φ b with
   | nil a' => rw [hφ] at hrep; exact hrep.elim
   | blk x c =>
    rw [hφ] at hrep
    obtain ⟨vs, T, h1, h2⟩ := hrep
    obtain ⟨v, hv, hvr⟩ := h2.get p _ hq
    obtain ⟨φ1, f1, m1, t1, r1⟩ := hm.nilTo i e k hk hc3.2 (v := v) hvr
    have hb1 : (nilH i e k st.h) b = st.h b := by
     unfold nilH; split
     ·exact up_ne _ _ _ _ hbi
     ·rfl
    have hg1 : ((nilH i e k st.h) b).b = some (.box cs) := by rw [hb1]; exact ecs
    have hrep1 := m1.rep b _ hg1
    have hbx : φ1 b = .blk x c := by rw [f1 b hbi]; exact hφ
    have key := m1.upd (φ' := φ1) (H' := up (nilH i e k st.h) b ⟨(st.h b).g, some (.box (cs.set p (Pm.nilTo i ((st.h i).g + 1))))⟩) (w' := w) (fun j => j = b) (fun j hj => ⟨rfl, up_ne _ _ _ _ hj⟩)
     (fun j hj => by subst hj; rw [up_same]; exact .inr ⟨rfl, by rw [hb1], by rw [hg1]; trivial⟩) (fun _ _ _ => rfl)
     (fun j b' c' hj hp => ⟨(m1.lt j b' c' hp).1, .inr ⟨c', hp⟩⟩) (fun a a' _ _ _ h1 h2 _ _ => h1.trans h2.symm)
     (fun j hj hjm => by
      subst hj
      refine ⟨fun b0 h => ?_, .inl rfl⟩
      rw [hg1] at h; rw [up_same]
      cases b0 <;> first | trivial | exact h.elim) (Nat.le_refl _) ⟨rfl, rfl, rfl⟩ (fun tr j b' hj hb' => by
      subst hj
      rw [up_same] at hb'
      simp only [Option.some.injEq] at hb'
      subst hb'
      rw [hbx]
      exact ⟨vs, T, h1, RepL.set (tr.l (t1.l h2)) (fun u hu => by rw [hv] at hu; cases hu; exact tr.v r1)⟩)
    exact ⟨⟨φ1, key.1, fun t' => key.2.v (t1.v (hs t'))⟩, hr.defers, hr.size⟩
theorem rel_keep {st : St} {a : Act} {w : World} (L : List Nat) (B : List (Nat × Loc)) (A : List NA) (hr : Rel E m φ0 w0 N st a w) : Rel E m φ0 w0 N (keepSt L B A st) a w := by
 unfold keepSt
 refine rel_mv L _ ?_
 unfold acts
 induction A generalizing st with
 | nil => exact hr
 | cons x A ih => exact ih (rel_nil x hr)
end
end Go.Proofs.YtobkkblijfhpoaaGreatDoor.Pm
