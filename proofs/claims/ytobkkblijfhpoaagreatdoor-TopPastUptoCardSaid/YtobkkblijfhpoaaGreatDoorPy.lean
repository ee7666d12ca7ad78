/- The small machine: a statement whose order is open. No program is named here. -/
import Derived.Test.YtobkkblijfhpoaaGreatDoorPx
namespace Go.Proofs.YtobkkblijfhpoaaGreatDoor.Pm
open Go.RowKit

def ancOf (A : List (List Nat)) (o : Oper) : List Nat := ((o.after.toList.filter (Region.binds .any ·)).flatMap fun e => e.on :: A.getD e.on []).eraseDups
def ancs : List Oper → List (List Nat) → List (List Nat)
 | [], A => A
 | o :: r, A => ancs r (A ++ [ancOf A o])
def okA (A : List (List Nat)) : List Oper → Nat → Bool
 | [], _ => true
 | o :: r, i => ((A.getD i []).all fun j => o.after.toList.any fun e => Region.binds .any e && decide (e.on < i) && (Nat.beq e.on j || (A.getD e.on []).any (Nat.beq j))) && (o.after.toList.all fun e => !Region.binds .any e || decide (e.on < i)) && okA A r (i + 1)
def hasB (A : List (List Nat)) (i j : Nat) : Bool := (A.getD i []).any (Nat.beq j)
def tmpOf : Operand → List Nat
 | .tmp t => [t]
 | _ => []
def slotsOf (o : PO) : List Nat := (opds o.op).flatMap tmpOf ++ (match o.g with | some (t, _) => [t] | none => [])
def ro : POp → Bool
 | .load .. | .ixS .. | .slS .. | .len .. | .cvBS _ => true
 | _ => false
def pairsOf (A : List (List Nat)) (pos : List PO) : List (Nat × Nat) :=
 (List.range pos.length).flatMap fun j => (List.range j).filterMap fun i =>
  match pos[i]?, pos[j]? with
  | some a, some b => if hasB A j i || !heapy a.op || !heapy b.op || (ro a.op && ro b.op) then none else some (i, j)
  | _, _ => none
def isD (d : Option Nat) (t : Nat) : Bool := match d with | some x => Nat.beq x t | none => false
def drawOk (A : List (List Nat)) (pos : List PO) : Bool :=
 (List.range pos.length).all fun i => (List.range pos.length).all fun j => Nat.beq i j ||
  match pos[i]?, pos[j]? with
  | some a, some b =>
   (match b.d with
    | some t => !isD a.d t && (!(slotsOf a).any (Nat.beq t) || (decide (j < i) && hasB A i j) || (decide (i < j) && hasB A j i))
    | none => true)
  | _, _ => true

section
variable {γ : Orc}
def sel (L : Nat → Bool) : Nat → List Out → St → St
 | _, [], st => st
 | k, x :: l, st => sel L (k + 1) l (if L k then apply x st else st)
section
variable {α : Type} {c : St → α} {W : Out → Prop}
theorem sel_agree (hn : ∀ x st, ¬ W x → c (apply x st) = c st) (hw : ∀ x st st2, W x → c (apply x st) = c (apply x st2)) {L L' : Nat → Bool} : ∀ (outs : List Out) (k : Nat) (st st2 : St), (∀ (i : Nat) x, outs[i]? = some x → W x → L (k + i) = L' (k + i)) → c st = c st2 → c (sel L k outs st) = c (sel L' k outs st2)
 | [], _, _, _, _, h => h
 | x :: l, k, st, st2, h, he => by
  simp only [sel]
  refine sel_agree hn hw l (k + 1) _ _ (fun i y hy hW => by have := h (i + 1) y (by simpa using hy) hW; rwa [show k + (i + 1) = k + 1 + i by omega] at this) ?_
  by_cases hW : W x
  ·have := h 0 x rfl hW
   simp only [Nat.add_zero] at this
   rw [this]
   split
   ·exact hw _ _ _ hW
   ·exact he
  ·split <;> split <;> simp only [hn _ _ hW, he]
theorem sel_last (hn : ∀ x st, ¬ W x → c (apply x st) = c st) (hw : ∀ x st st2, W x → c (apply x st) = c (apply x st2)) {L : Nat → Bool} : ∀ (outs : List Out) (i k : Nat) (x : Out) (st st2 : St), outs[i]? = some x → W x → L (k + i) = true → (∀ j y, outs[j]? = some y → i < j → W y → L (k + j) = false) → c (sel L k outs st) = c (apply x st2)
 | [], i, _, _, _, _, h, _, _, _ => by simp at h
 | y :: l, 0, k, x, st, st2, h, hW, hL, hno => by
  simp at h; subst h
  simp only [sel]
  rw [if_pos (by simpa using hL)]
  have := sel_agree hn hw (L := L) (L' := fun _ => false) l (k + 1) (apply y st) (apply y st2) (fun i z hz hWz => by
   have := hno (i + 1) z (by simpa using hz) (by omega) hWz
   rwa [show k + (i + 1) = k + 1 + i by omega] at this) (hw _ _ _ hW)
  rw [this]
  clear this
  have : ∀ (l : List Out) (k : Nat) (st : St), sel (fun _ => false) k l st = st := by
   intro l
   induction l with
   | nil => intro _ _; rfl
   | cons z l ih => intro k st; simp only [sel]; exact ih _ _
  rw [this]
 | y :: l, i + 1, k, x, st, st2, h, hW, hL, hno => by
  simp only [sel]
  exact sel_last hn hw l i (k + 1) x _ st2 (by simpa using h) hW (by rwa [show k + 1 + i = k + (i + 1) by omega]) fun j z hz hij hWz => by
   have := hno (j + 1) z (by simpa using hz) (by omega) hWz
   rwa [show k + (j + 1) = k + 1 + j by omega] at this
end
theorem setH_indep : ∀ (l : Ups) (H H' : Nat → Cel) (i : Nat), (∃ u ∈ l, u.1 = i) → setH H l i = setH H' l i
 | [], _, _, _, h => by obtain ⟨u, hu, _⟩ := h; cases hu
 | x :: l, H, H', i, h => by
  simp only [setH]
  by_cases hl : ∃ u ∈ l, u.1 = i
  ·exact setH_indep l _ _ i hl
  ·obtain ⟨u, hu, rfl⟩ := h
   have hno : ∀ y ∈ l, y.1 ≠ u.1 := fun y hy e => hl ⟨y, hy, e⟩
   rcases List.mem_cons.1 hu with rfl | hu
   ·rw [setH_one _ _ _ hno, setH_one _ _ _ hno, up_same, up_same]
   ·exact absurd rfl (hno u hu)
theorem comp_s (t : Nat) : (∀ (x : Out) (st : St), ¬ x.d = some t → (apply x st).s t = st.s t) ∧ (∀ (x : Out) (st st2 : St), x.d = some t → (apply x st).s t = (apply x st2).s t) := by
 refine ⟨fun x st h => ?_, fun x st st2 h => ?_⟩
 ·simp only [apply]
  cases hd : x.d with
  | none => rfl
  | some d => exact up_ne _ _ _ _ (fun e => h (by rw [hd, e]))
 ·simp only [apply, h, up_same]
theorem comp_h (i : Nat) : (∀ (x : Out) (st : St), ¬ (∃ u ∈ x.ups, u.1 = i) → (apply x st).h i = st.h i) ∧ (∀ (x : Out) (st st2 : St), (∃ u ∈ x.ups, u.1 = i) → (apply x st).h i = (apply x st2).h i) :=
 ⟨fun x st h => setH_one _ _ _ fun u hu e => h ⟨u, hu, e⟩, fun x st st2 h => setH_indep _ _ _ _ h⟩
theorem St.eq {a b : St} (h1 : ∀ t, a.s t = b.s t) (h2 : ∀ i, a.h i = b.h i) : a = b := by
 obtain ⟨s, h⟩ := a
 obtain ⟨s', h'⟩ := b
 congr 1
 ·exact funext h1
 ·exact funext h2
theorem sel_ins {L L' : Nat → Bool} {outs : List Out} {i : Nat} {x : Out} {st : St} (hi : outs[i]? = some x) (hL' : L' i = true) (hne : ∀ j, j ≠ i → L' j = L j)
  (hd : ∀ (j : Nat) y t, outs[j]? = some y → i < j → L j = true → x.d = some t → y.d ≠ some t) (hh : ∀ (j : Nat) y u v, outs[j]? = some y → i < j → L j = true → u ∈ x.ups → v ∈ y.ups → v.1 ≠ u.1) : sel L' 0 outs st = apply x (sel L 0 outs st) := by
 refine St.eq (fun t => ?_) fun id => ?_
 ·obtain ⟨hn, hw⟩ := comp_s t
  by_cases hx : x.d = some t
  ·exact sel_last (c := fun st => st.s t) hn hw outs i 0 x st _ hi hx (by simpa using hL') fun j y hy hij hWy => by
    rw [Nat.zero_add, hne j (by omega)]
    cases hLj : L j with
    | false => rfl
    | true => exact absurd hWy (hd j y t hy hij hLj hx)
  ·rw [hn x _ hx]
   exact sel_agree (c := fun st => st.s t) hn hw outs 0 st st (fun j y hy hWy => by
    rw [Nat.zero_add]
    refine hne j fun e => ?_
    subst e; rw [hi] at hy; cases hy; exact hx hWy) rfl
 ·obtain ⟨hn, hw⟩ := comp_h id
  by_cases hx : ∃ u ∈ x.ups, u.1 = id
  ·exact sel_last (c := fun st => st.h id) hn hw outs i 0 x st _ hi hx (by simpa using hL') fun j y hy hij hWy => by
    rw [Nat.zero_add, hne j (by omega)]
    cases hLj : L j with
    | false => rfl
    | true =>
     obtain ⟨u, hu, rfl⟩ := hx
     obtain ⟨v, hv, e⟩ := hWy
     exact absurd e (hh j y u v hy hij hLj hu hv)
  ·rw [hn x _ hx]
   exact sel_agree (c := fun st => st.h id) hn hw outs 0 st st (fun j y hy hWy => by
    rw [Nat.zero_add]
    refine hne j fun e => ?_
    subst e; rw [hi] at hy; cases hy; exact hx hWy) rfl
theorem sel_shift (L : Nat → Bool) : ∀ (l : List Out) (k : Nat) (st : St), sel L (k + 1) l st = sel (fun j => L (j + 1)) k l st
 | [], _, _ => rfl
 | x :: l, k, st => by simp only [sel]; exact sel_shift L l (k + 1) _
theorem sel_none : ∀ (l : List Out) (k : Nat) (st : St), sel (fun _ => false) k l st = st
 | [], _, _ => rfl
 | x :: l, k, st => by simp only [sel]; exact sel_none l (k + 1) _
theorem sel_all : ∀ (l : List Out) (L : Nat → Bool) (k : Nat) (st : St), (∀ j, j < l.length → L (k + j) = true) → sel L k l st = l.foldl (fun st x => apply x st) st
 | [], _, _, _, _ => rfl
 | x :: l, L, k, st, h => by
  simp only [sel, List.foldl_cons]
  rw [if_pos (by simpa using h 0 (by simp))]
  exact sel_all l L (k + 1) _ fun j hj => by have := h (j + 1) (by simp; omega); rwa [show k + (j + 1) = k + 1 + j by omega] at this
theorem runD_get : ∀ {pos : List PO} {st st' : St} {outs : List Out}, runD γ pos st = some (outs, st') → outs.length = pos.length ∧ st' = outs.foldl (fun st x => apply x st) st ∧ ∀ (i : Nat) po, pos[i]? = some po → ∃ x, outs[i]? = some x ∧ exec1 γ po (sel (fun j => decide (j < i)) 0 outs st) = some x
 | [], st, st', outs, h => by
  simp only [runD, Option.some.injEq, Prod.mk.injEq] at h
  obtain ⟨rfl, rfl⟩ := h
  exact ⟨rfl, rfl, fun i po hi => by simp at hi⟩
 | po :: pos, st, st', outs, h => by
  simp only [runD] at h
  split at h
  ·rename_i x hx
   split at h
   ·rename_i l st2 hl
    simp only [Option.some.injEq, Prod.mk.injEq] at h
    obtain ⟨rfl, rfl⟩ := h
    obtain ⟨h1, h2, h3⟩ := runD_get hl
    refine ⟨by simp [h1], by simpa using h2, fun i po' hi => ?_⟩
    cases i with
    | zero =>
     simp at hi; subst hi
     refine ⟨x, rfl, ?_⟩
     have : (fun j => decide (j < 0)) = fun _ => false := by funext j; simp
     rw [this, sel_none]; exact hx
    | succ i =>
     obtain ⟨y, hy, he⟩ := h3 i po' (by simpa using hi)
     refine ⟨y, by simpa using hy, ?_⟩
     simp only [sel]
     rw [if_pos (by simp), sel_shift]
     have : (fun j => decide (j + 1 < i + 1)) = fun j => decide (j < i) := by funext j; simp
     rw [this]; exact he
   ·cases h
  ·cases h
theorem touch_loc {ρ ρ' : Operand → PV} {H H' : Nat → Cel} {d : Nat} {pop : POp} (h1 : ∀ x ∈ opds pop, ρ x = ρ' x) (h2 : ∀ a ∈ touch ρ H d pop, H a.1 = H' a.1) : touch ρ H d pop = touch ρ' H' d pop := by
 have hm : ∀ {xs : List Operand}, (∀ x ∈ xs, ρ x = ρ' x) → xs.map ρ = xs.map ρ' := fun h => List.map_congr_left h
 cases pop with
 | call f xs => have e := hm (xs := xs) h1; simp only [touch, e]
 | callf f xs => have e := hm (xs := xs) h1; simp only [touch, e]
 | callr f xs =>
  have e := hm (xs := xs) h1
  have e2 := idsOf_loc (H := H) (H' := H') (args := (xs.map ρ).map nzA) (fun i hi => h2 (i, false) (by simp only [touch, List.mem_append]; exact .inl (.inr (List.mem_map_of_mem hi))))
  rw [e] at e2
  simp only [touch, e, e2]
 | callv x xs => have e := hm (xs := xs) (fun y hy => h1 y (by simp [opds, hy])); simp only [touch, e, h1 x (by simp [opds])]
 | app e k b x y => simp only [touch, h1 x (by simp [opds]), h1 y (by simp [opds])]
 | store n x y => simp only [touch, h1 x (by simp [opds])]
 | slA n k x lo hi => simp only [touch, h1 x (by simp [opds])]
 | slC n k x lo hi => simp only [touch, h1 x (by simp [opds])]
 | clr k z x => simp only [touch, h1 x (by simp [opds])]
 | nxt x => simp only [touch, h1 x (by simp [opds])]
 | cpy k x y => simp only [touch, h1 x (by simp [opds]), h1 y (by simp [opds])]
 | ixA l k x y => simp only [touch, h1 x (by simp [opds])]
 | ixS l k x y => simp only [touch, h1 x (by simp [opds])]
 | slS l k x lo hi => simp only [touch, h1 x (by simp [opds])]
 | load a n x => simp only [touch, h1 x (by simp [opds])]
 | nilC x => simp only [touch, h1 x (by simp [opds])]
 | fld o x => simp only [touch, h1 x (by simp [opds])]
 | slE o k x => simp only [touch, h1 x (by simp [opds])]
 | len s x => simp only [touch, h1 x (by simp [opds])]
 | cvBS x => simp only [touch, h1 x (by simp [opds])]
 | bsl e k n z ps =>
  have e : ps.map (fun x => ρ x.2.2) = ps.map (fun x => ρ' x.2.2) := List.map_congr_left fun x hx => h1 _ (by simp only [opds]; exact List.mem_map_of_mem (f := fun x => x.2.2) hx)
  simp only [touch, e]
 | _ => simp only [touch]
theorem exec1_loc {po : PO} {st st2 : St} {x : Out} (h1 : ∀ t ∈ slotsOf po, st.s t = st2.s t) (he : exec1 γ po st = some x) (h2 : ∀ a ∈ x.tc, st.h a.1 = st2.h a.1) : exec1 γ po st2 = some x := by
 have ho : ∀ y ∈ opds po.op, ρof st.s y = ρof st2.s y := by
  intro y hy
  cases y with
  | tmp t => exact h1 t (by simp only [slotsOf, List.mem_append]; exact .inl (List.mem_flatMap.2 ⟨_, hy, by simp [tmpOf]⟩))
  | _ => rfl
 have core : ∀ {r : Option Out}, (match peval γ st.h (po.d.getD 0) (ρof st.s) po.op with
   | some (p, ups) => some (⟨po.d, p, ups, touch (ρof st.s) st.h (po.d.getD 0) po.op⟩ : Out)
   | none => none) = some x → (match peval γ st2.h (po.d.getD 0) (ρof st2.s) po.op with
   | some (p, ups) => some (⟨po.d, p, ups, touch (ρof st2.s) st2.h (po.d.getD 0) po.op⟩ : Out)
   | none => none) = some x := by
  intro r he
  split at he
  ·rename_i p ups hp
   simp only [Option.some.injEq] at he
   have htc : x.tc = touch (ρof st.s) st.h (po.d.getD 0) po.op := by rw [← he]
   rw [← peval_loc ho (fun a ha => h2 a (by rw [htc]; exact ha)), hp, ← touch_loc ho (fun a ha => h2 a (by rw [htc]; exact ha))]
   simp only [he]
  ·cases he
 cases hg : po.g with
 | none =>
  simp only [exec1, hg] at he ⊢
  exact core (r := none) he
 | some q =>
  obtain ⟨t, b⟩ := q
  have := h1 t (by simp [slotsOf, hg])
  simp only [exec1, hg, ← this] at he ⊢
  split at he
  ·split at he
   ·rename_i hcb
    rw [if_pos hcb]
    exact core (r := none) he
   ·rename_i hcb
    rw [if_neg hcb]
    exact he
  ·cases he
theorem exec1_d {po : PO} {st : St} {x : Out} (he : exec1 γ po st = some x) : x.d = po.d ∧ (∀ u ∈ x.ups, (u.1, true) ∈ x.tc) ∧ (x.tc ≠ [] → heapy po.op = true) ∧ (ro po.op = true → ∀ a ∈ x.tc, a.2 = false) := by
 have hh : ∀ {ρ : Operand → PV} {H : Nat → Cel} {d : Nat}, touch ρ H d po.op ≠ [] → heapy po.op = true := by
  intro ρ H d h
  cases hp : po.op <;> first | rfl | (rw [hp] at h; exact absurd rfl h)
 have hr : ∀ {ρ : Operand → PV} {H : Nat → Cel} {d : Nat}, ro po.op = true → ∀ a ∈ touch ρ H d po.op, a.2 = false := by
  intro ρ H d h a ha
  cases hp : po.op <;> rw [hp] at h ha <;> first | (cases h; done) | (simp only [touch, rd] at ha; obtain ⟨i, _, rfl⟩ := List.mem_map.1 ha; rfl)
 have core : (match peval γ st.h (po.d.getD 0) (ρof st.s) po.op with
   | some (p, ups) => some (⟨po.d, p, ups, touch (ρof st.s) st.h (po.d.getD 0) po.op⟩ : Out)
   | none => none) = some x → x.d = po.d ∧ (∀ u ∈ x.ups, (u.1, true) ∈ x.tc) ∧ (x.tc ≠ [] → heapy po.op = true) ∧ (ro po.op = true → ∀ a ∈ x.tc, a.2 = false) := by
  intro he
  split at he
  ·rename_i p ups hp
   simp only [Option.some.injEq] at he; subst he
   exact ⟨rfl, ups_touch hp, hh, hr⟩
  ·cases he
 unfold exec1 at he
 split at he
 ·exact core he
 ·split at he
  ·split at he
   ·exact core he
   ·simp only [Option.some.injEq] at he; subst he
    refine ⟨rfl, ?_, fun h => absurd rfl h, ?_⟩
    ·intro u hu; cases hu
    ·intro _ a ha; cases ha
  ·cases he
end
end Go.Proofs.YtobkkblijfhpoaaGreatDoor.Pm
