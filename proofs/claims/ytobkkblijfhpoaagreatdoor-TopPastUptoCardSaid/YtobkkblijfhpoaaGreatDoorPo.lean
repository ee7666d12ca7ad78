/- The small machine: what each operation of the language does, by the small machine's word. No program is named here. -/
import Derived.Test.YtobkkblijfhpoaaGreatDoorPn
import Derived.Laws.DeepStrings4
import Derived.Laws.StructEq
namespace Go.Proofs.YtobkkblijfhpoaaGreatDoor.Pm
open Go.RowKit

structure St where
 s : Nat → PV
 h : Nat → Cel
def ρof (s : Nat → PV) : Operand → PV
 | .tmp t => s t
 | .const v => ofConst v
 | .global _ => .un
 | .func f => .fn f []
def up {α : Type} (f : Nat → α) (i : Nat) (x : α) : Nat → α := fun j => if j = i then x else f j
theorem up_same {α : Type} (f : Nat → α) (i : Nat) (x : α) : up f i x i = x := by simp [up]
theorem up_ne {α : Type} (f : Nat → α) (i j : Nat) (x : α) (h : j ≠ i) : up f i x j = f j := by simp [up, h]
def setH : (Nat → Cel) → Ups → (Nat → Cel)
 | H, [] => H
 | H, x :: r => setH (up H x.1 x.2) r

theorem add_off (b o j : Nat) : (⟨b, o, none⟩ : Addr).add j = ⟨b, o + j, none⟩ := by unfold Addr.add; split <;> simp_all
section
variable {X : Nat → Prop} {w : World} {R : Ref → Value → Prop}
theorem RepL.len : ∀ {ps : List PV} {vs : List Value}, RepL X w R ps vs → ps.length = vs.length
 | [], vs, h => by have : vs = [] := h; subst this; rfl
 | p :: ps, vs, ⟨v, r, e, _, q⟩ => by subst e; simp [RepL.len q]
theorem RepL.get : ∀ {ps : List PV} {vs : List Value}, RepL X w R ps vs → ∀ (i : Nat) p, ps[i]? = some p → ∃ v, vs[i]? = some v ∧ RepV X w R p v
 | [], _, _, i, p, h => by simp at h
 | q :: ps, vs, ⟨v, r, e, h1, h2⟩, i, p, h => by
  subst e
  cases i with
  | zero => simp at h; subst h; exact ⟨v, rfl, h1⟩
  | succ i => simpa using RepL.get h2 i p (by simpa using h)
theorem RepL.of : ∀ {ps : List PV} {vs : List Value}, ps.length = vs.length → (∀ (i : Nat) p v, ps[i]? = some p → vs[i]? = some v → RepV X w R p v) → RepL X w R ps vs
 | [], vs, h, _ => List.eq_nil_of_length_eq_zero (by simpa using h.symm)
 | p :: ps, [], h, _ => by simp at h
 | p :: ps, v :: vs, h, hh => ⟨v, vs, rfl, hh 0 p v rfl rfl, RepL.of (by simpa using h) fun i p' v' h1 h2 => hh (i+1) p' v' (by simpa using h1) (by simpa using h2)⟩
theorem RepL.drop {ps : List PV} {vs : List Value} (h : RepL X w R ps vs) (n : Nat) : RepL X w R (ps.drop n) (vs.drop n) :=
 RepL.of (by simp [h.len]) fun i p v h1 h2 => by
  rw [List.getElem?_drop] at h1 h2
  obtain ⟨v', e, q⟩ := h.get _ _ h1
  rw [h2] at e; cases e; exact q
theorem RepL.take {ps : List PV} {vs : List Value} (h : RepL X w R ps vs) (n : Nat) : RepL X w R (ps.take n) (vs.take n) :=
 RepL.of (by simp [h.len]) fun i p v h1 h2 => by
  rw [List.getElem?_take] at h1 h2
  split at h1
  ·rename_i hi
   rw [if_pos hi] at h2
   obtain ⟨v', e, q⟩ := h.get _ _ h1
   rw [h2] at e; cases e; exact q
  ·cases h1
theorem RepL.app {ps qs : List PV} {vs us : List Value} (h : RepL X w R ps vs) (k : RepL X w R qs us) : RepL X w R (ps ++ qs) (vs ++ us) := by
 have hl := h.len
 refine RepL.of (by simp [h.len, k.len]) fun i p v h1 h2 => ?_
 by_cases hi : i < ps.length
 ·rw [List.getElem?_append_left hi] at h1
  rw [List.getElem?_append_left (by omega)] at h2
  obtain ⟨v', e, q⟩ := h.get _ _ h1
  rw [h2] at e; cases e; exact q
 ·rw [List.getElem?_append_right (by omega)] at h1
  rw [List.getElem?_append_right (by omega), ← hl] at h2
  obtain ⟨v', e, q⟩ := k.get _ _ h1
  rw [h2] at e; cases e; exact q
theorem RepC.get : ∀ {cs : List PD} {b o : Nat}, RepC X w cs b o → ∀ (i : Nat) x, cs[i]? = some x → ∃ v, w.cell? ⟨b, o + i, none⟩ = some v ∧ RepD X w x v
 | [], _, _, _, i, x, h => by simp at h
 | y :: cs, b, o, ⟨⟨v, h1, h2⟩, h3⟩, i, x, h => by
  cases i with
  | zero => simp at h; subst h; exact ⟨v, h1, h2⟩
  | succ i =>
   have := RepC.get h3 i x (by simpa using h)
   rwa [show o + 1 + i = o + (i + 1) by omega] at this
theorem RepC.of : ∀ {cs : List PD} {b o : Nat}, (∀ (i : Nat) x, cs[i]? = some x → ∃ v, w.cell? ⟨b, o + i, none⟩ = some v ∧ RepD X w x v) → RepC X w cs b o
 | [], _, _, _ => trivial
 | y :: cs, b, o, h => ⟨h 0 y rfl, RepC.of fun i x hi => by
   have := h (i + 1) x (by simpa using hi)
   rwa [show o + (i + 1) = o + 1 + i by omega] at this⟩
theorem RepC.drop {cs : List PD} {b o : Nat} (h : RepC X w cs b o) (n : Nat) : RepC X w (cs.drop n) b (o + n) :=
 RepC.of fun i x hi => by
  rw [List.getElem?_drop] at hi
  have := h.get _ _ hi
  rwa [← Nat.add_assoc] at this
theorem RepC.take {cs : List PD} {b o : Nat} (h : RepC X w cs b o) (n : Nat) : RepC X w (cs.take n) b o :=
 RepC.of fun i x hi => by
  rw [List.getElem?_take] at hi
  split at hi
  ·exact h.get _ _ hi
  ·cases hi
theorem RepL.d_get {cs : List PD} {vs : List Value} (h : RepL X w R (cs.map .d) vs) (i : Nat) (x : PD) (hx : cs[i]? = some x) : ∃ v, vs[i]? = some v ∧ RepD X w x v :=
 h.get i (.d x) (by simp [hx])
theorem RepD.one {x : PD} {v : Value} (h : RepD X w x v) : v.oneCell' = true := by
 cases x with
 | sl n cs => obtain ⟨a, c, rfl, _⟩ := h; rfl
 | un => exact h
 | err b => rcases h with ⟨_, rfl⟩ | ⟨_, _, _, rfl⟩ <;> rfl
 | _ => cases h; rfl
theorem rep_const (v : Value) : RepV X w R (ofConst v) v := by
 unfold ofConst
 split
 ·rfl
 ·rfl
 ·rfl
 ·exact ⟨none, rfl⟩
 ·exact .inl ⟨rfl, rfl⟩
 ·trivial
theorem int_of {p : PV} {k : IntKind} {n : Int} {v : Value} (h : p.int? = some (k, n)) (q : RepV X w R p v) : v = .int k n := by
 unfold PV.int? at h; split at h
 ·cases h; exact q
 ·cases h
theorem bool_of {p : PV} {b : Bool} {v : Value} (h : p.bool? = some b) (q : RepV X w R p v) : v = .bool b := by
 unfold PV.bool? at h; split at h
 ·cases h; exact q
 ·cases h
theorem str_of {p : PV} {s : List UInt8} {v : Value} (h : p.str? = some s) (q : RepV X w R p v) : v = .string ⟨s.toArray⟩ := by
 unfold PV.str? at h; split at h
 ·cases h; exact q
 ·cases h
end
theorem one_cells {v : Value} (h : v.oneCell' = true) : v.cells = #[v] := by cases v <;> first | rfl | (simp [Value.oneCell'] at h; done)
theorem cells_of {X : Nat → Prop} {w : World} {φ : Nat → Phys} {H : Nat → Cel} {p : PV} {cs : List PV} {v : Value} (h : p.cells? = some cs) (q : RepV X w (RefAt φ H) p v) :
  RepL X w (RefAt φ H) cs v.cells.toList ∧ (cs.all isCell = true → ∀ u ∈ v.cells.toList, u.oneCell' = true) := by
 have one : ∀ {c : PV} {u : Value}, isCell c = true → RepV X w (RefAt φ H) c u → u.oneCell' = true := by
  intro c u hc hu
  cases c with
  | d x => exact RepD.one hu
  | agg cs => cases hc
  | r x => cases x with
   | ptr i g o => obtain ⟨⟨a, rfl⟩, _⟩ := hu; rfl
   | msl i g l n => obtain ⟨⟨a, n, c, rfl⟩, _⟩ := hu; rfl
   | own => exact hu.elim
  | rptr cs => obtain ⟨b, o, rfl, _⟩ := hu; rfl
  | nil => obtain ⟨a, rfl⟩ := hu; rfl
  | fn f cs => obtain ⟨vs, rfl, _⟩ := hu; rfl
  | slz z n cs => obtain ⟨_, a, c, rfl, _⟩ := hu; rfl
  | tup => cases hc
  | un => cases hc
 have all : ∀ {ps : List PV} {vs : List Value}, RepL X w (RefAt φ H) ps vs → ps.all isCell = true → ∀ u ∈ vs, u.oneCell' = true := by
  intro ps vs hl hc u hu
  obtain ⟨i, hi, rfl⟩ := List.getElem_of_mem hu
  have hlen := hl.len
  obtain ⟨v', e, r⟩ := hl.get i ps[i] (by simp [hlen, hi])
  rw [List.getElem?_eq_getElem hi] at e; cases e
  exact one (List.all_eq_true.1 hc _ (List.getElem_mem _)) r
 have single : isCell p = true → RepL X w (RefAt φ H) [p] v.cells.toList ∧ ([p].all isCell = true → ∀ u ∈ v.cells.toList, u.oneCell' = true) := by
  intro hp
  have h1 := one hp q
  rw [one_cells h1]
  exact ⟨⟨v, [], rfl, q, rfl⟩, fun _ u hu => by simp at hu; subst hu; exact h1⟩
 cases p with
 | agg l =>
  simp [PV.cells?] at h; subst h
  obtain ⟨vs, rfl, hl⟩ := q
  exact ⟨hl, all hl⟩
 | tup => simp [PV.cells?] at h
 | un => simp [PV.cells?] at h
 | d x => simp [PV.cells?] at h; subst h; exact single rfl
 | r x => simp [PV.cells?] at h; subst h; exact single rfl
 | rptr x => simp [PV.cells?] at h; subst h; exact single rfl
 | nil => simp [PV.cells?] at h; subst h; exact single rfl
 | fn f x => simp [PV.cells?] at h; subst h; exact single rfl
 | slz z n x => simp [PV.cells?] at h; subst h; exact single rfl
end Go.Proofs.YtobkkblijfhpoaaGreatDoor.Pm
