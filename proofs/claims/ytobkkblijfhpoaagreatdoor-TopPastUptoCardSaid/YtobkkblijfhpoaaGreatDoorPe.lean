/- The small machine: structs and arrays, compared. No program is named here. -/
import Derived.Test.YtobkkblijfhpoaaGreatDoorPq
import Derived.Laws.StructEq
import Derived.ChangeKeysEq
import Derived.Deep.DeepCutAuto
namespace Go.Proofs.YtobkkblijfhpoaaGreatDoor.Pm
open Go.RowKit

section
variable {P : Program} {w : World}
theorem sz_info' {t : TypeId} {n : Nat} (h : sz? P t = some n) : ∃ i, P.info? t = some i ∧ i.size = n := by
 unfold sz? at h
 cases hi : P.info? t with
 | none => simp [hi] at h
 | some i => simp [hi] at h; exact ⟨i, rfl, h⟩
def eqVC : LK → Value → Value → Option Bool
 | .int, .int k a, .int k' b => if k = k' then some (decide (a = b)) else none
 | .bool, .bool a, .bool b => some (decide (a = b))
 | .str, .string a, .string b => some (decide (a.toList = b.toList))
 | _, _, _ => none
def eqVL : List LK → List Value → List Value → Option Bool
 | [], [], [] => some true
 | k :: ks, x :: xs, y :: ys => match eqVC k x y, eqVL ks xs ys with
  | some a, some b => some (a && b)
  | _, _ => none
 | _, _, _ => none
theorem eqC_rep {X : Nat → Prop} {R : Ref → Value → Prop} {k : LK} {p q : PV} {u v : Value} {b : Bool} (h : eqC k p q = some b) (hp : RepV X w R p u) (hq : RepV X w R q v) : eqVC k u v = some b := by
 unfold eqC at h
 split at h
 ·have hu : u = _ := hp
  have hv : v = _ := hq
  subst hu; subst hv
  exact h
 ·have hu : u = _ := hp
  have hv : v = _ := hq
  subst hu; subst hv
  exact h
 ·rename_i a b'
  have hu : u = _ := hp
  have hv : v = _ := hq
  subst hu; subst hv
  simp only [eqVC, ByteArray.toList_eq]
  exact h
 ·cases h
theorem eqL_rep {X : Nat → Prop} {R : Ref → Value → Prop} : ∀ {ks : List LK} {ps qs : List PV} {us vs : List Value} {b : Bool}, eqL ks ps qs = some b → RepL X w R ps us → RepL X w R qs vs → eqVL ks us vs = some b
 | [], [], [], us, vs, b, h, hp, hq => by
  have : us = [] := hp
  subst this
  have : vs = [] := hq
  subst this
  exact h
 | k :: ks, p :: ps, q :: qs, us, vs, b, h, ⟨u, ur, e1, p1, p2⟩, ⟨v, vr, e2, q1, q2⟩ => by
  subst e1; subst e2
  simp only [eqL] at h
  split at h
  ·rename_i a b' h1 h2
   simp only [eqVL, eqC_rep h1 p1 q1, eqL_rep h2 p2 q2]
   exact h
  ·cases h
 | [], _ :: _, _, _, _, _, h, _, _ => by simp [eqL] at h
 | [], [], _ :: _, _, _, _, h, _, _ => by simp [eqL] at h
 | _ :: _, [], _, _, _, _, h, _, _ => by simp [eqL] at h
 | _ :: _, _ :: _, [], _, _, _, h, _, _ => by simp [eqL] at h
theorem eqVL_len : ∀ {ks : List LK} {xs ys : List Value} {b : Bool}, eqVL ks xs ys = some b → xs.length = ks.length ∧ ys.length = ks.length
 | [], [], [], _, _ => ⟨rfl, rfl⟩
 | k :: ks, x :: xs, y :: ys, b, h => by
  simp only [eqVL] at h
  split at h
  ·rename_i a b' _ h2
   have := eqVL_len h2
   simp [this.1, this.2]
  ·cases h
 | [], _ :: _, _, _, h => by simp [eqVL] at h
 | [], [], _ :: _, _, h => by simp [eqVL] at h
 | _ :: _, [], _, _, h => by simp [eqVL] at h
 | _ :: _, _ :: _, [], _, h => by simp [eqVL] at h
theorem eqVL_app : ∀ {k1 k2 : List LK} {xs ys : List Value} {b : Bool}, eqVL (k1 ++ k2) xs ys = some b → ∃ b1 b2, eqVL k1 (xs.take k1.length) (ys.take k1.length) = some b1 ∧ eqVL k2 (xs.drop k1.length) (ys.drop k1.length) = some b2 ∧ b = (b1 && b2)
 | [], k2, xs, ys, b, h => ⟨true, b, rfl, by simpa using h, by simp⟩
 | k :: k1, k2, x :: xs, y :: ys, b, h => by
  simp only [List.cons_append, eqVL] at h
  split at h
  ·rename_i a b' h1 h2
   obtain ⟨b1, b2, h3, h4, rfl⟩ := eqVL_app h2
   simp only [Option.some.injEq] at h; subst h
   exact ⟨a && b1, b2, by simp only [List.length_cons, List.take_succ_cons, eqVL, h1, h3], by simpa using h4, by rw [Bool.and_assoc]⟩
  ·cases h
 | _ :: _, _, [], _, _, h => by simp [eqVL] at h
 | _ :: _, _, _ :: _, [], _, h => by simp [eqVL] at h
def mkT (P : Program) (t : TypeId) (xs : List Value) : Value := if aggT P t then .agg xs.toArray else xs.headD undef
theorem kinds_sz {d : Nat} {t : TypeId} {ks : List LK} (h : kindsOf P d t = some ks) : sz? P t = some ks.length := by
 cases d with
 | zero => simp [kindsOf] at h
 | succ d =>
  unfold kindsOf at h
  split at h
  ·split at h
   ·simp only [Option.some.injEq] at h; subst h; assumption
   ·cases h
  ·cases h
theorem kinds_und {d : Nat} {t : TypeId} {ks : List LK} (h : kindsOf P d t = some ks) : ∃ dd, P.underlying t = some dd ∧ (aggT P t = false → ks.length = 1) := by
 cases d with
 | zero => simp [kindsOf] at h
 | succ d =>
  unfold kindsOf at h
  split at h
  ·rename_i ks' hk
   split at h
   ·simp only [Option.some.injEq] at h; subst h
    unfold aggT
    split at hk
    ·rename_i hu; rw [hu]; cases hk; exact ⟨_, rfl, fun _ => rfl⟩
    ·rename_i hu; rw [hu]; cases hk; exact ⟨_, rfl, fun _ => rfl⟩
    ·rename_i hu; rw [hu]; cases hk; exact ⟨_, rfl, fun _ => rfl⟩
    ·rename_i hu; rw [hu]; exact ⟨_, rfl, fun h => by cases h⟩
    ·rename_i hu; rw [hu]; exact ⟨_, rfl, fun h => by cases h⟩
    ·cases hk
   ·cases h
  ·cases h
theorem run_aggE {t : TypeId} {dd : TypeDesc} (h : P.underlying t = some dd) (w : World) : (isAgg t).run P w = .ok (aggT P t) w := by
 unfold isAgg aggT
 rw [Sem.run_bind, run_underlying h w, h]
 cases dd <;> rfl
theorem run_partE {t : TypeId} {n : Nat} {dd : TypeDesc} (hd : P.underlying t = some dd) (hn : sz? P t = some n) (h1 : aggT P t = false → n = 1) {vs : List Value} {o : Nat} (hl : ((vs.drop o).take n).length = n) :
  (Go.part t vs.toArray o).run P w = .ok (mkT P t ((vs.drop o).take n)) w := by
 obtain ⟨i, hi, his⟩ := sz_info' hn
 unfold Go.part mkT
 rw [Sem.run_bind, run_aggE hd]
 simp only [Result.andThen_ok]
 split
 ·simp only [Sem.run_bind, sizeOf, typeInfo, run_program, Result.andThen_ok, hi, Sem.run_pure, his]
  congr 2
  apply Array.ext'
  simp [List.extract_eq_take_drop]
 ·rename_i hf
  have h1 := h1 (by simpa using hf)
  subst h1
  have ho : o < vs.length := by simp at hl; omega
  have : vs.toArray[o]? = some vs[o] := by simp [ho]
  rw [this]
  rw [List.drop_eq_getElem_cons ho, List.take_succ_cons, List.take_zero]
  rfl
theorem equal_ok : ∀ (d : Nat) (t : TypeId) (ks : List LK) (xs ys : List Value) (b : Bool) (D : Nat), kindsOf P d t = some ks → eqVL ks xs ys = some b → d ≤ D → (Op.equalIn D t (mkT P t xs) (mkT P t ys)).run P w = .ok b w
 | 0, t, ks, xs, ys, b, D, h, _, _ => by simp [kindsOf] at h
 | d + 1, t, ks, xs, ys, b, 0, _, _, hD => by omega
 | d + 1, t, ks, xs, ys, b, D + 1, h, he, hD => by
  have hsz := kinds_sz h
  have hlen := eqVL_len he
  unfold kindsOf at h
  split at h
  ·rename_i ks' hk
   split at h
   ·simp only [Option.some.injEq] at h; subst h
    split at hk
    ·rename_i kk hu
     cases hk
     match xs, ys, he with
     | [x], [y], he =>
      simp only [eqVL] at he
      split at he
      ·rename_i a b' h1 h2
       simp only [eqVL, Option.some.injEq] at h2 he; subst h2; subst he
       have hx : ∀ z : Value, mkT P t [z] = z := fun z => by simp [mkT, aggT, hu]
       rw [hx, hx]
       unfold eqVC at h1
       split at h1
       ·rename_i k a2 k' b2 _
        split at h1
        ·rename_i hkk; subst hkk
         simp only [Option.some.injEq] at h1; subst h1
         rw [run_equalIn_int w D t k kk a2 b2 hu]
         by_cases e : a2 = b2 <;> simp [e]
        ·cases h1
       ·rename_i hkd; cases hkd
       ·rename_i hkd; cases hkd
       ·cases h1
      ·cases he
     | [], _, he => simp [eqVL] at he
     | _ :: _ :: _, _, he => simp at hlen
     | [_], [], he => simp [eqVL] at he
     | [_], _ :: _ :: _, he => simp at hlen
    ·rename_i hu
     cases hk
     match xs, ys, he with
     | [x], [y], he =>
      simp only [eqVL] at he
      split at he
      ·rename_i a b' h1 h2
       simp only [eqVL, Option.some.injEq] at h2 he; subst h2; subst he
       have hx : ∀ z : Value, mkT P t [z] = z := fun z => by simp [mkT, aggT, hu]
       rw [hx, hx]
       unfold eqVC at h1
       split at h1
       ·rename_i hkd; cases hkd
       ·rename_i a2 b2 _
        simp only [Option.some.injEq] at h1; subst h1
        rw [run_equalIn_bool' w D t a2 b2 hu]
        by_cases e : a2 = b2 <;> simp [e]
       ·rename_i hkd; cases hkd
       ·cases h1
      ·cases he
     | [], _, he => simp [eqVL] at he
     | _ :: _ :: _, _, he => simp at hlen
     | [_], [], he => simp [eqVL] at he
     | [_], _ :: _ :: _, he => simp at hlen
    ·rename_i hu
     cases hk
     match xs, ys, he with
     | [x], [y], he =>
      simp only [eqVL] at he
      split at he
      ·rename_i a b' h1 h2
       simp only [eqVL, Option.some.injEq] at h2 he; subst h2; subst he
       have hx : ∀ z : Value, mkT P t [z] = z := fun z => by simp [mkT, aggT, hu]
       rw [hx, hx]
       unfold eqVC at h1
       split at h1
       ·rename_i hkd; cases hkd
       ·rename_i hkd; cases hkd
       ·rename_i a2 b2 _
        simp only [Option.some.injEq] at h1; subst h1
        rw [run_equalIn_string w D t a2 b2 hu]
        by_cases e : a2.toList = b2.toList <;> simp [e]
       ·cases h1
      ·cases he
     | [], _, he => simp [eqVL] at he
     | _ :: _ :: _, _, he => simp at hlen
     | [_], [], he => simp [eqVL] at he
     | [_], _ :: _ :: _, he => simp at hlen
    ·rename_i fs hu
     split at hk
     ·rename_i hsh
      have hx : ∀ z : List Value, mkT P t z = .agg z.toArray := fun z => by simp [mkT, aggT, hu]
      have hfs : P.fieldsOf t = fs := by simp [Program.fieldsOf, hu]
      rw [hx, hx, run_equalIn_struct w D t _ _ (by rw [hfs]; exact hu) hsh, hfs]
      have key : ∀ (l : List Field) (off : Nat) (ks : List LK) (b : Bool), kindsGo (kindsOf P d) l off = some ks → eqVL ks (xs.drop off) (ys.drop off) = some b → (Op.eqFields D xs.toArray ys.toArray l).run P w = .ok b w := by
       intro l
       induction l with
       | nil =>
        intro off ks b h1 h2
        simp only [kindsGo, Option.some.injEq] at h1; subst h1
        cases hxd : xs.drop off with
        | nil => cases hyd : ys.drop off with
         | nil => rw [hxd, hyd] at h2; simp only [eqVL, Option.some.injEq] at h2; subst h2; rfl
         | cons => rw [hxd, hyd] at h2; simp [eqVL] at h2
        | cons => rw [hxd] at h2; simp [eqVL] at h2
       | cons f r ih =>
        intro off ks b h1 h2
        simp only [kindsGo] at h1
        split at h1
        ·rename_i hno
         split at h1
         ·rename_i k1 hk1
          split at h1
          ·rename_i k2 hk2
           simp only [Option.some.injEq] at h1; subst h1
           obtain ⟨b1, b2, e1, e2, rfl⟩ := eqVL_app h2
           obtain ⟨dd, hd, h1n⟩ := kinds_und hk1
           have l1 := eqVL_len e1
           have p1 := run_partE (w := w) hd (kinds_sz hk1) h1n l1.1
           have p2 := run_partE (w := w) hd (kinds_sz hk1) h1n l1.2
           have p3 := equal_ok d f.type k1 _ _ b1 D hk1 e1 (by omega)
           have e2' : (Op.eqFields D xs.toArray ys.toArray r).run P w = .ok b2 w := ih (off + k1.length) k2 b2 hk2 (by simpa [List.drop_drop] using e2)
           obtain ⟨hname, rfl⟩ := hno
           simp only [Op.eqFields, hname, ne_eq, not_false_eq_true, if_true, Sem.run_bind, p1, p2, p3, Result.andThen_ok]
           cases b1
           ·rfl
           ·simpa using e2'
          ·cases h1
         ·cases h1
        ·cases h1
      exact key fs.toList 0 _ b hk (by simpa using he)
     ·cases hk
    ·rename_i n e hu
     split at hk
     ·rename_i k1 hk1
      cases hk
      have hx : ∀ z : List Value, mkT P t z = .agg z.toArray := fun z => by simp [mkT, aggT, hu]
      obtain ⟨i, hi, his⟩ := sz_info' (kinds_sz hk1)
      obtain ⟨dd, hd, h1n⟩ := kinds_und hk1
      have hcell : P.cellsOf e = k1.length := by unfold Program.cellsOf; simp [hi, his]
      rw [hx, hx, run_equalIn_array w D _ _ hu hi]
      have key : ∀ (m s : Nat) (b : Bool), eqVL ((List.range m).flatMap fun _ => k1) (xs.drop (s * k1.length)) (ys.drop (s * k1.length)) = some b → (Op.eqItems D e (P.cellsOf e) xs.toArray ys.toArray (List.range' s m)).run P w = .ok b w := by
       intro m
       induction m with
       | zero =>
        intro s b h2
        simp only [List.range_zero, List.flatMap_nil] at h2
        cases hxd : xs.drop (s * k1.length) with
        | nil => cases hyd : ys.drop (s * k1.length) with
         | nil => rw [hxd, hyd] at h2; simp only [eqVL, Option.some.injEq] at h2; subst h2; rfl
         | cons => rw [hxd, hyd] at h2; simp [eqVL] at h2
        | cons => rw [hxd] at h2; simp [eqVL] at h2
       | succ m ih =>
        intro s b h2
        have hr : (List.range (m + 1)).flatMap (fun _ => k1) = k1 ++ (List.range m).flatMap fun _ => k1 := by
         rw [List.range_succ_eq_map, List.flatMap_cons, List.flatMap_map]
        rw [hr] at h2
        obtain ⟨b1, b2, e1, e2, rfl⟩ := eqVL_app h2
        have l1 := eqVL_len e1
        have p1 := run_partE (w := w) hd (kinds_sz hk1) h1n l1.1
        have p2 := run_partE (w := w) hd (kinds_sz hk1) h1n l1.2
        have p3 := equal_ok d e k1 _ _ b1 D hk1 e1 (by omega)
        have e2' := ih (s + 1) b2 (by simpa [List.drop_drop, Nat.succ_mul] using e2)
        simp only [List.range'_succ, Op.eqItems, Sem.run_bind, hcell, p1, p2, p3, Result.andThen_ok]
        rw [hcell] at e2'
        cases b1
        ·rfl
        ·simpa using e2'
      have := key n 0 b (by simpa using he)
      rwa [← List.range_eq_range'] at this
     ·cases hk
    ·cases hk
   ·cases h
  ·cases h
end
end Go.Proofs.YtobkkblijfhpoaaGreatDoor.Pm
