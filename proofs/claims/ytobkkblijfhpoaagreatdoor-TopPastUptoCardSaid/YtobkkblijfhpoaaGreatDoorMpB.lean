/- client.New: the small machine's code in place of its loop over a map. -/
import Derived.Test.YtobkkblijfhpoaaGreatDoorMpA
namespace Go.Proofs.YtobkkblijfhpoaaGreatDoor.Mp
open Go Go.Proofs Go.RowKit Go.Proofs.YtobkkblijfhpoaaGreatDoor.Pm Go.Maps
set_option linter.unusedVariables false
set_option linter.unusedSimpArgs false
def W10 : List (Nat × Int) := [(578, 2), (579, 2), (580, 2), (581, 2), (582, 2), (597, 127), (598, 21), (599, 23), (600, 18), (601, 22)]
def stP (x : Nat × Int) : List PO := [⟨some 71, .fld x.1 (.tmp 14), none⟩, ⟨none, .store 1 (.tmp 71) (.const (.int .u8 x.2)), none⟩]
def unL : List Nat := [18, 19, 58, 59, 60, 61, 62, 63, 64, 65, 66, 67, 68, 69, 70, 71, 72, 73, 74, 75]
def unP (t : Nat) : PO := ⟨some t, .mov (.const (.map none)), none⟩
def posL : List PO := [⟨some 75, .load false 1 (.tmp 14), none⟩, ⟨some 74, .cvI .i64 (.tmp 75), none⟩, ⟨none, .store 1 (.tmp 14) (.tmp 14), none⟩, ⟨none, .store 1 (.tmp 14) (.tmp 75), none⟩, ⟨some 75, .load true 613 (.tmp 14), none⟩] ++ (W10.flatMap stP ++ unL.map unP)
def pL : PCode := .reg posL
theorem run_cons {γ : Orc} {po : PO} {r : List PO} {st st1 : St} (h : runL γ (po :: r) st = some st1) : ∃ x, exec1 γ po st = some x ∧ runL γ r (apply x st) = some st1 := by
 simp only [runL] at h
 split at h
 ·rename_i x hx; exact ⟨x, hx, h⟩
 ·cases h
theorem ex_none {γ : Orc} {d : Option Nat} {op : POp} {st : St} {x : Out} (h : exec1 γ ⟨d, op, none⟩ st = some x) : ∃ p ups tc, peval γ st.h (d.getD 0) (ρof st.s) op = some (p, ups) ∧ x = ⟨d, p, ups, tc⟩ := by
 simp only [exec1] at h
 split at h
 ·rename_i p ups hp
  exact ⟨p, ups, _, hp, (Option.some.inj h).symm⟩
 ·cases h
structure KS (st0 : St) (i g o : Nat) (cs : List PV) (st : St) : Prop where
 p : st.s 14 = .r (.ptr i g o)
 s : ∀ t, T t = false → st.s t = st0.s t
 h : st.h = up st0.h i ⟨g, some (.box cs)⟩
theorem up_up {α : Type} (f : Nat → α) (i : Nat) (x y : α) : up (up f i x) i y = up f i y := by
 funext j; simp only [up]; split <;> rfl
theorem T14 {t d : Nat} (ht : T t = false) (hd : T d = true) : t ≠ d := by rintro rfl; rw [ht] at hd; cases hd
theorem KS.store {γ : Orc} {st0 st st1 : St} {i g o : Nat} {cs : List PV} {r : List PO} (k : KS st0 i g o cs st) (x : Nat × Int) (h : runL γ (stP x ++ r) st = some st1) :
  ∃ st2, KS st0 i g o (splice cs (o + x.1) [.d (.int .u8 x.2)]) st2 ∧ runL γ r st2 = some st1 := by
 obtain ⟨x1, h1, h⟩ := run_cons h
 obtain ⟨p1, u1, t1, e1, rfl⟩ := ex_none h1
 have q14 : ρof st.s (.tmp 14) = .r (.ptr i g o) := k.p
 simp only [peval, q14, Option.some.injEq, Prod.mk.injEq] at e1
 obtain ⟨rfl, rfl⟩ := e1
 obtain ⟨x2, h2, h⟩ := run_cons h
 obtain ⟨p2, u2, t2, e2, rfl⟩ := ex_none h2
 have q71 : ρof (apply ⟨some 71, .r (.ptr i g (o + x.1)), [], t1⟩ st).s (.tmp 71) = .r (.ptr i g (o + x.1)) := by
  show up st.s 71 _ 71 = _
  exact up_same _ _ _
 have hh : (apply ⟨some 71, .r (.ptr i g (o + x.1)), [], t1⟩ st).h = up st0.h i ⟨g, some (.box cs)⟩ := k.h
 have hl : Pm.look (up st0.h i ⟨g, some (.box cs)⟩) i g = some (.box cs) := by unfold Pm.look; rw [up_same, if_pos rfl]
 have qc : (ρof (apply ⟨some 71, .r (.ptr i g (o + x.1)), [], t1⟩ st).s (.const (.int .u8 x.2))).cells? = some [.d (.int .u8 x.2)] := rfl
 simp only [peval, q71, qc, hh, hl] at e2
 split at e2
 ·cases e2
  refine ⟨_, ⟨?_, fun t ht => ?_, ?_⟩, h⟩
  ·show up st.s 71 (.r (.ptr i g (o + x.1))) 14 = _
   rw [up_ne _ _ _ _ (by decide)]; exact k.p
  ·show up st.s 71 (.r (.ptr i g (o + x.1))) t = _
   rw [up_ne _ _ _ _ (T14 ht rfl)]; exact k.s t ht
  ·show setH st.h _ = _
   simp only [setH, k.h, up_up]
 ·cases e2
def csF (o : Nat) (cs : List PV) : List PV := W10.foldl (fun cs x => splice cs (o + x.1) [.d (.int .u8 x.2)]) cs
theorem KS.stores {γ : Orc} {st0 st1 : St} {i g o : Nat} {r : List PO} : ∀ (l : List (Nat × Int)) {cs : List PV} {st : St}, KS st0 i g o cs st → runL γ (l.flatMap stP ++ r) st = some st1 →
  ∃ st2, KS st0 i g o (l.foldl (fun cs x => splice cs (o + x.1) [.d (.int .u8 x.2)]) cs) st2 ∧ runL γ r st2 = some st1
 | [], _, st, k, h => ⟨st, k, h⟩
 | x :: l, _, st, k, h => by
  rw [List.flatMap_cons, List.append_assoc] at h
  obtain ⟨st2, k2, h2⟩ := k.store x h
  exact KS.stores l k2 h2
theorem uns {γ : Orc} {st1 : St} : ∀ (l : List Nat) {st : St}, runL γ (l.map unP) st = some st1 → st1.h = st.h ∧ (∀ t, l.contains t = false → st1.s t = st.s t) ∧ ∀ t, l.contains t = true → st1.s t = .un
 | [], st, h => by
  simp only [List.map_nil, runL, Option.some.injEq] at h
  subst h
  exact ⟨rfl, fun _ _ => rfl, fun t ht => by simp at ht⟩
 | x :: l, st, h => by
  obtain ⟨x1, h1, h⟩ := run_cons h
  obtain ⟨p1, u1, t1, e1, rfl⟩ := ex_none h1
  have e1 : some (PV.un, ([] : Ups)) = some (p1, u1) := e1
  cases e1
  obtain ⟨q1, q2, q3⟩ := uns l h
  refine ⟨q1, fun t ht => ?_, fun t ht => ?_⟩
  ·simp at ht
   rw [q2 t (by simpa using ht.2)]
   exact up_ne _ _ _ _ ht.1
  ·by_cases hl : l.contains t = true
   ·exact q3 t hl
   ·rw [q2 t (by simpa using hl)]
    simp at ht hl
    rcases ht with rfl | ht
    ·exact up_same _ _ _
    ·exact absurd ht hl
theorem unT (t : Nat) : unL.contains t = T t := by
 by_cases h : t ≤ 75
 ·have : ∀ t, t ≤ 75 → unL.contains t = T t := by decide
  exact this t h
 ·have h1 : unL.contains t = false := by
   simp [unL]; omega
  rw [h1]
  have a1 : Nat.beq t 18 = false := by
   cases hq : Nat.beq t 18 with
   | false => rfl
   | true => have := Nat.eq_of_beq_eq_true hq; omega
  have a2 : Nat.beq t 19 = false := by
   cases hq : Nat.beq t 19 with
   | false => rfl
   | true => have := Nat.eq_of_beq_eq_true hq; omega
  have a3 : Nat.ble t 75 = false := by
   cases hq : Nat.ble t 75 with
   | false => rfl
   | true => have := Nat.le_of_ble_eq_true hq; omega
  unfold T
  rw [a1, a2, a3]; simp
theorem splice_back (cs : List PV) (o : Nat) (x p : PV) (h : cs[o]? = some p) : splice (splice cs o [x]) o [p] = cs := by
 obtain ⟨hl, hp⟩ := List.getElem?_eq_some_iff.1 h
 subst hp
 apply List.ext_getElem?
 intro j
 have e1 : ∀ (l : List PV) (y : PV), o < l.length → splice l o [y] = l.set o y := fun l y hy => by
  unfold Pm.splice
  rw [List.set_eq_take_append_cons_drop, if_pos hy]; simp
 rw [e1 cs x hl, e1 _ _ (by simpa using hl), List.set_set]
 by_cases hj : o = j
 ·subst hj; simp [hl]
 ·rw [List.getElem?_set_ne hj]
theorem int_inv {p : PV} {a : IntKind × Int} (h : p.int? = some a) : p = .d (.int a.1 a.2) := by
 unfold PV.int? at h
 split at h
 ·cases h; rfl
 ·cases h
theorem posL_run {γ : Orc} {st st1 : St} (h : runL γ posL st = some st1) : ∃ i g o cs, st.s 14 = .r (.ptr i g o) ∧ Pm.look st.h i g = some (.box cs) ∧ okBox cs = true ∧ o + 613 ≤ cs.length ∧
  (∀ t, T t = false → st1.s t = st.s t) ∧ (∀ t, T t = true → st1.s t = .un) ∧ st1.h = up st.h i ⟨g, some (.box (csF o cs))⟩ := by
 obtain ⟨x1, h1, h⟩ := run_cons h
 obtain ⟨p1, u1, t1, e1, rfl⟩ := ex_none h1
 have hu1 : u1 = [] := by
  simp only [peval] at e1
  split at e1
  ·split at e1
   ·split at e1
    ·split at e1
     ·cases e1; rfl
     ·cases e1
    ·cases e1
   ·split at e1
    ·cases e1; rfl
    ·cases e1
   ·cases e1
  ·split at e1
   ·cases e1; rfl
   ·cases e1
  ·cases e1
 subst hu1
 obtain ⟨x0, h0, h⟩ := run_cons h
 obtain ⟨p0, u0, t0, e0, rfl⟩ := ex_none h0
 have e0 : peval γ st.h 74 (ρof (up st.s 75 p1)) (.cvI .i64 (.tmp 75)) = some (p0, u0) := e0
 have s75 : ρof (up st.s 75 p1) (.tmp 75) = p1 := up_same _ _ _
 simp only [peval, s75] at e0
 obtain ⟨k, n, rfl⟩ : ∃ k n, p1 = .d (.int k n) := by
  split at e0
  ·rename_i a ha; exact ⟨_, _, int_inv ha⟩
  ·cases e0
 have hu0 : u0 = [] := by
  split at e0
  ·cases e0; rfl
  ·cases e0
 subst hu0
 clear e0
 obtain ⟨x2, h2, h⟩ := run_cons h
 obtain ⟨p2, u2, t2, e2, rfl⟩ := ex_none h2
 have s14 : ∀ x y, ρof (up (up st.s 75 x) 74 y) (.tmp 14) = st.s 14 := fun x y => (up_ne _ _ _ _ (by decide)).trans (up_ne _ _ _ _ (by decide))
 have e2 : peval γ st.h 0 (ρof (up (up st.s 75 (.d (.int k n))) 74 p0)) (.store 1 (.tmp 14) (.tmp 14)) = some (p2, u2) := e2
 simp only [peval, s14] at e2
 split at e2
 ·rename_i i g o new e14 hnew
  rw [e14] at hnew
  have hnew : some [PV.r (.ptr i g o)] = some new := hnew
  cases hnew
  split at e2
  ·rename_i cs hl
   split at e2
   ·rename_i hh
    obtain ⟨_, hle, _, hok, hok2⟩ := hh
    cases e2
    simp only [peval, show ρof st.s (.tmp 14) = st.s 14 from rfl, e14, hl, hok, if_true] at e1
    have hcs : cs[o]? = some (.d (.int k n)) := by
     rw [show Pm.part false cs o 1 = cs[o]? from rfl] at e1
     cases hq : cs[o]? with
     | none => rw [hq] at e1; cases e1
     | some q => rw [hq] at e1; cases e1; rfl
    obtain ⟨x3, h3, h⟩ := run_cons h
    obtain ⟨p3, u3, t3, e3, rfl⟩ := ex_none h3
    have e3 : peval γ (up st.h i ⟨g, some (.box (splice cs o [.r (.ptr i g o)]))⟩) 0 (ρof (up (up st.s 75 (.d (.int k n))) 74 p0)) (.store 1 (.tmp 14) (.tmp 75)) = some (p3, u3) := e3
    have s75 : ρof (up (up st.s 75 (.d (.int k n))) 74 p0) (.tmp 75) = .d (.int k n) := (up_ne _ _ _ _ (by decide)).trans (up_same _ _ _)
    have hl2 : ∀ b, Pm.look (up st.h i ⟨g, some b⟩) i g = some b := fun b => by unfold Pm.look; rw [up_same, if_pos rfl]
    simp only [peval, s14, e14, s75, show (PV.d (.int k n)).cells? = some [.d (.int k n)] from rfl, hl2] at e3
    split at e3
    ·cases e3
     obtain ⟨x4, h4, h⟩ := run_cons h
     obtain ⟨p4, u4, t4, e4, rfl⟩ := ex_none h4
     have e4 : peval γ (up (up st.h i ⟨g, some (.box (splice cs o [.r (.ptr i g o)]))⟩) i ⟨g, some (.box (splice (splice cs o [.r (.ptr i g o)]) o [.d (.int k n)]))⟩) 75 (ρof (up (up st.s 75 (.d (.int k n))) 74 p0)) (.load true 613 (.tmp 14)) = some (p4, u4) := e4
     rw [up_up, splice_back cs o _ _ hcs] at e4
     simp only [peval, s14, e14, hl2, hok, if_true] at e4
     have hlen : o + 613 ≤ cs.length ∧ u4 = [] := by
      unfold Pm.part at e4
      simp only [if_true] at e4
      split at e4
      ·rename_i q hq
       split at hq
       ·rename_i hle; cases e4; exact ⟨hle, rfl⟩
       ·cases hq
      ·cases e4
     obtain ⟨hlen, rfl⟩ := hlen
     have K : KS st i g o cs (apply ⟨some 75, p4, [], t4⟩ (apply ⟨none, .un, [(i, ⟨g, some (.box (splice (splice cs o [.r (.ptr i g o)]) o [.d (.int k n)]))⟩)], t3⟩ (apply ⟨none, .un, [(i, ⟨g, some (.box (splice cs o [.r (.ptr i g o)]))⟩)], t2⟩ (apply ⟨some 74, p0, [], t0⟩ (apply ⟨some 75, .d (.int k n), [], t1⟩ st))))) := by
      refine ⟨?_, fun t ht => ?_, ?_⟩
      ·show up (up (up st.s 75 (.d (.int k n))) 74 p0) 75 p4 14 = _
       rw [up_ne _ _ _ _ (by decide), up_ne _ _ _ _ (by decide), up_ne _ _ _ _ (by decide)]; exact e14
      ·show up (up (up st.s 75 (.d (.int k n))) 74 p0) 75 p4 t = _
       rw [up_ne _ _ _ _ (T14 ht rfl), up_ne _ _ _ _ (T14 ht rfl), up_ne _ _ _ _ (T14 ht rfl)]
      ·show up (up st.h i ⟨g, some (.box (splice cs o [.r (.ptr i g o)]))⟩) i ⟨g, some (.box (splice (splice cs o [.r (.ptr i g o)]) o [.d (.int k n)]))⟩ = _
       rw [up_up, splice_back cs o _ _ hcs]
     obtain ⟨st2, K2, h⟩ := KS.stores W10 K h
     obtain ⟨q1, q2, q3⟩ := uns unL h
     refine ⟨i, g, o, cs, e14, hl, hok, hlen, fun t ht => ?_, fun t ht => q3 t (by rw [unT]; exact ht), q1.trans K2.h⟩
     rw [q2 t (by rw [unT]; exact ht)]
     exact K2.s t ht
    ·cases e3
   ·cases e2
  ·rename_i e' k' cs hl
   have : allD [PV.r (.ptr i g o)] = none := rfl
   rw [this] at e2; cases e2
  ·cases e2
 ·cases e2
def vsF (o : Nat) (vs : List Value) : List Value := W10.foldl (fun vs x => vs.set (o + x.1) (.int .u8 x.2)) vs
structure RW (X : Nat → Prop) (w : World) (R : Ref → Value → Prop) (cs : List PV) (vs : List Value) : Prop where
 out : RepL X w R cs vs
theorem folds {X : Nat → Prop} {w : World} {R : Ref → Value → Prop} (o : Nat) : ∀ (l : List (Nat × Int)) {cs : List PV} {vs : List Value}, (∀ x ∈ l, o + x.1 < vs.length) → RW X w R cs vs →
  RW X w R (l.foldl (fun cs x => splice cs (o + x.1) [.d (.int .u8 x.2)]) cs) (l.foldl (fun vs x => vs.set (o + x.1) (.int .u8 x.2)) vs)
 | [], _, _, _, h => h
 | x :: l, cs, vs, hl, h => by
  have hx := hl x (List.mem_cons_self ..)
  have := h.out.splice (new := [.d (.int .u8 x.2)]) (news := [.int .u8 x.2]) ⟨_, _, rfl, rfl, rfl⟩ (o + x.1)
  have e : vs.take (o + x.1) ++ [Value.int .u8 x.2] ++ vs.drop (o + x.1 + [Value.int .u8 x.2].length) = vs.set (o + x.1) (.int .u8 x.2) := by
   rw [List.set_eq_take_append_cons_drop, if_pos hx]; simp
  rw [e] at this
  exact folds o l (fun y hy => by rw [List.length_set]; exact hl y (List.mem_cons_of_mem _ hy)) ⟨this⟩
theorem fold_len (o : Nat) : ∀ (l : List (Nat × Int)) (cs : List PV), (∀ x ∈ l, o + x.1 < cs.length) → (l.foldl (fun cs x => splice cs (o + x.1) [.d (.int .u8 x.2)]) cs).length = cs.length
 | [], _, _ => rfl
 | x :: l, cs, h => by
  have e := splice_len cs (o + x.1) [.d (.int .u8 x.2)] (by have := h x (List.mem_cons_self ..); show o + x.1 + 1 ≤ _; omega)
  rw [List.foldl_cons, fold_len o l _ (fun y hy => by rw [e]; exact h y (List.mem_cons_of_mem _ hy)), e]
theorem vsF_cel (o : Nat) (vs : List Value) (hl : o + 613 ≤ vs.length) (j : Nat) : (vsF o vs)[j]? = cel o (fun _ => false) vs j := by
 have h5 : ∀ m : Nat, m < 5 → m = 0 ∨ m = 1 ∨ m = 2 ∨ m = 3 ∨ m = 4 := fun m h => by omega
 unfold vsF W10
 simp only [List.foldl_cons, List.foldl_nil]
 by_cases a : o + 578 ≤ j ∧ j ≤ o + 582
 ·have hc : cel o (fun _ => false) vs j = some (.int .u8 2) := by unfold cel; rw [if_pos ⟨a.1, a.2, rfl⟩]
  rw [hc]
  obtain ⟨m, rfl⟩ : ∃ m, j = o + 578 + m := ⟨j - o - 578, by omega⟩
  rcases h5 m (by omega) with rfl | rfl | rfl | rfl | rfl <;> simp [List.getElem?_set] <;> omega
 ·by_cases b : o + 597 ≤ j ∧ j ≤ o + 601
  ·have hc : cel o (fun _ => false) vs j = some (.int .u8 ([127, 21, 23, 18, 22].getD (j - o - 597) 0)) := by unfold cel; rw [if_neg (fun q => a ⟨q.1, q.2.1⟩), if_pos ⟨b.1, b.2, rfl⟩]
   rw [hc]
   obtain ⟨m, rfl⟩ : ∃ m, j = o + 597 + m := ⟨j - o - 597, by omega⟩
   rw [show o + 597 + m - o - 597 = m by omega]
   rcases h5 m (by omega) with rfl | rfl | rfl | rfl | rfl <;> simp [List.getElem?_set] <;> omega
  ·have hc : cel o (fun _ => false) vs j = vs[j]? := by unfold cel; rw [if_neg (fun q => a ⟨q.1, q.2.1⟩), if_neg (fun q => b ⟨q.1, q.2.1⟩)]
   rw [hc]
   repeat rw [List.getElem?_set_ne (by omega)]
theorem okBox_long {cs : List PV} (h : 3 ≤ cs.length) : okBox cs = true := by
 unfold okBox
 split <;> first | rfl | (simp at h)
theorem W10_lt {o : Nat} {x : Nat × Int} (hx : x ∈ W10) : o + x.1 < o + 613 := by
 have : ∀ x ∈ W10, x.1 < 613 := by decide
 have := this x hx
 omega
theorem csF_ok {o : Nat} {cs : List PV} (h : o + 613 ≤ cs.length) : okBox (csF o cs) = true := by
 refine okBox_long ?_
 unfold csF
 rw [fold_len o W10 cs fun x hx => Nat.lt_of_lt_of_le (W10_lt hx) h]
 omega
theorem csF_rep {X : Nat → Prop} {w : World} {R : Ref → Value → Prop} {o : Nat} {cs : List PV} {vs : List Value} (hl : o + 613 ≤ vs.length) (h : RW X w R cs vs) : RW X w R (csF o cs) (vsF o vs) := by
 have h2 := folds (X := X) (w := w) (R := R) o W10 (cs := cs) (vs := vs) (fun x hx => Nat.lt_of_lt_of_le (W10_lt hx) hl) h
 unfold csF vsF
 generalize W10 = l at *
 exact h2
theorem ref_L : Refines Go.Proofs.Tryz.prog 76 newL pL := by
 intro γ w0 φ0 E m hγ n st st' e a w Q he hr hQ
 simp only [pL, prun] at he
 split at he
 ·rename_i st1 hst
  simp only [Option.some.injEq, Prod.mk.injEq] at he
  obtain ⟨rfl, rfl⟩ := he
  obtain ⟨i, g, o, cs, e14, hl, hok, hlen, q1, q2, q3⟩ := posL_run hst
  obtain ⟨⟨φ, hm, hs⟩, hdef, hsz⟩ := hr
  obtain ⟨hg, hb⟩ := hm.blk_at hl
  have h14 := hs 14
  rw [e14] at h14
  obtain ⟨_, _, h14⟩ := h14
  obtain ⟨bC, c, hφ, h14⟩ := h14 hg (by rw [hb]; rfl)
  have hrep := hm.rep i _ hb
  rw [hφ] at hrep
  obtain ⟨vs, T0, hbx, hrl⟩ := hrep
  rw [boxObj_ok T0 hok hrl] at hbx
  have hvl := hrl.len
  have hvs : o + 613 ≤ vs.size := by have : vs.toList.length = vs.size := (by simp); omega
  refine mapL h14 hsz hbx hvs fun a' w' s' d' f' g' hrow => ?_
  obtain ⟨cur, hcur, hcs, hcl⟩ := hrow
  have hcur2 : cur.toList = vsF o vs.toList := by
   apply List.ext_getElem?
   intro j
   rw [hcl j, vsF_cel o _ (by simpa using hvs) j]
  have hbCw : bC < w.heap.size := (Array.getElem?_eq_some_iff.1 hbx).1
  have hk := csF_ok hlen
  have hF : ∀ {X : Nat → Prop} {W : World} {R : Ref → Value → Prop}, RW X W R cs vs.toList → RW X W R (csF o cs) (vsF o vs.toList) := fun h => csF_rep (by simpa using hvs) h
  generalize csF o cs = cF at *
  generalize vsF o vs.toList = vF at *
  obtain ⟨H', hH⟩ : ∃ H', H' = up st.h i ⟨g, some (.box cF)⟩ := ⟨_, rfl⟩
  have Hi : H' i = ⟨g, some (.box cF)⟩ := by rw [hH, up_same]
  have Hj : ∀ j, j ≠ i → H' j = st.h j := fun j hj => by rw [hH, up_ne _ _ _ _ hj]
  have k1 : ∀ j, ¬ j = i → φ j = φ j ∧ H' j = st.h j := fun j hj => ⟨rfl, Hj j hj⟩
  have k2 : ∀ j, j = i → (st.h j).g < (H' j).g ∨ (φ j = φ j ∧ (H' j).g = (st.h j).g ∧ like (st.h j).b (H' j).b) := fun j hj => by
   subst hj
   refine .inr ⟨rfl, by rw [Hi, hg], ?_⟩
   rw [Hi, hb]; trivial
  have k3 : ∀ b, b < w.heap.size → (∀ i' c, i' = i → φ i' ≠ .blk b c) → w'.heap[b]? = w.heap[b]? := fun b hbw hn => g'.block b hbw (fun e => by cases e; exact hn i c rfl hφ)
  have k4 : ∀ j b c, j = i → φ j = .blk b c → b < w'.heap.size ∧ (w.heap.size ≤ b ∨ ∃ c', φ j = .blk b c') := fun j b c' hj hb' => by
   subst hj
   refine ⟨?_, .inr ⟨c', hb'⟩⟩
   rw [hφ] at hb'; cases hb'
   exact Nat.lt_of_lt_of_le hbCw g'.size
  have k9 : ∀ j, j = i → j < m.length → (∀ b0, kin b0 (st.h j).b → kin b0 (H' j).b) ∧ (φ j = φ j ∨ ∃ e k cs, (st.h j).b = some (.own e k cs)) := fun j hj _ => by
   subst hj
   refine ⟨fun b0 hk => ?_, .inl rfl⟩
   rw [Hi]; rw [hb] at hk
   cases b0 <;> exact hk
  have k8 : Tr E φ st.h w φ H' w' → ∀ j b, j = i → (H' j).b = some b → RepB (Xof E φ) w' φ H' (φ j) b := fun tr j b hj hb' => by
   subst hj
   rw [Hi] at hb'
   cases hb'
   rw [hφ]
   have hr2 : RepL (Xof E φ) w' (RefAt φ H') cF cur.toList := by
    rw [hcur2]
    exact (hF ⟨tr.l hrl⟩).out
   exact ⟨cur, T0, by rw [boxObj_ok T0 hk hr2]; exact hcur, hr2⟩
  have U := hm.upd (fun j => j = i) k1 k2 k3 k4 (fun i' j b c1 c2 hi hj _ _ => hi.trans hj.symm) k9 g'.size ⟨g'.os, g'.tape, g'.output⟩ k8
  rw [← hH] at q3
  obtain ⟨m1, t1⟩ := U
  refine hQ a' w' ⟨⟨φ, by rw [q3]; exact m1, fun t => ?_⟩, d'.trans hdef, s'⟩
  rw [q3]
  cases hT : T t with
  | true => rw [q2 t hT]; trivial
  | false => rw [q1 t hT, f' t hT]; exact t1.v (hs t)
 ·cases he
end Go.Proofs.YtobkkblijfhpoaaGreatDoor.Mp
