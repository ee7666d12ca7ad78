/- The small machine: statements, in order and in any order. No program is named here. -/
import Derived.Test.YtobkkblijfhpoaaGreatDoorPv
namespace Go.Proofs.YtobkkblijfhpoaaGreatDoor.Pm
open Go.RowKit

structure PO where
 d : Option Nat
 op : POp
 g : Option (Nat × Bool)
 deriving Inhabited
structure Out where
 d : Option Nat
 p : PV
 ups : Ups
 tc : List (Nat × Bool)
def apply (o : Out) (st : St) : St := ⟨match o.d with | some d => up st.s d o.p | none => st.s, setH st.h o.ups⟩
def rd (p : PV) : List (Nat × Bool) := (refsV p).map fun i => (i, false)
def touch (ρ : Operand → PV) (H : Nat → Cel) (d : Nat) : POp → List (Nat × Bool)
 | .nilS .. | .cvSO .. | .box .. | .alloc .. | .allocB .. => [(bid d 0, true)]
 | .bsl _ _ _ _ ps => (bid d 0, true) :: (refsL (ps.map fun x => ρ x.2.2)).map fun i => (i, true)
 | .slE _ _ x => (bid d 0, true) :: rd (ρ x)
 | .slA _ _ x _ _ | .slC _ _ x _ _ => (refsV (ρ x)).map fun i => (i, true)
 | .mks .. | .rng _ => [(bid d 0, true)]
 | .nxt x | .clr _ _ x => (refsV (ρ x)).map fun i => (i, true)
 | .cpy _ x y => (refsV (ρ x)).map (fun i => (i, true)) ++ rd (ρ y)
 | .load _ _ x | .ixS _ _ x _ | .slS _ _ x _ _ | .len _ x | .cvBS x => rd (ρ x)
 | .store _ x _ => (refsV (ρ x)).map fun i => (i, true)
 | .app _ _ _ x y => (bid d 0, true) :: ((refsV (ρ x)).map fun i => (i, true)) ++ rd (ρ y)
 | .call _ xs => (refsL (xs.map ρ)).map (fun i => (i, false)) ++ (List.range 8).map fun j => (bid d j, true)
 | .callf _ xs => (refsL (xs.map ρ)).map (fun i => (i, true)) ++ (List.range 8).map fun j => (bid d j, true)
 | .callr _ xs => (idsOf H ((xs.map ρ).map nzA)).map (fun i => (i, true)) ++ (refsL ((xs.map ρ).map nzA)).map (fun i => (i, false)) ++ (List.range 8).map fun j => (bid d j, true)
 | .callv x xs => (refsL (xs.map ρ)).map (fun i => (i, false)) ++ rd (ρ x) ++ (List.range 8).map fun j => (bid d j, true)
 | _ => []
def heapy : POp → Bool
 | .nilS .. | .cvSO .. | .box .. | .alloc .. | .allocB .. | .bsl .. | .slE .. | .load .. | .ixS .. | .slS .. | .len .. | .cvBS _ | .store .. | .app .. | .call .. | .callv .. | .callr .. | .callf .. | .slA .. | .slC .. | .clr .. | .mks .. | .cpy .. | .rng _ | .nxt _ => true
 | _ => false
def PV.guard? : PV → Option (Option Bool)
 | .d (.bool b) => some (some b)
 | .tup [] => some none
 | _ => none
def exec1 (γ : Orc) (o : PO) (st : St) : Option Out :=
 match o.g with
 | none => match peval γ st.h (o.d.getD 0) (ρof st.s) o.op with
  | some (p, ups) => some ⟨o.d, p, ups, touch (ρof st.s) st.h (o.d.getD 0) o.op⟩
  | none => none
 | some (t, b) => match (st.s t).guard? with
  | some c => if c = some b then (match peval γ st.h (o.d.getD 0) (ρof st.s) o.op with
   | some (p, ups) => some ⟨o.d, p, ups, touch (ρof st.s) st.h (o.d.getD 0) o.op⟩
   | none => none) else some ⟨o.d, .tup [], [], []⟩
  | none => none
def runL (γ : Orc) : List PO → St → Option St
 | [], st => some st
 | o :: r, st => match exec1 γ o st with
  | some x => runL γ r (apply x st)
  | none => none
def runD (γ : Orc) : List PO → St → Option (List Out × St)
 | [], st => some ([], st)
 | o :: r, st => match exec1 γ o st with
  | some x => match runD γ r (apply x st) with
   | some (l, st') => some (x :: l, st')
   | none => none
  | none => none
def apart (x y : List (Nat × Bool)) : Bool := x.all fun a => y.all fun b => !Nat.beq a.1 b.1 || (!a.2 && !b.2)
def tcs (l : List Out) (i : Nat) : List (Nat × Bool) := match l[i]? with | some o => o.tc | none => []

def guardOf (ops : Array Oper) (o : Oper) : Option (Option (Nat × Bool)) :=
 match o.guard with
 | none => some none
 | some (j, b) => match (ops[j]?).bind (·.dst) with
  | some t => some (some (t, b))
  | none => none
def dstOk (N : Nat) : Option Nat → Bool
 | some d => decide (d < N)
 | none => true
def compO (P : Program) (br : List Nat) (N : Nat) (ops : Array Oper) (o : Oper) : Option PO :=
 match comp P br o, guardOf ops o with
 | some p, some g => if dstOk N o.dst then some ⟨o.dst, p, g⟩ else none
 | _, _ => none
def compL (P : Program) (br : List Nat) (N : Nat) (ops : Array Oper) : List Oper → Option (List PO)
 | [] => some []
 | o :: r => match compO P br N ops o, compL P br N ops r with
  | some x, some xs => some (x :: xs)
  | _, _ => none

section
variable {P : Program} {br : List Nat} {E : Nat → Prop} {m : List Blk} {φ0 : Nat → Phys} {w0 : World} {N : Nat} {γ : Orc}
structure Rel (E : Nat → Prop) (m : List Blk) (φ0 : Nat → Phys) (w0 : World) (N : Nat) (st : St) (a : Act) (w : World) : Prop where
 all : ∃ φ, Mem E m φ0 w0 φ st.h w ∧ ∀ t, RepV (Xof E φ) w (RefAt φ st.h) (st.s t) (a.eval (.tmp t))
 defers : a.defers = []
 size : a.tmps.size = N
theorem reps_of {φ : Nat → Phys} {H : Nat → Cel} {X : Nat → Prop} {w : World} {s : Nat → PV} {a : Act} (h : ∀ t, RepV X w (RefAt φ H) (s t) (a.eval (.tmp t))) : ∀ x, RepV X w (RefAt φ H) (ρof s x) (a.eval x)
 | .tmp t => h t
 | .const v => rep_const v
 | .global _ => trivial
 | .func f => ⟨#[], rfl, rfl⟩
theorem eval_put {a : Act} {d t : Nat} {v : Value} (h : d < a.tmps.size) : (a.put (some d) v).eval (.tmp t) = if t = d then v else a.eval (.tmp t) := by
 simp only [Act.put, Act.eval, Array.getD_eq_getD_getElem?]
 by_cases e : t = d
 ·subst e; simp [h]
 ·rw [if_neg e, Array.getElem?_setIfInBounds_ne (Ne.symm e)]
theorem rel_put {st : St} {a : Act} {w w' : World} {φ φ' : Nat → Phys} {p : PV} {ups : Ups} {v : Value} {d : Option Nat} (hr : ∀ t, RepV (Xof E φ) w (RefAt φ st.h) (st.s t) (a.eval (.tmp t))) (hdef : a.defers = []) (hsz : a.tmps.size = N) (hd : dstOk N d = true)
  (m1 : Mem E m φ0 w0 φ' (setH st.h ups) w') (t1 : Tr E φ st.h w φ' (setH st.h ups) w') (hv : RepV (Xof E φ') w' (RefAt φ' (setH st.h ups)) p v) (tc : List (Nat × Bool)) : Rel E m φ0 w0 N (apply ⟨d, p, ups, tc⟩ st) (a.put d v) w' := by
 cases d with
 | none => exact ⟨⟨φ', m1, fun t => t1.v (hr t)⟩, hdef, hsz⟩
 | some d =>
  have hlt : d < a.tmps.size := by simp [dstOk] at hd; omega
  refine ⟨⟨φ', m1, fun t => ?_⟩, hdef, by simp [Act.put, hsz]⟩
  rw [eval_put hlt]
  simp only [apply]
  by_cases e : t = d
  ·subst e; rw [up_same, if_pos rfl]; exact hv
  ·rw [up_ne _ _ _ _ e, if_neg e]; exact t1.v (hr t)
theorem exec1_ok (hγ : Snd P γ w0 φ0) {ops : Array Oper} {o : Oper} {po : PO} {st : St} {x : Out} {a : Act} {w : World} {K : Act → World → Prop} {Q : Exit → Act → World → Prop} (hc : compO P br N ops o = some po) (he : exec1 γ po st = some x) (hr : Rel E m φ0 w0 N st a w)
  (hK : ∀ a' w', Rel E m φ0 w0 N (apply x st) a' w' → K a' w') : if Region.wanted o (yielded ops a.tmps) = true then o.wp P a w K Q else K (a.put o.dst undef) w := by
 obtain ⟨⟨φ, hm, hs⟩, hdef, hsz⟩ := hr
 unfold compO at hc
 split at hc
 ·rename_i p g hp hg
  split at hc
  ·rename_i hd
   simp only [Option.some.injEq] at hc; subst hc
   have doit : ∀ {pp : PV} {ups : Ups} {tc : List (Nat × Bool)}, peval γ st.h (o.dst.getD 0) (ρof st.s) p = some (pp, ups) → x = ⟨o.dst, pp, ups, tc⟩ → o.wp P a w K Q := by
    intro pp ups tc hpe hx
    subst hx
    have hdoes := does_op (ev := a.eval) hm (reps_of hs) hγ (fun _ => rfl) (fun _ => rfl) hp hpe
    unfold Oper.wp
    rcases hdoes with ⟨v, w', hrun, φ', m1, t1, hv⟩ | ⟨w', hrun, φ', m1, t1, hv⟩ | ⟨f, args, hrun, hcall⟩
    ·rw [hrun]; exact hK _ _ (rel_put hs hdef hsz hd m1 t1 hv tc)
    ·rw [hrun]; exact hK _ _ (rel_put hs hdef hsz hd m1 t1 hv tc)
    ·rw [hrun]
     show Calls P f args w _
     refine hcall.mono ?_
     rintro e w' ⟨v, rfl, φ', m1, t1, hv⟩
     exact hK _ _ (rel_put hs hdef hsz hd m1 t1 hv tc)
   unfold guardOf at hg
   unfold exec1 at he
   split at hg
   ·rename_i hgn
    simp only [Option.some.injEq] at hg; subst hg
    rw [if_pos (by simp [Region.wanted, hgn])]
    simp only at he
    split at he
    ·rename_i pp ups hpe
     exact doit hpe (Option.some.inj he).symm
    ·cases he
   ·rename_i j b hgs
    split at hg
    ·rename_i t ht
     simp only [Option.some.injEq] at hg; subst hg
     simp only at he
     split at he
     ·rename_i c hb
      have hy : yielded ops a.tmps j = c := by
       have hst := hs t
       unfold yielded
       rw [ht]
       simp only [Option.bind_some]
       simp only [Act.eval, Array.getD_eq_getD_getElem?] at hst
       unfold PV.guard? at hb
       split at hb
       ·rename_i b' e
        rw [e] at hst
        cases hb
        have hev : (a.tmps[t]?).getD undef = .bool b' := hst
        cases hq : a.tmps[t]? with
        | none => rw [hq] at hev; cases hev
        | some y => rw [hq] at hev; simp at hev; subst hev; rfl
       ·rename_i e
        rw [e] at hst
        cases hb
        obtain ⟨vs, hev, hl⟩ := hst
        have hvs : vs.toList = [] := hl
        cases hq : a.tmps[t]? with
        | none => rfl
        | some y => rw [hq] at hev; simp at hev; subst hev; rfl
       ·cases hb
      split at he
      ·rename_i hcb; subst hcb
       rw [if_pos (by simp [Region.wanted, hgs, hy])]
       split at he
       ·rename_i pp ups hpe
        exact doit hpe (Option.some.inj he).symm
       ·cases he
      ·rename_i hcb
       simp only [Option.some.injEq] at he; subst he
       rw [if_neg (by simp [Region.wanted, hgs, hy, hcb])]
       exact hK _ _ (rel_put hs hdef hsz hd hm Tr.refl (p := .tup []) ⟨#[], rfl, rfl⟩ [])
     ·cases he
    ·cases hg
  ·cases hc
 ·cases hc
theorem runL_ok (hγ : Snd P γ w0 φ0) {ops : Array Oper} {Q : Exit → Act → World → Prop} : ∀ {l : List Oper} {pl : List PO} {st st' : St} {a : Act} {w : World}, compL P br N ops l = some pl → runL γ pl st = some st' → Rel E m φ0 w0 N st a w → (∀ a' w', Rel E m φ0 w0 N st' a' w' → Q .normal a' w') → wpList P ops Q l a w
 | [], pl, st, st', a, w, hc, he, hr, hQ => by
  simp only [compL, Option.some.injEq] at hc; subst hc
  simp only [runL, Option.some.injEq] at he; subst he
  exact hQ _ _ hr
 | o :: l, pl, st, st', a, w, hc, he, hr, hQ => by
  simp only [compL] at hc
  split at hc
  ·rename_i x xs h1 h2
   simp only [Option.some.injEq] at hc; subst hc
   simp only [runL] at he
   split at he
   ·rename_i out hout
    refine wpList_step fun K hK => ?_
    exact exec1_ok hγ h1 hout hr fun a' w' hr' => hK _ _ (runL_ok hγ h2 he hr' hQ)
   ·cases he
  ·cases hc
end
end Go.Proofs.YtobkkblijfhpoaaGreatDoor.Pm
