/- The small machine: code and functions; what a run of it says of the program. No program is named here. -/
import Derived.Test.YtobkkblijfhpoaaGreatDoorPj
import Derived.Below
namespace Go.Proofs.YtobkkblijfhpoaaGreatDoor.Pm
open Go.RowKit

inductive PCode where
 | skip
 | reg (pos : List PO)
 | regD (pos : List PO) (prs : List (Nat × Nat))
 | seq (a b : PCode)
 | cond (c : Operand) (t e : PCode)
 | block (id : Nat) (c : PCode)
 | loop (c : PCode)
 | exit (id : Nat)
 | ret
 | keep (L : List Nat) (B : List (Nat × Loc)) (A : List NA) (c : PCode)
 deriving Inhabited
inductive PX where
 | normal
 | exit (id : Nat)
 | ret
def iter (f : St → Option (PX × St)) : Nat → St → Option (PX × St)
 | 0, _ => none
 | n + 1, st => match f st with
  | some (.normal, st') => iter f n st'
  | r => r
def blk (id : Nat) : Option (PX × St) → Option (PX × St)
 | some (.exit i, st) => if i = id then some (.normal, st) else some (.exit i, st)
 | r => r
def prun (γ : Orc) (n : Nat) : PCode → St → Option (PX × St)
 | .skip, st => some (.normal, st)
 | .reg pos, st => match runL γ pos st with | some st' => some (.normal, st') | none => none
 | .regD pos prs, st => match runD γ pos st with
  | some (outs, st') => if prs.all (fun x => apart (tcs outs x.1) (tcs outs x.2)) = true then some (.normal, st') else none
  | none => none
 | .seq a b, st => match prun γ n a st with
  | some (.normal, st') => prun γ n b st'
  | r => r
 | .cond c t e, st => match (ρof st.s c).bool? with
  | some b => if b then prun γ n t st else prun γ n e st
  | none => none
 | .block id c, st => blk id (prun γ n c st)
 | .loop c, st => iter (prun γ n c) n st
 | .exit id, st => some (.exit id, st)
 | .ret, st => some (.ret, st)
 | .keep L B A c, st => prun γ n c (keepSt L B A st)
def erase : PCode → PCode
 | .seq a b => .seq (erase a) (erase b)
 | .cond c t e => .cond c (erase t) (erase e)
 | .block id c => .block id (erase c)
 | .loop c => .loop (erase c)
 | .keep _ _ _ c => erase c
 | c => c
def compC (P : Program) (br : List Nat) (N : Nat) : Code → Option PCode
 | .skip => some .skip
 | .label _ => some .skip
 | .region _ ops draw => match compL P br N ops ops.toList with
  | some pos => if draw then
    (let A := ancs ops.toList []
     if okA A ops.toList 0 = true ∧ drawOk A pos = true ∧ P.follows .mixedOrders = true then some (.regD pos (pairsOf A pos)) else none)
   else some (.reg pos)
  | none => none
 | .seq a b => match compC P br N a, compC P br N b with
  | some x, some y => some (.seq x y)
  | _, _ => none
 | .cond c t e => match compC P br N t, compC P br N e with
  | some x, some y => some (.cond c x y)
  | _, _ => none
 | .block id c => match compC P br N c with
  | some x => some (.block id x)
  | none => none
 | .loop c => match compC P br N c with
  | some x => some (.loop x)
  | none => none
 | .exit id => some (.exit id)
 | .ret => some .ret
 | _ => none
inductive PR where
 | tmp (t : Nat)
 | cell (a : Nat) (agg : Bool) (n : Nat)
structure FCode where
 N : Nat
 body : PCode
 res : List PR
 fin : Option (List Nat × List (Nat × Loc) × List NA) := none
 z : Bool := false
def eraseF (fc : FCode) : FCode := ⟨fc.N, erase fc.body, fc.res, none, false⟩
def finSt (f : Option (List Nat × List (Nat × Loc) × List NA)) (st : St) : St := match f with | some (L, B, A) => if L.any (Nat.beq 3000000) = true then st else keepSt L B A st | none => st
def compR (P : Program) : List ResultVar → Option (List PR)
 | [] => some []
 | .tmp t :: r => (compR P r).map (.tmp t :: ·)
 | .cell a t :: r => match P.underlying t, sz? P t with
  | some _, some n => if aggT P t = false → n = 1 then (compR P r).map (.cell a (aggT P t) n :: ·) else none
  | _, _ => none
def compF (P : Program) (br : List Nat) (f : Nat) : Option FCode :=
 match P.funcs[f]? with
 | some fn => match fn.body with
  | some c => if fn.name == "runtime.NumGoroutine" then none else (match compC P (if br.any (Nat.beq (f + 200000)) then 200000 :: br else br) fn.ntmps c, compR P fn.results.toList with
   | some b, some r => some ⟨fn.ntmps, b, r, none, false⟩
   | _, _ => none)
  | none => none
 | none => none
mutual
def outV (H : Nat → Cel) (m : Nat) : PV → List Nat → Option (PV × List Nat)
 | .d x, ids => some (.d x, ids)
 | .nil, ids => some (.nil, ids)
 | .un, ids => some (.un, ids)
 | .agg cs, ids => match outL H m cs ids with | some (l, i) => some (.agg l, i) | none => none
 | .tup cs, ids => match outL H m cs ids with | some (l, i) => some (.tup l, i) | none => none
 | .r (.ptr i g o), ids => match look H i g with
  | some _ => if i < m then some (.r (.ptr i 0 o), ids) else none
  | none => some (.un, ids)
 | .r (.msl i g l n), ids => match look H i g with
  | some (.own e k cs) => if i < m then some (.r (.msl i 0 l n), ids) else if l = 0 ∧ cs.length = n * k ∧ ids.any (Nat.beq i) = false then some (.r (.own ids.length e k n cs), ids ++ [i]) else none
  | _ => some (.un, ids)
 | _, _ => none
def outL (H : Nat → Cel) (m : Nat) : List PV → List Nat → Option (List PV × List Nat)
 | [], ids => some ([], ids)
 | p :: ps, ids => match outV H m p ids with
  | some (x, i) => match outL H m ps i with
   | some (l, j) => some (x :: l, j)
   | none => none
  | none => none
end
def outB (H : Nat → Cel) (m : Nat) : Blk → List Nat → Option (Blk × List Nat)
 | .box cs, ids => match outL H m cs ids with
  | some (l, i) => some (.box l, i)
  | none => none
 | b, ids => some (b, ids)
def outBs (H : Nat → Cel) (m : Nat) : List Nat → List Nat → Option (List Blk × List Nat)
 | [], ids => some ([], ids)
 | i :: is, ids => match (H i).b with
  | some b => match outB H m b ids with
   | some (x, j) => match outBs H m is j with
    | some (l, k) => some (x :: l, k)
    | none => none
   | none => none
  | none => none
def resV (st : St) : List PR → Option (List PV)
 | [] => some []
 | .tmp t :: r => match resV st r with | some l => some (st.s t :: l) | none => none
 | .cell a agg n :: r => match peval (fun _ _ _ => none) st.h 0 (ρof st.s) (.load agg n (.tmp a)), resV st r with
  | some (p, _), some l => some (p :: l)
  | _, _ => none
def resP (l : List PV) : PV := match l with
 | [p] => p
 | l => .tup l
def outR (st : St) (m : Nat) (rs : List PR) : Option (PV × List Blk) :=
 match outBs st.h m (List.range m) [] with
 | some (bs, ids) => match resV st rs with
  | some l => match outV st.h m (resP l) ids with | some (x, _) => some (x, bs) | none => none
  | none => none
 | none => none
def st0 (args : List PV) (bs : List Blk) : St := ⟨fun t => args.getD t .un, H0 bs⟩
def fxC (f : Option (List Nat × List (Nat × Loc) × List NA)) : Bool := match f with | some (L, _, _) => L.any (Nat.beq 2000000) | none => false
def genOk (h : Nat → Cel) (m : Nat) : Bool := (List.range m).all fun i => Nat.beq (h i).g 0
def outX (fx : Bool) (st : St) (m : Nat) (rs : List PR) : Option (PV × List Blk) :=
 match fx with
 | true => (match outR st m rs with | some (r, bs) => if genOk st.h m = true then some (r, bs ++ [.box []]) else none | none => none)
 | false => outR st m rs
def pfun (γ : Orc) (n : Nat) (fc : FCode) (args : List PV) (bs : List Blk) : Option (PV × List Blk) :=
 if args.length ≤ fc.N then
  match prun γ n fc.body (st0 args bs) with
  | some (.normal, st) => outX (fxC fc.fin) (finSt fc.fin st) bs.length fc.res
  | some (.ret, st) => outX (fxC fc.fin) (finSt fc.fin st) bs.length fc.res
  | _ => none
 else none
open Classical in
noncomputable def pfunI (γ : Orc) (fc : FCode) (args : List PV) (bs : List Blk) : Option (PV × List Blk) := if h : ∃ n r, pfun γ n fc args bs = some r then some h.choose_spec.choose else none
open Classical in
noncomputable def pfunZ (γ : Orc) (fc : FCode) (args : List PV) (bs : List Blk) : Option (PV × List Blk) :=
 if fc.z = true then
  match args with
  | .d (.sl m cs) :: ar => match pfunI γ fc (.slz false m cs :: ar) bs with
   | some r => if m ≠ 0 ∨ pfunI γ fc (.slz true 0 [] :: ar) bs = some r then some r else none
   | none => none
  | _ => none
 else pfunI γ fc args bs
noncomputable def lev (codes : Nat → Option FCode) (base : Orc) : Nat → Orc
 | 0, f, args, bs => base f args bs
 | n + 1, f, args, bs => match codes f with
  | some fc => pfunZ (lev codes base n) fc args bs
  | none => base f args bs
theorem iter_mono {f g : St → Option (PX × St)} (h : ∀ st r, f st = some r → g st = some r) : ∀ (n m : Nat) (st : St) (r : PX × St), n ≤ m → iter f n st = some r → iter g m st = some r
 | 0, _, _, _, _, h => by cases h
 | n + 1, 0, _, _, hl, _ => by omega
 | n + 1, m + 1, st, r, hl, hi => by
  simp only [iter] at hi ⊢
  split at hi
  ·rename_i st' hs
   rw [h _ _ hs]
   exact iter_mono h n m st' r (by omega) hi
  ·rename_i hne
   rw [h _ _ hi]
   obtain ⟨e, s⟩ := r
   cases e with
   | normal => exact absurd hi (hne s)
   | _ => rfl
theorem prun_mono {γ : Orc} {n m : Nat} (hl : n ≤ m) : ∀ (c : PCode) (st : St) (r : PX × St), prun γ n c st = some r → prun γ m c st = some r
 | .skip, _, _, h => h
 | .reg _, _, _, h => h
 | .regD .., _, _, h => h
 | .exit _, _, _, h => h
 | .ret, _, _, h => h
 | .keep L B A c, st, r, h => prun_mono hl c _ r h
 | .seq a b, st, r, h => by
  simp only [prun] at h ⊢
  split at h
  ·rename_i st' hs
   rw [prun_mono hl a _ _ hs]
   exact prun_mono hl b _ _ h
  ·rename_i hne
   rw [prun_mono hl a _ _ h]
   obtain ⟨e, s⟩ := r
   cases e with
   | normal => exact absurd h (hne s)
   | _ => rfl
 | .cond c t e, st, r, h => by
  simp only [prun] at h ⊢
  split at h
  ·rename_i b hb
   split at h
   ·rename_i hb2; subst hb2
    simp only [hb, if_true]
    exact prun_mono hl t _ _ h
   ·rename_i hb2
    have : b = false := by simpa using hb2
    subst this
    simp only [hb, Bool.false_eq_true, if_false]
    exact prun_mono hl e _ _ h
  ·cases h
 | .block id c, st, r, h => by
  simp only [prun] at h ⊢
  cases hq : prun γ n c st with
  | none => rw [hq] at h; cases h
  | some q => rw [hq] at h; rw [prun_mono hl c _ _ hq]; exact h
 | .loop c, st, r, h => by
  simp only [prun] at h ⊢
  exact iter_mono (fun st r => prun_mono hl c st r) n m st r hl h
theorem pfun_mono {γ : Orc} {n m : Nat} (hl : n ≤ m) {fc : FCode} {args : List PV} {bs : List Blk} {r : PV × List Blk} (h : pfun γ n fc args bs = some r) : pfun γ m fc args bs = some r := by
 unfold pfun at h ⊢
 split at h
 ·rename_i hlen
  rw [if_pos hlen]
  split at h
  ·rename_i st hs; rw [prun_mono hl _ _ _ hs]; exact h
  ·rename_i st hs; rw [prun_mono hl _ _ _ hs]; exact h
  ·cases h
 ·cases h
theorem pfunI_spec {γ : Orc} {fc : FCode} {args : List PV} {bs : List Blk} {r : PV × List Blk} (h : pfunI γ fc args bs = some r) : ∃ n, pfun γ n fc args bs = some r := by
 unfold pfunI at h
 split at h
 ·rename_i hx
  refine ⟨hx.choose, ?_⟩
  rw [hx.choose_spec.choose_spec]; exact h
 ·cases h
theorem pfunI_of {γ : Orc} {n : Nat} {fc : FCode} {args : List PV} {bs : List Blk} {r : PV × List Blk} (h : pfun γ n fc args bs = some r) : pfunI γ fc args bs = some r := by
 have hx : ∃ n r, pfun γ n fc args bs = some r := ⟨n, r, h⟩
 unfold pfunI
 rw [dif_pos hx]
 have h2 := hx.choose_spec.choose_spec
 have a := pfun_mono (Nat.le_max_left n hx.choose) h
 have b := pfun_mono (Nat.le_max_right n hx.choose) h2
 rw [a] at b
 exact b.symm

section
variable {P : Program} {br : List Nat} {E : Nat → Prop} {m : List Blk} {φ0 : Nat → Phys} {w0 : World} {N : Nat} {γ : Orc}
def exOf : PX → Exit
 | .normal => .normal
 | .exit id => .exit id
 | .ret => .ret
theorem rel_fin {st : St} {a : Act} {w : World} (f : Option (List Nat × List (Nat × Loc) × List NA)) (hr : Rel E m φ0 w0 N st a w) : Rel E m φ0 w0 N (finSt f st) a w := by
 unfold finSt
 split
 ·split
  ·exact hr
  ·exact rel_keep _ _ _ hr
 ·exact hr
theorem peel {n : Nat} {r : PX × St} {a : Act} {w : World} : ∀ (pc : PCode) (st : St), prun γ n pc st = some r → Rel E m φ0 w0 N st a w →
  ∃ pc' st', (∀ L B A c, pc' ≠ .keep L B A c) ∧ erase pc' = erase pc ∧ prun γ n pc' st' = some r ∧ Rel E m φ0 w0 N st' a w
 | .keep L B A c, st, h, hr => peel c (keepSt L B A st) h (rel_keep L B A hr)
 | .skip, st, h, hr => ⟨_, st, (fun _ _ _ _ h => by cases h), rfl, h, hr⟩
 | .reg _, st, h, hr => ⟨_, st, (fun _ _ _ _ h => by cases h), rfl, h, hr⟩
 | .regD .., st, h, hr => ⟨_, st, (fun _ _ _ _ h => by cases h), rfl, h, hr⟩
 | .seq .., st, h, hr => ⟨_, st, (fun _ _ _ _ h => by cases h), rfl, h, hr⟩
 | .cond .., st, h, hr => ⟨_, st, (fun _ _ _ _ h => by cases h), rfl, h, hr⟩
 | .block .., st, h, hr => ⟨_, st, (fun _ _ _ _ h => by cases h), rfl, h, hr⟩
 | .loop .., st, h, hr => ⟨_, st, (fun _ _ _ _ h => by cases h), rfl, h, hr⟩
 | .exit _, st, h, hr => ⟨_, st, (fun _ _ _ _ h => by cases h), rfl, h, hr⟩
 | .ret, st, h, hr => ⟨_, st, (fun _ _ _ _ h => by cases h), rfl, h, hr⟩
theorem code_ok (hγ : Snd P γ w0 φ0) (n : Nat) : ∀ {c : Code} {pc : PCode} {st st' : St} {e : PX} {a : Act} {w : World} {Q : Exit → Act → World → Prop}, compC P br N c = some (erase pc) → prun γ n pc st = some (e, st') → Rel E m φ0 w0 N st a w → (∀ a' w', Rel E m φ0 w0 N st' a' w' → Q (exOf e) a' w') → c.wp P Q a w := by
 intro c
 induction c with
 | skip =>
  intro pc st st' e a w Q hc he hr hQ
  obtain ⟨pc', s0, hne, hee, he, hr⟩ := peel pc st he hr
  rw [← hee] at hc
  cases pc' <;> simp only [compC, erase, Option.some.injEq, reduceCtorEq] at hc
  ·simp only [prun, Option.some.injEq, Prod.mk.injEq] at he
   obtain ⟨rfl, rfl⟩ := he
   exact wp_skip (hQ _ _ hr)
  ·exact absurd rfl (hne _ _ _ _)
 | label l =>
  intro pc st st' e a w Q hc he hr hQ
  obtain ⟨pc', s0, hne, hee, he, hr⟩ := peel pc st he hr
  rw [← hee] at hc
  cases pc' <;> simp only [compC, erase, Option.some.injEq, reduceCtorEq] at hc
  ·simp only [prun, Option.some.injEq, Prod.mk.injEq] at he
   obtain ⟨rfl, rfl⟩ := he
   exact wp_label (hQ _ _ hr)
  ·exact absurd rfl (hne _ _ _ _)
 | exit id =>
  intro pc st st' e a w Q hc he hr hQ
  obtain ⟨pc', s0, hne, hee, he, hr⟩ := peel pc st he hr
  rw [← hee] at hc
  cases pc' <;> simp only [compC, erase, Option.some.injEq, reduceCtorEq] at hc
  ·cases hc
   simp only [prun, Option.some.injEq, Prod.mk.injEq] at he
   obtain ⟨rfl, rfl⟩ := he
   exact wp_exit (hQ _ _ hr)
  ·exact absurd rfl (hne _ _ _ _)
 | ret =>
  intro pc st st' e a w Q hc he hr hQ
  obtain ⟨pc', s0, hne, hee, he, hr⟩ := peel pc st he hr
  rw [← hee] at hc
  cases pc' <;> simp only [compC, erase, Option.some.injEq, reduceCtorEq] at hc
  ·simp only [prun, Option.some.injEq, Prod.mk.injEq] at he
   obtain ⟨rfl, rfl⟩ := he
   exact wp_ret (hQ _ _ hr)
  ·exact absurd rfl (hne _ _ _ _)
 | region id ops draw =>
  intro pc st st' e a w Q hc he hr hQ
  obtain ⟨pc', s0, hne, hee, he, hr⟩ := peel pc st he hr
  rw [← hee] at hc
  simp only [compC] at hc
  split at hc
  ·rename_i pos hpos
   cases draw with
   | false =>
    simp only [Bool.false_eq_true, if_false, Option.some.injEq] at hc
    cases pc' <;> simp only [erase, reduceCtorEq] at hc
    ·cases hc
     simp only [prun] at he
     split at he
     ·rename_i s hs
      simp only [Option.some.injEq, Prod.mk.injEq] at he
      obtain ⟨rfl, rfl⟩ := he
      exact wp_region_list (runL_ok hγ hpos hs hr hQ)
     ·cases he
    ·exact absurd rfl (hne _ _ _ _)
   | true =>
    simp only [if_true] at hc
    split at hc
    ·rename_i hh
     simp only [Option.some.injEq] at hc
     cases pc' <;> simp only [erase, reduceCtorEq] at hc
     ·cases hc
      simp only [prun] at he
      split at he
      ·rename_i outs s hs
       split at he
       ·rename_i hap
        simp only [Option.some.injEq, Prod.mk.injEq] at he
        obtain ⟨rfl, rfl⟩ := he
        exact drawn_ok hγ hh.2.2 hpos hh.1 hh.2.1 hs hap hr hQ
       ·cases he
      ·cases he
     ·exact absurd rfl (hne _ _ _ _)
    ·cases hc
  ·cases hc
 | seq x y ihx ihy =>
  intro pc st st' e a w Q hc he hr hQ
  obtain ⟨pc', s0, hne, hee, he, hr⟩ := peel pc st he hr
  rw [← hee] at hc
  simp only [compC] at hc
  split at hc
  ·rename_i px py h1 h2
   simp only [Option.some.injEq] at hc
   cases pc' <;> simp only [erase, reduceCtorEq] at hc
   ·cases hc
    simp only [prun] at he
    refine wp_seq ?_
    split at he
    ·rename_i s hs
     exact ihx h1 hs hr fun a' w' hr' => ihy h2 he hr' hQ
    ·rename_i hne
     refine ihx h1 he hr fun a' w' hr' => ?_
     cases e with
     | normal => exact absurd he (hne _)
     | exit id => exact hQ _ _ hr'
     | ret => exact hQ _ _ hr'
   ·exact absurd rfl (hne _ _ _ _)
  ·cases hc
 | cond cc x y ihx ihy =>
  intro pc st st' e a w Q hc he hr hQ
  obtain ⟨pc', s0, hne, hee, he, hr⟩ := peel pc st he hr
  rw [← hee] at hc
  simp only [compC] at hc
  split at hc
  ·rename_i px py h1 h2
   simp only [Option.some.injEq] at hc
   cases pc' <;> simp only [erase, reduceCtorEq] at hc
   ·cases hc
    simp only [prun] at he
    split at he
    ·rename_i b hb
     obtain ⟨φ, hm, hs⟩ := hr.all
     have hev := bool_of hb (reps_of hs cc)
     cases b with
     | true => exact wp_cond_true hev (ihx h1 (by simpa using he) hr hQ)
     | false => exact wp_cond_false hev (ihy h2 (by simpa using he) hr hQ)
    ·cases he
   ·exact absurd rfl (hne _ _ _ _)
  ·cases hc
 | block id c ih =>
  intro pc st st' e a w Q hc he hr hQ
  obtain ⟨pc', s0, hne, hee, he, hr⟩ := peel pc st he hr
  rw [← hee] at hc
  simp only [compC] at hc
  split at hc
  ·rename_i px h1
   simp only [Option.some.injEq] at hc
   cases pc' <;> simp only [erase, reduceCtorEq] at hc
   rotate_left
   ·exact absurd rfl (hne _ _ _ _)
   rename_i id' pc'
   cases hc
   simp only [prun] at he
   refine wp_block ?_
   cases hq : prun γ n pc' s0 with
   | none => rw [hq] at he; cases he
   | some q =>
    obtain ⟨e', s⟩ := q
    rw [hq] at he
    refine ih h1 hq hr fun a' w' hr' => ?_
    cases e' with
    | normal =>
     simp only [blk, Option.some.injEq, Prod.mk.injEq] at he
     obtain ⟨rfl, rfl⟩ := he
     exact hQ _ _ hr'
    | ret =>
     simp only [blk, Option.some.injEq, Prod.mk.injEq] at he
     obtain ⟨rfl, rfl⟩ := he
     exact hQ _ _ hr'
    | exit i =>
     simp only [blk] at he
     simp only [exOf, Exit.inBlock]
     split at he
     ·rename_i hi
      simp only [Option.some.injEq, Prod.mk.injEq] at he
      obtain ⟨rfl, rfl⟩ := he
      rw [if_pos hi]; exact hQ _ _ hr'
     ·rename_i hi
      simp only [Option.some.injEq, Prod.mk.injEq] at he
      obtain ⟨rfl, rfl⟩ := he
      rw [if_neg hi]; exact hQ _ _ hr'
  ·cases hc
 | loop c ih =>
  intro pc st st' e a w Q hc he hr hQ
  obtain ⟨pc', s0, hne, hee, he, hr⟩ := peel pc st he hr
  rw [← hee] at hc
  simp only [compC] at hc
  split at hc
  ·rename_i px0 h1
   simp only [Option.some.injEq] at hc
   cases pc' <;> simp only [erase, reduceCtorEq] at hc
   rotate_left
   ·exact absurd rfl (hne _ _ _ _)
   rename_i px
   cases hc
   simp only [prun] at he
   have key : ∀ a w, (∃ k s, iter (prun γ n px) k s = some (e, st') ∧ Rel E m φ0 w0 N s a w) → ∃ k, (∃ s, iter (prun γ n px) k s = some (e, st') ∧ Rel E m φ0 w0 N s a w) ∧ ∀ j, (∃ s, iter (prun γ n px) j s = some (e, st') ∧ Rel E m φ0 w0 N s a w) → k ≤ j := by
    intro a w ⟨k, s, h⟩
    induction k using Nat.strongRecOn generalizing s with
    | ind k ihk =>
     by_cases hmin : ∀ j, (∃ s, iter (prun γ n px) j s = some (e, st') ∧ Rel E m φ0 w0 N s a w) → k ≤ j
     ·exact ⟨k, ⟨s, h⟩, hmin⟩
     ·simp only [Classical.not_forall] at hmin
      obtain ⟨j, ⟨s2, h2⟩, hj⟩ := hmin
      exact ihk j (by omega) s2 h2
   classical
   let μ : Act → World → Nat := fun a w => if h : ∃ k s, iter (prun γ n px) k s = some (e, st') ∧ Rel E m φ0 w0 N s a w then (key a w h).choose else 0
   refine wp_loop (fun a w => ∃ k s, iter (prun γ n px) k s = some (e, st') ∧ Rel E m φ0 w0 N s a w) μ ⟨n, s0, he, hr⟩ ?_
   intro a w hI
   have hμ : μ a w = (key a w hI).choose := dif_pos hI
   obtain ⟨⟨s, hs, hrs⟩, _⟩ := (key a w hI).choose_spec
   rw [← hμ] at hs
   cases hk : μ a w with
   | zero => rw [hk] at hs; cases hs
   | succ k =>
    rw [hk] at hs
    simp only [iter] at hs
    split at hs
    ·rename_i s1 hs1
     refine ih h1 hs1 hrs fun a' w' hr' => ?_
     have hI' : ∃ k s, iter (prun γ n px) k s = some (e, st') ∧ Rel E m φ0 w0 N s a' w' := ⟨k, s1, hs, hr'⟩
     refine ⟨hI', ?_⟩
     have hμ' : μ a' w' = (key a' w' hI').choose := dif_pos hI'
     have := (key a' w' hI').choose_spec.2 k ⟨s1, hs, hr'⟩
     rw [hμ']; omega
    ·rename_i hne
     refine ih h1 hs hrs fun a' w' hr' => ?_
     cases e with
     | normal => exact absurd hs (hne _)
     | exit id => exact hQ _ _ hr'
     | ret => exact hQ _ _ hr'
  ·cases hc
 | _ => intro pc st st' e a w Q hc; simp [compC] at hc
def resOf (tmps : Array Value) : ResultVar → Sem Value
 | .tmp t => pure (tmps.getD t undef)
 | .cell b t => do loadVar t (← asAddr (tmps.getD b undef))
theorem resV_ok {st : St} {a : Act} {w : World} {φ : Nat → Phys} (hm : Mem E m φ0 w0 φ st.h w) (hs : ∀ t, RepV (Xof E φ) w (RefAt φ st.h) (st.s t) (a.eval (.tmp t))) : ∀ {rs : List ResultVar} {pr : List PR} {l : List PV}, compR P rs = some pr → resV st pr = some l →
  ∃ vs, (rs.mapM (resOf a.tmps)).run P w = .ok vs w ∧ RepL (Xof E φ) w (RefAt φ st.h) l vs
 | [], pr, l, hc, he => by
  simp only [compR, Option.some.injEq] at hc; subst hc
  simp only [resV, Option.some.injEq] at he; subst he
  exact ⟨[], rfl, rfl⟩
 | .tmp t :: rs, pr, l, hc, he => by
  simp only [compR, Option.map_eq_some_iff] at hc
  obtain ⟨q, hq, rfl⟩ := hc
  simp only [resV] at he
  split at he
  ·rename_i l' hl'
   simp only [Option.some.injEq] at he; subst he
   obtain ⟨vs, h1, h2⟩ := resV_ok hm hs hq hl'
   refine ⟨a.tmps.getD t undef :: vs, ?_, ⟨_, _, rfl, hs t, h2⟩⟩
   simp only [List.mapM_cons, resOf, Sem.run_bind, Sem.run_pure, Result.andThen_ok, h1]
  ·cases he
 | .cell b t :: rs, pr, l, hc, he => by
  simp only [compR] at hc
  split at hc
  ·rename_i dd n hd hn
   split at hc
   ·rename_i h1n
    simp only [Option.map_eq_some_iff] at hc
    obtain ⟨q, hq, rfl⟩ := hc
    simp only [resV] at he
    split at he
    ·rename_i p ups l' hp hl'
     simp only [Option.some.injEq] at he; subst he
     obtain ⟨vs, h1, h2⟩ := resV_ok hm hs hq hl'
     have hups : ups = [] := by
      simp only [peval] at hp
      repeat' split at hp
      all_goals first | (cases hp; done) | (cases hp; rfl)
     subst hups
     have hdoes := does_load (P := P) (γ := fun _ _ _ => none) (d := 0) (ev := a.eval) hm (reps_of hs) hd hn h1n hp
     have : ∃ v, (Instr.loadAt t (a.eval (.tmp b))).run P w = .ok v w ∧ RepV (Xof E φ) w (RefAt φ st.h) p v := by
      simp only [peval] at hp
      have hb := hs b
      have fin : ∀ {cs : List PV} {us : List Value} {bb o0 o : Nat}, RepL (Xof E φ) w (RefAt φ st.h) cs us → (∀ j u, us[j]? = some u → w.cell? ⟨bb, o0 + j, none⟩ = some u) → Pm.part (aggT P t) cs o n = some p → a.eval (.tmp b) = .pointer (some ⟨bb, o0 + o, none⟩) →
        ∃ v, (Instr.loadAt t (a.eval (.tmp b))).run P w = .ok v w ∧ RepV (Xof E φ) w (RefAt φ st.h) p v := by
       intro cs us bb o0 o hr hcc hpp hev
       obtain ⟨q1, q2⟩ := part_rep hpp h1n hr
       rw [hev]
       exact ⟨_, run_loads hd hn h1n q1 (list_sub hcc o n), q2⟩
      split at hp
      ·rename_i i g o e
       have e : st.s b = .r (.ptr i g o) := e
       rw [e] at hb
       split at hp
       ·rename_i cs hl
        split at hp
        ·rename_i hok
         obtain ⟨bb, c, hpp, hv, us, r1, r2⟩ := hm.cells (fun cs' h => by cases h; exact hok) hl hb
         split at hp
         ·rename_i q hq; cases hp
          exact fin (o0 := 0) r1 (fun j u hu => by rw [Nat.zero_add]; exact r2 j u hu) hq (by rw [hv, Nat.zero_add])
         ·cases hp
        ·cases hp
       ·rename_i e' k cs hl
        obtain ⟨bb, c, hpp, hv, us, r1, r2⟩ := hm.cells (fun cs' h => by cases h) hl hb
        split at hp
        ·rename_i q hq; cases hp
         rw [partD_part] at hq
         exact fin (o0 := 0) r1 (fun j u hu => by rw [Nat.zero_add]; exact r2 j u hu) hq (by rw [hv, Nat.zero_add])
        ·cases hp
       ·cases hp
      ·rename_i cs e
       have e : st.s b = .rptr cs := e
       rw [e] at hb
       obtain ⟨bb, o, hv, _, _, hcc⟩ := hb
       obtain ⟨us, r1, r2⟩ := hcc.vals (R := RefAt φ st.h)
       split at hp
       ·rename_i q hq; cases hp
        rw [partD_part] at hq
        exact fin (o0 := o) r1 r2 hq (by rw [hv, Nat.add_zero])
       ·cases hp
      ·cases hp
     obtain ⟨v, hv, hpv⟩ := this
     have hrun : (do loadVar t (← asAddr (a.tmps.getD b undef)) : Sem Value).run P w = .ok v w := by
      have e : a.eval (.tmp b) = a.tmps.getD b undef := rfl
      rw [e] at hv
      unfold Instr.loadAt at hv
      generalize a.tmps.getD b undef = x at hv ⊢
      cases x with
      | pointer q =>
       cases q with
       | none => simp [Instr.sureAddr] at hv
       | some q => simpa [Instr.sureAddr, asAddr] using hv
      | _ => simp [Instr.sureAddr] at hv
     refine ⟨v :: vs, ?_, ⟨_, _, rfl, hpv, h2⟩⟩
     simp only [List.mapM_cons, resOf, Sem.run_bind] at hrun ⊢
     simp only [hrun, Result.andThen_ok, h1, Sem.run_pure]
    ·cases he
   ·cases hc
  ·cases hc
end
end Go.Proofs.YtobkkblijfhpoaaGreatDoor.Pm
