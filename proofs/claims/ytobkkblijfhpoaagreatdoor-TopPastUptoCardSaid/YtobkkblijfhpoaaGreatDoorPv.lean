/- The small machine: each operation that it reads is the language's. No program is named here. -/
import Derived.Test.YtobkkblijfhpoaaGreatDoorPcr
namespace Go.Proofs.YtobkkblijfhpoaaGreatDoor.Pm
open Go.RowKit

section
variable {P : Program} {E : Nat → Prop} {m : List Blk} {φ0 φ : Nat → Phys} {H : Nat → Cel} {w0 w : World}
variable {ρ : Operand → PV} {ev : Operand → Value} {γ : Orc} {d : Nat}

theorem run_callv {o : Oper} {c : Call} {y : Operand} {f : Nat} {caps : Array Value} (ho : o.op = .call c) (hcal : c.callee = .value y) (hy : ev y = .func (.func f) #[] caps) :
  (execOp ev o).run P w = (callFunc f ((c.args.toList.map ev) ++ caps.toList).toArray).run P w := by
 unfold execOp
 simp only [ho, resolve, hcal, Sem.run_bind, Sem.run_pure, Result.andThen_ok, hy, Deferred.ofValue, invoke]
 congr 2
 apply Array.ext'
 simp
theorem does_op (hm : Mem E m φ0 w0 φ H w) (hρ : Reps E φ H w ρ ev) (hγ : Snd P γ w0 φ0) (hk : ∀ v, ev (.const v) = v) (hf : ∀ f, ev (.func f) = .func (.func f) #[] #[]) {o : Oper} {pop : POp} {p : PV} {ups : Ups}
  {br : List Nat} (hc : comp P br o = some pop) (he : peval γ H d ρ pop = some (p, ups)) : Does P E m φ0 w0 φ H w p ups (execOp ev o) := by
 unfold comp at hc
 have mov : ∀ {x : Operand}, (o.op = .move x ∨ o.op = .assign x) → (if isNilK x then (match P.underlying o.type with
   | some (.slice e) => if 0 < P.cellsOf e then some (.nilS e (P.cellsOf e)) else some (.mov x)
   | _ => some (.mov x)) else some (.mov x)) = some pop → Does P E m φ0 w0 φ H w p ups (execOp ev o) := by
  intro x ho hc
  have hx : execOp ev o = pure (.value (ev x)) := by
   unfold execOp
   rcases ho with ho | ho <;> simp only [ho]
  rw [hx]
  have hmov : peval γ H d ρ (.mov x) = some (p, ups) → Does P E m φ0 w0 φ H w p ups (pure (.value (ev x))) := by
   intro he
   simp only [peval, Option.some.injEq, Prod.mk.injEq] at he
   obtain ⟨rfl, rfl⟩ := he
   exact doesP hm rfl (hρ x)
  split at hc
  ·rename_i hn
   have hv : ev x = .slice none 0 0 := by
    unfold isNilK at hn
    split at hn
    ·exact hk _
    ·cases hn
   split at hc
   ·split at hc
    ·rename_i h0; cases hc
     rw [hv]; exact does_nilS hm h0 he
    ·cases hc; exact hmov he
   ·cases hc; exact hmov he
  ·cases hc; exact hmov he
 split at hc
 ·rename_i x ho; exact mov (.inl ho) hc
 ·rename_i x ho; exact mov (.inr ho) hc
 ·rename_i c a b ho; cases hc
  have hx : execOp ev o = (do pure (.value (if ← asBool (ev c) then ev a else ev b))) := by unfold execOp; simp only [ho]
  rw [hx]; exact does_pick hm hρ he
 ·rename_i op t x y yt ho
  have hx : execOp ev o = (do pure (.value (← (do eqGuard op t x y (ev x) (ev y); binOp op t (ev x) (ev y))))) := by unfold execOp; simp only [ho]
  rw [hx]; exact does_bin (yt := yt) hm hρ hk hc he
 ·rename_i op t x ho; cases hc
  have hx : execOp ev o = (do pure (.value (← Op.unary op (ev x)))) := by unfold execOp; simp only [ho]
  rw [hx]; exact does_un hm hρ he
 ·rename_i s dt x ho
  have hx : execOp ev o = (do pure (.value (← convert s dt (ev x)))) := by unfold execOp; simp only [ho]
  rw [hx]
  unfold compConv at hc
  split at hc
  ·rename_i k1 k hs hd; cases hc; exact does_cvI hm hρ hs hd he
  ·rename_i k1 hs hd; cases hc; exact does_cvIS hm hρ hs hd he
  ·rename_i hs hd; cases hc; exact does_cvSS hm hρ hs hd he
  ·rename_i e hs hd
   split at hc
   ·rename_i hu8; cases hc; exact does_cvSO hm hρ hs hd hu8 he
   ·cases hc
  ·rename_i e hs hd
   split at hc
   ·rename_i hu8
    split at hc
    ·cases hc; exact does_cvBS hm hρ hs hu8 hd he
    ·cases hc
   ·cases hc
  ·cases hc
 ·rename_i t ho
  have hx : execOp ev o = (do pure (.value (← Instr.alloc t true (.tuple #[])))) := by unfold execOp; simp only [ho]
  rw [hx]
  split at hc
  ·rename_i hz; cases hc; exact does_allocB hm hz he
  ·rename_i z _ hz; cases hc; exact does_alloc hm hz he
  ·cases hc
 ·rename_i t x ho
  simp only [Option.map_eq_some_iff] at hc
  obtain ⟨n, hn, rfl⟩ := hc
  have hx : execOp ev o = (do pure (.value (← Instr.box t (ev x)))) := by unfold execOp; simp only [ho]
  rw [hx]; exact does_box hm hρ he
 ·rename_i t ps ho
  have hx : execOp ev o = (do pure (.value (← Instr.build t (ps.map fun (i, x) => (i, ev x))))) := by unfold execOp; simp only [ho]
  rw [hx]
  split at hc
  ·rename_i fs hu
   split at hc
   ·rename_i pl z hpl hz
    simp only [Option.map_eq_some_iff] at hc
    obtain ⟨q, hq, rfl⟩ := hc
    exact does_buildS hm hρ hu hpl hz hq he
   ·cases hc
  ·rename_i len e hu
   split at hc
   ·rename_i k z hkk hz
    simp only [Option.map_eq_some_iff] at hc
    obtain ⟨q, hq, rfl⟩ := hc
    exact does_buildA hm hρ hu hkk hz hq he
   ·cases hc
  ·cases hc
 ·rename_i t n ps ho
  have hx : execOp ev o = (do pure (.value (← Instr.buildSlice t n (ps.map fun (i, x) => (i, ev x))))) := by unfold execOp; simp only [ho]
  rw [hx]
  split at hc
  ·rename_i e hu
   split at hc
   ·rename_i k hkk
    split at hc
    ·rename_i z hz
     split at hc
     ·rename_i hh
      simp only [Option.map_eq_some_iff] at hc
      obtain ⟨q, hq, rfl⟩ := hc
      exact does_bsl hm hρ hu hkk hh.1 hh.2 hz hq he
     ·cases hc
    ·cases hc
   ·cases hc
  ·cases hc
 ·rename_i t x ho
  have hx : execOp ev o = (do pure (.value (← Instr.loadAt t (ev x)))) := by unfold execOp; simp only [ho]
  rw [hx]
  split at hc
  ·rename_i dd n hd hn
   split at hc
   ·rename_i h1; cases hc; exact does_load hm hρ hd hn h1 he
   ·cases hc
  ·cases hc
 ·rename_i t x y ho
  have hx : execOp ev o = (do Instr.storeAt t (ev x) (ev y); pure .skip) := by unfold execOp; simp only [ho]
  rw [hx]
  split at hc
  ·rename_i n hn
   split at hc
   ·rename_i h0; cases hc; exact does_store hm hρ hn h0 he
   ·cases hc
  ·cases hc
 ·rename_i x ho; cases hc
  have hx : ∃ f : Value → Sem Next, execOp ev o = f (ev x) ∧ ∀ a v, v = .pointer (some a) → (f v).run P w = .ok (.value v) w := by
   refine ⟨fun v => execOp (fun _ => v) o, ?_, ?_⟩
   ·unfold execOp; simp only [ho]
   ·rintro a v rfl; unfold execOp; simp only [ho]; rfl
  obtain ⟨f, hx, hfv⟩ := hx
  rw [hx]; exact does_nilC hm hρ hfv he
 ·rename_i f first cs ho
  split at hc
  ·rename_i h0; cases hc
   have h0 : first = #[] := Array.eq_empty_of_size_eq_zero h0
   subst h0
   have hx : execOp ev o = (do pure (.value (← Instr.makeFunc (.func f) #[] (cs.toList.map ev).toArray))) := by
    unfold execOp; simp only [ho]
    congr 3
    all_goals (apply Array.ext'; simp)
   rw [hx]; exact does_mkF hm hρ he
  ·cases hc
 ·rename_i t x lo hi mx ho
  have hx : execOp ev o = (do pure (.value (← Instr.sliceAt t (ev x) (lo.map ev) (hi.map ev) (mx.map ev)))) := by unfold execOp; simp only [ho]
  rw [hx]
  split at hc
  ·rename_i hu
   split at hc
   ·rename_i hmx; cases hc
    have : mx = none := by simpa using hmx
    subst this
    exact does_slStr hm hρ hu he
   ·cases hc
  ·rename_i len e hu
   split at hc
   ·rename_i k hkk
    split at hc
    ·rename_i hmx; cases hc
     have : mx = none := by simpa using hmx
     subst this
     exact does_slA hm hρ hu hkk he
    ·cases hc
   ·cases hc
  ·rename_i e hu
   split at hc
   ·rename_i k hkk
    split at hc
    ·rename_i h0
     split at hc
     ·split at hc
      ·cases hc; exact does_slC hm hρ hu hkk he
      ·cases hc; exact does_slS hm hρ hu hkk he
     ·rename_i mm
      split at hc
      ·rename_i hh; cases hc
       simp only [Bool.and_eq_true, Option.isNone_iff_eq_none] at hh
       obtain ⟨⟨rfl, h1⟩, h2⟩ := hh
       unfold isZeroK at h1 h2
       split at h1
       ·rename_i k1
        split at h2
        ·rename_i k2 heq
         cases heq
         exact does_slE hm hρ hu hkk h0 k1 k2 (hk _) (hk _) he
        ·cases h2
       ·cases h1
      ·cases hc
    ·cases hc
   ·cases hc
  ·cases hc
 ·rename_i t x f ho
  have hx : execOp ev o = (do pure (.value (← Instr.fieldAt t (ev x) f))) := by unfold execOp; simp only [ho]
  rw [hx]
  split at hc
  ·rename_i fs hu
   split at hc
   ·rename_i fd hfd
    split at hc
    ·cases hc
    ·rename_i hne
     split at hc
     ·rename_i n hn; cases hc
      refine does_fld hm hρ hu hfd hn ?_ he
      obtain ⟨i, h1, h2⟩ := sz_info hn
      intro h; apply hne; unfold Program.cellsOf; simp [h1, h2, h]
     ·cases hc
   ·cases hc
  ·cases hc
 ·rename_i t x f ho
  have hx : execOp ev o = (do pure (.value (← Instr.field t (ev x) f))) := by unfold execOp; simp only [ho]
  rw [hx]
  split at hc
  ·rename_i fs hu
   split at hc
   ·rename_i fd hfd
    split at hc
    ·rename_i dd n hd hn
     split at hc
     ·rename_i h1; cases hc; exact does_fldV hm hρ hu hfd hd hn h1 he
     ·cases hc
    ·cases hc
   ·cases hc
  ·cases hc
 ·rename_i t x i ho
  have hx : execOp ev o = (do pure (.value (← Instr.indexAt t (ev x) (ev i)))) := by unfold execOp; simp only [ho]
  rw [hx]
  split at hc
  ·rename_i len e hu
   split at hc
   ·rename_i k hkk; cases hc; exact does_ixA hm hρ hu hkk he
   ·cases hc
  ·rename_i e hu
   split at hc
   ·rename_i k hkk
    split at hc
    ·cases hc; exact does_ixS hm hρ hu hkk he
    ·cases hc
   ·cases hc
  ·cases hc
 ·rename_i t x i ho
  have hx : execOp ev o = (do pure (.value (← Instr.index t (ev x) (ev i)))) := by unfold execOp; simp only [ho]
  rw [hx]
  split at hc
  ·rename_i len e hu
   split at hc
   ·rename_i dd k hd hkk
    split at hc
    ·rename_i h1; cases hc; exact does_ixV hm hρ hu hd hkk h1 he
    ·cases hc
   ·cases hc
  ·rename_i hu; cases hc; exact does_ixStr hm hρ hu he
  ·cases hc
 ·rename_i x i ho; cases hc
  have hx : execOp ev o = (do pure (.value (← Instr.extract (ev x) i))) := by unfold execOp; simp only [ho]
  rw [hx]; exact does_ext hm hρ he
 ·rename_i t x ho
  have hx : execOp ev o = (do pure (.value (← Instr.range t (ev x)))) := by unfold execOp; simp only [ho]
  rw [hx]
  split at hc
  ·rename_i hu; cases hc; exact does_rng hm hρ hu he
  ·cases hc
 ·rename_i x ho; cases hc
  have hx : execOp ev o = (do pure (.value (← Instr.next (ev x) true o.type))) := by unfold execOp; simp only [ho]
  rw [hx]; exact does_nxt hm hρ he
 ·rename_i t l c ho
  have hx : execOp ev o = (do pure (.value (← Instr.makeSlice t (ev l) (ev c)))) := by unfold execOp; simp only [ho]
  rw [hx]
  split at hc
  ·rename_i e hu
   split at hc
   ·rename_i i hi
    split at hc
    ·rename_i z hz
     split at hc
     ·rename_i hh; cases hc; exact does_mks hm hρ hu hi hz hh.1 hh.2 he
     ·cases hc
    ·cases hc
   ·cases hc
  ·cases hc
 ·cases hc; simp [peval, ints] at he
 ·cases hc; simp [peval, ints] at he
 ·rename_i c ho
  unfold compCall at hc
  have bi : ∀ {b : Builtin} {s : Sem Value}, c.callee = .builtin b → (∀ ty cs, builtin b c.argTypes ty cs (c.args.map ev) = (do pure (.value (← s)))) → (execOp ev o).run P w = ((do pure (.value (← s)) : Sem Next)).run P w := by
   intro b s h1 h2
   unfold execOp
   simp only [ho, resolve, h1, Sem.run_bind, Sem.run_pure, Result.andThen_ok, invoke, h2]
  have conv : ∀ {x y : Sem Next}, x.run P w = y.run P w → Does P E m φ0 w0 φ H w p ups y → Does P E m φ0 w0 φ H w p ups x := by
   intro x y h q
   unfold Does at *
   rw [h]; exact q
  have toA : ∀ {x : List Operand}, c.args.toList = x → c.args.map ev = (x.map ev).toArray := by
   intro x h; apply Array.ext'; simp [h]
  have toT : ∀ {x : List TypeId}, c.argTypes.toList = x → c.argTypes = x.toArray := by
   intro x h; apply Array.ext'; simp [h]
  split at hc
  ·rename_i f hcal
   split at hc
   ·cases hc
    simp only [peval] at he
    refine does_callR hm hγ (nzAL_rep _ _ (RepL.map_of hρ c.args.toList)) he ?_
    rw [run_callv ho hcal (hf f)]
    simp
   ·split at hc
    ·cases hc
     simp only [peval] at he
     refine does_callF hm hγ (RepL.map_of hρ c.args.toList) he ?_
     rw [run_callv ho hcal (hf f)]
     simp
    ·cases hc
     simp only [peval] at he
     refine does_call hm hγ (RepL.map_of hρ c.args.toList) he ?_
     rw [run_callv ho hcal (hf f)]
     simp
  ·rename_i x _ hcal; cases hc
   simp only [peval] at he
   split at he
   ·rename_i f cs e1
    have hx := hρ x
    rw [e1] at hx
    obtain ⟨vs, hv, hr⟩ := hx
    refine does_call hm hγ ((RepL.map_of hρ c.args.toList).app hr) he ?_
    rw [run_callv ho hcal hv]
   ·cases he
  ·rename_i hcal
   split at hc
   ·rename_i x y t t' ha ht
    split at hc
    ·rename_i htt
     split at hc
     ·rename_i e hu
      have hkd : (∃ e', P.underlying t' = some (.slice e')) ∨ P.underlying t' = some .string := by
       rcases (Bool.or_eq_true _ _).mp htt with h | h
       ·have h := of_decide_eq_true h
        subst h
        exact .inl ⟨e, hu⟩
       ·exact .inr (isStr_eq h)
      split at hc
      ·rename_i i hi
       split at hc
       ·rename_i z hz
        split at hc
        ·rename_i hh; cases hc
         refine conv (bi hcal (s := Builtin.append_ #[t, t'] o.type #[ev x, ev y]) fun ty cs => ?_) (does_app (ty := o.type) hm hρ hu hi hz hh.1 hh.2.1 hh.2.2 hkd he)
         rw [toA ha, toT ht]
         rfl
        ·cases hc
       ·cases hc
      ·cases hc
     ·cases hc
    ·cases hc
   ·cases hc
  ·rename_i hcal
   split at hc
   ·rename_i x t ha ht
    split at hc
    ·rename_i hu; cases hc
     refine conv (bi hcal (s := Builtin.len_ #[t] o.type #[ev x]) fun ty cs => ?_) (does_lenS (ty := o.type) hm hρ hu he)
     rw [toA ha, toT ht]; rfl
    ·rename_i e hu; cases hc
     refine conv (bi hcal (s := Builtin.len_ #[t] o.type #[ev x]) fun ty cs => ?_) (does_lenL (ty := o.type) hm hρ hu he)
     rw [toA ha, toT ht]; rfl
    ·cases hc
   ·cases hc
  ·rename_i hcal
   split at hc
   ·rename_i x y t t2 ha ht
    split at hc
    ·rename_i e hu
     split at hc
     ·rename_i k hkk
      split at hc
      ·rename_i h0; cases hc
       refine conv (bi hcal (s := Builtin.copy_ #[t, t2] o.type #[ev x, ev y]) fun ty cs => ?_) (does_cpy (ty := o.type) hm hρ hu hkk h0 he)
       rw [toA ha, toT ht]; rfl
      ·cases hc
     ·cases hc
    ·cases hc
   ·cases hc
  ·rename_i hcal
   split at hc
   ·rename_i x t ha ht
    split at hc
    ·rename_i e hu
     split at hc
     ·rename_i i hi
      split at hc
      ·rename_i z hz
       split at hc
       ·rename_i h0; cases hc
        refine conv (bi hcal (s := Builtin.clear_ #[t] o.type #[ev x]) fun ty cs => ?_) (does_clr (ty := o.type) hm hρ hu hi hz h0 he)
        rw [toA ha, toT ht]; rfl
       ·cases hc
      ·cases hc
     ·cases hc
    ·cases hc
   ·cases hc
  ·rename_i hcal; cases hc
   refine conv (bi hcal (s := Builtin.max_ c.argTypes o.type (c.args.toList.map ev).toArray) fun ty cs => ?_) (does_mx (ts := c.argTypes) (ty := o.type) hm hρ he)
   rw [toA rfl]; rfl
  ·rename_i hcal; cases hc
   refine conv (bi hcal (s := Builtin.min_ c.argTypes o.type (c.args.toList.map ev).toArray) fun ty cs => ?_) (does_mn (ts := c.argTypes) (ty := o.type) hm hρ he)
   rw [toA rfl]; rfl
  ·cases hc
 ·cases hc
end
end Go.Proofs.YtobkkblijfhpoaaGreatDoor.Pm
