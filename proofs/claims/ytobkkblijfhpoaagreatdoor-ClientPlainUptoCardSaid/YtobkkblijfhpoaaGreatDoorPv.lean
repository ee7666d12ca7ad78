/- The small machine: each operation that it reads is the language's. No program is named here. -/
import Derived.Test.YtobkkblijfhpoaaGreatDoorPcr
namespace Go.Proofs.YtobkkblijfhpoaaGreatDoor.Pm
open Go.RowKit

section
variable {P : Program} {E : Nat → Prop} {m : List cj} {aS φ : Nat → cJ} {H : Nat → cL} {w0 w : World}
variable {ρ : Operand → PV} {ev : Operand → Value} {γ : cX} {d : Nat}

theorem vR{o:Oper}{c:Call}{y:Operand}{f:Nat}{awb:Array Value}(ho:o.op= .call c)(mC:c.callee= .value y)(hy:ev y= .func (.func f) #[] awb):
  (execOp ev o).run P w=(callFunc f ((c.args.toList.map ev)++awb.toList).toArray).run P w:=by
 unfold execOp
 simp only [ho,resolve,mC,Sem.run_bind,Sem.run_pure,Result.andThen_ok,hy,Deferred.ofValue,invoke]
 congr 2
 apply Array.ext'
 simp
theorem ajK(hm:Mem E m aS w0 φ H w)(b8:eW E φ H w ρ ev)(kV:nI P γ w0 aS)(hk: ∀v,ev (.const v)=v)(hf: ∀f,ev (.func f)= .func (.func f) #[] #[]){o:Oper}{pop:gP}{p:PV}{aH:eo}
  {br:List Nat} (hc:comp P br o=some pop) (he:aD γ H d ρ pop=some (p,aH)):Does P E m aS w0 φ H w p aH (execOp ev o):=by
 unfold comp at hc
 have jG: ∀{x:Operand},(o.op= .move x∨o.op= .assign x)→(if Dz x then (match P.underlying o.type with
   | some (.slice e)=>if 0<P.cellsOf e then some (.HF e (P.cellsOf e)) else some (.jG x)
   | _=>some (.jG x)) else some (.jG x))=some pop→Does P E m aS w0 φ H w p aH (execOp ev o):=by
  intro x ho hc
  have hx:execOp ev o=pure (.value (ev x)):=by
   unfold execOp
   rcases ho with ho | ho<;>simp only [ho]
  rw [hx]
  have ajL:aD γ H d ρ (.jG x)=some (p,aH)→Does P E m aS w0 φ H w p aH (pure (.value (ev x))):=by
   intro he
   simp only [aD,Option.some.injEq,Prod.mk.injEq] at he
   obtain ⟨rfl,rfl⟩:=he
   exact Gv hm rfl (b8 x)
  split at hc
  ·rename_i hn
   have hv:ev x= .slice none 0 0:=by
    unfold Dz at hn
    split at hn
    ·exact hk _
    ·cases hn
   split at hc
   ·split at hc
    ·rename_i h0;cases hc
     rw [hv];exact W9 hm h0 he
    ·cases hc;exact ajL he
   ·cases hc;exact ajL he
  ·cases hc;exact ajL he
 split at hc
 ·rename_i x ho;exact jG (.inl ho) hc
 ·rename_i x ho;exact jG (.inr ho) hc
 ·rename_i c a b ho;cases hc
  have hx:execOp ev o=(do pure (.value (if←asBool (ev c) then ev a else ev b))):=by unfold execOp;simp only [ho]
  rw [hx];exact WZ hm b8 he
 ·rename_i op t x y yt ho
  have hx:execOp ev o=(do pure (.value (←(do eqGuard op t x y (ev x) (ev y);binOp op t (ev x) (ev y))))):=by unfold execOp;simp only [ho]
  rw [hx];exact aeM (yt:=yt) hm b8 hk hc he
 ·rename_i op t x ho;cases hc
  have hx:execOp ev o=(do pure (.value (←Op.unary op (ev x)))):=by unfold execOp;simp only [ho]
  rw [hx];exact ajw hm b8 he
 ·rename_i s dt x ho
  have hx:execOp ev o=(do pure (.value (←convert s dt (ev x)))):=by unfold execOp;simp only [ho]
  rw [hx]
  unfold Ol at hc
  split at hc
  ·rename_i k1 k hs hd;cases hc;exact aeT hm b8 hs hd he
  ·rename_i k1 hs hd;cases hc;exact W_ hm b8 hs hd he
  ·rename_i hs hd;cases hc;exact Xa hm b8 hs hd he
  ·rename_i e hs hd
   split at hc
   ·rename_i SR;cases hc;exact Xc hm b8 hs hd SR he
   ·cases hc
  ·rename_i e hs hd
   split at hc
   ·rename_i SR
    split at hc
    ·cases hc;exact Xb hm b8 hs SR hd he
    ·cases hc
   ·cases hc
  ·cases hc
 ·rename_i t ho
  have hx:execOp ev o=(do pure (.value (←Instr.alloc t true (.tuple #[])))):=by unfold execOp;simp only [ho]
  rw [hx]
  split at hc
  ·rename_i hz;cases hc;exact Qj hm hz he
  ·rename_i z _ hz;cases hc;exact SU hm hz he
  ·cases hc
 ·rename_i t x ho
  simp only [Option.map_eq_some_iff] at hc
  obtain ⟨n,hn,rfl⟩:=hc
  have hx:execOp ev o=(do pure (.value (←Instr.box t (ev x)))):=by unfold execOp;simp only [ho]
  rw [hx];exact aeW hm b8 he
 ·rename_i t ps ho
  have hx:execOp ev o=(do pure (.value (←Instr.build t (ps.map fun (i,x)=>(i,ev x))))):=by unfold execOp;simp only [ho]
  rw [hx]
  split at hc
  ·rename_i fs hu
   split at hc
   ·rename_i pl z hpl hz
    simp only [Option.map_eq_some_iff] at hc
    obtain ⟨q,hq,rfl⟩:=hc
    exact Qk hm b8 hu hpl hz hq he
   ·cases hc
  ·rename_i len e hu
   split at hc
   ·rename_i k z pE hz
    simp only [Option.map_eq_some_iff] at hc
    obtain ⟨q,hq,rfl⟩:=hc
    exact Ql hm b8 hu pE hz hq he
   ·cases hc
  ·cases hc
 ·rename_i t n ps ho
  have hx:execOp ev o=(do pure (.value (←Instr.buildSlice t n (ps.map fun (i,x)=>(i,ev x))))):=by unfold execOp;simp only [ho]
  rw [hx]
  split at hc
  ·rename_i e hu
   split at hc
   ·rename_i k pE
    split at hc
    ·rename_i z hz
     split at hc
     ·rename_i hh
      simp only [Option.map_eq_some_iff] at hc
      obtain ⟨q,hq,rfl⟩:=hc
      exact aeZ hm b8 hu pE hh.1 hh.2 hz hq he
     ·cases hc
    ·cases hc
   ·cases hc
  ·cases hc
 ·rename_i t x ho
  have hx:execOp ev o=(do pure (.value (←Instr.loadAt t (ev x)))):=by unfold execOp;simp only [ho]
  rw [hx]
  split at hc
  ·rename_i dd n hd hn
   split at hc
   ·rename_i h1;cases hc;exact J1 hm b8 hd hn h1 he
   ·cases hc
  ·cases hc
 ·rename_i t x y ho
  have hx:execOp ev o=(do Instr.storeAt t (ev x) (ev y);pure .skip):=by unfold execOp;simp only [ho]
  rw [hx]
  split at hc
  ·rename_i n hn
   split at hc
   ·rename_i h0;cases hc;exact SM hm b8 hn h0 he
   ·cases hc
  ·cases hc
 ·rename_i x ho;cases hc
  have hx: ∃f:Value→Sem Next,execOp ev o=f (ev x)∧ ∀a v,v= .pointer (some a)→(f v).run P w= .ok (.value v) w:=by
   refine ⟨fun v=>execOp (fun _=>v) o,?_,?_⟩
   ·unfold execOp;simp only [ho]
   ·rintro a v rfl;unfold execOp;simp only [ho];rfl
  obtain ⟨f,hx,hfv⟩:=hx
  rw [hx];exact W6 hm b8 hfv he
 ·rename_i f first cs ho
  split at hc
  ·rename_i h0;cases hc
   have h0:first= #[]:=Array.eq_empty_of_size_eq_zero h0
   subst h0
   have hx:execOp ev o=(do pure (.value (←Instr.makeFunc (.func f) #[] (cs.toList.map ev).toArray))):=by
    unfold execOp;simp only [ho]
    congr 3
    all_goals (apply Array.ext';simp)
   rw [hx];exact aeV hm b8 he
  ·cases hc
 ·rename_i t x lo hi mx ho
  have hx:execOp ev o=(do pure (.value (←Instr.sliceAt t (ev x) (lo.map ev) (hi.map ev) (mx.map ev)))):=by unfold execOp;simp only [ho]
  rw [hx]
  split at hc
  ·rename_i hu
   split at hc
   ·rename_i hmx;cases hc
    have:mx=none:=by simpa using hmx
    subst this
    exact SQ hm b8 hu he
   ·cases hc
  ·rename_i len e hu
   split at hc
   ·rename_i k pE
    split at hc
    ·rename_i hmx;cases hc
     have:mx=none:=by simpa using hmx
     subst this
     exact ae0 hm b8 hu pE he
    ·cases hc
   ·cases hc
  ·rename_i e hu
   split at hc
   ·rename_i k pE
    split at hc
    ·rename_i h0
     split at hc
     ·split at hc
      ·cases hc;exact aeR hm b8 hu pE he
      ·cases hc;exact Oz hm b8 hu pE he
     ·rename_i mm
      split at hc
      ·rename_i hh;cases hc
       simp only [Bool.and_eq_true,Option.isNone_iff_eq_none] at hh
       obtain ⟨⟨rfl,h1⟩,h2⟩:=hh
       unfold JV at h1 h2
       split at h1
       ·rename_i k1
        split at h2
        ·rename_i k2 heq
         cases heq
         exact aeS hm b8 hu pE h0 k1 k2 (hk _) (hk _) he
        ·cases h2
       ·cases h1
      ·cases hc
    ·cases hc
   ·cases hc
  ·cases hc
 ·rename_i t x f ho
  have hx:execOp ev o=(do pure (.value (←Instr.fieldAt t (ev x) f))):=by unfold execOp;simp only [ho]
  rw [hx]
  split at hc
  ·rename_i fs hu
   split at hc
   ·rename_i fd hfd
    split at hc
    ·cases hc
    ·rename_i hne
     split at hc
     ·rename_i n hn;cases hc
      refine aeN hm b8 hu hfd hn ?_ he
      obtain ⟨i,h1,h2⟩:=JZ hn
      intro h;apply hne;unfold Program.cellsOf;simp [h1,h2,h]
     ·cases hc
   ·cases hc
  ·cases hc
 ·rename_i t x f ho
  have hx:execOp ev o=(do pure (.value (←Instr.field t (ev x) f))):=by unfold execOp;simp only [ho]
  rw [hx]
  split at hc
  ·rename_i fs hu
   split at hc
   ·rename_i fd hfd
    split at hc
    ·rename_i dd n hd hn
     split at hc
     ·rename_i h1;cases hc;exact W7 hm b8 hu hfd hd hn h1 he
     ·cases hc
    ·cases hc
   ·cases hc
  ·cases hc
 ·rename_i t x i ho
  have hx:execOp ev o=(do pure (.value (←Instr.indexAt t (ev x) (ev i)))):=by unfold execOp;simp only [ho]
  rw [hx]
  split at hc
  ·rename_i len e hu
   split at hc
   ·rename_i k pE;cases hc;exact aeO hm b8 hu pE he
   ·cases hc
  ·rename_i e hu
   split at hc
   ·rename_i k pE
    split at hc
    ·cases hc;exact aeP hm b8 hu pE he
    ·cases hc
   ·cases hc
  ·cases hc
 ·rename_i t x i ho
  have hx:execOp ev o=(do pure (.value (←Instr.index t (ev x) (ev i)))):=by unfold execOp;simp only [ho]
  rw [hx]
  split at hc
  ·rename_i len e hu
   split at hc
   ·rename_i dd k hd pE
    split at hc
    ·rename_i h1;cases hc;exact aeQ hm b8 hu hd pE h1 he
    ·cases hc
   ·cases hc
  ·rename_i hu;cases hc;exact SP hm b8 hu he
  ·cases hc
 ·rename_i x i ho;cases hc
  have hx:execOp ev o=(do pure (.value (←Instr.extract (ev x) i))):=by unfold execOp;simp only [ho]
  rw [hx];exact aeU hm b8 he
 ·rename_i t x ho
  have hx:execOp ev o=(do pure (.value (←Instr.range t (ev x)))):=by unfold execOp;simp only [ho]
  rw [hx]
  split at hc
  ·rename_i hu;cases hc;exact aeX hm b8 hu he
  ·cases hc
 ·rename_i x ho;cases hc
  have hx:execOp ev o=(do pure (.value (←Instr.next (ev x) true o.type))):=by unfold execOp;simp only [ho]
  rw [hx];exact aeY hm b8 he
 ·rename_i t l c ho
  have hx:execOp ev o=(do pure (.value (←Instr.makeSlice t (ev l) (ev c)))):=by unfold execOp;simp only [ho]
  rw [hx]
  split at hc
  ·rename_i e hu
   split at hc
   ·rename_i i hi
    split at hc
    ·rename_i z hz
     split at hc
     ·rename_i hh;cases hc;exact ae1 hm b8 hu hi hz hh.1 hh.2 he
     ·cases hc
    ·cases hc
   ·cases hc
  ·cases hc
 ·cases hc;simp [aD,ints] at he
 ·cases hc;simp [aD,ints] at he
 ·rename_i c ho
  unfold Om at hc
  have bi: ∀{b:Builtin} {s:Sem Value},c.callee= .builtin b→(∀ty cs,builtin b c.argTypes ty cs (c.args.map ev)=(do pure (.value (←s))))→(execOp ev o).run P w=((do pure (.value (←s)):Sem Next)).run P w:=by
   intro b s h1 h2
   unfold execOp
   simp only [ho,resolve,h1,Sem.run_bind,Sem.run_pure,Result.andThen_ok,invoke,h2]
  have conv: ∀{x y:Sem Next},x.run P w=y.run P w→Does P E m aS w0 φ H w p aH y→Does P E m aS w0 φ H w p aH x:=by
   intro x y h q
   unfold Does at*
   rw [h];exact q
  have toA: ∀{x:List Operand},c.args.toList=x→c.args.map ev=(x.map ev).toArray:=by
   intro x h;apply Array.ext';simp [h]
  have toT: ∀{x:List TypeId},c.argTypes.toList=x→c.argTypes=x.toArray:=by
   intro x h;apply Array.ext';simp [h]
  split at hc
  ·rename_i f mC
   split at hc
   ·cases hc
    simp only [aD] at he
    refine S6 hm kV (Oi _ _ (aZ.Aq b8 c.args.toList)) he ?_
    rw [vR ho mC (hf f)]
    simp
   ·split at hc
    ·cases hc
     simp only [aD] at he
     refine S3 hm kV (aZ.Aq b8 c.args.toList) he ?_
     rw [vR ho mC (hf f)]
     simp
    ·cases hc
     simp only [aD] at he
     refine CI hm kV (aZ.Aq b8 c.args.toList) he ?_
     rw [vR ho mC (hf f)]
     simp
  ·rename_i x _ mC;cases hc
   simp only [aD] at he
   split at he
   ·rename_i f cs e1
    have hx:=b8 x
    rw [e1] at hx
    obtain ⟨vs,hv,hr⟩:=hx
    refine CI hm kV ((aZ.Aq b8 c.args.toList).app hr) he ?_
    rw [vR ho mC hv]
   ·cases he
  ·rename_i mC
   split at hc
   ·rename_i x y t t' ha ht
    split at hc
    ·rename_i htt
     split at hc
     ·rename_i e hu
      have Gy:(∃e',P.underlying t'=some (.slice e'))∨P.underlying t'=some .string:=by
       rcases (Bool.or_eq_true _ _).mp htt with h | h
       ·have h:=of_decide_eq_true h
        subst h
        exact .inl ⟨e,hu⟩
       ·exact .inr (aeI h)
      split at hc
      ·rename_i i hi
       split at hc
       ·rename_i z hz
        split at hc
        ·rename_i hh;cases hc
         refine conv (bi mC (s:=Builtin.append_ #[t,t'] o.type #[ev x,ev y]) fun ty cs=>?_) (ae5 (ty:=o.type) hm b8 hu hi hz hh.1 hh.2.1 hh.2.2 Gy he)
         rw [toA ha,toT ht]
         rfl
        ·cases hc
       ·cases hc
      ·cases hc
     ·cases hc
    ·cases hc
   ·cases hc
  ·rename_i mC
   split at hc
   ·rename_i x t ha ht
    split at hc
    ·rename_i hu;cases hc
     refine conv (bi mC (s:=Builtin.len_ #[t] o.type #[ev x]) fun ty cs=>?_) (Xd (ty:=o.type) hm b8 hu he)
     rw [toA ha,toT ht];rfl
    ·rename_i e hu;cases hc
     refine conv (bi mC (s:=Builtin.len_ #[t] o.type #[ev x]) fun ty cs=>?_) (Xe (ty:=o.type) hm b8 hu he)
     rw [toA ha,toT ht];rfl
    ·cases hc
   ·cases hc
  ·rename_i mC
   split at hc
   ·rename_i x y t t2 ha ht
    split at hc
    ·rename_i e hu
     split at hc
     ·rename_i k pE
      split at hc
      ·rename_i h0;cases hc
       refine conv (bi mC (s:=Builtin.copy_ #[t,t2] o.type #[ev x,ev y]) fun ty cs=>?_) (ae2 (ty:=o.type) hm b8 hu pE h0 he)
       rw [toA ha,toT ht];rfl
      ·cases hc
     ·cases hc
    ·cases hc
   ·cases hc
  ·rename_i mC
   split at hc
   ·rename_i x t ha ht
    split at hc
    ·rename_i e hu
     split at hc
     ·rename_i i hi
      split at hc
      ·rename_i z hz
       split at hc
       ·rename_i h0;cases hc
        refine conv (bi mC (s:=Builtin.clear_ #[t] o.type #[ev x]) fun ty cs=>?_) (ae4 (ty:=o.type) hm b8 hu hi hz h0 he)
        rw [toA ha,toT ht];rfl
       ·cases hc
      ·cases hc
     ·cases hc
    ·cases hc
   ·cases hc
  ·rename_i mC;cases hc
   refine conv (bi mC (s:=Builtin.max_ c.argTypes o.type (c.args.toList.map ev).toArray) fun ty cs=>?_) (ajy (ts:=c.argTypes) (ty:=o.type) hm b8 he)
   rw [toA rfl];rfl
  ·rename_i mC;cases hc
   refine conv (bi mC (s:=Builtin.min_ c.argTypes o.type (c.args.toList.map ev).toArray) fun ty cs=>?_) (ajz (ts:=c.argTypes) (ty:=o.type) hm b8 he)
   rw [toA rfl];rfl
  ·cases hc
 ·cases hc
end
end Go.Proofs.YtobkkblijfhpoaaGreatDoor.Pm
