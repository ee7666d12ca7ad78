/- The small machine: each operation that it reads is the language's. No program is named here. -/
import Derived.Test.YtimbfadnabfabaaGreatDoorPcr
namespace Go.Proofs.YtimbfadnabfabaaGreatDoor.Pm
open Go.RowKit

section
variable {P : Program} {E : Nat → Prop} {m : List bM} {aQ φ : Nat → cr} {H : Nat → cw} {w0 w : World}
variable {ρ : Operand → PV} {ev : Operand → Value} {γ : dZ} {d : Nat}

theorem wE{o:Oper}{c:Call}{y:Operand}{f:Nat}{axL:Array Value}(ho:o.op= .call c)(mQ:c.callee= .value y)(hy:ev y= .func (.func f) #[] axL):
  (execOp ev o).run P w=(callFunc f ((c.args.toList.map ev)++axL.toList).toArray).run P w:=by
 unfold execOp
 simp only [ho,resolve,mQ,Sem.run_bind,Sem.run_pure,Result.andThen_ok,hy,Deferred.ofValue,invoke]
 congr 2
 apply Array.ext'
 simp
theorem ajl(hm:Mem E m aQ w0 φ H w)(bO:eO E φ H w ρ ev)(k5:oo P γ w0 aQ)(hk: ∀v,ev (.const v)=v)(hf: ∀f,ev (.func f)= .func (.func f) #[] #[]){o:Oper}{pop:kA}{p:PV}{aD:eu}
  {br:List Nat} (hc:comp P br o=some pop) (he:az γ H d ρ pop=some (p,aD)):Does P E m aQ w0 φ H w p aD (execOp ev o):=by
 unfold comp at hc
 have Dh: ∀{x:Operand},(o.op= .move x∨o.op= .assign x)→(if Dn x then (match P.underlying o.type with
   | some (.slice e)=>if 0<P.cellsOf e then some (.Gu e (P.cellsOf e)) else some (.Dh x)
   | _=>some (.Dh x)) else some (.Dh x))=some pop→Does P E m aQ w0 φ H w p aD (execOp ev o):=by
  intro x ho hc
  have hx:execOp ev o=pure (.value (ev x)):=by
   unfold execOp
   rcases ho with ho | ho<;>simp only [ho]
  rw [hx]
  have ajm:az γ H d ρ (.Dh x)=some (p,aD)→Does P E m aQ w0 φ H w p aD (pure (.value (ev x))):=by
   intro he
   simp only [az,Option.some.injEq,Prod.mk.injEq] at he
   obtain ⟨rfl,rfl⟩:=he
   exact Fv hm rfl (bO x)
  split at hc
  ·rename_i hn
   have hv:ev x= .slice none 0 0:=by
    unfold Dn at hn
    split at hn
    ·exact hk _
    ·cases hn
   split at hc
   ·split at hc
    ·rename_i h0;cases hc
     rw [hv];exact VZ hm h0 he
    ·cases hc;exact ajm he
   ·cases hc;exact ajm he
  ·cases hc;exact ajm he
 split at hc
 ·rename_i x ho;exact Dh (.inl ho) hc
 ·rename_i x ho;exact Dh (.inr ho) hc
 ·rename_i c a b ho;cases hc
  have hx:execOp ev o=(do pure (.value (if←asBool (ev c) then ev a else ev b))):=by unfold execOp;simp only [ho]
  rw [hx];exact VV hm bO he
 ·rename_i op t x y yt ho
  have hx:execOp ev o=(do pure (.value (←(do eqGuard op t x y (ev x) (ev y);binOp op t (ev x) (ev y))))):=by unfold execOp;simp only [ho]
  rw [hx];exact ae4 (yt:=yt) hm bO hk hc he
 ·rename_i op t x ho;cases hc
  have hx:execOp ev o=(do pure (.value (←Op.unary op (ev x)))):=by unfold execOp;simp only [ho]
  rw [hx];exact ai7 hm bO he
 ·rename_i s dt x ho
  have hx:execOp ev o=(do pure (.value (←convert s dt (ev x)))):=by unfold execOp;simp only [ho]
  rw [hx]
  unfold Np at hc
  split at hc
  ·rename_i k1 k hs hd;cases hc;exact afa hm bO hs hd he
  ·rename_i k1 hs hd;cases hc;exact V1 hm bO hs hd he
  ·rename_i hs hd;cases hc;exact V2 hm bO hs hd he
  ·rename_i e hs hd
   split at hc
   ·rename_i Sd;cases hc;exact V4 hm bO hs hd Sd he
   ·cases hc
  ·rename_i e hs hd
   split at hc
   ·rename_i Sd
    split at hc
    ·cases hc;exact V3 hm bO hs Sd hd he
    ·cases hc
   ·cases hc
  ·cases hc
 ·rename_i t ho
  have hx:execOp ev o=(do pure (.value (←Instr.alloc t true (.tuple #[])))):=by unfold execOp;simp only [ho]
  rw [hx]
  split at hc
  ·rename_i hz;cases hc;exact Px hm hz he
  ·rename_i z _ hz;cases hc;exact Si hm hz he
  ·cases hc
 ·rename_i t x ho
  simp only [Option.map_eq_some_iff] at hc
  obtain ⟨n,hn,rfl⟩:=hc
  have hx:execOp ev o=(do pure (.value (←Instr.box t (ev x)))):=by unfold execOp;simp only [ho]
  rw [hx];exact afd hm bO he
 ·rename_i t ps ho
  have hx:execOp ev o=(do pure (.value (←Instr.build t (ps.map fun (i,x)=>(i,ev x))))):=by unfold execOp;simp only [ho]
  rw [hx]
  split at hc
  ·rename_i fs hu
   split at hc
   ·rename_i pl z hpl hz
    simp only [Option.map_eq_some_iff] at hc
    obtain ⟨q,hq,rfl⟩:=hc
    exact Py hm bO hu hpl hz hq he
   ·cases hc
  ·rename_i len e hu
   split at hc
   ·rename_i k z qy hz
    simp only [Option.map_eq_some_iff] at hc
    obtain ⟨q,hq,rfl⟩:=hc
    exact Pz hm bO hu qy hz hq he
   ·cases hc
  ·cases hc
 ·rename_i t n ps ho
  have hx:execOp ev o=(do pure (.value (←Instr.buildSlice t n (ps.map fun (i,x)=>(i,ev x))))):=by unfold execOp;simp only [ho]
  rw [hx]
  split at hc
  ·rename_i e hu
   split at hc
   ·rename_i k qy
    split at hc
    ·rename_i z hz
     split at hc
     ·rename_i hh
      simp only [Option.map_eq_some_iff] at hc
      obtain ⟨q,hq,rfl⟩:=hc
      exact afg hm bO hu qy hh.1 hh.2 hz hq he
     ·cases hc
    ·cases hc
   ·cases hc
  ·cases hc
 ·rename_i t x ho
  have hx:execOp ev o=(do pure (.value (←Instr.loadAt t (ev x)))):=by unfold execOp;simp only [ho]
  rw [hx]
  split at hc
  ·rename_i dd n hd hn
   split at hc
   ·rename_i h1;cases hc;exact Je hm bO hd hn h1 he
   ·cases hc
  ·cases hc
 ·rename_i t x y ho
  have hx:execOp ev o=(do Instr.storeAt t (ev x) (ev y);pure .skip):=by unfold execOp;simp only [ho]
  rw [hx]
  split at hc
  ·rename_i n hn
   split at hc
   ·rename_i h0;cases hc;exact R_ hm bO hn h0 he
   ·cases hc
  ·cases hc
 ·rename_i x ho;cases hc
  have hx: ∃f:Value→Sem Next,execOp ev o=f (ev x)∧ ∀a v,v= .pointer (some a)→(f v).run P w= .ok (.value v) w:=by
   refine ⟨fun v=>execOp (fun _=>v) o,?_,?_⟩
   ·unfold execOp;simp only [ho]
   ·rintro a v rfl;unfold execOp;simp only [ho];rfl
  obtain ⟨f,hx,hfv⟩:=hx
  rw [hx];exact VW hm bO hfv he
 ·rename_i f first cs ho
  split at hc
  ·rename_i h0;cases hc
   have h0:first= #[]:=Array.eq_empty_of_size_eq_zero h0
   subst h0
   have hx:execOp ev o=(do pure (.value (←Instr.makeFunc (.func f) #[] (cs.toList.map ev).toArray))):=by
    unfold execOp;simp only [ho]
    congr 3
    all_goals (apply Array.ext';simp)
   rw [hx];exact afc hm bO he
  ·cases hc
 ·rename_i t x lo hi mx ho
  have hx:execOp ev o=(do pure (.value (←Instr.sliceAt t (ev x) (lo.map ev) (hi.map ev) (mx.map ev)))):=by unfold execOp;simp only [ho]
  rw [hx]
  split at hc
  ·rename_i hu
   split at hc
   ·rename_i hmx;cases hc
    have:mx=none:=by simpa using hmx
    subst this
    exact Sc hm bO hu he
   ·cases hc
  ·rename_i len e hu
   split at hc
   ·rename_i k qy
    split at hc
    ·rename_i hmx;cases hc
     have:mx=none:=by simpa using hmx
     subst this
     exact afh hm bO hu qy he
    ·cases hc
   ·cases hc
  ·rename_i e hu
   split at hc
   ·rename_i k qy
    split at hc
    ·rename_i h0
     split at hc
     ·split at hc
      ·cases hc;exact ae9 hm bO hu qy he
      ·cases hc;exact Nz hm bO hu qy he
     ·rename_i mm
      split at hc
      ·rename_i hh;cases hc
       simp only [Bool.and_eq_true,Option.isNone_iff_eq_none] at hh
       obtain ⟨⟨rfl,h1⟩,h2⟩:=hh
       unfold I_ at h1 h2
       split at h1
       ·rename_i k1
        split at h2
        ·rename_i k2 heq
         cases heq
         exact ae_ hm bO hu qy h0 k1 k2 (hk _) (hk _) he
        ·cases h2
       ·cases h1
      ·cases hc
    ·cases hc
   ·cases hc
  ·cases hc
 ·rename_i t x f ho
  have hx:execOp ev o=(do pure (.value (←Instr.fieldAt t (ev x) f))):=by unfold execOp;simp only [ho]
  rw [hx]
  split at hc
  ·rename_i fs hu
   split at hc
   ·rename_i fd hfd
    split at hc
    ·cases hc
    ·rename_i hne
     split at hc
     ·rename_i n hn;cases hc
      refine ae5 hm bO hu hfd hn ?_ he
      obtain ⟨i,h1,h2⟩:=Jc hn
      intro h;apply hne;unfold Program.cellsOf;simp [h1,h2,h]
     ·cases hc
   ·cases hc
  ·cases hc
 ·rename_i t x f ho
  have hx:execOp ev o=(do pure (.value (←Instr.field t (ev x) f))):=by unfold execOp;simp only [ho]
  rw [hx]
  split at hc
  ·rename_i fs hu
   split at hc
   ·rename_i fd hfd
    split at hc
    ·rename_i dd n hd hn
     split at hc
     ·rename_i h1;cases hc;exact VX hm bO hu hfd hd hn h1 he
     ·cases hc
    ·cases hc
   ·cases hc
  ·cases hc
 ·rename_i t x i ho
  have hx:execOp ev o=(do pure (.value (←Instr.indexAt t (ev x) (ev i)))):=by unfold execOp;simp only [ho]
  rw [hx]
  split at hc
  ·rename_i len e hu
   split at hc
   ·rename_i k qy;cases hc;exact ae6 hm bO hu qy he
   ·cases hc
  ·rename_i e hu
   split at hc
   ·rename_i k qy
    split at hc
    ·cases hc;exact ae7 hm bO hu qy he
    ·cases hc
   ·cases hc
  ·cases hc
 ·rename_i t x i ho
  have hx:execOp ev o=(do pure (.value (←Instr.index t (ev x) (ev i)))):=by unfold execOp;simp only [ho]
  rw [hx]
  split at hc
  ·rename_i len e hu
   split at hc
   ·rename_i dd k hd qy
    split at hc
    ·rename_i h1;cases hc;exact ae8 hm bO hu hd qy h1 he
    ·cases hc
   ·cases hc
  ·rename_i hu;cases hc;exact Sb hm bO hu he
  ·cases hc
 ·rename_i x i ho;cases hc
  have hx:execOp ev o=(do pure (.value (←Instr.extract (ev x) i))):=by unfold execOp;simp only [ho]
  rw [hx];exact afb hm bO he
 ·rename_i t x ho
  have hx:execOp ev o=(do pure (.value (←Instr.range t (ev x)))):=by unfold execOp;simp only [ho]
  rw [hx]
  split at hc
  ·rename_i hu;cases hc;exact afe hm bO hu he
  ·cases hc
 ·rename_i x ho;cases hc
  have hx:execOp ev o=(do pure (.value (←Instr.next (ev x) true o.type))):=by unfold execOp;simp only [ho]
  rw [hx];exact aff hm bO he
 ·rename_i t l c ho
  have hx:execOp ev o=(do pure (.value (←Instr.makeSlice t (ev l) (ev c)))):=by unfold execOp;simp only [ho]
  rw [hx]
  split at hc
  ·rename_i e hu
   split at hc
   ·rename_i i hi
    split at hc
    ·rename_i z hz
     split at hc
     ·rename_i hh;cases hc;exact afi hm bO hu hi hz hh.1 hh.2 he
     ·cases hc
    ·cases hc
   ·cases hc
  ·cases hc
 ·cases hc;simp [az,ints] at he
 ·cases hc;simp [az,ints] at he
 ·rename_i c ho
  unfold Nq at hc
  have bi: ∀{b:Builtin} {s:Sem Value},c.callee= .builtin b→(∀ty cs,builtin b c.argTypes ty cs (c.args.map ev)=(do pure (.value (←s))))→(execOp ev o).run P w=((do pure (.value (←s)):Sem Next)).run P w:=by
   intro b s h1 h2
   unfold execOp
   simp only [ho,resolve,h1,Sem.run_bind,Sem.run_pure,Result.andThen_ok,invoke,h2]
  have conv: ∀{x y:Sem Next},x.run P w=y.run P w→Does P E m aQ w0 φ H w p aD y→Does P E m aQ w0 φ H w p aD x:=by
   intro x y h q
   unfold Does at*
   rw [h];exact q
  have toA: ∀{x:List Operand},c.args.toList=x→c.args.map ev=(x.map ev).toArray:=by
   intro x h;apply Array.ext';simp [h]
  have toT: ∀{x:List TypeId},c.argTypes.toList=x→c.argTypes=x.toArray:=by
   intro x h;apply Array.ext';simp [h]
  split at hc
  ·rename_i f mQ
   split at hc
   ·cases hc
    simp only [az] at he
    refine Ss hm k5 (Nk _ _ (aY.Ak bO c.args.toList)) he ?_
    rw [wE ho mQ (hf f)]
    simp
   ·split at hc
    ·cases hc
     simp only [az] at he
     refine Sp hm k5 (aY.Ak bO c.args.toList) he ?_
     rw [wE ho mQ (hf f)]
     simp
    ·cases hc
     simp only [az] at he
     refine CB hm k5 (aY.Ak bO c.args.toList) he ?_
     rw [wE ho mQ (hf f)]
     simp
  ·rename_i x _ mQ;cases hc
   simp only [az] at he
   split at he
   ·rename_i f cs e1
    have hx:=bO x
    rw [e1] at hx
    obtain ⟨vs,hv,hr⟩:=hx
    refine CB hm k5 ((aY.Ak bO c.args.toList).app hr) he ?_
    rw [wE ho mQ hv]
   ·cases he
  ·rename_i mQ
   split at hc
   ·rename_i x y t t' ha ht
    split at hc
    ·rename_i htt
     split at hc
     ·rename_i e hu
      have Fy:(∃e',P.underlying t'=some (.slice e'))∨P.underlying t'=some .string:=by
       rcases (Bool.or_eq_true _ _).mp htt with h | h
       ·have h:=of_decide_eq_true h
        subst h
        exact .inl ⟨e,hu⟩
       ·exact .inr (ae0 h)
      split at hc
      ·rename_i i hi
       split at hc
       ·rename_i z hz
        split at hc
        ·rename_i hh;cases hc
         refine conv (bi mQ (s:=Builtin.append_ #[t,t'] o.type #[ev x,ev y]) fun ty cs=>?_) (afl (ty:=o.type) hm bO hu hi hz hh.1 hh.2.1 hh.2.2 Fy he)
         rw [toA ha,toT ht]
         rfl
        ·cases hc
       ·cases hc
      ·cases hc
     ·cases hc
    ·cases hc
   ·cases hc
  ·rename_i mQ
   split at hc
   ·rename_i x t ha ht
    split at hc
    ·rename_i hu;cases hc
     refine conv (bi mQ (s:=Builtin.len_ #[t] o.type #[ev x]) fun ty cs=>?_) (V5 (ty:=o.type) hm bO hu he)
     rw [toA ha,toT ht];rfl
    ·rename_i e hu;cases hc
     refine conv (bi mQ (s:=Builtin.len_ #[t] o.type #[ev x]) fun ty cs=>?_) (V6 (ty:=o.type) hm bO hu he)
     rw [toA ha,toT ht];rfl
    ·cases hc
   ·cases hc
  ·rename_i mQ
   split at hc
   ·rename_i x y t t2 ha ht
    split at hc
    ·rename_i e hu
     split at hc
     ·rename_i k qy
      split at hc
      ·rename_i h0;cases hc
       refine conv (bi mQ (s:=Builtin.copy_ #[t,t2] o.type #[ev x,ev y]) fun ty cs=>?_) (afj (ty:=o.type) hm bO hu qy h0 he)
       rw [toA ha,toT ht];rfl
      ·cases hc
     ·cases hc
    ·cases hc
   ·cases hc
  ·rename_i mQ
   split at hc
   ·rename_i x t ha ht
    split at hc
    ·rename_i e hu
     split at hc
     ·rename_i i hi
      split at hc
      ·rename_i z hz
       split at hc
       ·rename_i h0;cases hc
        refine conv (bi mQ (s:=Builtin.clear_ #[t] o.type #[ev x]) fun ty cs=>?_) (afk (ty:=o.type) hm bO hu hi hz h0 he)
        rw [toA ha,toT ht];rfl
       ·cases hc
      ·cases hc
     ·cases hc
    ·cases hc
   ·cases hc
  ·rename_i mQ;cases hc
   refine conv (bi mQ (s:=Builtin.max_ c.argTypes o.type (c.args.toList.map ev).toArray) fun ty cs=>?_) (ai9 (ts:=c.argTypes) (ty:=o.type) hm bO he)
   rw [toA rfl];rfl
  ·rename_i mQ;cases hc
   refine conv (bi mQ (s:=Builtin.min_ c.argTypes o.type (c.args.toList.map ev).toArray) fun ty cs=>?_) (ai_ (ts:=c.argTypes) (ty:=o.type) hm bO he)
   rw [toA rfl];rfl
  ·cases hc
 ·cases hc
end
end Go.Proofs.YtimbfadnabfabaaGreatDoor.Pm
