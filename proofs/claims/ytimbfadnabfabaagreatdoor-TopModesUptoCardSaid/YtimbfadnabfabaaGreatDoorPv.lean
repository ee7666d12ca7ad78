/- The small machine: each operation that it reads is the language's. No program is named here. -/
import Derived.Test.YtimbfadnabfabaaGreatDoorPcr
namespace Go.Proofs.YtimbfadnabfabaaGreatDoor.Pm
open Go.RowKit

section
variable {P : Program} {E : Nat → Prop} {m : List bH} {aP φ : Nat → cg} {H : Nat → cq} {w0 w : World}
variable {ρ : Operand → PV} {ev : Operand → Value} {γ : ek} {d : Nat}

theorem u9{o:Oper}{c:Call}{y:Operand}{f:Nat}{avQ:Array Value}(ho:o.op= .call c)(mo:c.callee= .value y)(hy:ev y= .func (.func f) #[] avQ):
  (execOp ev o).run P w=(callFunc f ((c.args.toList.map ev)++avQ.toList).toArray).run P w:=by
 unfold execOp
 simp only [ho,resolve,mo,Sem.run_bind,Sem.run_pure,Result.andThen_ok,hy,Deferred.ofValue,invoke]
 congr 2
 apply Array.ext'
 simp
theorem ahI(hm:Mem E m aP w0 φ H w)(bK:eM E φ H w ρ ev)(kL:nS P γ w0 aP)(hk: ∀v,ev (.const v)=v)(hf: ∀f,ev (.func f)= .func (.func f) #[] #[]){o:Oper}{pop:kj}{p:PV}{aD:eu}
  {br:List Nat} (hc:comp P br o=some pop) (he:az γ H d ρ pop=some (p,aD)):Does P E m aP w0 φ H w p aD (execOp ev o):=by
 unfold comp at hc
 have Cx: ∀{x:Operand},(o.op= .move x∨o.op= .assign x)→(if CD x then (match P.underlying o.type with
   | some (.slice e)=>if 0<P.cellsOf e then some (.FC e (P.cellsOf e)) else some (.Cx x)
   | _=>some (.Cx x)) else some (.Cx x))=some pop→Does P E m aP w0 φ H w p aD (execOp ev o):=by
  intro x ho hc
  have hx:execOp ev o=pure (.value (ev x)):=by
   unfold execOp
   rcases ho with ho | ho<;>simp only [ho]
  rw [hx]
  have ahJ:az γ H d ρ (.Cx x)=some (p,aD)→Does P E m aP w0 φ H w p aD (pure (.value (ev x))):=by
   intro he
   simp only [az,Option.some.injEq,Prod.mk.injEq] at he
   obtain ⟨rfl,rfl⟩:=he
   exact EI hm rfl (bK x)
  split at hc
  ·rename_i hn
   have hv:ev x= .slice none 0 0:=by
    unfold CD at hn
    split at hn
    ·exact hk _
    ·cases hn
   split at hc
   ·split at hc
    ·rename_i h0;cases hc
     rw [hv];exact Vs hm h0 he
    ·cases hc;exact ahJ he
   ·cases hc;exact ahJ he
  ·cases hc;exact ahJ he
 split at hc
 ·rename_i x ho;exact Cx (.inl ho) hc
 ·rename_i x ho;exact Cx (.inr ho) hc
 ·rename_i c a b ho;cases hc
  have hx:execOp ev o=(do pure (.value (if←asBool (ev c) then ev a else ev b))):=by unfold execOp;simp only [ho]
  rw [hx];exact Vo hm bK he
 ·rename_i op t x y yt ho
  have hx:execOp ev o=(do pure (.value (←(do eqGuard op t x y (ev x) (ev y);binOp op t (ev x) (ev y))))):=by unfold execOp;simp only [ho]
  rw [hx];exact ado (yt:=yt) hm bK hk hc he
 ·rename_i op t x ho;cases hc
  have hx:execOp ev o=(do pure (.value (←Op.unary op (ev x)))):=by unfold execOp;simp only [ho]
  rw [hx];exact aht hm bK he
 ·rename_i s dt x ho
  have hx:execOp ev o=(do pure (.value (←convert s dt (ev x)))):=by unfold execOp;simp only [ho]
  rw [hx]
  unfold MB at hc
  split at hc
  ·rename_i k1 k hs hd;cases hc;exact adv hm bK hs hd he
  ·rename_i k1 hs hd;cases hc;exact Vt hm bK hs hd he
  ·rename_i hs hd;cases hc;exact Vu hm bK hs hd he
  ·rename_i e hs hd
   split at hc
   ·rename_i RA;cases hc;exact Vw hm bK hs hd RA he
   ·cases hc
  ·rename_i e hs hd
   split at hc
   ·rename_i RA
    split at hc
    ·cases hc;exact Vv hm bK hs RA hd he
    ·cases hc
   ·cases hc
  ·cases hc
 ·rename_i t ho
  have hx:execOp ev o=(do pure (.value (←Instr.alloc t true (.tuple #[])))):=by unfold execOp;simp only [ho]
  rw [hx]
  split at hc
  ·rename_i hz;cases hc;exact OI hm hz he
  ·rename_i z _ hz;cases hc;exact RG hm hz he
  ·cases hc
 ·rename_i t x ho
  simp only [Option.map_eq_some_iff] at hc
  obtain ⟨n,hn,rfl⟩:=hc
  have hx:execOp ev o=(do pure (.value (←Instr.box t (ev x)))):=by unfold execOp;simp only [ho]
  rw [hx];exact ady hm bK he
 ·rename_i t ps ho
  have hx:execOp ev o=(do pure (.value (←Instr.build t (ps.map fun (i,x)=>(i,ev x))))):=by unfold execOp;simp only [ho]
  rw [hx]
  split at hc
  ·rename_i fs hu
   split at hc
   ·rename_i pl z hpl hz
    simp only [Option.map_eq_some_iff] at hc
    obtain ⟨q,hq,rfl⟩:=hc
    exact OJ hm bK hu hpl hz hq he
   ·cases hc
  ·rename_i len e hu
   split at hc
   ·rename_i k z pH hz
    simp only [Option.map_eq_some_iff] at hc
    obtain ⟨q,hq,rfl⟩:=hc
    exact OL hm bK hu pH hz hq he
   ·cases hc
  ·cases hc
 ·rename_i t n ps ho
  have hx:execOp ev o=(do pure (.value (←Instr.buildSlice t n (ps.map fun (i,x)=>(i,ev x))))):=by unfold execOp;simp only [ho]
  rw [hx]
  split at hc
  ·rename_i e hu
   split at hc
   ·rename_i k pH
    split at hc
    ·rename_i z hz
     split at hc
     ·rename_i hh
      simp only [Option.map_eq_some_iff] at hc
      obtain ⟨q,hq,rfl⟩:=hc
      exact adB hm bK hu pH hh.1 hh.2 hz hq he
     ·cases hc
    ·cases hc
   ·cases hc
  ·cases hc
 ·rename_i t x ho
  have hx:execOp ev o=(do pure (.value (←Instr.loadAt t (ev x)))):=by unfold execOp;simp only [ho]
  rw [hx]
  split at hc
  ·rename_i dd n hd hn
   split at hc
   ·rename_i h1;cases hc;exact H_ hm bK hd hn h1 he
   ·cases hc
  ·cases hc
 ·rename_i t x y ho
  have hx:execOp ev o=(do Instr.storeAt t (ev x) (ev y);pure .skip):=by unfold execOp;simp only [ho]
  rw [hx]
  split at hc
  ·rename_i n hn
   split at hc
   ·rename_i h0;cases hc;exact Rw hm bK hn h0 he
   ·cases hc
  ·cases hc
 ·rename_i x ho;cases hc
  have hx: ∃f:Value→Sem Next,execOp ev o=f (ev x)∧ ∀a v,v= .pointer (some a)→(f v).run P w= .ok (.value v) w:=by
   refine ⟨fun v=>execOp (fun _=>v) o,?_,?_⟩
   ·unfold execOp;simp only [ho]
   ·rintro a v rfl;unfold execOp;simp only [ho];rfl
  obtain ⟨f,hx,hfv⟩:=hx
  rw [hx];exact Vp hm bK hfv he
 ·rename_i f first cs ho
  split at hc
  ·rename_i h0;cases hc
   have h0:first= #[]:=Array.eq_empty_of_size_eq_zero h0
   subst h0
   have hx:execOp ev o=(do pure (.value (←Instr.makeFunc (.func f) #[] (cs.toList.map ev).toArray))):=by
    unfold execOp;simp only [ho]
    congr 3
    all_goals (apply Array.ext';simp)
   rw [hx];exact adx hm bK he
  ·cases hc
 ·rename_i t x lo hi mx ho
  have hx:execOp ev o=(do pure (.value (←Instr.sliceAt t (ev x) (lo.map ev) (hi.map ev) (mx.map ev)))):=by unfold execOp;simp only [ho]
  rw [hx]
  split at hc
  ·rename_i hu
   split at hc
   ·rename_i hmx;cases hc
    have:mx=none:=by simpa using hmx
    subst this
    exact Rz hm bK hu he
   ·cases hc
  ·rename_i len e hu
   split at hc
   ·rename_i k pH
    split at hc
    ·rename_i hmx;cases hc
     have:mx=none:=by simpa using hmx
     subst this
     exact adC hm bK hu pH he
    ·cases hc
   ·cases hc
  ·rename_i e hu
   split at hc
   ·rename_i k pH
    split at hc
    ·rename_i h0
     split at hc
     ·split at hc
      ·cases hc;exact adt hm bK hu pH he
      ·cases hc;exact ML hm bK hu pH he
     ·rename_i mm
      split at hc
      ·rename_i hh;cases hc
       simp only [Bool.and_eq_true,Option.isNone_iff_eq_none] at hh
       obtain ⟨⟨rfl,h1⟩,h2⟩:=hh
       unfold HZ at h1 h2
       split at h1
       ·rename_i k1
        split at h2
        ·rename_i k2 heq
         cases heq
         exact adu hm bK hu pH h0 k1 k2 (hk _) (hk _) he
        ·cases h2
       ·cases h1
      ·cases hc
    ·cases hc
   ·cases hc
  ·cases hc
 ·rename_i t x f ho
  have hx:execOp ev o=(do pure (.value (←Instr.fieldAt t (ev x) f))):=by unfold execOp;simp only [ho]
  rw [hx]
  split at hc
  ·rename_i fs hu
   split at hc
   ·rename_i fd hfd
    split at hc
    ·cases hc
    ·rename_i hne
     split at hc
     ·rename_i n hn;cases hc
      refine adp hm bK hu hfd hn ?_ he
      obtain ⟨i,h1,h2⟩:=H8 hn
      intro h;apply hne;unfold Program.cellsOf;simp [h1,h2,h]
     ·cases hc
   ·cases hc
  ·cases hc
 ·rename_i t x f ho
  have hx:execOp ev o=(do pure (.value (←Instr.field t (ev x) f))):=by unfold execOp;simp only [ho]
  rw [hx]
  split at hc
  ·rename_i fs hu
   split at hc
   ·rename_i fd hfd
    split at hc
    ·rename_i dd n hd hn
     split at hc
     ·rename_i h1;cases hc;exact Vq hm bK hu hfd hd hn h1 he
     ·cases hc
    ·cases hc
   ·cases hc
  ·cases hc
 ·rename_i t x i ho
  have hx:execOp ev o=(do pure (.value (←Instr.indexAt t (ev x) (ev i)))):=by unfold execOp;simp only [ho]
  rw [hx]
  split at hc
  ·rename_i len e hu
   split at hc
   ·rename_i k pH;cases hc;exact adq hm bK hu pH he
   ·cases hc
  ·rename_i e hu
   split at hc
   ·rename_i k pH
    split at hc
    ·cases hc;exact adr hm bK hu pH he
    ·cases hc
   ·cases hc
  ·cases hc
 ·rename_i t x i ho
  have hx:execOp ev o=(do pure (.value (←Instr.index t (ev x) (ev i)))):=by unfold execOp;simp only [ho]
  rw [hx]
  split at hc
  ·rename_i len e hu
   split at hc
   ·rename_i dd k hd pH
    split at hc
    ·rename_i h1;cases hc;exact ads hm bK hu hd pH h1 he
    ·cases hc
   ·cases hc
  ·rename_i hu;cases hc;exact Ry hm bK hu he
  ·cases hc
 ·rename_i x i ho;cases hc
  have hx:execOp ev o=(do pure (.value (←Instr.extract (ev x) i))):=by unfold execOp;simp only [ho]
  rw [hx];exact adw hm bK he
 ·rename_i t x ho
  have hx:execOp ev o=(do pure (.value (←Instr.range t (ev x)))):=by unfold execOp;simp only [ho]
  rw [hx]
  split at hc
  ·rename_i hu;cases hc;exact adz hm bK hu he
  ·cases hc
 ·rename_i x ho;cases hc
  have hx:execOp ev o=(do pure (.value (←Instr.next (ev x) true o.type))):=by unfold execOp;simp only [ho]
  rw [hx];exact adA hm bK he
 ·rename_i t l c ho
  have hx:execOp ev o=(do pure (.value (←Instr.makeSlice t (ev l) (ev c)))):=by unfold execOp;simp only [ho]
  rw [hx]
  split at hc
  ·rename_i e hu
   split at hc
   ·rename_i i hi
    split at hc
    ·rename_i z hz
     split at hc
     ·rename_i hh;cases hc;exact adD hm bK hu hi hz hh.1 hh.2 he
     ·cases hc
    ·cases hc
   ·cases hc
  ·cases hc
 ·cases hc;simp [az,ints] at he
 ·cases hc;simp [az,ints] at he
 ·rename_i c ho
  unfold MC at hc
  have bi: ∀{b:Builtin} {s:Sem Value},c.callee= .builtin b→(∀ty cs,builtin b c.argTypes ty cs (c.args.map ev)=(do pure (.value (←s))))→(execOp ev o).run P w=((do pure (.value (←s)):Sem Next)).run P w:=by
   intro b s h1 h2
   unfold execOp
   simp only [ho,resolve,h1,Sem.run_bind,Sem.run_pure,Result.andThen_ok,invoke,h2]
  have conv: ∀{x y:Sem Next},x.run P w=y.run P w→Does P E m aP w0 φ H w p aD y→Does P E m aP w0 φ H w p aD x:=by
   intro x y h q
   unfold Does at*
   rw [h];exact q
  have toA: ∀{x:List Operand},c.args.toList=x→c.args.map ev=(x.map ev).toArray:=by
   intro x h;apply Array.ext';simp [h]
  have toT: ∀{x:List TypeId},c.argTypes.toList=x→c.argTypes=x.toArray:=by
   intro x h;apply Array.ext';simp [h]
  split at hc
  ·rename_i f mo
   split at hc
   ·cases hc
    simp only [az] at he
    refine RR hm kL (My _ _ (aY.y5 bK c.args.toList)) he ?_
    rw [u9 ho mo (hf f)]
    simp
   ·split at hc
    ·cases hc
     simp only [az] at he
     refine RO hm kL (aY.y5 bK c.args.toList) he ?_
     rw [u9 ho mo (hf f)]
     simp
    ·cases hc
     simp only [az] at he
     refine BA hm kL (aY.y5 bK c.args.toList) he ?_
     rw [u9 ho mo (hf f)]
     simp
  ·rename_i x _ mo;cases hc
   simp only [az] at he
   split at he
   ·rename_i f cs e1
    have hx:=bK x
    rw [e1] at hx
    obtain ⟨vs,hv,hr⟩:=hx
    refine BA hm kL ((aY.y5 bK c.args.toList).app hr) he ?_
    rw [u9 ho mo hv]
   ·cases he
  ·rename_i mo
   split at hc
   ·rename_i x y t t' ha ht
    split at hc
    ·rename_i htt
     split at hc
     ·rename_i e hu
      have EL:(∃e',P.underlying t'=some (.slice e'))∨P.underlying t'=some .string:=by
       rcases (Bool.or_eq_true _ _).mp htt with h | h
       ·have h:=of_decide_eq_true h
        subst h
        exact .inl ⟨e,hu⟩
       ·exact .inr (adk h)
      split at hc
      ·rename_i i hi
       split at hc
       ·rename_i z hz
        split at hc
        ·rename_i hh;cases hc
         refine conv (bi mo (s:=Builtin.append_ #[t,t'] o.type #[ev x,ev y]) fun ty cs=>?_) (adG (ty:=o.type) hm bK hu hi hz hh.1 hh.2.1 hh.2.2 EL he)
         rw [toA ha,toT ht]
         rfl
        ·cases hc
       ·cases hc
      ·cases hc
     ·cases hc
    ·cases hc
   ·cases hc
  ·rename_i mo
   split at hc
   ·rename_i x t ha ht
    split at hc
    ·rename_i hu;cases hc
     refine conv (bi mo (s:=Builtin.len_ #[t] o.type #[ev x]) fun ty cs=>?_) (Vx (ty:=o.type) hm bK hu he)
     rw [toA ha,toT ht];rfl
    ·rename_i e hu;cases hc
     refine conv (bi mo (s:=Builtin.len_ #[t] o.type #[ev x]) fun ty cs=>?_) (Vy (ty:=o.type) hm bK hu he)
     rw [toA ha,toT ht];rfl
    ·cases hc
   ·cases hc
  ·rename_i mo
   split at hc
   ·rename_i x y t t2 ha ht
    split at hc
    ·rename_i e hu
     split at hc
     ·rename_i k pH
      split at hc
      ·rename_i h0;cases hc
       refine conv (bi mo (s:=Builtin.copy_ #[t,t2] o.type #[ev x,ev y]) fun ty cs=>?_) (adE (ty:=o.type) hm bK hu pH h0 he)
       rw [toA ha,toT ht];rfl
      ·cases hc
     ·cases hc
    ·cases hc
   ·cases hc
  ·rename_i mo
   split at hc
   ·rename_i x t ha ht
    split at hc
    ·rename_i e hu
     split at hc
     ·rename_i i hi
      split at hc
      ·rename_i z hz
       split at hc
       ·rename_i h0;cases hc
        refine conv (bi mo (s:=Builtin.clear_ #[t] o.type #[ev x]) fun ty cs=>?_) (adF (ty:=o.type) hm bK hu hi hz h0 he)
        rw [toA ha,toT ht];rfl
       ·cases hc
      ·cases hc
     ·cases hc
    ·cases hc
   ·cases hc
  ·rename_i mo;cases hc
   refine conv (bi mo (s:=Builtin.max_ c.argTypes o.type (c.args.toList.map ev).toArray) fun ty cs=>?_) (ahv (ts:=c.argTypes) (ty:=o.type) hm bK he)
   rw [toA rfl];rfl
  ·rename_i mo;cases hc
   refine conv (bi mo (s:=Builtin.min_ c.argTypes o.type (c.args.toList.map ev).toArray) fun ty cs=>?_) (ahw (ts:=c.argTypes) (ty:=o.type) hm bK he)
   rw [toA rfl];rfl
  ·cases hc
 ·cases hc
end
end Go.Proofs.YtimbfadnabfabaaGreatDoor.Pm
