/- The small machine: the memory of its own, written and grown. No program is named here. -/
import Derived.Test.YtimbfadnabfabaaGreatDoorPo
import Derived.Deep.AppendSrc
namespace Go.Proofs.YtimbfadnabfabaaGreatDoor.Pm
open Go.RowKit

section
variable {E : Nat → Prop} {m : List bH} {aP φ : Nat → cg} {H : Nat → cq} {w0 w : World}

theorem Mem.iz(hm:Mem E m aP w0 φ H w){i g:Nat}{b:bH}(hl:look H i g=some b):g=(H i).g∧(H i).b=some b:=by
 unfold look at hl
 split at hl
 ·exact ⟨‹_›,hl⟩
 ·cases hl
theorem Mem.Y8(hm:Mem E m aP w0 φ H w)(i:Nat)(b:bH)(vs:Array Value)(T:TypeId)(c:Nat)
  (hk9:i<m.length→(∀b0,wT b0 (H i).b→wT b0 (some b))∧ ∃e k cs,(H i).b=some (.own e k cs))
  (hb:(∃(cs:List PV) (us:Array Value),b= .box cs∧(uS w.heap.size us T= .cells vs T (0,0)∧off c=0)∧aY (cV E φ) w (bh φ H) cs us.toList)∨
   (∃k cs,b= .own T k cs∧0<k∧vs.size=c*k∧c≤maxLen∧(∃n,cs.length=n*k)∧cs.length≤c*k∧aY (cV E φ) w (bh φ H) (cs.map .d) (vs.toList.take cs.length))):
  ∃bp,bp i= .blk w.heap.size c∧(∀j,j≠i→bp j=φ j)∧Mem E m aP w0 bp (up H i ⟨(H i).g+1,some b⟩) (w.alloc (.cells vs T))∧Tr E φ H w bp (up H i ⟨(H i).g+1,some b⟩) (w.alloc (.cells vs T)):=by
 refine ⟨up φ i (.blk w.heap.size c),aQ _ _ _,fun j hj=>dK _ _ _ _ hj,?_⟩
 refine hm.upd (fun j=>j=i) (fun j hj=>⟨dK _ _ _ _ hj,dK _ _ _ _ hj⟩) (fun j hj=>by subst hj;rw [aQ];exact .inl (Nat.lt_succ_self _)) (fun b hb _=>Below.heap_alloc w _ b hb)
  (fun j b' c' hj hp=>by subst hj;rw [aQ] at hp;cases hp;exact ⟨by simp,.inl (Nat.le_refl _)⟩) (fun a a' _ _ _ h1 h2 _ _=>h1.trans h2.symm) (fun j hj tP=>by subst hj;rw [aQ];exact ⟨(hk9 tP).1,.inr (hk9 tP).2⟩) (by simp) ⟨rfl,rfl,rfl⟩ ?_
 intro tr j b' hj hb'
 subst hj
 rw [aQ] at hb'
 simp only [Option.some.injEq] at hb'
 subst hb'
 rw [aQ]
 have tQ:=heap_alloc_new w (.cells vs T)
 rcases hb with ⟨cs,us,rfl,kK,hr⟩ | ⟨k,cs,rfl,h0,h1,h2,h3,h4,hr⟩
 ·exact ⟨us,T,⟨by rw [kK.1];exact tQ,kK.2⟩,tr.l hr⟩
 ·have o0:=G5 h2
  have c0:=HM h2
  exact ⟨h0,vs,vs.toList.take cs.length,.of tQ,by rw [o0,c0,Nat.zero_add];exact h1,by rw [c0];exact h2,h3,by rw [c0];exact h4,by rw [o0];rfl,tr.l hr⟩
theorem Mem.aAQ(hm:Mem E m aP w0 φ H w)(i:Nat)(hi8:8≤i)(k:Nat)(cs:List PD)(vs:Array Value)(T:TypeId)(c:Nat)(f:Nat×Nat)(hf:f=(0,0)∨vs.size≤f.1)
  (h0:0<k) (h1:vs.size=c*k) (h2:c≤maxLen) (h3: ∃n,cs.length=n*k) (h4:cs.length≤c*k) (hr:aY (cV E φ) w (bh φ H) (cs.map .d) (vs.toList.take cs.length)):
  ∃bp,bp i= .blk w.heap.size c∧Mem E m aP w0 bp (up H i ⟨(H i).g+1,some (.own T k cs)⟩) (w.alloc (.cells vs T f))∧Tr E φ H w bp (up H i ⟨(H i).g+1,some (.own T k cs)⟩) (w.alloc (.cells vs T f)):=by
 refine ⟨up φ i (.blk w.heap.size c),aQ _ _ _,?_⟩
 refine hm.upd (fun j=>j=i) (fun j hj=>⟨dK _ _ _ _ hj,dK _ _ _ _ hj⟩) (fun j hj=>by subst hj;rw [aQ];exact .inl (Nat.lt_succ_self _)) (fun b hb _=>Below.heap_alloc w _ b hb)
  (fun j b' c' hj hp=>by subst hj;rw [aQ] at hp;cases hp;exact ⟨by simp,.inl (Nat.le_refl _)⟩) (fun a a' _ _ _ h1 h2 _ _=>h1.trans h2.symm) (fun j hj tP=>by have:=hm.m8;omega) (by simp) ⟨rfl,rfl,rfl⟩ ?_
 intro tr j b' hj hb'
 subst hj
 rw [aQ] at hb'
 simp only [Option.some.injEq] at hb'
 subst hb'
 rw [aQ]
 have o0:=G5 h2
 have c0:=HM h2
 exact ⟨h0,vs,vs.toList.take cs.length,⟨f,heap_alloc_new w (.cells vs T f),hf⟩,by rw [o0,c0,Nat.zero_add];exact h1,by rw [c0];exact h2,h3,by rw [c0];exact h4,by rw [o0];rfl,tr.l hr⟩
theorem Mem.new(hm:Mem E m aP w0 φ H w)(i:Nat)(hi8:8≤i)(b:bH)(vs:Array Value)(T:TypeId)(c:Nat)
  (hb:(∃(cs:List PV) (us:Array Value),b= .box cs∧(uS w.heap.size us T= .cells vs T (0,0)∧off c=0)∧aY (cV E φ) w (bh φ H) cs us.toList)∨
   (∃k cs,b= .own T k cs∧0<k∧vs.size=c*k∧c≤maxLen∧(∃n,cs.length=n*k)∧cs.length≤c*k∧aY (cV E φ) w (bh φ H) (cs.map .d) (vs.toList.take cs.length))):
  ∃bp,bp i= .blk w.heap.size c∧(∀j,j≠i→bp j=φ j)∧Mem E m aP w0 bp (up H i ⟨(H i).g+1,some b⟩) (w.alloc (.cells vs T))∧Tr E φ H w bp (up H i ⟨(H i).g+1,some b⟩) (w.alloc (.cells vs T)):=
 hm.Y8 i b vs T c (fun h=>by have:=hm.m8;omega) hb
theorem Mem.OC(hm:Mem E m aP w0 φ H w)(i:Nat)(hi8:8≤i)(e k:Nat)(hk:0<k)(a:Option Addr):
  ∃bp,bp i= .nil a∧Mem E m aP w0 bp (up H i ⟨(H i).g+1,some (.own e k [])⟩) w∧Tr E φ H w bp (up H i ⟨(H i).g+1,some (.own e k [])⟩) w:=by
 refine ⟨up φ i (.nil a),aQ _ _ _,?_⟩
 refine hm.upd (fun j=>j=i) (fun j hj=>⟨dK _ _ _ _ hj,dK _ _ _ _ hj⟩) (fun j hj=>by subst hj;rw [aQ];exact .inl (Nat.lt_succ_self _)) (fun _ _ _=>rfl)
  (fun j b' c' hj hp=>by subst hj;rw [aQ] at hp;cases hp) (fun a a' _ _ _ h1 h2 _ _=>h1.trans h2.symm) (fun j hj tP=>by have:=hm.m8;omega) (Nat.le_refl _) ⟨rfl,rfl,rfl⟩ ?_
 intro tr j b' hj hb'
 subst hj
 rw [aQ] at hb'
 simp only [Option.some.injEq] at hb'
 subst hb'
 rw [aQ]
 exact ⟨hk,rfl⟩
theorem Cz{φ:Nat→cg}{H:Nat→cq}{i b c:Nat}(hp:φ i= .blk b c)(h0:off c=0)(o:Nat):bh φ H (.ptr i (H i).g o) (.pointer (some ⟨b,o,none⟩)):=
 ⟨⟨_,_,rfl⟩,Nat.le_refl _,fun _ _=>⟨b,c,hp,by rw [h0,Nat.zero_add]⟩⟩
theorem qw{φ:Nat→cg}{H:Nat→cq}{i b c n k:Nat}{e:TypeId}{cs:List PD}(hp:φ i= .blk b c)(hb:(H i).b=some (.own e k cs))(hk:0<k)(hl:cs.length=n*k)(hn:n≤cp c):
  bh φ H (.aJ i (H i).g 0 n) (.slice (some ⟨b,off c,none⟩) n (cp c)):=
 ⟨⟨_,_,_,rfl⟩,Nat.le_refl _,fun _ e' k' cs' h=>by
  rw [hb] at h;cases h
  refine ⟨hk,by rw [Nat.zero_add,hl];exact Nat.le_refl _,?_⟩
  rw [hp]
  exact ⟨_,cp c,rfl,hn,rfl,fun _=>by simp,fun _=>rfl,by simp⟩⟩
theorem CA{φ:Nat→cg}{H:Nat→cq}{i b c n k:Nat}{e:TypeId}{cs:List PD}(hp:φ i= .blk b c)(hb:(H i).b=some (.own e k cs))(hk:0<k)(hl:cs.length=n*k)(hn:n≤c)(hc:c≤maxLen):
  bh φ H (.aJ i (H i).g 0 n) (.slice (some ⟨b,0,none⟩) n c):=by
 have:=qw hp hb hk hl (by rw [HM hc];exact hn)
 rwa [HM hc,G5 hc] at this
theorem oJ{φ:Nat→cg}{H:Nat→cq}{i k:Nat}{e:TypeId}{a:Option Addr}(hp:φ i= .nil a)(hb:(H i).b=some (.own e k []))(hk:0<k):bh φ H (.aJ i (H i).g 0 0) (.slice a 0 0):=
 ⟨⟨_,_,_,rfl⟩,Nat.le_refl _,fun _ e' k' cs' h=>by
  rw [hb] at h;cases h
  refine ⟨hk,by simp,?_⟩
  rw [hp]
  exact ⟨rfl,rfl,rfl⟩⟩
theorem oK{α:Type}(cs:List α)(o:Nat)(new:List α)(h:o+new.length≤cs.length):(bZ cs o new).length=cs.length:=by
 simp [bZ];omega
theorem aY.bZ{X:Nat→Prop}{w:World}{R:Ref→Value→Prop}{cs new:List PV}{vs news:List Value}(h:aY X w R cs vs)(k:aY X w R new news)(o:Nat):
  aY X w R (bZ cs o new) (vs.take o++news++vs.drop (o+news.length)):=by
 unfold Pm.bZ
 rw [←k.len]
 exact ((h.take o).app k).app (h.drop _)
theorem OD{α:Type}(l:List α)(L o:Nat)(new:List α)(h:o+new.length≤L)(hL:L≤l.length):
  (l.take o++new++l.drop (o+new.length)).take L=(l.take L).take o++new++(l.take L).drop (o+new.length):=by
 have e1:l.take o=(l.take L).take o:=by rw [List.take_take,Nat.min_eq_left (by omega)]
 have e2:l.drop (o+new.length)=(l.take L).drop (o+new.length)++l.drop L:=by
  conv=>lhs;rw [←List.take_append_drop L l]
  rw [List.drop_append_of_le_length (by simp;omega)]
 rw [e1,e2,←List.append_assoc]
 exact List.take_left' (by simp;omega)
theorem Ro{α β:Type}(f:α→β)(cs:List α)(o:Nat)(new:List α):(bZ cs o new).map f=bZ (cs.map f) o (new.map f):=by
 simp [bZ,List.map_take,List.map_drop]
theorem kZ(P:Program)(g o:Nat)(t:TypeId): ∀(vs:List Value) (i:Nat) (cur:Array Value) (w:World),jW w g cur t→o+i+vs.length≤cur.size→(∀v∈vs,v.oneCell'=true)→
  (storeCells ⟨g,o,none⟩ vs i).run P w= .ok () (w.setRow g (cur.toList.take (o+i)++vs++cur.toList.drop (o+i+vs.length)).toArray)
 | [],i,cur,w,hg,_,_=>by
  simp only [storeCells,List.append_nil,List.length_nil,Nat.add_zero,List.take_append_drop,Array.toArray_toList]
  obtain ⟨f,h1,_⟩:=hg
  rw [setRow_self w g cur t f h1]
  rfl
 | v::rest,i,cur,w,hg,hl,h1=>by
  have hi:o+i<cur.size:=by simp at hl;omega
  have aAR:(⟨g,o,none⟩:Addr).add i=⟨g,o+i,none⟩:=by unfold Addr.add;split<;>simp_all
  have hcell:w.cell? ⟨g,o+i,none⟩=some cur[o+i]:=by rw [hg.cell];simp [hi]
  have aAS:w.frozen? ⟨g,o+i,none⟩=false:=hg.free _ hi
  have aAT:w.setCell ⟨g,o+i,none⟩ v=w.setRow g (cur.setIfInBounds (o+i) v):=by
   obtain ⟨f,h2,_⟩:=hg
   exact setCell_eq_setRow w g (o+i) cur t f v h2
  have hst:(store ((⟨g,o,none⟩:Addr).add i) v).run P w= .ok () (w.setRow g (cur.setIfInBounds (o+i) v)):=by
   rw [aAR,run_store P w _ v _ (h1 v (by simp)),hcell]
   simp [aAS,aAT]
  have ih:=kZ P g o t rest (i+1) (cur.setIfInBounds (o+i) v) (w.setRow g (cur.setIfInBounds (o+i) v)) (hg.set _ (by simp)) (by simp at hl ⊢;omega) (fun x hx=>h1 x (by simp [hx]))
  simp only [storeCells,Sem.run_bind,hst,Result.andThen_ok,ih,setRow_setRow]
  congr 3
  have e:=list_seg_step cur.toList (o+i) v rest (by simp at hl ⊢;omega)
  simpa [Array.toList_setIfInBounds,Nat.add_assoc] using e
theorem GI{P:Program}(w:World)(t tx ty e:TypeId)(i:TypeInfo)(ht:P.underlying t=some (.slice e))(hi:P.info? e=some i)
  (g o HV ahj:Nat) (cur:Array Value) (hg:jW w g cur e) {x:Value} {m:Nat} {news:List Value} (hs:Src P i.size tx x m news w)
  (hroom:HV+m≤ahj) (Rp:o+HV*i.size+news.length≤cur.size):
  (Builtin.append_ #[t,tx] ty #[.slice (some ⟨g,o,none⟩) HV ahj,x]).run P w=
   .ok (.slice (some ⟨g,o,none⟩) (HV+m) ahj) (w.setRow g (cur.toList.take (o+HV*i.size)++news++cur.toList.drop (o+HV*i.size+news.length)).toArray):=by
 have hst:=kZ P g (o+HV*i.size) e news 0 cur w hg (by simpa using Rp) hs.one
 simp only [Nat.add_zero] at hst
 rcases hs.kind with ⟨e',hk⟩ | hk<;>simp [Builtin.append_,run_underlying ht,run_underlying hk,sizeOf,typeInfo,hi,hs.len,hroom,hs.cells,gm,hst]
theorem Mz{α:Type}(l news:List α)(f o:Nat)(h:f+o≤l.length):(l.take (f+o)++news++l.drop (f+o+news.length)).drop f=(l.drop f).take o++news++(l.drop f).drop (o+news.length):=by
 rw [List.append_assoc,List.drop_append_of_le_length (by rw [List.length_take];omega),List.drop_take,List.drop_drop,show f+o-f=o by omega,List.append_assoc]
 congr 3
 omega
theorem Mem.ahk(hm:Mem E m aP w0 φ H w){i:Nat}{b b':bH}(hb:(H i).b=some b){new:List PV}{news:List Value}(hr:aY (cV E φ) w (bh φ H) new news)(h1: ∀u∈news,u.oneCell'=true)(h0:0<new.length)(o:Nat)
  (Vm:(∃cs,b= .box cs∧b'= .box (bZ cs o new)∧o+new.length≤cs.length∧gT cs=true∧gT (bZ cs o new)=true)∨(∃e k cs ds,b= .own e k cs∧b'= .own e k (bZ cs o ds)∧new=ds.map .d∧o+new.length≤cs.length))
  (P:Program): ∃x c,φ i= .blk x c∧ ∃w',(storeCells ⟨x,off c+o,none⟩ news).run P w= .ok () w'∧Mem E m aP w0 φ (up H i ⟨(H i).g,some b'⟩) w'∧Tr E φ H w φ (up H i ⟨(H i).g,some b'⟩) w':=by
 have dz:=hm.rep i b hb
 have hlen:=hr.len
 cases hp:φ i with
 | nil a=>
  rw [hp] at dz
  rcases Vm with ⟨cs,rfl,rfl,hl,_⟩ | ⟨e,k,cs,ds,rfl,rfl,rfl,hl⟩
  ·exact dz.elim
  ·obtain ⟨_,rfl⟩:=dz
   rw [List.length_nil] at hl
   omega
 | blk x c=>
  rw [hp] at dz
  refine ⟨x,c,rfl,?_⟩
  have key: ∀(q:Nat) (cur:Array Value) (T:TypeId),jW w x cur T→q+news.length≤cur.size→
    (∀tr:Tr E φ H w φ (up H i ⟨(H i).g,some b'⟩) (w.setRow x (cur.toList.take (q+0)++news++cur.toList.drop (q+0+news.length)).toArray),
     Mu (cV E φ) (w.setRow x (cur.toList.take (q+0)++news++cur.toList.drop (q+0+news.length)).toArray) φ (up H i ⟨(H i).g,some b'⟩) (.blk x c) b')→
    like (some b) (some b')→
    ∃w',(storeCells ⟨x,q,none⟩ news).run P w= .ok () w'∧Mem E m aP w0 φ (up H i ⟨(H i).g,some b'⟩) w'∧Tr E φ H w φ (up H i ⟨(H i).g,some b'⟩) w':=by
   intro q cur T Rq Rp tQ axc
   refine ⟨_,kZ P x q T news 0 cur w Rq (by omega) h1,?_⟩
   refine hm.upd (fun j=>j=i) (fun j hj=>⟨rfl,dK _ _ _ _ hj⟩) (fun j hj=>by subst hj;rw [aQ];exact .inr ⟨rfl,rfl,by rw [hb];exact axc⟩)
    (fun k hk hne=>setRow_other w x k _ (fun e=>hne i c rfl (by rw [hp,e])))
    (fun j k c' hj hk=>⟨by rw [setRow_size];exact (hm.lt j k c' hk).1,.inr ⟨c',hk⟩⟩) (fun a a' _ _ _ h1 h2 _ _=>h1.trans h2.symm) (fun j hj _=>by
     subst hj
     rw [aQ,hb]
     exact ⟨fun b0 hk=>by
      rcases Vm with ⟨cs,rfl,rfl,_⟩ | ⟨e,k,cs,ds,rfl,rfl,_⟩<;>cases b0<;>first | exact hk | exact hk.elim,.inl rfl⟩) (by simp) ⟨rfl,rfl,rfl⟩ ?_
   intro tr j b2 hj hb2
   subst hj
   rw [aQ] at hb2
   simp only [Option.some.injEq] at hb2
   subst hb2
   rw [hp]
   exact tQ tr
  rcases Vm with ⟨cs,rfl,rfl,hl,Ai,hk2⟩ | ⟨e,k,cs,ds,rfl,rfl,rfl,hl⟩
  ·obtain ⟨vs,T,⟨q1,q0⟩,q2⟩:=dz
   have hv:=q2.len
   rw [lT T Ai q2] at q1
   rw [q0,Nat.zero_add]
   refine key o vs T (.of q1) (by simp at hv;omega) (fun tr=>⟨(vs.toList.take (o+0)++news++vs.toList.drop (o+0+news.length)).toArray,T,⟨by rw [lT T hk2 (show aY (cV E φ) w (bh φ H) _ _ from by rw [List.toList_toArray,Nat.add_zero];exact q2.bZ hr o)];exact setRow_heap w x vs _ T _ q1,q0⟩,?_⟩) trivial
   simp only [Nat.add_zero]
   exact tr.l (q2.bZ hr o)
  ·obtain ⟨q0,cur,xs,q1,q2,q3,q4,q5,q6,q7⟩:=dz
   have p_:xs.length=cs.length:=by have:=q7.len;simp at this;omega
   have hcs:cs.length≤(cur.toList.drop (off c)).length:=by have h9:cur.toList.length=cur.size:=Array.length_toList;rw [List.length_drop];omega
   simp only [List.length_map] at hl hlen
   have ahl:(cur.toList.take (off c+o+0)++news++cur.toList.drop (off c+o+0+news.length)).toArray.size=cur.size:=by
    rw [List.size_toArray,List.length_append,List.length_append,List.length_take,List.length_drop,Array.length_toList]
    omega
   refine key (off c+o) cur e q1 (by omega) (fun tr=>⟨q0,_,_,q1.set _ ahl,?_,q3,?_,?_,rfl,?_⟩) ⟨rfl,rfl,(oK cs o ds hl).symm⟩
   ·rw [ahl];exact q2
   ·rw [oK cs o ds hl];exact q4
   ·rw [oK cs o ds hl];exact q5
   ·rw [oK cs o ds hl,Ro]
    have:=tr.l (q7.bZ hr o)
    rw [←q6] at this
    rw [List.toList_toArray,Nat.add_zero,Mz cur.toList news (off c) o (by have h9:cur.toList.length=cur.size:=Array.length_toList;omega),OD _ _ _ _ (by omega) hcs]
    exact this

theorem HX{α:Type}(f:Nat→α)(i:Nat)(x y:α):up (up f i x) i y=up f i y:=by funext j;unfold up;split<;>rfl
theorem Mem.qM(hm:Mem E m aP w0 φ H w){p:PV}{n:Nat}{cs:List PD}{v:Value}(h:fJ H p=some (n,cs))(hv:cJ (cV E φ) w (bh φ H) p v):
  ∃a c us,v= .slice a n c∧n≤c∧c≤maxLen∧(a=none→c=0)∧aY (cV E φ) w (bh φ H) (cs.map .d) us∧(cs= []∨ ∃b o,a=some ⟨b,o,none⟩∧b<w.heap.size∧ ∀j u,us[j]?=some u→w.cell? ⟨b,o+j,none⟩=some u):=by
 have dat:dR (cV E φ) w (.sl n cs) v→ ∃a c us,v= .slice a n c∧n≤c∧c≤maxLen∧(a=none→c=0)∧aY (cV E φ) w (bh φ H) (cs.map .d) us∧(cs= []∨ ∃b o,a=some ⟨b,o,none⟩∧b<w.heap.size∧ ∀j u,us[j]?=some u→w.cell? ⟨b,o+j,none⟩=some u):=by
  intro hv
  obtain ⟨a,c,rfl,h1,h2,h3,h4⟩:=hv
  rcases h4 with rfl | ⟨b,o,e,hx,hl,hc⟩
  ·exact ⟨a,c,[],rfl,h1,h2,h3,rfl,.inl rfl⟩
  ·have hall: ∀(ds:List PD) (o:Nat),fh (cV E φ) w ds b o→ ∃us,aY (cV E φ) w (bh φ H) (ds.map .d) us∧ ∀j u,us[j]?=some u→w.cell? ⟨b,o+j,none⟩=some u:=by
    intro ds
    induction ds with
    | nil=>exact fun o _=>⟨[],rfl,fun j u hu=>by simp at hu⟩
    | cons x ds ih=>
     intro o ⟨⟨u,q1,q2⟩,q3⟩
     obtain ⟨us,r1,r2⟩:=ih (o+1) q3
     refine ⟨u::us,⟨u,us,rfl,q2,r1⟩,fun j u' hu=>?_⟩
     cases j with
     | zero=>simp at hu;subst hu;exact q1
     | succ j=>have:=r2 j u' (by simpa using hu);rwa [show o+(j+1)=o+1+j by omega]
   obtain ⟨us,r1,r2⟩:=hall cs o hc
   exact ⟨a,c,us,rfl,h1,h2,h3,r1,.inr ⟨b,o,e,hl,r2⟩⟩
 unfold fJ at h
 split at h
 ·cases h
  exact dat hv
 ·cases h
  obtain ⟨a,rfl⟩:=hv
  exact ⟨a,0,[],rfl,Nat.le_refl _,by simp,fun _=>rfl,rfl,.inl rfl⟩
 ·cases h
  exact dat hv.1
 ·rename_i i g l n'
  split at h
  ·rename_i e k ds hl
   cases h
   obtain ⟨hg,hb⟩:=hm.iz hl
   obtain ⟨_,_,q2⟩:=hv
   obtain ⟨hk,hle,hp⟩:=q2 hg e k ds hb
   have dz:=hm.rep i _ hb
   cases en:φ i with
   | nil a=>
    rw [en] at hp
    obtain ⟨rfl,rfl,rfl⟩:=hp
    exact ⟨a,0,[],rfl,Nat.le_refl _,by simp,fun _=>rfl,by simp;rfl,.inl (by simp)⟩
   | blk b c=>
    rw [en] at hp dz
    obtain ⟨a,c',rfl,h1,h2,h3,h4,h5⟩:=hp
    obtain ⟨q0,cur,xs,r1,r2,r3,r4,r5,r6,r7⟩:=dz
    refine ⟨a,c',(xs.drop (l*k)).take (n*k),rfl,h1,by omega,fun e=>absurd e h5,?_,?_⟩
    ·rw [List.map_take,List.map_drop];exact (r7.drop _).take _
    ·by_cases hn:0<n
     ·refine .inr ⟨b,off c+l*k,h3 hn,(hm.lt i b c en).1,fun j u hu=>?_⟩
      rw [r1.cell]
      rw [List.getElem?_take] at hu
      split at hu
      ·rw [List.getElem?_drop,←r6,List.getElem?_take] at hu
       split at hu
       ·rw [List.getElem?_drop,←Nat.add_assoc] at hu
        simpa using hu
       ·cases hu
      ·cases hu
     ·have:n=0:=by omega
      subst this
      exact .inl (by simp)
  ·cases h
 ·cases h
theorem EH(P:Program)(w:World)(t tx ty e:TypeId)(i:TypeInfo)(ht:P.underlying t=some (.slice e))(hi:P.info? e=some i)(a:Option Addr)(n c:Nat)(hn:n≤c){x:Value}(hs:Src P i.size tx x 0 [] w):
  (Builtin.append_ #[t,tx] ty #[.slice a n c,x]).run P w= .ok (.slice a n c) w:=by
 rcases hs.kind with ⟨e',hk⟩ | hk<;>cases a<;>simp [Builtin.append_,run_underlying ht,run_underlying hk,sizeOf,typeInfo,hi,hs.len,hn,hs.cells,storeCells]
set_option maxHeartbeats 2000000 in
theorem Mem.app(hm:Mem E m aP w0 φ H w)(P:Program){i n k q bytes:Nat}{e t tx ty:TypeId}{it:TypeInfo}{z:Value}{cs ys:List PD}(hb:(H i).b=some (.own e k cs))(hcs:cs.length=n*k)(GJ:ys.length=q*k)
  (hbytes:(n+q)*bytes≤140737488355328) (hb1:1≤bytes) (ht:P.underlying t=some (.slice e)) (hi:P.info? e=some it) (hz:it.zero=some z) (hsz:it.size=k) (hby:it.bytes=bytes) (hzs:z.cells.size=k)
  {v x:Value} (hv:bh φ H (.aJ i (H i).g 0 n) v)
  (hx: ∃us,aY (cV E φ) w (bh φ H) (ys.map .d) us∧Src P k tx x q us w):
  ∃v' w' bp,(Builtin.append_ #[t,tx] ty #[v,x]).run P w= .ok v' w'∧Mem E m aP w0 bp (up H i ⟨(H i).g+1,some (.own e k (cs++ys))⟩) w'∧Tr E φ H w bp (up H i ⟨(H i).g+1,some (.own e k (cs++ys))⟩) w'∧
   bh bp (up H i ⟨(H i).g+1,some (.own e k (cs++ys))⟩) (.aJ i ((H i).g+1) 0 (n+q)) v':=by
 obtain ⟨us,CB,CC⟩:=hx
 have qN:=CB.len
 simp only [List.length_map] at qN
 obtain ⟨_,_,q2⟩:=hv
 obtain ⟨hk,_,hp⟩:=q2 rfl e k cs hb
 have dz:=hm.rep i _ hb
 have hle:n+q≤140737488355328:=Nat.le_trans (by have:=Nat.mul_le_mul_left (n+q) hb1;simpa using this) hbytes
 have aAV:n+q≤maxLen:=by unfold maxLen;omega
 have hlen:(cs++ys).length=(n+q)*k:=by rw [List.length_append,hcs,GJ,Nat.add_mul]
 have h1:=CC.one
 by_cases hq:q=0
 ·subst hq
  have hy:ys= []:=List.eq_nil_of_length_eq_zero (by simpa using GJ)
  subst hy
  have aAW:us= []:=List.eq_nil_of_length_eq_zero (by simpa using qN.symm)
  subst aAW
  have same: ∀(vv:Value),v=vv→(∃a c,vv= .slice a n c∧n≤c)→(Tr E φ H w φ (up H i ⟨(H i).g+1,some (.own e k (cs++ []))⟩) w→bh φ (up H i ⟨(H i).g+1,some (.own e k (cs++ []))⟩) (.aJ i ((H i).g+1) 0 (n+0)) vv)→
    ∃v' w' bp,(Builtin.append_ #[t,tx] ty #[v,x]).run P w= .ok v' w'∧Mem E m aP w0 bp (up H i ⟨(H i).g+1,some (.own e k (cs++ []))⟩) w'∧Tr E φ H w bp (up H i ⟨(H i).g+1,some (.own e k (cs++ []))⟩) w'∧
   bh bp (up H i ⟨(H i).g+1,some (.own e k (cs++ []))⟩) (.aJ i ((H i).g+1) 0 (n+0)) v':=by
   rintro vv rfl ⟨a,c,rfl,hnc⟩ aAX
   have nG:=hm.upd (bp:=φ) (w':=w) (H':=up H i ⟨(H i).g+1,some (.own e k (cs++ []))⟩) (fun j=>j=i) (fun j hj=>⟨rfl,dK _ _ _ _ hj⟩) (fun j hj=>by subst hj;rw [aQ];exact .inl (Nat.lt_succ_self _)) (fun _ _ _=>rfl)
    (fun j b' c' hj hp=>⟨(hm.lt j b' c' hp).1,.inr ⟨c',hp⟩⟩) (fun a a' _ _ _ h1 h2 _ _=>h1.trans h2.symm) (fun j hj _=>by subst hj;rw [aQ,hb];exact ⟨fun b0 hk=>by cases b0<;>exact hk,.inl rfl⟩) (Nat.le_refl _) ⟨rfl,rfl,rfl⟩ (fun tr j b' hj hb'=>by
     subst hj
     rw [aQ] at hb'
     simp only [Option.some.injEq] at hb'
     subst hb'
     rw [List.append_nil]
     rw [List.append_nil] at tr
     generalize φ j=pj at*
     cases pj with
     | nil a=>exact dz
     | blk b c=>
      obtain ⟨q0,cur,xs,r1,r2,r3,r4,r5,r6,r7⟩:=dz
      exact ⟨q0,cur,xs,r1,r2,r3,r4,r5,r6,tr.l r7⟩)
   exact ⟨_,w,φ,EH P w t tx ty e it ht hi a n c hnc (by rw [hsz];exact CC),nG.1,nG.2,aAX nG.2⟩
  cases en:φ i with
  | nil a=>
   rw [en] at hp dz
   obtain ⟨rfl,_,rfl⟩:=hp
   refine same _ rfl ⟨a,0,rfl,Nat.le_refl _⟩ fun _=>?_
   have:=oJ (φ:=φ) (H:=up H i ⟨(H i).g+1,some (.own e k (cs++ []))⟩) (i:=i) (k:=k) (e:=e) en (by rw [aQ,dz.2];rfl) hk
   rwa [aQ] at this
  | blk b c=>
   rw [en] at hp
   obtain ⟨a,c',rfl,h3,h4,h5,h6,h7⟩:=hp
   obtain rfl:c'=cp c:=by omega
   have ha:=h6 rfl
   subst ha
   refine same _ rfl ⟨_,cp c,rfl,h3⟩ fun _=>?_
   have:=qw (φ:=φ) (H:=up H i ⟨(H i).g+1,some (.own e k (cs++ []))⟩) (i:=i) (k:=k) (e:=e) (n:=n) (cs:=cs++ []) en (by rw [aQ]) hk (by simpa using hcs) h3
   rwa [aQ] at this
 · --something is appended
  have CC:Src P it.size tx x q us w:=by rw [hsz];exact CC
  have hul:us.length=q*it.size:=by rw [←qN,GJ,hsz]
  -- a new block
  have grown: ∀(old:Nat) (xs:List Value) (vv:Value),old<n+q→aY (cV E φ) w (bh φ H) (cs.map .d) xs→
    (Builtin.append_ #[t,tx] ty #[v,x]).run P w= .ok (.slice (some ⟨w.heap.size,0,none⟩) (n+q) (grownCap w (n+q) old e)) (w.drew.alloc (.cells (xs.toArray++us.toArray++Builtin.zeroCells z.cells (grownCap w (n+q) old e-(n+q))) e))→
    ∃v' w' bp,(Builtin.append_ #[t,tx] ty #[v,x]).run P w= .ok v' w'∧Mem E m aP w0 bp (up H i ⟨(H i).g+1,some (.own e k (cs++ys))⟩) w'∧Tr E φ H w bp (up H i ⟨(H i).g+1,some (.own e k (cs++ys))⟩) w'∧
     bh bp (up H i ⟨(H i).g+1,some (.own e k (cs++ys))⟩) (.aJ i ((H i).g+1) 0 (n+q)) v':=by
   intro old xs vv ho hxs hrun
   have GK:=grownCap_ge w (n+q) old e
   have hcm:=grownCap_le_maxLen w (n+q) old e aAV
   have HY:=hxs.len
   simp only [List.length_map] at HY
   obtain ⟨d1,d2⟩:=hm.drew
   obtain ⟨bp,p1,p2,p3,p4⟩:=d1.Y8 i (.own e k (cs++ys)) (xs.toArray++us.toArray++Builtin.zeroCells z.cells (grownCap w (n+q) old e-(n+q))) e (grownCap w (n+q) old e) (fun _=>⟨fun b0 hk=>by rw [hb] at hk;cases b0<;>exact hk,_,_,_,hb⟩)
    (.inr ⟨k,_,rfl,hk,by
     simp only [Array.size_append,List.size_toArray,size_zeroCells,hzs,←HY,←qN,hcs,GJ,←Nat.add_mul]
     congr 1;omega,hcm,⟨n+q,hlen⟩,by rw [hlen];exact Nat.mul_le_mul_right _ GK,by
     have e1:(xs.toArray++us.toArray++Builtin.zeroCells z.cells (grownCap w (n+q) old e-(n+q))).toList.take (cs++ys).length=xs++us:=by
      simp only [Array.toList_append]
      exact List.take_left' (by simp [←HY,←qN])
     rw [e1,List.map_append]
     exact d2.l (hxs.app CB)⟩)
   refine ⟨_,_,bp,hrun,p3,d2.trans p4,?_⟩
   have:=CA (φ:=bp) (H:=up H i ⟨(H i).g+1,some (.own e k (cs++ys))⟩) (i:=i) (k:=k) (e:=e) (n:=n+q) (cs:=cs++ys) p1 (by rw [aQ]) hk hlen GK hcm
   rwa [aQ] at this
  cases en:φ i with
  | nil a=>
   rw [en] at hp dz
   obtain ⟨rfl,_,rfl⟩:=hp
   obtain ⟨_,rfl⟩:=dz
   refine grown 0 [] (.slice a 0 0) (by omega) rfl ?_
   have hr:=run_append_grow_src (P:=P) w t tx ty e it z ht hi hz a 0 0 [] (by cases a with | none=>exact run_firstCells_none _ _ _ _ _ | some a=>exact run_firstCells_some _ _ _ a 0 0 [] (by simp) (by simp)) x q us CC (by omega) (by omega) (growslice_fits (by omega) (by rw [hby];exact hbytes))
   simpa using hr
  | blk b c=>
   rw [en] at hp dz
   obtain ⟨a,c',rfl,h3,h4,h5,h6,h7⟩:=hp
   obtain rfl:c'=cp c:=by omega
   have ha:=h6 rfl
   subst ha
   obtain ⟨q0,cur,xs,r1,r2,r3,r4,r5,r6,r7⟩:=dz
   have HY:=r7.len
   simp only [List.length_map] at HY
   by_cases hroom:n+q≤cp c
   ·have Rp:off c+n*it.size+us.length≤cur.size:=by
     rw [hul,r2,hsz,Nat.add_assoc,←Nat.add_mul]
     exact Nat.add_le_add_left (Nat.mul_le_mul_right _ hroom) _
    have hr:=GI (P:=P) w t tx ty e it ht hi b (off c) n (cp c) cur r1 CC hroom Rp
    rw [hsz] at hr Rp
    have nG:=hm.upd (bp:=φ) (w':=w.setRow b (cur.toList.take (off c+n*k)++us++cur.toList.drop (off c+n*k+us.length)).toArray) (H':=up H i ⟨(H i).g+1,some (.own e k (cs++ys))⟩) (fun j=>j=i) (fun j hj=>⟨rfl,dK _ _ _ _ hj⟩)
     (fun j hj=>by subst hj;rw [aQ];exact .inl (Nat.lt_succ_self _)) (fun x hx hne=>setRow_other w b x _ (fun e=>hne i c rfl (by rw [en,e])))
     (fun j b' c2 hj hp=>⟨by rw [setRow_size];exact (hm.lt j b' c2 hp).1,.inr ⟨c2,hp⟩⟩) (fun a a' _ _ _ h1 h2 _ _=>h1.trans h2.symm) (fun j hj _=>by subst hj;rw [aQ,hb];exact ⟨fun b0 hk=>by cases b0<;>exact hk,.inl rfl⟩) (by simp) ⟨rfl,rfl,rfl⟩ (fun tr j b' hj hb'=>by
      subst hj
      rw [aQ] at hb'
      simp only [Option.some.injEq] at hb'
      subst hb'
      rw [en]
      refine ⟨hk,_,_,r1.set _ (by rw [List.size_toArray,List.length_append,List.length_append,List.length_take,List.length_drop,Array.length_toList];omega),?_,r3,⟨n+q,hlen⟩,by rw [hlen];exact Nat.mul_le_mul_right _ hroom,rfl,?_⟩
      ·rw [List.size_toArray,List.length_append,List.length_append,List.length_take,List.length_drop,Array.length_toList,←r2];omega
      ·have e1:((cur.toList.take (off c+n*k)++us++cur.toList.drop (off c+n*k+us.length)).toArray.toList.drop (off c)).take (cs++ys).length=xs++us:=by
        rw [List.toList_toArray,Mz cur.toList us (off c) (n*k) (by rw [Array.length_toList];omega),←hcs,r6]
        exact List.take_left' (by simp [←HY,←qN])
       rw [e1,List.map_append]
       exact tr.l (r7.app CB))
    refine ⟨_,_,φ,hr,nG.1,nG.2,?_⟩
    have:=qw (φ:=φ) (H:=up H i ⟨(H i).g+1,some (.own e k (cs++ys))⟩) (i:=i) (k:=k) (e:=e) (n:=n+q) (cs:=cs++ys) en (by rw [aQ]) hk hlen hroom
    rwa [aQ] at this
   ·refine grown (cp c) xs (.slice (some ⟨b,off c,none⟩) n (cp c)) (by omega) r7 ?_
    have hr:=run_append_grow_src (P:=P) w t tx ty e it z ht hi hz (some ⟨b,off c,none⟩) n (cp c) xs (run_firstCells_some _ _ n ⟨b,off c,none⟩ n (cp c) xs (by rw [←HY,hcs,hsz]) (fun j u hu=>by
     rw [gm]
     show w.cell? _=_
     rw [r1.cell]
     rw [←r6,List.getElem?_take] at hu
     split at hu
     ·rw [List.getElem?_drop] at hu
      simpa using hu
     ·cases hu)) x q us CC (by omega) (by omega) (growslice_fits (by omega) (by rw [hby];exact hbytes))
    simpa using hr
theorem FD{X:Nat→Prop}{R:Ref→Value→Prop}: ∀s:List UInt8,aY X w R ((Ow s).map .d) (s.map fun b=>Value.int .u8 b.toNat)
 | []=>rfl
 | _::t=>⟨_,_,rfl,rfl,FD t⟩
theorem Mem.Y9(hm:Mem E m aP w0 φ H w){P:Program}{tx:TypeId}(hk:(∃e',P.underlying tx=some (.slice e'))∨P.underlying tx=some .string){p:PV}{n k:Nat}{cs:List PD}{v:Value}(h0:0<k)(h:Re H k p=some (n,cs))(hl:cs.length=n*k)(hv:cJ (cV E φ) w (bh φ H) p v):
  ∃us,aY (cV E φ) w (bh φ H) (cs.map .d) us∧Src P k tx v n us w:=by
 unfold Re at h
 split at h
 ·rename_i s
  split at h
  ·rename_i Ai
   subst Ai
   simp only [Option.some.injEq,Prod.mk.injEq] at h
   obtain ⟨rfl,rfl⟩:=h
   have hv:v= .string ⟨s.toArray⟩:=hv
   subst hv
   have hsz:(⟨s.toArray⟩:ByteArray).size=s.length:=by show s.toArray.size=_;simp
   have hb:byteCells ⟨s.toArray⟩=s.map fun b=>Value.int .u8 b.toNat:=rfl
   refine ⟨byteCells ⟨s.toArray⟩,?_,⟨hk,fun _=>?_,?_,?_,?_,fun u hu=>?_⟩⟩
   ·rw [hb];exact FD s
   ·show (Builtin.lenOf (.string ⟨s.toArray⟩)).run P _=_
    rw [←hsz];rfl
   ·rw [←hsz];exact firstCells_string _ _
   ·rw [←hsz];exact firstCells_string _ _
   ·rw [byteCells_length,hsz,Nat.mul_one]
   ·obtain ⟨_,_,rfl⟩:=List.mem_map.1 hu
    rfl
  ·cases h
 ·obtain ⟨a,c,us,rfl,h2,h3,h4,h5,h6⟩:=hm.qM h hv
  have qN:=h5.len
  simp only [List.length_map] at qN
  refine ⟨us,h5,?_⟩
  have h1: ∀u∈us,u.oneCell'=true:=by
   intro u hu
   obtain ⟨j,hj,rfl⟩:=List.getElem_of_mem hu
   obtain ⟨u',r1,r2⟩:=h5.Bw j cs[j] (by simp [qN,hj])
   rw [List.getElem?_eq_getElem hj] at r1;cases r1
   exact dR.one r2
  rcases h6 with rfl | ⟨b,o,rfl,hb,hc⟩
  ·have hn:n=0:=by
    cases n with
    | zero=>rfl
    | succ n=>
     have h9:0<(n+1)*k:=Nat.mul_pos (Nat.succ_pos n) h0
     rw [List.length_nil] at hl
     omega
   subst hn
   have CB:us= []:=List.eq_nil_of_length_eq_zero (by simpa using qN.symm)
   subst CB
   refine ⟨hk,fun _=>rfl,?_,?_,by simp,h1⟩
   ·cases a with
    | none=>exact run_firstCells_none _ _ _ _ _
    | some a=>exact run_firstCells_some _ _ _ a _ c [] (by simp) (by simp)
   ·cases a with
    | none=>exact run_firstCells_none _ _ _ _ _
    | some a=>exact run_firstCells_some _ _ _ a _ c [] (by simp) (by simp)
  ·have hnews: ∀j u,us[j]?=some u→w.cell? ((⟨b,o,none⟩:Addr).add j)=some u:=fun j u hu=>by rw [gm];exact hc j u hu
   exact ⟨hk,fun _=>rfl,run_firstCells_some w k n ⟨b,o,none⟩ n c us (by omega) hnews,run_firstCells_some w.drew k n ⟨b,o,none⟩ n c us (by omega) (by simpa using hnews),by omega,h1⟩
theorem Mem.cut(hm:Mem E m aP w0 φ H w){i l n k:Nat}{e:TypeId}{cs:List PD}(hb:(H i).b=some (.own e k cs)){v:Value}(hln:l=0∨0<n)(hv:bh φ H (.aJ i (H i).g l n) v):
  ∃bp,Mem E m aP w0 bp (up H i ⟨(H i).g+1,some (.own e k ((cs.take ((l+n)*k)).drop (l*k)))⟩) w∧Tr E φ H w bp (up H i ⟨(H i).g+1,some (.own e k ((cs.take ((l+n)*k)).drop (l*k)))⟩) w∧
   bh bp (up H i ⟨(H i).g+1,some (.own e k ((cs.take ((l+n)*k)).drop (l*k)))⟩) (.aJ i ((H i).g+1) 0 n) v:=by
 obtain ⟨_,_,q2⟩:=hv
 obtain ⟨hk,hle,hp⟩:=q2 rfl e k cs hb
 have dz:=hm.rep i _ hb
 have hlen:((cs.take ((l+n)*k)).drop (l*k)).length=n*k:=by
  rw [List.length_drop,List.length_take,Nat.min_eq_left hle,Nat.add_mul];omega
 have core: ∀p:cg,(∀b c,p= .blk b c→ ∃c',φ i= .blk b c')→
   (∀bp,bp i=p→Tr E φ H w bp (up H i ⟨(H i).g+1,some (.own e k ((cs.take ((l+n)*k)).drop (l*k)))⟩) w→Mu (cV E bp) w bp (up H i ⟨(H i).g+1,some (.own e k ((cs.take ((l+n)*k)).drop (l*k)))⟩) p (.own e k ((cs.take ((l+n)*k)).drop (l*k))))→
   Mem E m aP w0 (up φ i p) (up H i ⟨(H i).g+1,some (.own e k ((cs.take ((l+n)*k)).drop (l*k)))⟩) w∧Tr E φ H w (up φ i p) (up H i ⟨(H i).g+1,some (.own e k ((cs.take ((l+n)*k)).drop (l*k)))⟩) w:=by
  intro p h1 h2
  refine hm.upd (bp:=up φ i p) (w':=w) (H':=up H i ⟨(H i).g+1,some (.own e k ((cs.take ((l+n)*k)).drop (l*k)))⟩) (fun j=>j=i) (fun j hj=>⟨dK _ _ _ _ hj,dK _ _ _ _ hj⟩) (fun j hj=>by subst hj;rw [aQ];exact .inl (Nat.lt_succ_self _)) (fun _ _ _=>rfl)
   (fun j b' c' hj hp=>by
    subst hj;rw [aQ] at hp
    obtain ⟨c2,h3⟩:=h1 _ _ hp
    exact ⟨(hm.lt j b' c2 h3).1,.inr ⟨c2,h3⟩⟩) (fun a a' _ _ _ h1 h2 _ _=>h1.trans h2.symm) (fun j hj _=>by subst hj;rw [aQ,hb];exact ⟨fun b0 hk=>by cases b0<;>exact hk,.inr ⟨_,_,_,rfl⟩⟩) (Nat.le_refl _) ⟨rfl,rfl,rfl⟩ (fun tr j b' hj hb'=>by
    subst hj
    rw [aQ] at hb'
    simp only [Option.some.injEq] at hb'
    subst hb'
    have:=h2 _ (aQ φ j p) tr
    rw [aQ];exact this)
 cases en:φ i with
 | nil a=>
  rw [en] at hp dz
  obtain ⟨rfl,rfl,rfl⟩:=hp
  obtain ⟨_,rfl⟩:=dz
  obtain ⟨m1,t1⟩:=core (.nil a) (fun _ _ h=>by cases h) (fun bp h tr=>⟨hk,by simp⟩)
  refine ⟨_,m1,t1,?_⟩
  have:=oJ (φ:=up φ i (.nil a)) (H:=up H i ⟨(H i).g+1,some (.own e k ((([]:List PD).take ((0+0)*k)).drop (0*k)))⟩) (i:=i) (k:=k) (e:=e) (aQ _ _ _) (by rw [aQ];simp) hk
  rwa [aQ] at this
 | blk b c=>
  rw [en] at hp dz
  obtain ⟨a,c',rfl,h3,h4,h5,h6,h7⟩:=hp
  obtain ⟨q0,cur,xs,r1,r2,r3,r4,r5,r6,r7⟩:=dz
  have HY:=r7.len
  simp only [List.length_map] at HY
  have hc':c'≤maxLen:=by omega
  have ha:a=some ⟨b,off c+l*k,none⟩:=by
   rcases hln with rfl | hn
   ·rw [Nat.zero_mul,Nat.add_zero];exact h6 rfl
   ·exact h5 hn
  have e1:cp ((off c+l*k)*MM+c')=c':=axa hc'
  have e2:off ((off c+l*k)*MM+c')=off c+l*k:=apx hc'
  have e3:cp c*k=c'*k+l*k:=by rw [←h4,Nat.add_mul]
  obtain ⟨m1,t1⟩:=core (.blk b ((off c+l*k)*MM+c')) (fun _ _ h=>by cases h;exact ⟨_,en⟩) (fun bp h tr=>by
   refine ⟨hk,cur,(xs.take ((l+n)*k)).drop (l*k),r1,by rw [e1,e2,r2,e3];omega,by rw [e1];exact hc',⟨n,hlen⟩,by rw [hlen,e1];exact Nat.mul_le_mul_right _ h3,?_,?_⟩
   ·rw [hlen,e2,←r6,List.take_take,Nat.min_eq_left hle,List.drop_take,List.drop_drop,Nat.add_mul,Nat.add_sub_cancel_left]
   ·rw [List.map_drop,List.map_take]
    exact tr.l ((r7.take _).drop _))
  refine ⟨_,m1,t1,?_⟩
  have:=qw (φ:=up φ i (.blk b ((off c+l*k)*MM+c'))) (H:=up H i ⟨(H i).g+1,some (.own e k ((cs.take ((l+n)*k)).drop (l*k)))⟩) (i:=i) (k:=k) (e:=e) (n:=n) (cs:=(cs.take ((l+n)*k)).drop (l*k)) (aQ _ _ _) (by rw [aQ]) hk hlen (by rw [e1];exact h3)
  rw [e1,e2,aQ] at this
  rw [ha];exact this
end
end Go.Proofs.YtimbfadnabfabaaGreatDoor.Pm
