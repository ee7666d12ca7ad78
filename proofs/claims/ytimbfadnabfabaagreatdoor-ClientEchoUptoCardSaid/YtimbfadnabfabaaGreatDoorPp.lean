/- The small machine: the memory of its own, written and grown. No program is named here. -/
import Derived.Test.YtimbfadnabfabaaGreatDoorPo
import Derived.Deep.AppendSrc
namespace Go.Proofs.YtimbfadnabfabaaGreatDoor.Pm
open Go.RowKit

section
variable {E : Nat → Prop} {m : List bM} {aQ φ : Nat → cr} {H : Nat → cw} {w0 w : World}

theorem Mem.iA(hm:Mem E m aQ w0 φ H w){i g:Nat}{b:bM}(hl:look H i g=some b):g=(H i).g∧(H i).b=some b:=by
 unfold look at hl
 split at hl
 ·exact ⟨‹_›,hl⟩
 ·cases hl
theorem Mem.ZM(hm:Mem E m aQ w0 φ H w)(i:Nat)(b:bM)(vs:Array Value)(T:TypeId)(c:Nat)
  (hk9:i<m.length→(∀b0,yx b0 (H i).b→yx b0 (some b))∧ ∃e k cs,(H i).b=some (.own e k cs))
  (hb:(∃(cs:List PV) (us:Array Value),b= .box cs∧(wh w.heap.size us T= .cells vs T (0,0)∧off c=0)∧aY (cW E φ) w (bk φ H) cs us.toList)∨
   (∃k cs,b= .own T k cs∧0<k∧vs.size=c*k∧c≤maxLen∧(∃n,cs.length=n*k)∧cs.length≤c*k∧aY (cW E φ) w (bk φ H) (cs.map .d) (vs.toList.take cs.length))):
  ∃bq,bq i= .blk w.heap.size c∧(∀j,j≠i→bq j=φ j)∧Mem E m aQ w0 bq (up H i ⟨(H i).g+1,some b⟩) (w.alloc (.cells vs T))∧Tr E φ H w bq (up H i ⟨(H i).g+1,some b⟩) (w.alloc (.cells vs T)):=by
 refine ⟨up φ i (.blk w.heap.size c),aR _ _ _,fun j hj=>dM _ _ _ _ hj,?_⟩
 refine hm.upd (fun j=>j=i) (fun j hj=>⟨dM _ _ _ _ hj,dM _ _ _ _ hj⟩) (fun j hj=>by subst hj;rw [aR];exact .inl (Nat.lt_succ_self _)) (fun b hb _=>Below.heap_alloc w _ b hb)
  (fun j b' c' hj hp=>by subst hj;rw [aR] at hp;cases hp;exact ⟨by simp,.inl (Nat.le_refl _)⟩) (fun a a' _ _ _ h1 h2 _ _=>h1.trans h2.symm) (fun j hj uH=>by subst hj;rw [aR];exact ⟨(hk9 uH).1,.inr (hk9 uH).2⟩) (by simp) ⟨rfl,rfl,rfl⟩ ?_
 intro tr j b' hj hb'
 subst hj
 rw [aR] at hb'
 simp only [Option.some.injEq] at hb'
 subst hb'
 rw [aR]
 have uI:=heap_alloc_new w (.cells vs T)
 rcases hb with ⟨cs,us,rfl,kZ,hr⟩ | ⟨k,cs,rfl,h0,h1,h2,h3,h4,hr⟩
 ·exact ⟨us,T,⟨by rw [kZ.1];exact uI,kZ.2⟩,tr.l hr⟩
 ·have o0:=Ic h2
  have c0:=I1 h2
  exact ⟨h0,vs,vs.toList.take cs.length,.of uI,by rw [o0,c0,Nat.zero_add];exact h1,by rw [c0];exact h2,h3,by rw [c0];exact h4,by rw [o0];rfl,tr.l hr⟩
theorem Mem.aB8(hm:Mem E m aQ w0 φ H w)(i:Nat)(hi8:8≤i)(k:Nat)(cs:List PD)(vs:Array Value)(T:TypeId)(c:Nat)(f:Nat×Nat)(hf:f=(0,0)∨vs.size≤f.1)
  (h0:0<k) (h1:vs.size=c*k) (h2:c≤maxLen) (h3: ∃n,cs.length=n*k) (h4:cs.length≤c*k) (hr:aY (cW E φ) w (bk φ H) (cs.map .d) (vs.toList.take cs.length)):
  ∃bq,bq i= .blk w.heap.size c∧Mem E m aQ w0 bq (up H i ⟨(H i).g+1,some (.own T k cs)⟩) (w.alloc (.cells vs T f))∧Tr E φ H w bq (up H i ⟨(H i).g+1,some (.own T k cs)⟩) (w.alloc (.cells vs T f)):=by
 refine ⟨up φ i (.blk w.heap.size c),aR _ _ _,?_⟩
 refine hm.upd (fun j=>j=i) (fun j hj=>⟨dM _ _ _ _ hj,dM _ _ _ _ hj⟩) (fun j hj=>by subst hj;rw [aR];exact .inl (Nat.lt_succ_self _)) (fun b hb _=>Below.heap_alloc w _ b hb)
  (fun j b' c' hj hp=>by subst hj;rw [aR] at hp;cases hp;exact ⟨by simp,.inl (Nat.le_refl _)⟩) (fun a a' _ _ _ h1 h2 _ _=>h1.trans h2.symm) (fun j hj uH=>by have:=hm.m8;omega) (by simp) ⟨rfl,rfl,rfl⟩ ?_
 intro tr j b' hj hb'
 subst hj
 rw [aR] at hb'
 simp only [Option.some.injEq] at hb'
 subst hb'
 rw [aR]
 have o0:=Ic h2
 have c0:=I1 h2
 exact ⟨h0,vs,vs.toList.take cs.length,⟨f,heap_alloc_new w (.cells vs T f),hf⟩,by rw [o0,c0,Nat.zero_add];exact h1,by rw [c0];exact h2,h3,by rw [c0];exact h4,by rw [o0];rfl,tr.l hr⟩
theorem Mem.new(hm:Mem E m aQ w0 φ H w)(i:Nat)(hi8:8≤i)(b:bM)(vs:Array Value)(T:TypeId)(c:Nat)
  (hb:(∃(cs:List PV) (us:Array Value),b= .box cs∧(wh w.heap.size us T= .cells vs T (0,0)∧off c=0)∧aY (cW E φ) w (bk φ H) cs us.toList)∨
   (∃k cs,b= .own T k cs∧0<k∧vs.size=c*k∧c≤maxLen∧(∃n,cs.length=n*k)∧cs.length≤c*k∧aY (cW E φ) w (bk φ H) (cs.map .d) (vs.toList.take cs.length))):
  ∃bq,bq i= .blk w.heap.size c∧(∀j,j≠i→bq j=φ j)∧Mem E m aQ w0 bq (up H i ⟨(H i).g+1,some b⟩) (w.alloc (.cells vs T))∧Tr E φ H w bq (up H i ⟨(H i).g+1,some b⟩) (w.alloc (.cells vs T)):=
 hm.ZM i b vs T c (fun h=>by have:=hm.m8;omega) hb
theorem Mem.Pq(hm:Mem E m aQ w0 φ H w)(i:Nat)(hi8:8≤i)(e k:Nat)(hk:0<k)(a:Option Addr):
  ∃bq,bq i= .nil a∧Mem E m aQ w0 bq (up H i ⟨(H i).g+1,some (.own e k [])⟩) w∧Tr E φ H w bq (up H i ⟨(H i).g+1,some (.own e k [])⟩) w:=by
 refine ⟨up φ i (.nil a),aR _ _ _,?_⟩
 refine hm.upd (fun j=>j=i) (fun j hj=>⟨dM _ _ _ _ hj,dM _ _ _ _ hj⟩) (fun j hj=>by subst hj;rw [aR];exact .inl (Nat.lt_succ_self _)) (fun _ _ _=>rfl)
  (fun j b' c' hj hp=>by subst hj;rw [aR] at hp;cases hp) (fun a a' _ _ _ h1 h2 _ _=>h1.trans h2.symm) (fun j hj uH=>by have:=hm.m8;omega) (Nat.le_refl _) ⟨rfl,rfl,rfl⟩ ?_
 intro tr j b' hj hb'
 subst hj
 rw [aR] at hb'
 simp only [Option.some.injEq] at hb'
 subst hb'
 rw [aR]
 exact ⟨hk,rfl⟩
theorem Dj{φ:Nat→cr}{H:Nat→cw}{i b c:Nat}(hp:φ i= .blk b c)(h0:off c=0)(o:Nat):bk φ H (.ptr i (H i).g o) (.pointer (some ⟨b,o,none⟩)):=
 ⟨⟨_,_,rfl⟩,Nat.le_refl _,fun _ _=>⟨b,c,hp,by rw [h0,Nat.zero_add]⟩⟩
theorem rq{φ:Nat→cr}{H:Nat→cw}{i b c n k:Nat}{e:TypeId}{cs:List PD}(hp:φ i= .blk b c)(hb:(H i).b=some (.own e k cs))(hk:0<k)(hl:cs.length=n*k)(hn:n≤cp c):
  bk φ H (.aL i (H i).g 0 n) (.slice (some ⟨b,off c,none⟩) n (cp c)):=
 ⟨⟨_,_,_,rfl⟩,Nat.le_refl _,fun _ e' k' cs' h=>by
  rw [hb] at h;cases h
  refine ⟨hk,by rw [Nat.zero_add,hl];exact Nat.le_refl _,?_⟩
  rw [hp]
  exact ⟨_,cp c,rfl,hn,rfl,fun _=>by simp,fun _=>rfl,by simp⟩⟩
theorem Dk{φ:Nat→cr}{H:Nat→cw}{i b c n k:Nat}{e:TypeId}{cs:List PD}(hp:φ i= .blk b c)(hb:(H i).b=some (.own e k cs))(hk:0<k)(hl:cs.length=n*k)(hn:n≤c)(hc:c≤maxLen):
  bk φ H (.aL i (H i).g 0 n) (.slice (some ⟨b,0,none⟩) n c):=by
 have:=rq hp hb hk hl (by rw [I1 hc];exact hn)
 rwa [I1 hc,Ic hc] at this
theorem pR{φ:Nat→cr}{H:Nat→cw}{i k:Nat}{e:TypeId}{a:Option Addr}(hp:φ i= .nil a)(hb:(H i).b=some (.own e k []))(hk:0<k):bk φ H (.aL i (H i).g 0 0) (.slice a 0 0):=
 ⟨⟨_,_,_,rfl⟩,Nat.le_refl _,fun _ e' k' cs' h=>by
  rw [hb] at h;cases h
  refine ⟨hk,by simp,?_⟩
  rw [hp]
  exact ⟨rfl,rfl,rfl⟩⟩
theorem pS{α:Type}(cs:List α)(o:Nat)(new:List α)(h:o+new.length≤cs.length):(cg cs o new).length=cs.length:=by
 simp [cg];omega
theorem aY.cg{X:Nat→Prop}{w:World}{R:Ref→Value→Prop}{cs new:List PV}{vs news:List Value}(h:aY X w R cs vs)(k:aY X w R new news)(o:Nat):
  aY X w R (cg cs o new) (vs.take o++news++vs.drop (o+news.length)):=by
 unfold Pm.cg
 rw [←k.len]
 exact ((h.take o).app k).app (h.drop _)
theorem Pt{α:Type}(l:List α)(L o:Nat)(new:List α)(h:o+new.length≤L)(hL:L≤l.length):
  (l.take o++new++l.drop (o+new.length)).take L=(l.take L).take o++new++(l.take L).drop (o+new.length):=by
 have e1:l.take o=(l.take L).take o:=by rw [List.take_take,Nat.min_eq_left (by omega)]
 have e2:l.drop (o+new.length)=(l.take L).drop (o+new.length)++l.drop L:=by
  conv=>lhs;rw [←List.take_append_drop L l]
  rw [List.drop_append_of_le_length (by simp;omega)]
 rw [e1,e2,←List.append_assoc]
 exact List.take_left' (by simp;omega)
theorem R4{α β:Type}(f:α→β)(cs:List α)(o:Nat)(new:List α):(cg cs o new).map f=cg (cs.map f) o (new.map f):=by
 simp [cg,List.map_take,List.map_drop]
theorem lN(P:Program)(g o:Nat)(t:TypeId): ∀(vs:List Value) (i:Nat) (cur:Array Value) (w:World),j_ w g cur t→o+i+vs.length≤cur.size→(∀v∈vs,v.oneCell'=true)→
  (storeCells ⟨g,o,none⟩ vs i).run P w= .ok () (w.setRow g (cur.toList.take (o+i)++vs++cur.toList.drop (o+i+vs.length)).toArray)
 | [],i,cur,w,hg,_,_=>by
  simp only [storeCells,List.append_nil,List.length_nil,Nat.add_zero,List.take_append_drop,Array.toArray_toList]
  obtain ⟨f,h1,_⟩:=hg
  rw [setRow_self w g cur t f h1]
  rfl
 | v::rest,i,cur,w,hg,hl,h1=>by
  have hi:o+i<cur.size:=by simp at hl;omega
  have aB9:(⟨g,o,none⟩:Addr).add i=⟨g,o+i,none⟩:=by unfold Addr.add;split<;>simp_all
  have hcell:w.cell? ⟨g,o+i,none⟩=some cur[o+i]:=by rw [hg.cell];simp [hi]
  have aB_:w.frozen? ⟨g,o+i,none⟩=false:=hg.free _ hi
  have aCa:w.setCell ⟨g,o+i,none⟩ v=w.setRow g (cur.setIfInBounds (o+i) v):=by
   obtain ⟨f,h2,_⟩:=hg
   exact setCell_eq_setRow w g (o+i) cur t f v h2
  have hst:(store ((⟨g,o,none⟩:Addr).add i) v).run P w= .ok () (w.setRow g (cur.setIfInBounds (o+i) v)):=by
   rw [aB9,run_store P w _ v _ (h1 v (by simp)),hcell]
   simp [aB_,aCa]
  have ih:=lN P g o t rest (i+1) (cur.setIfInBounds (o+i) v) (w.setRow g (cur.setIfInBounds (o+i) v)) (hg.set _ (by simp)) (by simp at hl ⊢;omega) (fun x hx=>h1 x (by simp [hx]))
  simp only [storeCells,Sem.run_bind,hst,Result.andThen_ok,ih,setRow_setRow]
  congr 3
  have e:=list_seg_step cur.toList (o+i) v rest (by simp at hl ⊢;omega)
  simpa [Array.toList_setIfInBounds,Nat.add_assoc] using e
theorem HF{P:Program}(w:World)(t tx ty e:TypeId)(i:TypeInfo)(ht:P.underlying t=some (.slice e))(hi:P.info? e=some i)
  (g o I7 aiX:Nat) (cur:Array Value) (hg:j_ w g cur e) {x:Value} {m:Nat} {news:List Value} (hs:Src P i.size tx x m news w)
  (hroom:I7+m≤aiX) (R5:o+I7*i.size+news.length≤cur.size):
  (Builtin.append_ #[t,tx] ty #[.slice (some ⟨g,o,none⟩) I7 aiX,x]).run P w=
   .ok (.slice (some ⟨g,o,none⟩) (I7+m) aiX) (w.setRow g (cur.toList.take (o+I7*i.size)++news++cur.toList.drop (o+I7*i.size+news.length)).toArray):=by
 have hst:=lN P g (o+I7*i.size) e news 0 cur w hg (by simpa using R5) hs.one
 simp only [Nat.add_zero] at hst
 rcases hs.kind with ⟨e',hk⟩ | hk<;>simp [Builtin.append_,run_underlying ht,run_underlying hk,sizeOf,typeInfo,hi,hs.len,hroom,hs.cells,gC,hst]
theorem Nl{α:Type}(l news:List α)(f o:Nat)(h:f+o≤l.length):(l.take (f+o)++news++l.drop (f+o+news.length)).drop f=(l.drop f).take o++news++(l.drop f).drop (o+news.length):=by
 rw [List.append_assoc,List.drop_append_of_le_length (by rw [List.length_take];omega),List.drop_take,List.drop_drop,show f+o-f=o by omega,List.append_assoc]
 congr 3
 omega
theorem Mem.aiY(hm:Mem E m aQ w0 φ H w){i:Nat}{b b':bM}(hb:(H i).b=some b){new:List PV}{news:List Value}(hr:aY (cW E φ) w (bk φ H) new news)(h1: ∀u∈news,u.oneCell'=true)(h0:0<new.length)(o:Nat)
  (VT:(∃cs,b= .box cs∧b'= .box (cg cs o new)∧o+new.length≤cs.length∧gW cs=true∧gW (cg cs o new)=true)∨(∃e k cs ds,b= .own e k cs∧b'= .own e k (cg cs o ds)∧new=ds.map .d∧o+new.length≤cs.length))
  (P:Program): ∃x c,φ i= .blk x c∧ ∃w',(storeCells ⟨x,off c+o,none⟩ news).run P w= .ok () w'∧Mem E m aQ w0 φ (up H i ⟨(H i).g,some b'⟩) w'∧Tr E φ H w φ (up H i ⟨(H i).g,some b'⟩) w':=by
 have dy:=hm.rep i b hb
 have hlen:=hr.len
 cases hp:φ i with
 | nil a=>
  rw [hp] at dy
  rcases VT with ⟨cs,rfl,rfl,hl,_⟩ | ⟨e,k,cs,ds,rfl,rfl,rfl,hl⟩
  ·exact dy.elim
  ·obtain ⟨_,rfl⟩:=dy
   rw [List.length_nil] at hl
   omega
 | blk x c=>
  rw [hp] at dy
  refine ⟨x,c,rfl,?_⟩
  have key: ∀(q:Nat) (cur:Array Value) (T:TypeId),j_ w x cur T→q+news.length≤cur.size→
    (∀tr:Tr E φ H w φ (up H i ⟨(H i).g,some b'⟩) (w.setRow x (cur.toList.take (q+0)++news++cur.toList.drop (q+0+news.length)).toArray),
     Ng (cW E φ) (w.setRow x (cur.toList.take (q+0)++news++cur.toList.drop (q+0+news.length)).toArray) φ (up H i ⟨(H i).g,some b'⟩) (.blk x c) b')→
    like (some b) (some b')→
    ∃w',(storeCells ⟨x,q,none⟩ news).run P w= .ok () w'∧Mem E m aQ w0 φ (up H i ⟨(H i).g,some b'⟩) w'∧Tr E φ H w φ (up H i ⟨(H i).g,some b'⟩) w':=by
   intro q cur T R6 R5 uI ay9
   refine ⟨_,lN P x q T news 0 cur w R6 (by omega) h1,?_⟩
   refine hm.upd (fun j=>j=i) (fun j hj=>⟨rfl,dM _ _ _ _ hj⟩) (fun j hj=>by subst hj;rw [aR];exact .inr ⟨rfl,rfl,by rw [hb];exact ay9⟩)
    (fun k hk hne=>setRow_other w x k _ (fun e=>hne i c rfl (by rw [hp,e])))
    (fun j k c' hj hk=>⟨by rw [setRow_size];exact (hm.lt j k c' hk).1,.inr ⟨c',hk⟩⟩) (fun a a' _ _ _ h1 h2 _ _=>h1.trans h2.symm) (fun j hj _=>by
     subst hj
     rw [aR,hb]
     exact ⟨fun b0 hk=>by
      rcases VT with ⟨cs,rfl,rfl,_⟩ | ⟨e,k,cs,ds,rfl,rfl,_⟩<;>cases b0<;>first | exact hk | exact hk.elim,.inl rfl⟩) (by simp) ⟨rfl,rfl,rfl⟩ ?_
   intro tr j b2 hj hb2
   subst hj
   rw [aR] at hb2
   simp only [Option.some.injEq] at hb2
   subst hb2
   rw [hp]
   exact uI tr
  rcases VT with ⟨cs,rfl,rfl,hl,Bl,hk2⟩ | ⟨e,k,cs,ds,rfl,rfl,rfl,hl⟩
  ·obtain ⟨vs,T,⟨q1,q0⟩,q2⟩:=dy
   have hv:=q2.len
   rw [mo T Bl q2] at q1
   rw [q0,Nat.zero_add]
   refine key o vs T (.of q1) (by simp at hv;omega) (fun tr=>⟨(vs.toList.take (o+0)++news++vs.toList.drop (o+0+news.length)).toArray,T,⟨by rw [mo T hk2 (show aY (cW E φ) w (bk φ H) _ _ from by rw [List.toList_toArray,Nat.add_zero];exact q2.cg hr o)];exact setRow_heap w x vs _ T _ q1,q0⟩,?_⟩) trivial
   simp only [Nat.add_zero]
   exact tr.l (q2.cg hr o)
  ·obtain ⟨q0,cur,xs,q1,q2,q3,q4,q5,q6,q7⟩:=dy
   have qR:xs.length=cs.length:=by have:=q7.len;simp at this;omega
   have hcs:cs.length≤(cur.toList.drop (off c)).length:=by have h9:cur.toList.length=cur.size:=Array.length_toList;rw [List.length_drop];omega
   simp only [List.length_map] at hl hlen
   have aiZ:(cur.toList.take (off c+o+0)++news++cur.toList.drop (off c+o+0+news.length)).toArray.size=cur.size:=by
    rw [List.size_toArray,List.length_append,List.length_append,List.length_take,List.length_drop,Array.length_toList]
    omega
   refine key (off c+o) cur e q1 (by omega) (fun tr=>⟨q0,_,_,q1.set _ aiZ,?_,q3,?_,?_,rfl,?_⟩) ⟨rfl,rfl,(pS cs o ds hl).symm⟩
   ·rw [aiZ];exact q2
   ·rw [pS cs o ds hl];exact q4
   ·rw [pS cs o ds hl];exact q5
   ·rw [pS cs o ds hl,R4]
    have:=tr.l (q7.cg hr o)
    rw [←q6] at this
    rw [List.toList_toArray,Nat.add_zero,Nl cur.toList news (off c) o (by have h9:cur.toList.length=cur.size:=Array.length_toList;omega),Pt _ _ _ _ (by omega) hcs]
    exact this

theorem I8{α:Type}(f:Nat→α)(i:Nat)(x y:α):up (up f i x) i y=up f i y:=by funext j;unfold up;split<;>rfl
theorem Mem.rN(hm:Mem E m aQ w0 φ H w){p:PV}{n:Nat}{cs:List PD}{v:Value}(h:fP H p=some (n,cs))(hv:cK (cW E φ) w (bk φ H) p v):
  ∃a c us,v= .slice a n c∧n≤c∧c≤maxLen∧(a=none→c=0)∧aY (cW E φ) w (bk φ H) (cs.map .d) us∧(cs= []∨ ∃b o,a=some ⟨b,o,none⟩∧b<w.heap.size∧ ∀j u,us[j]?=some u→w.cell? ⟨b,o+j,none⟩=some u):=by
 have dat:dS (cW E φ) w (.sl n cs) v→ ∃a c us,v= .slice a n c∧n≤c∧c≤maxLen∧(a=none→c=0)∧aY (cW E φ) w (bk φ H) (cs.map .d) us∧(cs= []∨ ∃b o,a=some ⟨b,o,none⟩∧b<w.heap.size∧ ∀j u,us[j]?=some u→w.cell? ⟨b,o+j,none⟩=some u):=by
  intro hv
  obtain ⟨a,c,rfl,h1,h2,h3,h4⟩:=hv
  rcases h4 with rfl | ⟨b,o,e,hx,hl,hc⟩
  ·exact ⟨a,c,[],rfl,h1,h2,h3,rfl,.inl rfl⟩
  ·have hall: ∀(ds:List PD) (o:Nat),fu (cW E φ) w ds b o→ ∃us,aY (cW E φ) w (bk φ H) (ds.map .d) us∧ ∀j u,us[j]?=some u→w.cell? ⟨b,o+j,none⟩=some u:=by
    intro ds
    induction ds with
    | nil=>exact fun o _=>⟨[],rfl,fun j u hu=>by simp at hu⟩
    | cons x ds ih=>
     intro o ⟨⟨u,q1,q2⟩,q3⟩
     obtain ⟨us,r1,r2⟩:=ih (o+1) q3
     refine ⟨u::us,⟨u,us,rfl,q2,r1⟩,fun j u' hu=>?_⟩
     cases j with
     | zero=>simp at hu;subst hu;exact q1
     | succ j=>have:=r2 j u' (by simpa using hu);rwa [show o+(j+1)=o+1+j by omega]
   obtain ⟨us,r1,r2⟩:=hall cs o hc
   exact ⟨a,c,us,rfl,h1,h2,h3,r1,.inr ⟨b,o,e,hl,r2⟩⟩
 unfold fP at h
 split at h
 ·cases h
  exact dat hv
 ·cases h
  obtain ⟨a,rfl⟩:=hv
  exact ⟨a,0,[],rfl,Nat.le_refl _,by simp,fun _=>rfl,rfl,.inl rfl⟩
 ·cases h
  exact dat hv.1
 ·rename_i i g l n'
  split at h
  ·rename_i e k ds hl
   cases h
   obtain ⟨hg,hb⟩:=hm.iA hl
   obtain ⟨_,_,q2⟩:=hv
   obtain ⟨hk,hle,hp⟩:=q2 hg e k ds hb
   have dy:=hm.rep i _ hb
   cases d_:φ i with
   | nil a=>
    rw [d_] at hp
    obtain ⟨rfl,rfl,rfl⟩:=hp
    exact ⟨a,0,[],rfl,Nat.le_refl _,by simp,fun _=>rfl,by simp;rfl,.inl (by simp)⟩
   | blk b c=>
    rw [d_] at hp dy
    obtain ⟨a,c',rfl,h1,h2,h3,h4,h5⟩:=hp
    obtain ⟨q0,cur,xs,r1,r2,r3,r4,r5,r6,r7⟩:=dy
    refine ⟨a,c',(xs.drop (l*k)).take (n*k),rfl,h1,by omega,fun e=>absurd e h5,?_,?_⟩
    ·rw [List.map_take,List.map_drop];exact (r7.drop _).take _
    ·by_cases hn:0<n
     ·refine .inr ⟨b,off c+l*k,h3 hn,(hm.lt i b c d_).1,fun j u hu=>?_⟩
      rw [r1.cell]
      rw [List.getElem?_take] at hu
      split at hu
      ·rw [List.getElem?_drop,←r6,List.getElem?_take] at hu
       split at hu
       ·rw [List.getElem?_drop,←Nat.add_assoc] at hu
        simpa using hu
       ·cases hu
      ·cases hu
     ·have:n=0:=by omega
      subst this
      exact .inl (by simp)
  ·cases h
 ·cases h
theorem Fu(P:Program)(w:World)(t tx ty e:TypeId)(i:TypeInfo)(ht:P.underlying t=some (.slice e))(hi:P.info? e=some i)(a:Option Addr)(n c:Nat)(hn:n≤c){x:Value}(hs:Src P i.size tx x 0 [] w):
  (Builtin.append_ #[t,tx] ty #[.slice a n c,x]).run P w= .ok (.slice a n c) w:=by
 rcases hs.kind with ⟨e',hk⟩ | hk<;>cases a<;>simp [Builtin.append_,run_underlying ht,run_underlying hk,sizeOf,typeInfo,hi,hs.len,hn,hs.cells,storeCells]
set_option maxHeartbeats 2000000 in
theorem Mem.app(hm:Mem E m aQ w0 φ H w)(P:Program){i n k q bytes:Nat}{e t tx ty:TypeId}{it:TypeInfo}{z:Value}{cs ys:List PD}(hb:(H i).b=some (.own e k cs))(hcs:cs.length=n*k)(HJ:ys.length=q*k)
  (hbytes:(n+q)*bytes≤140737488355328) (hb1:1≤bytes) (ht:P.underlying t=some (.slice e)) (hi:P.info? e=some it) (hz:it.zero=some z) (hsz:it.size=k) (hby:it.bytes=bytes) (hzs:z.cells.size=k)
  {v x:Value} (hv:bk φ H (.aL i (H i).g 0 n) v)
  (hx: ∃us,aY (cW E φ) w (bk φ H) (ys.map .d) us∧Src P k tx x q us w):
  ∃v' w' bq,(Builtin.append_ #[t,tx] ty #[v,x]).run P w= .ok v' w'∧Mem E m aQ w0 bq (up H i ⟨(H i).g+1,some (.own e k (cs++ys))⟩) w'∧Tr E φ H w bq (up H i ⟨(H i).g+1,some (.own e k (cs++ys))⟩) w'∧
   bk bq (up H i ⟨(H i).g+1,some (.own e k (cs++ys))⟩) (.aL i ((H i).g+1) 0 (n+q)) v':=by
 obtain ⟨us,Dl,Dm⟩:=hx
 have rO:=Dl.len
 simp only [List.length_map] at rO
 obtain ⟨_,_,q2⟩:=hv
 obtain ⟨hk,_,hp⟩:=q2 rfl e k cs hb
 have dy:=hm.rep i _ hb
 have hle:n+q≤140737488355328:=Nat.le_trans (by have:=Nat.mul_le_mul_left (n+q) hb1;simpa using this) hbytes
 have aCc:n+q≤maxLen:=by unfold maxLen;omega
 have hlen:(cs++ys).length=(n+q)*k:=by rw [List.length_append,hcs,HJ,Nat.add_mul]
 have h1:=Dm.one
 by_cases hq:q=0
 ·subst hq
  have hy:ys= []:=List.eq_nil_of_length_eq_zero (by simpa using HJ)
  subst hy
  have aCd:us= []:=List.eq_nil_of_length_eq_zero (by simpa using rO.symm)
  subst aCd
  have same: ∀(vv:Value),v=vv→(∃a c,vv= .slice a n c∧n≤c)→(Tr E φ H w φ (up H i ⟨(H i).g+1,some (.own e k (cs++ []))⟩) w→bk φ (up H i ⟨(H i).g+1,some (.own e k (cs++ []))⟩) (.aL i ((H i).g+1) 0 (n+0)) vv)→
    ∃v' w' bq,(Builtin.append_ #[t,tx] ty #[v,x]).run P w= .ok v' w'∧Mem E m aQ w0 bq (up H i ⟨(H i).g+1,some (.own e k (cs++ []))⟩) w'∧Tr E φ H w bq (up H i ⟨(H i).g+1,some (.own e k (cs++ []))⟩) w'∧
   bk bq (up H i ⟨(H i).g+1,some (.own e k (cs++ []))⟩) (.aL i ((H i).g+1) 0 (n+0)) v':=by
   rintro vv rfl ⟨a,c,rfl,hnc⟩ aCe
   have oc:=hm.upd (bq:=φ) (w':=w) (H':=up H i ⟨(H i).g+1,some (.own e k (cs++ []))⟩) (fun j=>j=i) (fun j hj=>⟨rfl,dM _ _ _ _ hj⟩) (fun j hj=>by subst hj;rw [aR];exact .inl (Nat.lt_succ_self _)) (fun _ _ _=>rfl)
    (fun j b' c' hj hp=>⟨(hm.lt j b' c' hp).1,.inr ⟨c',hp⟩⟩) (fun a a' _ _ _ h1 h2 _ _=>h1.trans h2.symm) (fun j hj _=>by subst hj;rw [aR,hb];exact ⟨fun b0 hk=>by cases b0<;>exact hk,.inl rfl⟩) (Nat.le_refl _) ⟨rfl,rfl,rfl⟩ (fun tr j b' hj hb'=>by
     subst hj
     rw [aR] at hb'
     simp only [Option.some.injEq] at hb'
     subst hb'
     rw [List.append_nil]
     rw [List.append_nil] at tr
     generalize φ j=pj at*
     cases pj with
     | nil a=>exact dy
     | blk b c=>
      obtain ⟨q0,cur,xs,r1,r2,r3,r4,r5,r6,r7⟩:=dy
      exact ⟨q0,cur,xs,r1,r2,r3,r4,r5,r6,tr.l r7⟩)
   exact ⟨_,w,φ,Fu P w t tx ty e it ht hi a n c hnc (by rw [hsz];exact Dm),oc.1,oc.2,aCe oc.2⟩
  cases d_:φ i with
  | nil a=>
   rw [d_] at hp dy
   obtain ⟨rfl,_,rfl⟩:=hp
   refine same _ rfl ⟨a,0,rfl,Nat.le_refl _⟩ fun _=>?_
   have:=pR (φ:=φ) (H:=up H i ⟨(H i).g+1,some (.own e k (cs++ []))⟩) (i:=i) (k:=k) (e:=e) d_ (by rw [aR,dy.2];rfl) hk
   rwa [aR] at this
  | blk b c=>
   rw [d_] at hp
   obtain ⟨a,c',rfl,h3,h4,h5,h6,h7⟩:=hp
   obtain rfl:c'=cp c:=by omega
   have ha:=h6 rfl
   subst ha
   refine same _ rfl ⟨_,cp c,rfl,h3⟩ fun _=>?_
   have:=rq (φ:=φ) (H:=up H i ⟨(H i).g+1,some (.own e k (cs++ []))⟩) (i:=i) (k:=k) (e:=e) (n:=n) (cs:=cs++ []) d_ (by rw [aR]) hk (by simpa using hcs) h3
   rwa [aR] at this
 · --something is appended
  have Dm:Src P it.size tx x q us w:=by rw [hsz];exact Dm
  have hul:us.length=q*it.size:=by rw [←rO,HJ,hsz]
  -- a new block
  have grown: ∀(old:Nat) (xs:List Value) (vv:Value),old<n+q→aY (cW E φ) w (bk φ H) (cs.map .d) xs→
    (Builtin.append_ #[t,tx] ty #[v,x]).run P w= .ok (.slice (some ⟨w.heap.size,0,none⟩) (n+q) (grownCap w (n+q) old e)) (w.drew.alloc (.cells (xs.toArray++us.toArray++Builtin.zeroCells z.cells (grownCap w (n+q) old e-(n+q))) e))→
    ∃v' w' bq,(Builtin.append_ #[t,tx] ty #[v,x]).run P w= .ok v' w'∧Mem E m aQ w0 bq (up H i ⟨(H i).g+1,some (.own e k (cs++ys))⟩) w'∧Tr E φ H w bq (up H i ⟨(H i).g+1,some (.own e k (cs++ys))⟩) w'∧
     bk bq (up H i ⟨(H i).g+1,some (.own e k (cs++ys))⟩) (.aL i ((H i).g+1) 0 (n+q)) v':=by
   intro old xs vv ho hxs hrun
   have HL:=grownCap_ge w (n+q) old e
   have hcm:=grownCap_le_maxLen w (n+q) old e aCc
   have I9:=hxs.len
   simp only [List.length_map] at I9
   obtain ⟨d1,d2⟩:=hm.drew
   obtain ⟨bq,p1,p2,p3,p4⟩:=d1.ZM i (.own e k (cs++ys)) (xs.toArray++us.toArray++Builtin.zeroCells z.cells (grownCap w (n+q) old e-(n+q))) e (grownCap w (n+q) old e) (fun _=>⟨fun b0 hk=>by rw [hb] at hk;cases b0<;>exact hk,_,_,_,hb⟩)
    (.inr ⟨k,_,rfl,hk,by
     simp only [Array.size_append,List.size_toArray,size_zeroCells,hzs,←I9,←rO,hcs,HJ,←Nat.add_mul]
     congr 1;omega,hcm,⟨n+q,hlen⟩,by rw [hlen];exact Nat.mul_le_mul_right _ HL,by
     have e1:(xs.toArray++us.toArray++Builtin.zeroCells z.cells (grownCap w (n+q) old e-(n+q))).toList.take (cs++ys).length=xs++us:=by
      simp only [Array.toList_append]
      exact List.take_left' (by simp [←I9,←rO])
     rw [e1,List.map_append]
     exact d2.l (hxs.app Dl)⟩)
   refine ⟨_,_,bq,hrun,p3,d2.trans p4,?_⟩
   have:=Dk (φ:=bq) (H:=up H i ⟨(H i).g+1,some (.own e k (cs++ys))⟩) (i:=i) (k:=k) (e:=e) (n:=n+q) (cs:=cs++ys) p1 (by rw [aR]) hk hlen HL hcm
   rwa [aR] at this
  cases d_:φ i with
  | nil a=>
   rw [d_] at hp dy
   obtain ⟨rfl,_,rfl⟩:=hp
   obtain ⟨_,rfl⟩:=dy
   refine grown 0 [] (.slice a 0 0) (by omega) rfl ?_
   have hr:=run_append_grow_src (P:=P) w t tx ty e it z ht hi hz a 0 0 [] (by cases a with | none=>exact run_firstCells_none _ _ _ _ _ | some a=>exact run_firstCells_some _ _ _ a 0 0 [] (by simp) (by simp)) x q us Dm (by omega) (by omega) (growslice_fits (by omega) (by rw [hby];exact hbytes))
   simpa using hr
  | blk b c=>
   rw [d_] at hp dy
   obtain ⟨a,c',rfl,h3,h4,h5,h6,h7⟩:=hp
   obtain rfl:c'=cp c:=by omega
   have ha:=h6 rfl
   subst ha
   obtain ⟨q0,cur,xs,r1,r2,r3,r4,r5,r6,r7⟩:=dy
   have I9:=r7.len
   simp only [List.length_map] at I9
   by_cases hroom:n+q≤cp c
   ·have R5:off c+n*it.size+us.length≤cur.size:=by
     rw [hul,r2,hsz,Nat.add_assoc,←Nat.add_mul]
     exact Nat.add_le_add_left (Nat.mul_le_mul_right _ hroom) _
    have hr:=HF (P:=P) w t tx ty e it ht hi b (off c) n (cp c) cur r1 Dm hroom R5
    rw [hsz] at hr R5
    have oc:=hm.upd (bq:=φ) (w':=w.setRow b (cur.toList.take (off c+n*k)++us++cur.toList.drop (off c+n*k+us.length)).toArray) (H':=up H i ⟨(H i).g+1,some (.own e k (cs++ys))⟩) (fun j=>j=i) (fun j hj=>⟨rfl,dM _ _ _ _ hj⟩)
     (fun j hj=>by subst hj;rw [aR];exact .inl (Nat.lt_succ_self _)) (fun x hx hne=>setRow_other w b x _ (fun e=>hne i c rfl (by rw [d_,e])))
     (fun j b' c2 hj hp=>⟨by rw [setRow_size];exact (hm.lt j b' c2 hp).1,.inr ⟨c2,hp⟩⟩) (fun a a' _ _ _ h1 h2 _ _=>h1.trans h2.symm) (fun j hj _=>by subst hj;rw [aR,hb];exact ⟨fun b0 hk=>by cases b0<;>exact hk,.inl rfl⟩) (by simp) ⟨rfl,rfl,rfl⟩ (fun tr j b' hj hb'=>by
      subst hj
      rw [aR] at hb'
      simp only [Option.some.injEq] at hb'
      subst hb'
      rw [d_]
      refine ⟨hk,_,_,r1.set _ (by rw [List.size_toArray,List.length_append,List.length_append,List.length_take,List.length_drop,Array.length_toList];omega),?_,r3,⟨n+q,hlen⟩,by rw [hlen];exact Nat.mul_le_mul_right _ hroom,rfl,?_⟩
      ·rw [List.size_toArray,List.length_append,List.length_append,List.length_take,List.length_drop,Array.length_toList,←r2];omega
      ·have e1:((cur.toList.take (off c+n*k)++us++cur.toList.drop (off c+n*k+us.length)).toArray.toList.drop (off c)).take (cs++ys).length=xs++us:=by
        rw [List.toList_toArray,Nl cur.toList us (off c) (n*k) (by rw [Array.length_toList];omega),←hcs,r6]
        exact List.take_left' (by simp [←I9,←rO])
       rw [e1,List.map_append]
       exact tr.l (r7.app Dl))
    refine ⟨_,_,φ,hr,oc.1,oc.2,?_⟩
    have:=rq (φ:=φ) (H:=up H i ⟨(H i).g+1,some (.own e k (cs++ys))⟩) (i:=i) (k:=k) (e:=e) (n:=n+q) (cs:=cs++ys) d_ (by rw [aR]) hk hlen hroom
    rwa [aR] at this
   ·refine grown (cp c) xs (.slice (some ⟨b,off c,none⟩) n (cp c)) (by omega) r7 ?_
    have hr:=run_append_grow_src (P:=P) w t tx ty e it z ht hi hz (some ⟨b,off c,none⟩) n (cp c) xs (run_firstCells_some _ _ n ⟨b,off c,none⟩ n (cp c) xs (by rw [←I9,hcs,hsz]) (fun j u hu=>by
     rw [gC]
     show w.cell? _=_
     rw [r1.cell]
     rw [←r6,List.getElem?_take] at hu
     split at hu
     ·rw [List.getElem?_drop] at hu
      simpa using hu
     ·cases hu)) x q us Dm (by omega) (by omega) (growslice_fits (by omega) (by rw [hby];exact hbytes))
    simpa using hr
theorem Gv{X:Nat→Prop}{R:Ref→Value→Prop}: ∀s:List UInt8,aY X w R ((Ph s).map .d) (s.map fun b=>Value.int .u8 b.toNat)
 | []=>rfl
 | _::t=>⟨_,_,rfl,rfl,Gv t⟩
theorem Mem.ZN(hm:Mem E m aQ w0 φ H w){P:Program}{tx:TypeId}(hk:(∃e',P.underlying tx=some (.slice e'))∨P.underlying tx=some .string){p:PV}{n k:Nat}{cs:List PD}{v:Value}(h0:0<k)(h:RT H k p=some (n,cs))(hl:cs.length=n*k)(hv:cK (cW E φ) w (bk φ H) p v):
  ∃us,aY (cW E φ) w (bk φ H) (cs.map .d) us∧Src P k tx v n us w:=by
 unfold RT at h
 split at h
 ·rename_i s
  split at h
  ·rename_i Bl
   subst Bl
   simp only [Option.some.injEq,Prod.mk.injEq] at h
   obtain ⟨rfl,rfl⟩:=h
   have hv:v= .string ⟨s.toArray⟩:=hv
   subst hv
   have hsz:(⟨s.toArray⟩:ByteArray).size=s.length:=by show s.toArray.size=_;simp
   have hb:byteCells ⟨s.toArray⟩=s.map fun b=>Value.int .u8 b.toNat:=rfl
   refine ⟨byteCells ⟨s.toArray⟩,?_,⟨hk,fun _=>?_,?_,?_,?_,fun u hu=>?_⟩⟩
   ·rw [hb];exact Gv s
   ·show (Builtin.lenOf (.string ⟨s.toArray⟩)).run P _=_
    rw [←hsz];rfl
   ·rw [←hsz];exact firstCells_string _ _
   ·rw [←hsz];exact firstCells_string _ _
   ·rw [byteCells_length,hsz,Nat.mul_one]
   ·obtain ⟨_,_,rfl⟩:=List.mem_map.1 hu
    rfl
  ·cases h
 ·obtain ⟨a,c,us,rfl,h2,h3,h4,h5,h6⟩:=hm.rN h hv
  have rO:=h5.len
  simp only [List.length_map] at rO
  refine ⟨us,h5,?_⟩
  have h1: ∀u∈us,u.oneCell'=true:=by
   intro u hu
   obtain ⟨j,hj,rfl⟩:=List.getElem_of_mem hu
   obtain ⟨u',r1,r2⟩:=h5.Cy j cs[j] (by simp [rO,hj])
   rw [List.getElem?_eq_getElem hj] at r1;cases r1
   exact dS.one r2
  rcases h6 with rfl | ⟨b,o,rfl,hb,hc⟩
  ·have hn:n=0:=by
    cases n with
    | zero=>rfl
    | succ n=>
     have h9:0<(n+1)*k:=Nat.mul_pos (Nat.succ_pos n) h0
     rw [List.length_nil] at hl
     omega
   subst hn
   have Dl:us= []:=List.eq_nil_of_length_eq_zero (by simpa using rO.symm)
   subst Dl
   refine ⟨hk,fun _=>rfl,?_,?_,by simp,h1⟩
   ·cases a with
    | none=>exact run_firstCells_none _ _ _ _ _
    | some a=>exact run_firstCells_some _ _ _ a _ c [] (by simp) (by simp)
   ·cases a with
    | none=>exact run_firstCells_none _ _ _ _ _
    | some a=>exact run_firstCells_some _ _ _ a _ c [] (by simp) (by simp)
  ·have hnews: ∀j u,us[j]?=some u→w.cell? ((⟨b,o,none⟩:Addr).add j)=some u:=fun j u hu=>by rw [gC];exact hc j u hu
   exact ⟨hk,fun _=>rfl,run_firstCells_some w k n ⟨b,o,none⟩ n c us (by omega) hnews,run_firstCells_some w.drew k n ⟨b,o,none⟩ n c us (by omega) (by simpa using hnews),by omega,h1⟩
theorem Mem.cut(hm:Mem E m aQ w0 φ H w){i l n k:Nat}{e:TypeId}{cs:List PD}(hb:(H i).b=some (.own e k cs)){v:Value}(hln:l=0∨0<n)(hv:bk φ H (.aL i (H i).g l n) v):
  ∃bq,Mem E m aQ w0 bq (up H i ⟨(H i).g+1,some (.own e k ((cs.take ((l+n)*k)).drop (l*k)))⟩) w∧Tr E φ H w bq (up H i ⟨(H i).g+1,some (.own e k ((cs.take ((l+n)*k)).drop (l*k)))⟩) w∧
   bk bq (up H i ⟨(H i).g+1,some (.own e k ((cs.take ((l+n)*k)).drop (l*k)))⟩) (.aL i ((H i).g+1) 0 n) v:=by
 obtain ⟨_,_,q2⟩:=hv
 obtain ⟨hk,hle,hp⟩:=q2 rfl e k cs hb
 have dy:=hm.rep i _ hb
 have hlen:((cs.take ((l+n)*k)).drop (l*k)).length=n*k:=by
  rw [List.length_drop,List.length_take,Nat.min_eq_left hle,Nat.add_mul];omega
 have core: ∀p:cr,(∀b c,p= .blk b c→ ∃c',φ i= .blk b c')→
   (∀bq,bq i=p→Tr E φ H w bq (up H i ⟨(H i).g+1,some (.own e k ((cs.take ((l+n)*k)).drop (l*k)))⟩) w→Ng (cW E bq) w bq (up H i ⟨(H i).g+1,some (.own e k ((cs.take ((l+n)*k)).drop (l*k)))⟩) p (.own e k ((cs.take ((l+n)*k)).drop (l*k))))→
   Mem E m aQ w0 (up φ i p) (up H i ⟨(H i).g+1,some (.own e k ((cs.take ((l+n)*k)).drop (l*k)))⟩) w∧Tr E φ H w (up φ i p) (up H i ⟨(H i).g+1,some (.own e k ((cs.take ((l+n)*k)).drop (l*k)))⟩) w:=by
  intro p h1 h2
  refine hm.upd (bq:=up φ i p) (w':=w) (H':=up H i ⟨(H i).g+1,some (.own e k ((cs.take ((l+n)*k)).drop (l*k)))⟩) (fun j=>j=i) (fun j hj=>⟨dM _ _ _ _ hj,dM _ _ _ _ hj⟩) (fun j hj=>by subst hj;rw [aR];exact .inl (Nat.lt_succ_self _)) (fun _ _ _=>rfl)
   (fun j b' c' hj hp=>by
    subst hj;rw [aR] at hp
    obtain ⟨c2,h3⟩:=h1 _ _ hp
    exact ⟨(hm.lt j b' c2 h3).1,.inr ⟨c2,h3⟩⟩) (fun a a' _ _ _ h1 h2 _ _=>h1.trans h2.symm) (fun j hj _=>by subst hj;rw [aR,hb];exact ⟨fun b0 hk=>by cases b0<;>exact hk,.inr ⟨_,_,_,rfl⟩⟩) (Nat.le_refl _) ⟨rfl,rfl,rfl⟩ (fun tr j b' hj hb'=>by
    subst hj
    rw [aR] at hb'
    simp only [Option.some.injEq] at hb'
    subst hb'
    have:=h2 _ (aR φ j p) tr
    rw [aR];exact this)
 cases d_:φ i with
 | nil a=>
  rw [d_] at hp dy
  obtain ⟨rfl,rfl,rfl⟩:=hp
  obtain ⟨_,rfl⟩:=dy
  obtain ⟨m1,t1⟩:=core (.nil a) (fun _ _ h=>by cases h) (fun bq h tr=>⟨hk,by simp⟩)
  refine ⟨_,m1,t1,?_⟩
  have:=pR (φ:=up φ i (.nil a)) (H:=up H i ⟨(H i).g+1,some (.own e k ((([]:List PD).take ((0+0)*k)).drop (0*k)))⟩) (i:=i) (k:=k) (e:=e) (aR _ _ _) (by rw [aR];simp) hk
  rwa [aR] at this
 | blk b c=>
  rw [d_] at hp dy
  obtain ⟨a,c',rfl,h3,h4,h5,h6,h7⟩:=hp
  obtain ⟨q0,cur,xs,r1,r2,r3,r4,r5,r6,r7⟩:=dy
  have I9:=r7.len
  simp only [List.length_map] at I9
  have hc':c'≤maxLen:=by omega
  have ha:a=some ⟨b,off c+l*k,none⟩:=by
   rcases hln with rfl | hn
   ·rw [Nat.zero_mul,Nat.add_zero];exact h6 rfl
   ·exact h5 hn
  have e1:cp ((off c+l*k)*MM+c')=c':=ay8 hc'
  have e2:off ((off c+l*k)*MM+c')=off c+l*k:=asz hc'
  have e3:cp c*k=c'*k+l*k:=by rw [←h4,Nat.add_mul]
  obtain ⟨m1,t1⟩:=core (.blk b ((off c+l*k)*MM+c')) (fun _ _ h=>by cases h;exact ⟨_,d_⟩) (fun bq h tr=>by
   refine ⟨hk,cur,(xs.take ((l+n)*k)).drop (l*k),r1,by rw [e1,e2,r2,e3];omega,by rw [e1];exact hc',⟨n,hlen⟩,by rw [hlen,e1];exact Nat.mul_le_mul_right _ h3,?_,?_⟩
   ·rw [hlen,e2,←r6,List.take_take,Nat.min_eq_left hle,List.drop_take,List.drop_drop,Nat.add_mul,Nat.add_sub_cancel_left]
   ·rw [List.map_drop,List.map_take]
    exact tr.l ((r7.take _).drop _))
  refine ⟨_,m1,t1,?_⟩
  have:=rq (φ:=up φ i (.blk b ((off c+l*k)*MM+c'))) (H:=up H i ⟨(H i).g+1,some (.own e k ((cs.take ((l+n)*k)).drop (l*k)))⟩) (i:=i) (k:=k) (e:=e) (n:=n) (cs:=(cs.take ((l+n)*k)).drop (l*k)) (aR _ _ _) (by rw [aR]) hk hlen (by rw [e1];exact h3)
  rw [e1,e2,aR] at this
  rw [ha];exact this
end
end Go.Proofs.YtimbfadnabfabaaGreatDoor.Pm
