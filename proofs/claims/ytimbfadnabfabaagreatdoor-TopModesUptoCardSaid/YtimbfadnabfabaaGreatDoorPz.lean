/- The small machine: code, functions, and what a run of it says of the program. No program is named here. -/
import Derived.Test.YtimbfadnabfabaaGreatDoorPy
namespace Go.Proofs.YtimbfadnabfabaaGreatDoor.Pm
open Go.RowKit

section
variable {P : Program} {br : List Nat} {E : Nat → Prop} {m : List bH} {aP : Nat → cg} {w0 : World} {N : Nat} {γ : ek}
theorem OT{A:List (List Nat)}: ∀{l:List Oper} {k i:Nat} {o:Oper},Lj A l k=true→l[i]?=some o→ ∀j∈A.getD (k+i) [],∃e∈o.after,Region.binds .any e=true∧e.on<k+i∧(e.on=j∨j∈A.getD e.on [])
 | [],_,i,_,_,h=>by simp at h
 | o::l,k,0,x,h,hx=>by
  simp at hx;subst hx
  intro j hj
  simp only [Lj,Bool.and_eq_true,List.all_eq_true] at h
  have:=h.1.1 j hj
  simp only [List.any_eq_true,Bool.and_eq_true,Bool.or_eq_true,decide_eq_true_eq] at this
  obtain ⟨e,he,⟨h1,h2⟩,h3⟩:=this
  refine ⟨e,by simpa using he,h1,h2,h3.imp (fun h=>by simpa using h) fun ⟨x,hx,h⟩=>?_⟩
  have:j=x:=by simpa using h
  subst this;exact hx
 | o::l,k,i+1,x,h,hx=>by
  simp only [Lj,Bool.and_eq_true] at h
  have:=OT h.2 (i:=i) (by simpa using hx)
  rwa [show k+1+i=k+(i+1) by omega] at this
theorem Zh{A:List (List Nat)}: ∀{l:List Oper} {k i:Nat} {o:Oper},Lj A l k=true→l[i]?=some o→ ∀e∈o.after,Region.binds .any e=true→e.on<k+i
 | [],_,i,_,_,h=>by simp at h
 | o::l,k,0,x,h,hx=>by
  simp at hx;subst hx
  intro e he hb
  simp only [Lj,Bool.and_eq_true,List.all_eq_true] at h
  have:=h.1.2 e (by simpa using he)
  simpa [hb] using this
 | o::l,k,i+1,x,h,hx=>by
  simp only [Lj,Bool.and_eq_true] at h
  have:=Zh h.2 (i:=i) (by simpa using hx)
  rwa [show k+1+i=k+(i+1) by omega] at this
theorem R3{A:List (List Nat)}{ops:Array Oper}(hA:Lj A ops.toList 0=true){L:Nat→Bool}(hL: ∀j o,L j=true→ops[j]?=some o→ ∀e∈o.after,Region.binds .any e=true→L e.on=true)(hlt: ∀j,L j=true→j<ops.size):
  ∀i j,j∈A.getD i []→L i=true→L j=true:=by
 intro i
 induction i using Nat.strongRecOn with
 | ind i ih=>
  intro j hj hi
  have hs:=hlt i hi
  have ho:ops[i]?=some ops[i]:=by simp [hs]
  obtain ⟨e,he,hb,RF,h⟩:=OT hA (i:=i) (o:=ops[i]) (by simp [hs]) j (by simpa using hj)
  have:=hL i _ hi ho e he hb
  rcases h with rfl | h
  ·exact this
  ·exact ih e.on (by simpa using RF) j h this
theorem Iy: ∀{ops:Array Oper} {l:List Oper} {pl:List PO},u_ P br N ops l=some pl→pl.length=l.length∧ ∀(i:Nat) o,l[i]?=some o→ ∃po,pl[i]?=some po∧OQ P br N ops o=some po
 | ops,[],pl,h=>by simp only [u_,Option.some.injEq] at h;subst h;exact ⟨rfl,fun i o hi=>by simp at hi⟩
 | ops,o::l,pl,h=>by
  simp only [u_] at h
  split at h
  ·rename_i x xs h1 h2
   simp only [Option.some.injEq] at h;subst h
   obtain ⟨h3,h4⟩:=Iy h2
   refine ⟨by simp [h3],fun i o' hi=>?_⟩
   cases i with
   | zero=>simp at hi;subst hi;exact ⟨x,rfl,h1⟩
   | succ i=>simpa using h4 i o' (by simpa using hi)
  ·cases h
theorem Iz{A:List (List Nat)}{pos:List PO}(h:G6 A pos=true){i j:Nat}{a b:PO}{t:Nat}(hi:pos[i]?=some a)(hj:pos[j]?=some b)(hne:i≠j)(hb:b.d=some t):
  a.d≠some t∧(t∈slotsOf a→(j<i∧j∈A.getD i [])∨(i<j∧i∈A.getD j [])):=by
 have kY:=(List.getElem?_eq_some_iff.1 hi).1
 have R4:=(List.getElem?_eq_some_iff.1 hj).1
 simp only [G6,List.all_eq_true,List.mem_range] at h
 have:=h i kY j R4
 simp only [Bool.or_eq_true,hi,hj,hb,Bool.and_eq_true,Bool.not_eq_true',decide_eq_true_eq] at this
 rcases this with h1 | ⟨h1,h2⟩
 ·exact absurd (by simpa using h1) hne
 ·have MU: ∀{i j:Nat},hasB A i j=true→j∈A.getD i []:=by
   intro i j h
   obtain ⟨x,hx,e⟩:=List.any_eq_true.1 h
   have:j=x:=by simpa using e
   subst this;exact hx
  refine ⟨fun e=>by simp [isD,e] at h1,fun ht=>?_⟩
  rcases h2 with (h2 | h2) | h2
  ·exfalso
   have:(slotsOf a).any (Nat.beq t)=true:=List.any_eq_true.2 ⟨t,ht,by simp⟩
   rw [this] at h2;cases h2
  ·exact .inl ⟨h2.1,MU h2.2⟩
  ·exact .inr ⟨h2.1,MU h2.2⟩
theorem IA{A:List (List Nat)}{pos:List PO}{i j:Nat}{a b:PO}(hi:pos[i]?=some a)(hj:pos[j]?=some b)(RZ:i<j)(h1:i∉A.getD j [])(h2:w9 a.op=true)(h3:w9 b.op=true)(h4: ¬(ro a.op=true∧ro b.op=true)):(i,j)∈CS A pos:=by
 have R4:=(List.getElem?_eq_some_iff.1 hj).1
 simp only [CS,List.mem_flatMap,List.mem_range,List.mem_filterMap]
 refine ⟨j,R4,i,RZ,?_⟩
 simp only [hi,hj]
 rw [if_neg]
 simp only [Bool.or_eq_true,Bool.not_eq_true',Bool.and_eq_true,h2,h3,not_or]
 refine ⟨⟨⟨?_,by simp⟩,by simp⟩,h4⟩
 intro h
 obtain ⟨x,hx,e⟩:=List.any_eq_true.1 h
 have:i=x:=by simpa using e
 subst this;exact h1 hx
theorem IB{x y:List (Nat×Bool)}(h:apart x y=true){a b:Nat×Bool}(ha:a∈x)(hb:b∈y)(e:a.1=b.1):a.2=false∧b.2=false:=by
 have:=List.all_eq_true.1 (List.all_eq_true.1 h a ha) b hb
 simp [e] at this
 exact this
theorem adJ(kL:nS P γ w0 aP)(aBi:P.follows .mixedOrders=true){rid:Nat}{ops:Array Oper}{A:List (List Nat)}{pos:List PO}{Q:Exit→Act→World→Prop}{st bl:St}{outs:List Out}{a:Act}{w:World}
  (hc:u_ P br N ops ops.toList=some pos) (hA:Lj A ops.toList 0=true) (hD:G6 A pos=true) (he:gb γ pos st=some (outs,bl)) (hP:(CS A pos).all (fun x=>apart (Li outs x.1) (Li outs x.2))=true) (hr:Rel E m aP w0 N st a w)
  (hQ: ∀a' w',Rel E m aP w0 N bl a' w'→Q .normal a' w'):(Code.region rid ops true).wp P Q a w:=by
 obtain ⟨hlen,aBj,avT⟩:=MT he
 obtain ⟨hpl,hpo⟩:=Iy hc
 have hsz:outs.length=ops.size:=by rw [hlen,hpl];simp
 refine wp_region_any aBi ?_
 have main: ∀(fuel:Nat) (listed:Array Bool) (a':Act) (w':World),ops.size≤fuel+(listed.toList.filter id).length→listed.size=ops.size→
   (∀j o,listed.getD j false=true→ops[j]?=some o→ ∀e∈o.after,Region.binds .any e=true→listed.getD e.on false=true)→
   Rel E m aP w0 N (oP (fun j=>listed.getD j false) 0 outs st) a' w'→wpAny P .any ops Q fuel listed a' w':=by
  have done: ∀(listed:Array Bool) (a':Act) (w':World),listed.size=ops.size→(∀j,j<ops.size→listed.getD j false=true)→Rel E m aP w0 N (oP (fun j=>listed.getD j false) 0 outs st) a' w'→Q .normal a' w':=by
   intro listed a' w' hs hall hrel
   rw [R1 _ _ _ _ (fun j hj=>by rw [Nat.zero_add];exact hall j (by omega)),←aBj] at hrel
   exact hQ _ _ hrel
  have apQ: ∀(listed:Array Bool),listed.size=ops.size→Region.ready .any ops listed= []→ ∀j,j<ops.size→listed.getD j false=true:=by
   intro listed hs hrd j
   induction j using Nat.strongRecOn with
   | ind j ih=>
    intro hj
    by_cases hl:listed.getD j false=true
    ·exact hl
    ·exfalso
     have ho:ops[j]?=some ops[j]:=by simp [hj]
     have avU: ∀e∈(ops[j]).after,Region.binds .any e=true→e.on<j:=by
      intro e he hb
      have:=Zh hA (i:=j) (o:=ops[j]) (by simp [hj]) e he hb
      simpa using this
     have:j∈Region.ready .any ops listed:=by
      rw [mem_ready]
      refine ⟨?_,_,ho,fun e he hb=>ih e.on (avU e he hb) (by have:=avU e he hb;omega)⟩
      have R4:j<listed.size:=by omega
      simp [R4] at hl ⊢
      exact hl
     rw [hrd] at this;cases this
  intro fuel
  induction fuel with
  | zero=>
   intro listed a' w' hf hs VP hrel
   have hall: ∀j,j<ops.size→listed.getD j false=true:=by
    intro j hj
    have h1:(listed.toList.filter id).length=listed.toList.length:=by
     have:=List.length_filter_le id listed.toList
     simp at*;omega
    have h2:=List.length_filter_eq_length_iff.1 h1
    have R4:j<listed.size:=by omega
    have:=h2 listed[j] (by simp)
    simp [R4];simpa using this
   have hrd:Region.ready .any ops listed= []:=by
    cases hq:Region.ready .any ops listed with
    | nil=>rfl
    | cons x xs=>
     have hx:x∈Region.ready .any ops listed:=by rw [hq];simp
     obtain ⟨h0,o,ho,_⟩:=mem_ready.1 hx
     have hlt:x<ops.size:=(Array.getElem?_eq_some_iff.1 ho).1
     have h1:=hall x hlt
     have HY:x<listed.size:=by omega
     simp [HY] at h0 h1
     rw [h0] at h1;cases h1
   exact ⟨hrd,done _ _ _ hs hall hrel⟩
  | succ fuel ih=>
   intro listed a' w' hf hs VP hrel
   refine ⟨fun hrd=>done _ _ _ hs (apQ _ hs hrd) hrel,fun i hri=>?_⟩
   obtain ⟨h0,o,ho,hall⟩:=mem_ready.1 hri
   have hio:i<ops.size:=(Array.getElem?_eq_some_iff.1 ho).1
   have kY:i<listed.size:=by omega
   have hLi:listed.getD i false=false:=by
    have:listed[i]=false:=by simpa [kY] using h0
    simpa [kY] using this
   obtain ⟨po,hpi,hco⟩:=hpo i o (by simpa using ho)
   obtain ⟨x,R5,hex⟩:=avT i po hpi
   obtain ⟨OG,hxu,hxh,hxr⟩:=R2 hex
   -- what is listed is closed
   have ahU: ∀k j,j∈A.getD k []→listed.getD k false=true→listed.getD j false=true:=
    R3 hA VP fun j hj=>by
     rcases Nat.lt_or_ge j ops.size with h | h
     ·exact h
     ·have: ¬j<listed.size:=by omega
      simp [this] at hj
   have ahV: ∀j,j∈A.getD i []→listed.getD j false=true:=by
    intro j hj
    obtain ⟨e,he,hb,_,h⟩:=OT hA (i:=i) (by simpa using ho) j (by simpa using hj)
    have hel:=hall e he hb
    rcases h with rfl | h
    ·exact hel
    ·exact ahU _ _ h hel
   -- each of the others: what it is
   have other: ∀(j:Nat) y,outs[j]?=some y→ ∃pj,pos[j]?=some pj∧y.d=pj.d∧(∀u∈y.aD,(u.1,true)∈y.tc)∧(y.tc≠ []→w9 pj.op=true)∧(ro pj.op=true→ ∀a∈y.tc,a.2=false):=by
    intro j y hy
    have R4:=(List.getElem?_eq_some_iff.1 hy).1
    have xg:pos[j]?=some (pos[j]'(by omega)):=List.getElem?_eq_getElem (by omega)
    obtain ⟨z,hz,hez⟩:=avT j _ xg
    rw [hy] at hz;cases hz
    exact ⟨_,xg,R2 hez⟩
   -- two that share a block come in order
   have avV: ∀(j:Nat) y (b c:Nat×Bool),outs[j]?=some y→j≠i→b∈x.tc→c∈y.tc→b.1=c.1→(b.2=true∨c.2=true)→(j<i∧listed.getD j false=true)∨(i<j∧listed.getD j false=false):=by
    intro j y b c hy VA hb hcc hbc hw
    obtain ⟨pj,xg,GL,hyu,hyh,hyr⟩:=other j y hy
    have hh1:=hxh (fun e=>by rw [e] at hb;cases hb)
    have hh2:=hyh (fun e=>by rw [e] at hcc;cases hcc)
    have hro: ¬(ro po.op=true∧ro pj.op=true):=by
     rintro ⟨r1,r2⟩
     have:=hxr r1 b hb
     have:=hyr r2 c hcc
     simp_all
    have tx:Li outs i=x.tc:=by simp only [Li,R5]
    have ty:Li outs j=y.tc:=by simp only [Li,hy]
    rcases Nat.lt_or_gt_of_ne VA with hlt | hgt
    ·refine .inl ⟨hlt,?_⟩
     by_cases hm:j∈A.getD i []
     ·exact ahV j hm
     ·exfalso
      have:=List.all_eq_true.1 hP _ (IA xg hpi hlt hm hh2 hh1 (fun h=>hro ⟨h.2,h.1⟩))
      simp only [tx,ty] at this
      have:=IB this hcc hb hbc.symm
      rcases hw with h | h
      ·rw [this.2] at h;cases h
      ·rw [this.1] at h;cases h
    ·refine .inr ⟨hgt,?_⟩
     by_cases hm:i∈A.getD j []
     ·cases hq:listed.getD j false with
      | false=>rfl
      | true=>have:=ahU j i hm hq;rw [hLi] at this;cases this
     ·exfalso
      have:=List.all_eq_true.1 hP _ (IA hpi xg hgt hm hh1 hh2 hro)
      simp only [tx,ty] at this
      have:=IB this hb hcc hbc
      rcases hw with h | h
      ·rw [this.1] at h;cases h
      ·rw [this.2] at h;cases h
   -- so it does what it did in the text's order
   have aBo:iP γ po (oP (fun j=>listed.getD j false) 0 outs st)=some x:=by
    refine VO (fun t ht=>?_) hex (fun b hb=>?_)
    ·obtain ⟨hn,hw⟩:=Zf t
     refine nV (c:=fun st=>st.s t) hn hw outs 0 st st (fun j y hy Iw=>?_) rfl
     rw [Nat.zero_add]
     obtain ⟨pj,xg,GL,_⟩:=other j y hy
     by_cases e:j=i
     ·subst e;rw [hLi];simp
     ·have:=(Iz hD hpi xg (Ne.symm e) (by rw [←GL];exact Iw)).2 ht
      rcases this with ⟨h1,h2⟩ | ⟨h1,h2⟩
      ·rw [ahV j h2];simp [h1]
      ·cases hq:listed.getD j false with
       | false=>simp;omega
       | true=>have:=ahU j i h2 hq;rw [hLi] at this;cases this
    ·obtain ⟨hn,hw⟩:=Zg b.1
     refine nV (c:=fun st=>st.h b.1) hn hw outs 0 st st (fun j y hy Iw=>?_) rfl
     rw [Nat.zero_add]
     obtain ⟨u,hu,hub⟩:=Iw
     by_cases e:j=i
     ·subst e;rw [hLi];simp
     ·obtain ⟨pj,xg,GL,hyu,_⟩:=other j y hy
      rcases avV j y b (u.1,true) hy e hb (hyu u hu) hub.symm (.inr rfl) with ⟨h1,h2⟩ | ⟨h1,h2⟩
      ·rw [h2];simp [h1]
      ·rw [h2];simp;omega
   have aBp:oP (fun j=>(listed.setIfInBounds i true).getD j false) 0 outs st=apply x (oP (fun j=>listed.getD j false) 0 outs st):=by
    refine ahR R5 (by simp [kY]) (fun j hj=>?_) ?_ ?_
    ·have:(listed.setIfInBounds i true)[j]?=listed[j]?:=Array.getElem?_setIfInBounds_ne (Ne.symm hj)
     simp [Array.getD_eq_getD_getElem?,this]
    ·intro j y t hy RZ VM hxt hyt
     obtain ⟨pj,xg,GL,_⟩:=other j y hy
     exact (Iz hD hpi xg (by omega) (by rw [←GL];exact hyt)).1 (by rw [←OG];exact hxt)
    ·intro j y u v hy RZ VM hu hv e
     obtain ⟨pj,xg,GL,hyu,_⟩:=other j y hy
     rcases avV j y (u.1,true) (v.1,true) hy (by omega) (hxu u hu) (hyu v hv) e.symm (.inl rfl) with ⟨h1,_⟩ | ⟨_,h2⟩
     ·omega
     ·rw [h2] at VM;cases VM
   unfold wpOp
   simp only [ho]
   have stp:=MR (E:=E) (m:=m) (aP:=aP) (w0:=w0) kL (K:=wpAny P .any ops Q fuel (listed.setIfInBounds i true)) (Q:=Q) hco aBo hrel fun a2 w2 hr2=>by
    refine ih _ _ _ ?_ (by simp [hs]) ?_ (by rw [aBp];exact hr2)
    ·have:((listed.setIfInBounds i true).toList.filter id).length=(listed.toList.filter id).length+1:=by
      have hlf:listed[i]=false:=by simpa [kY] using h0
      rw [Array.toList_setIfInBounds,←List.countP_eq_length_filter,←List.countP_eq_length_filter,List.countP_set (by simpa using kY)]
      simp [hlf]
     omega
    ·intro j oj hj hoj e he hb
     have up: ∀k,listed.getD k false=true→(listed.setIfInBounds i true).getD k false=true:=fun k hk=>by
      by_cases e:k=i
      ·subst e;simp [kY]
      ·have:(listed.setIfInBounds i true)[k]?=listed[k]?:=Array.getElem?_setIfInBounds_ne (Ne.symm e)
       simpa [Array.getD_eq_getD_getElem?,this] using hk
     by_cases e2:j=i
     ·subst e2;rw [ho] at hoj;cases hoj
      exact up _ (hall e he hb)
     ·have h5:(listed.setIfInBounds i true)[j]?=listed[j]?:=Array.getElem?_setIfInBounds_ne (Ne.symm e2)
      exact up _ (VP j oj (by simpa [Array.getD_eq_getD_getElem?,h5] using hj) hoj e he hb)
   split
   ·rename_i hwn;rw [if_pos hwn] at stp;exact .inl stp
   ·rename_i hwn;rw [if_neg hwn] at stp;exact stp
 have hr0:Rel E m aP w0 N (oP (fun j=>(Array.replicate ops.size false).getD j false) 0 outs st) a {w with drawn:=w.drawn+1}:=by
  have:(fun j=>(Array.replicate ops.size false).getD j false)=fun _=>false:=by
   funext j
   by_cases h:j<ops.size<;>simp [h]
  rw [this,EW]
  obtain ⟨⟨φ,hm,hs⟩,h1,h2⟩:=hr
  obtain ⟨d1,d2⟩:=hm.drew
  exact ⟨⟨φ,d1,fun t=>d2.v (hs t)⟩,h1,h2⟩
 refine main _ _ _ _ (by simp) (by simp) ?_ hr0
 intro j o hj
 exfalso
 by_cases hlt:j<ops.size<;>simp [hlt] at hj
end
end Go.Proofs.YtimbfadnabfabaaGreatDoor.Pm
