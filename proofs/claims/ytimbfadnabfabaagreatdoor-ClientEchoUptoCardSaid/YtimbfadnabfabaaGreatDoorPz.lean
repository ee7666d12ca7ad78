/- The small machine: code, functions, and what a run of it says of the program. No program is named here. -/
import Derived.Test.YtimbfadnabfabaaGreatDoorPy
namespace Go.Proofs.YtimbfadnabfabaaGreatDoor.Pm
open Go.RowKit

section
variable {P : Program} {br : List Nat} {E : Nat → Prop} {m : List bM} {aQ : Nat → cr} {w0 : World} {N : Nat} {γ : dZ}
theorem PG{A:List (List Nat)}: ∀{l:List Oper} {k i:Nat} {o:Oper},Mc A l k=true→l[i]?=some o→ ∀j∈A.getD (k+i) [],∃e∈o.after,Region.binds .any e=true∧e.on<k+i∧(e.on=j∨j∈A.getD e.on [])
 | [],_,i,_,_,h=>by simp at h
 | o::l,k,0,x,h,hx=>by
  simp at hx;subst hx
  intro j hj
  simp only [Mc,Bool.and_eq_true,List.all_eq_true] at h
  have:=h.1.1 j hj
  simp only [List.any_eq_true,Bool.and_eq_true,Bool.or_eq_true,decide_eq_true_eq] at this
  obtain ⟨e,he,⟨h1,h2⟩,h3⟩:=this
  refine ⟨e,by simpa using he,h1,h2,h3.imp (fun h=>by simpa using h) fun ⟨x,hx,h⟩=>?_⟩
  have:j=x:=by simpa using h
  subst this;exact hx
 | o::l,k,i+1,x,h,hx=>by
  simp only [Mc,Bool.and_eq_true] at h
  have:=PG h.2 (i:=i) (by simpa using hx)
  rwa [show k+1+i=k+(i+1) by omega] at this
theorem ZY{A:List (List Nat)}: ∀{l:List Oper} {k i:Nat} {o:Oper},Mc A l k=true→l[i]?=some o→ ∀e∈o.after,Region.binds .any e=true→e.on<k+i
 | [],_,i,_,_,h=>by simp at h
 | o::l,k,0,x,h,hx=>by
  simp at hx;subst hx
  intro e he hb
  simp only [Mc,Bool.and_eq_true,List.all_eq_true] at h
  have:=h.1.2 e (by simpa using he)
  simpa [hb] using this
 | o::l,k,i+1,x,h,hx=>by
  simp only [Mc,Bool.and_eq_true] at h
  have:=ZY h.2 (i:=i) (by simpa using hx)
  rwa [show k+1+i=k+(i+1) by omega] at this
theorem SD{A:List (List Nat)}{ops:Array Oper}(hA:Mc A ops.toList 0=true){L:Nat→Bool}(hL: ∀j o,L j=true→ops[j]?=some o→ ∀e∈o.after,Region.binds .any e=true→L e.on=true)(hlt: ∀j,L j=true→j<ops.size):
  ∀i j,j∈A.getD i []→L i=true→L j=true:=by
 intro i
 induction i using Nat.strongRecOn with
 | ind i ih=>
  intro j hj hi
  have hs:=hlt i hi
  have ho:ops[i]?=some ops[i]:=by simp [hs]
  obtain ⟨e,he,hb,Sh,h⟩:=PG hA (i:=i) (o:=ops[i]) (by simp [hs]) j (by simpa using hj)
  have:=hL i _ hi ho e he hb
  rcases h with rfl | h
  ·exact this
  ·exact ih e.on (by simpa using Sh) j h this
theorem Jx: ∀{ops:Array Oper} {l:List Oper} {pl:List PO},wF P br N ops l=some pl→pl.length=l.length∧ ∀(i:Nat) o,l[i]?=some o→ ∃po,pl[i]?=some po∧PE P br N ops o=some po
 | ops,[],pl,h=>by simp only [wF,Option.some.injEq] at h;subst h;exact ⟨rfl,fun i o hi=>by simp at hi⟩
 | ops,o::l,pl,h=>by
  simp only [wF] at h
  split at h
  ·rename_i x xs h1 h2
   simp only [Option.some.injEq] at h;subst h
   obtain ⟨h3,h4⟩:=Jx h2
   refine ⟨by simp [h3],fun i o' hi=>?_⟩
   cases i with
   | zero=>simp at hi;subst hi;exact ⟨x,rfl,h1⟩
   | succ i=>simpa using h4 i o' (by simpa using hi)
  ·cases h
theorem Jy{A:List (List Nat)}{pos:List PO}(h:Ie A pos=true){i j:Nat}{a b:PO}{t:Nat}(hi:pos[i]?=some a)(hj:pos[j]?=some b)(hne:i≠j)(hb:b.d=some t):
  a.d≠some t∧(t∈slotsOf a→(j<i∧j∈A.getD i [])∨(i<j∧i∈A.getD j [])):=by
 have lJ:=(List.getElem?_eq_some_iff.1 hi).1
 have SE:=(List.getElem?_eq_some_iff.1 hj).1
 simp only [Ie,List.all_eq_true,List.mem_range] at h
 have:=h i lJ j SE
 simp only [Bool.or_eq_true,hi,hj,hb,Bool.and_eq_true,Bool.not_eq_true',decide_eq_true_eq] at this
 rcases this with h1 | ⟨h1,h2⟩
 ·exact absurd (by simpa using h1) hne
 ·have NJ: ∀{i j:Nat},hasB A i j=true→j∈A.getD i []:=by
   intro i j h
   obtain ⟨x,hx,e⟩:=List.any_eq_true.1 h
   have:j=x:=by simpa using e
   subst this;exact hx
  refine ⟨fun e=>by simp [isD,e] at h1,fun ht=>?_⟩
  rcases h2 with (h2 | h2) | h2
  ·exfalso
   have:(slotsOf a).any (Nat.beq t)=true:=List.any_eq_true.2 ⟨t,ht,by simp⟩
   rw [this] at h2;cases h2
  ·exact .inl ⟨h2.1,NJ h2.2⟩
  ·exact .inr ⟨h2.1,NJ h2.2⟩
theorem Jz{A:List (List Nat)}{pos:List PO}{i j:Nat}{a b:PO}(hi:pos[i]?=some a)(hj:pos[j]?=some b)(SA:i<j)(h1:i∉A.getD j [])(h2:yF a.op=true)(h3:yF b.op=true)(h4: ¬(ro a.op=true∧ro b.op=true)):(i,j)∈DB A pos:=by
 have SE:=(List.getElem?_eq_some_iff.1 hj).1
 simp only [DB,List.mem_flatMap,List.mem_range,List.mem_filterMap]
 refine ⟨j,SE,i,SA,?_⟩
 simp only [hi,hj]
 rw [if_neg]
 simp only [Bool.or_eq_true,Bool.not_eq_true',Bool.and_eq_true,h2,h3,not_or]
 refine ⟨⟨⟨?_,by simp⟩,by simp⟩,h4⟩
 intro h
 obtain ⟨x,hx,e⟩:=List.any_eq_true.1 h
 have:i=x:=by simpa using e
 subst this;exact h1 hx
theorem JA{x y:List (Nat×Bool)}(h:apart x y=true){a b:Nat×Bool}(ha:a∈x)(hb:b∈y)(e:a.1=b.1):a.2=false∧b.2=false:=by
 have:=List.all_eq_true.1 (List.all_eq_true.1 h a ha) b hb
 simp [e] at this
 exact this
theorem afo(k5:oo P γ w0 aQ)(aCA:P.follows .mixedOrders=true){rid:Nat}{ops:Array Oper}{A:List (List Nat)}{pos:List PO}{Q:Exit→Act→World→Prop}{st bl:St}{outs:List Out}{a:Act}{w:World}
  (hc:wF P br N ops ops.toList=some pos) (hA:Mc A ops.toList 0=true) (hD:Ie A pos=true) (he:gp γ pos st=some (outs,bl)) (hP:(DB A pos).all (fun x=>apart (Mb outs x.1) (Mb outs x.2))=true) (hr:Rel E m aQ w0 N st a w)
  (hQ: ∀a' w',Rel E m aQ w0 N bl a' w'→Q .normal a' w'):(Code.region rid ops true).wp P Q a w:=by
 obtain ⟨hlen,aCB,axO⟩:=NI he
 obtain ⟨hpl,hpo⟩:=Jx hc
 have hsz:outs.length=ops.size:=by rw [hlen,hpl];simp
 refine wp_region_any aCA ?_
 have main: ∀(fuel:Nat) (listed:Array Bool) (a':Act) (w':World),ops.size≤fuel+(listed.toList.filter id).length→listed.size=ops.size→
   (∀j o,listed.getD j false=true→ops[j]?=some o→ ∀e∈o.after,Region.binds .any e=true→listed.getD e.on false=true)→
   Rel E m aQ w0 N (pW (fun j=>listed.getD j false) 0 outs st) a' w'→wpAny P .any ops Q fuel listed a' w':=by
  have done: ∀(listed:Array Bool) (a':Act) (w':World),listed.size=ops.size→(∀j,j<ops.size→listed.getD j false=true)→Rel E m aQ w0 N (pW (fun j=>listed.getD j false) 0 outs st) a' w'→Q .normal a' w':=by
   intro listed a' w' hs hall hrel
   rw [SB _ _ _ _ (fun j hj=>by rw [Nat.zero_add];exact hall j (by omega)),←aCB] at hrel
   exact hQ _ _ hrel
  have asU: ∀(listed:Array Bool),listed.size=ops.size→Region.ready .any ops listed= []→ ∀j,j<ops.size→listed.getD j false=true:=by
   intro listed hs hrd j
   induction j using Nat.strongRecOn with
   | ind j ih=>
    intro hj
    by_cases hl:listed.getD j false=true
    ·exact hl
    ·exfalso
     have ho:ops[j]?=some ops[j]:=by simp [hj]
     have axP: ∀e∈(ops[j]).after,Region.binds .any e=true→e.on<j:=by
      intro e he hb
      have:=ZY hA (i:=j) (o:=ops[j]) (by simp [hj]) e he hb
      simpa using this
     have:j∈Region.ready .any ops listed:=by
      rw [mem_ready]
      refine ⟨?_,_,ho,fun e he hb=>ih e.on (axP e he hb) (by have:=axP e he hb;omega)⟩
      have SE:j<listed.size:=by omega
      simp [SE] at hl ⊢
      exact hl
     rw [hrd] at this;cases this
  intro fuel
  induction fuel with
  | zero=>
   intro listed a' w' hf hs Wn hrel
   have hall: ∀j,j<ops.size→listed.getD j false=true:=by
    intro j hj
    have h1:(listed.toList.filter id).length=listed.toList.length:=by
     have:=List.length_filter_le id listed.toList
     simp at*;omega
    have h2:=List.length_filter_eq_length_iff.1 h1
    have SE:j<listed.size:=by omega
    have:=h2 listed[j] (by simp)
    simp [SE];simpa using this
   have hrd:Region.ready .any ops listed= []:=by
    cases hq:Region.ready .any ops listed with
    | nil=>rfl
    | cons x xs=>
     have hx:x∈Region.ready .any ops listed:=by rw [hq];simp
     obtain ⟨h0,o,ho,_⟩:=mem_ready.1 hx
     have hlt:x<ops.size:=(Array.getElem?_eq_some_iff.1 ho).1
     have h1:=hall x hlt
     have I9:x<listed.size:=by omega
     simp [I9] at h0 h1
     rw [h0] at h1;cases h1
   exact ⟨hrd,done _ _ _ hs hall hrel⟩
  | succ fuel ih=>
   intro listed a' w' hf hs Wn hrel
   refine ⟨fun hrd=>done _ _ _ hs (asU _ hs hrd) hrel,fun i hri=>?_⟩
   obtain ⟨h0,o,ho,hall⟩:=mem_ready.1 hri
   have hio:i<ops.size:=(Array.getElem?_eq_some_iff.1 ho).1
   have lJ:i<listed.size:=by omega
   have hLi:listed.getD i false=false:=by
    have:listed[i]=false:=by simpa [lJ] using h0
    simpa [lJ] using this
   obtain ⟨po,hpi,hco⟩:=hpo i o (by simpa using ho)
   obtain ⟨x,SG,hex⟩:=axO i po hpi
   obtain ⟨Pv,hxu,hxh,hxr⟩:=SC hex
   -- what is listed is closed
   have ajx: ∀k j,j∈A.getD k []→listed.getD k false=true→listed.getD j false=true:=
    SD hA Wn fun j hj=>by
     rcases Nat.lt_or_ge j ops.size with h | h
     ·exact h
     ·have: ¬j<listed.size:=by omega
      simp [this] at hj
   have ajy: ∀j,j∈A.getD i []→listed.getD j false=true:=by
    intro j hj
    obtain ⟨e,he,hb,_,h⟩:=PG hA (i:=i) (by simpa using ho) j (by simpa using hj)
    have hel:=hall e he hb
    rcases h with rfl | h
    ·exact hel
    ·exact ajx _ _ h hel
   -- each of the others: what it is
   have other: ∀(j:Nat) y,outs[j]?=some y→ ∃pj,pos[j]?=some pj∧y.d=pj.d∧(∀u∈y.aD,(u.1,true)∈y.tc)∧(y.tc≠ []→yF pj.op=true)∧(ro pj.op=true→ ∀a∈y.tc,a.2=false):=by
    intro j y hy
    have SE:=(List.getElem?_eq_some_iff.1 hy).1
    have yK:pos[j]?=some (pos[j]'(by omega)):=List.getElem?_eq_getElem (by omega)
    obtain ⟨z,hz,hez⟩:=axO j _ yK
    rw [hy] at hz;cases hz
    exact ⟨_,yK,SC hez⟩
   -- two that share a block come in order
   have axQ: ∀(j:Nat) y (b c:Nat×Bool),outs[j]?=some y→j≠i→b∈x.tc→c∈y.tc→b.1=c.1→(b.2=true∨c.2=true)→(j<i∧listed.getD j false=true)∨(i<j∧listed.getD j false=false):=by
    intro j y b c hy V8 hb hcc hbc hw
    obtain ⟨pj,yK,HM,hyu,hyh,hyr⟩:=other j y hy
    have hh1:=hxh (fun e=>by rw [e] at hb;cases hb)
    have hh2:=hyh (fun e=>by rw [e] at hcc;cases hcc)
    have hro: ¬(ro po.op=true∧ro pj.op=true):=by
     rintro ⟨r1,r2⟩
     have:=hxr r1 b hb
     have:=hyr r2 c hcc
     simp_all
    have tx:Mb outs i=x.tc:=by simp only [Mb,SG]
    have ty:Mb outs j=y.tc:=by simp only [Mb,hy]
    rcases Nat.lt_or_gt_of_ne V8 with hlt | hgt
    ·refine .inl ⟨hlt,?_⟩
     by_cases hm:j∈A.getD i []
     ·exact ajy j hm
     ·exfalso
      have:=List.all_eq_true.1 hP _ (Jz yK hpi hlt hm hh2 hh1 (fun h=>hro ⟨h.2,h.1⟩))
      simp only [tx,ty] at this
      have:=JA this hcc hb hbc.symm
      rcases hw with h | h
      ·rw [this.2] at h;cases h
      ·rw [this.1] at h;cases h
    ·refine .inr ⟨hgt,?_⟩
     by_cases hm:i∈A.getD j []
     ·cases hq:listed.getD j false with
      | false=>rfl
      | true=>have:=ajx j i hm hq;rw [hLi] at this;cases this
     ·exfalso
      have:=List.all_eq_true.1 hP _ (Jz hpi yK hgt hm hh1 hh2 hro)
      simp only [tx,ty] at this
      have:=JA this hb hcc hbc
      rcases hw with h | h
      ·rw [this.1] at h;cases h
      ·rw [this.2] at h;cases h
   -- so it does what it did in the text's order
   have aCG:iV γ po (pW (fun j=>listed.getD j false) 0 outs st)=some x:=by
    refine Wm (fun t ht=>?_) hex (fun b hb=>?_)
    ·obtain ⟨hn,hw⟩:=ZV t
     refine ou (c:=fun st=>st.s t) hn hw outs 0 st st (fun j y hy Jv=>?_) rfl
     rw [Nat.zero_add]
     obtain ⟨pj,yK,HM,_⟩:=other j y hy
     by_cases e:j=i
     ·subst e;rw [hLi];simp
     ·have:=(Jy hD hpi yK (Ne.symm e) (by rw [←HM];exact Jv)).2 ht
      rcases this with ⟨h1,h2⟩ | ⟨h1,h2⟩
      ·rw [ajy j h2];simp [h1]
      ·cases hq:listed.getD j false with
       | false=>simp;omega
       | true=>have:=ajx j i h2 hq;rw [hLi] at this;cases this
    ·obtain ⟨hn,hw⟩:=ZW b.1
     refine ou (c:=fun st=>st.h b.1) hn hw outs 0 st st (fun j y hy Jv=>?_) rfl
     rw [Nat.zero_add]
     obtain ⟨u,hu,hub⟩:=Jv
     by_cases e:j=i
     ·subst e;rw [hLi];simp
     ·obtain ⟨pj,yK,HM,hyu,_⟩:=other j y hy
      rcases axQ j y b (u.1,true) hy e hb (hyu u hu) hub.symm (.inr rfl) with ⟨h1,h2⟩ | ⟨h1,h2⟩
      ·rw [h2];simp [h1]
      ·rw [h2];simp;omega
   have aCH:pW (fun j=>(listed.setIfInBounds i true).getD j false) 0 outs st=apply x (pW (fun j=>listed.getD j false) 0 outs st):=by
    refine aju SG (by simp [lJ]) (fun j hj=>?_) ?_ ?_
    ·have:(listed.setIfInBounds i true)[j]?=listed[j]?:=Array.getElem?_setIfInBounds_ne (Ne.symm hj)
     simp [Array.getD_eq_getD_getElem?,this]
    ·intro j y t hy SA Wk hxt hyt
     obtain ⟨pj,yK,HM,_⟩:=other j y hy
     exact (Jy hD hpi yK (by omega) (by rw [←HM];exact hyt)).1 (by rw [←Pv];exact hxt)
    ·intro j y u v hy SA Wk hu hv e
     obtain ⟨pj,yK,HM,hyu,_⟩:=other j y hy
     rcases axQ j y (u.1,true) (v.1,true) hy (by omega) (hxu u hu) (hyu v hv) e.symm (.inl rfl) with ⟨h1,_⟩ | ⟨_,h2⟩
     ·omega
     ·rw [h2] at Wk;cases Wk
   unfold wpOp
   simp only [ho]
   have stp:=NG (E:=E) (m:=m) (aQ:=aQ) (w0:=w0) k5 (K:=wpAny P .any ops Q fuel (listed.setIfInBounds i true)) (Q:=Q) hco aCG hrel fun a2 w2 hr2=>by
    refine ih _ _ _ ?_ (by simp [hs]) ?_ (by rw [aCH];exact hr2)
    ·have:((listed.setIfInBounds i true).toList.filter id).length=(listed.toList.filter id).length+1:=by
      have hlf:listed[i]=false:=by simpa [lJ] using h0
      rw [Array.toList_setIfInBounds,←List.countP_eq_length_filter,←List.countP_eq_length_filter,List.countP_set (by simpa using lJ)]
      simp [hlf]
     omega
    ·intro j oj hj hoj e he hb
     have up: ∀k,listed.getD k false=true→(listed.setIfInBounds i true).getD k false=true:=fun k hk=>by
      by_cases e:k=i
      ·subst e;simp [lJ]
      ·have:(listed.setIfInBounds i true)[k]?=listed[k]?:=Array.getElem?_setIfInBounds_ne (Ne.symm e)
       simpa [Array.getD_eq_getD_getElem?,this] using hk
     by_cases e2:j=i
     ·subst e2;rw [ho] at hoj;cases hoj
      exact up _ (hall e he hb)
     ·have h5:(listed.setIfInBounds i true)[j]?=listed[j]?:=Array.getElem?_setIfInBounds_ne (Ne.symm e2)
      exact up _ (Wn j oj (by simpa [Array.getD_eq_getD_getElem?,h5] using hj) hoj e he hb)
   split
   ·rename_i hwn;rw [if_pos hwn] at stp;exact .inl stp
   ·rename_i hwn;rw [if_neg hwn] at stp;exact stp
 have hr0:Rel E m aQ w0 N (pW (fun j=>(Array.replicate ops.size false).getD j false) 0 outs st) a {w with drawn:=w.drawn+1}:=by
  have:(fun j=>(Array.replicate ops.size false).getD j false)=fun _=>false:=by
   funext j
   by_cases h:j<ops.size<;>simp [h]
  rw [this,FJ]
  obtain ⟨⟨φ,hm,hs⟩,h1,h2⟩:=hr
  obtain ⟨d1,d2⟩:=hm.drew
  exact ⟨⟨φ,d1,fun t=>d2.v (hs t)⟩,h1,h2⟩
 refine main _ _ _ _ (by simp) (by simp) ?_ hr0
 intro j o hj
 exfalso
 by_cases hlt:j<ops.size<;>simp [hlt] at hj
end
end Go.Proofs.YtimbfadnabfabaaGreatDoor.Pm
