/- The small machine: a statement whose order is open. No program is named here. -/
import Derived.Test.YtimbfadnabfabaaGreatDoorPx
namespace Go.Proofs.YtimbfadnabfabaaGreatDoor.Pm
open Go.RowKit

def axv(A:List (List Nat))(o:Oper):List Nat:=((o.after.toList.filter (Region.binds .any ·)).flatMap fun e=>e.on::A.getD e.on []).eraseDups
def avS:List Oper→List (List Nat)→List (List Nat)
 | [],A=>A
 | o::r,A=>avS r (A++ [axv A o])
def Lj(A:List (List Nat)):List Oper→Nat→Bool
 | [],_=>true
 | o::r,i=>((A.getD i []).all fun j=>o.after.toList.any fun e=>Region.binds .any e&&decide (e.on<i)&&(Nat.beq e.on j || (A.getD e.on []).any (Nat.beq j)))&&(o.after.toList.all fun e=> !Region.binds .any e || decide (e.on<i))&&Lj A r (i+1)
def hasB(A:List (List Nat))(i j:Nat):Bool:=(A.getD i []).any (Nat.beq j)
def ahQ:Operand→List Nat
 | .tmp t=> [t]
 | _=> []
def slotsOf(o:PO):List Nat:=(cw o.op).flatMap ahQ++(match o.g with | some (t,_)=> [t] | none=> [])
def ro:kj→Bool
 | .load .. | .jz .. | .uW .. | .len .. | .sS _=>true
 | _=>false
def CS(A:List (List Nat))(pos:List PO):List (Nat×Nat):=
 (List.range pos.length).flatMap fun j=>(List.range j).filterMap fun i=>
  match pos[i]?,pos[j]? with
  | some a,some b=>if hasB A j i || !w9 a.op || !w9 b.op || (ro a.op&&ro b.op) then none else some (i,j)
  | _,_=>none
def isD(d:Option Nat)(t:Nat):Bool:=match d with | some x=>Nat.beq x t | none=>false
def G6(A:List (List Nat))(pos:List PO):Bool:=
 (List.range pos.length).all fun i=>(List.range pos.length).all fun j=>Nat.beq i j ||
  match pos[i]?,pos[j]? with
  | some a,some b=>
   (match b.d with
    | some t=> !isD a.d t&&(!(slotsOf a).any (Nat.beq t) || (decide (j<i)&&hasB A i j) || (decide (i<j)&&hasB A j i))
    | none=>true)
  | _,_=>true

section
variable {γ : ek}
def oP(L:Nat→Bool):Nat→List Out→St→St
 | _,[],st=>st
 | k,x::l,st=>oP L (k+1) l (if L k then apply x st else st)
section
variable {α : Type} {c : St → α} {W : Out → Prop}
theorem nV(hn: ∀x st,¬W x→c (apply x st)=c st)(hw: ∀x st ju,W x→c (apply x st)=c (apply x ju)){L L':Nat→Bool}: ∀(outs:List Out) (k:Nat) (st ju:St),(∀(i:Nat) x,outs[i]?=some x→W x→L (k+i)=L' (k+i))→c st=c ju→c (oP L k outs st)=c (oP L' k outs ju)
 | [],_,_,_,_,h=>h
 | x::l,k,st,ju,h,he=>by
  simp only [oP]
  refine nV hn hw l (k+1) _ _ (fun i y hy hW=>by have:=h (i+1) y (by simpa using hy) hW;rwa [show k+(i+1)=k+1+i by omega] at this) ?_
  by_cases hW:W x
  ·have:=h 0 x rfl hW
   simp only [Nat.add_zero] at this
   rw [this]
   split
   ·exact hw _ _ _ hW
   ·exact he
  ·split<;>split<;>simp only [hn _ _ hW,he]
theorem EU(hn: ∀x st,¬W x→c (apply x st)=c st)(hw: ∀x st ju,W x→c (apply x st)=c (apply x ju)){L:Nat→Bool}: ∀(outs:List Out) (i k:Nat) (x:Out) (st ju:St),outs[i]?=some x→W x→L (k+i)=true→(∀j y,outs[j]?=some y→i<j→W y→L (k+j)=false)→c (oP L k outs st)=c (apply x ju)
 | [],i,_,_,_,_,h,_,_,_=>by simp at h
 | y::l,0,k,x,st,ju,h,hW,hL,hno=>by
  simp at h;subst h
  simp only [oP]
  rw [if_pos (by simpa using hL)]
  have:=nV hn hw (L:=L) (L':=fun _=>false) l (k+1) (apply y st) (apply y ju) (fun i z hz hWz=>by
   have:=hno (i+1) z (by simpa using hz) (by omega) hWz
   rwa [show k+(i+1)=k+1+i by omega] at this) (hw _ _ _ hW)
  rw [this]
  clear this
  have: ∀(l:List Out) (k:Nat) (st:St),oP (fun _=>false) k l st=st:=by
   intro l
   induction l with
   | nil=>intro _ _;rfl
   | cons z l ih=>intro k st;simp only [oP];exact ih _ _
  rw [this]
 | y::l,i+1,k,x,st,ju,h,hW,hL,hno=>by
  simp only [oP]
  exact EU hn hw l i (k+1) x _ ju (by simpa using h) hW (by rwa [show k+1+i=k+(i+1) by omega]) fun j z hz RZ hWz=>by
   have:=hno (j+1) z (by simpa using hz) (by omega) hWz
   rwa [show k+(j+1)=k+1+j by omega] at this
end
theorem FK: ∀(l:eu) (H H':Nat→cq) (i:Nat),(∃u∈l,u.1=i)→eJ H l i=eJ H' l i
 | [],_,_,_,h=>by obtain ⟨u,hu,_⟩:=h;cases hu
 | x::l,H,H',i,h=>by
  simp only [eJ]
  by_cases hl: ∃u∈l,u.1=i
  ·exact FK l _ _ i hl
  ·obtain ⟨u,hu,rfl⟩:=h
   have hno: ∀y∈l,y.1≠u.1:=fun y hy e=>hl ⟨y,hy,e⟩
   rcases List.mem_cons.1 hu with rfl | hu
   ·rw [jt _ _ _ hno,jt _ _ _ hno,aQ,aQ]
   ·exact absurd rfl (hno u hu)
theorem Zf(t:Nat):(∀(x:Out) (st:St),¬x.d=some t→(apply x st).s t=st.s t)∧(∀(x:Out) (st ju:St),x.d=some t→(apply x st).s t=(apply x ju).s t):=by
 refine ⟨fun x st h=>?_,fun x st ju h=>?_⟩
 ·simp only [apply]
  cases hd:x.d with
  | none=>rfl
  | some d=>exact dK _ _ _ _ (fun e=>h (by rw [hd,e]))
 ·simp only [apply,h,aQ]
theorem Zg(i:Nat):(∀(x:Out) (st:St),¬(∃u∈x.aD,u.1=i)→(apply x st).h i=st.h i)∧(∀(x:Out) (st ju:St),(∃u∈x.aD,u.1=i)→(apply x st).h i=(apply x ju).h i):=
 ⟨fun x st h=>jt _ _ _ fun u hu e=>h ⟨u,hu,e⟩,fun x st ju h=>FK _ _ _ _ h⟩
theorem St.eq{a b:St}(h1: ∀t,a.s t=b.s t)(h2: ∀i,a.h i=b.h i):a=b:=by
 obtain ⟨s,h⟩:=a
 obtain ⟨s',h'⟩:=b
 congr 1
 ·exact funext h1
 ·exact funext h2
theorem ahR{L L':Nat→Bool}{outs:List Out}{i:Nat}{x:Out}{st:St}(hi:outs[i]?=some x)(hL':L' i=true)(hne: ∀j,j≠i→L' j=L j)
  (hd: ∀(j:Nat) y t,outs[j]?=some y→i<j→L j=true→x.d=some t→y.d≠some t) (hh: ∀(j:Nat) y u v,outs[j]?=some y→i<j→L j=true→u∈x.aD→v∈y.aD→v.1≠u.1):oP L' 0 outs st=apply x (oP L 0 outs st):=by
 refine St.eq (fun t=>?_) fun id=>?_
 ·obtain ⟨hn,hw⟩:=Zf t
  by_cases hx:x.d=some t
  ·exact EU (c:=fun st=>st.s t) hn hw outs i 0 x st _ hi hx (by simpa using hL') fun j y hy RZ Iw=>by
    rw [Nat.zero_add,hne j (by omega)]
    cases VM:L j with
    | false=>rfl
    | true=>exact absurd Iw (hd j y t hy RZ VM hx)
  ·rw [hn x _ hx]
   exact nV (c:=fun st=>st.s t) hn hw outs 0 st st (fun j y hy Iw=>by
    rw [Nat.zero_add]
    refine hne j fun e=>?_
    subst e;rw [hi] at hy;cases hy;exact hx Iw) rfl
 ·obtain ⟨hn,hw⟩:=Zg id
  by_cases hx: ∃u∈x.aD,u.1=id
  ·exact EU (c:=fun st=>st.h id) hn hw outs i 0 x st _ hi hx (by simpa using hL') fun j y hy RZ Iw=>by
    rw [Nat.zero_add,hne j (by omega)]
    cases VM:L j with
    | false=>rfl
    | true=>
     obtain ⟨u,hu,rfl⟩:=hx
     obtain ⟨v,hv,e⟩:=Iw
     exact absurd e (hh j y u v hy RZ VM hu hv)
  ·rw [hn x _ hx]
   exact nV (c:=fun st=>st.h id) hn hw outs 0 st st (fun j y hy Iw=>by
    rw [Nat.zero_add]
    refine hne j fun e=>?_
    subst e;rw [hi] at hy;cases hy;exact hx Iw) rfl
theorem Ix(L:Nat→Bool): ∀(l:List Out) (k:Nat) (st:St),oP L (k+1) l st=oP (fun j=>L (j+1)) k l st
 | [],_,_=>rfl
 | x::l,k,st=>by simp only [oP];exact Ix L l (k+1) _
theorem EW: ∀(l:List Out) (k:Nat) (st:St),oP (fun _=>false) k l st=st
 | [],_,_=>rfl
 | x::l,k,st=>by simp only [oP];exact EW l (k+1) _
theorem R1: ∀(l:List Out) (L:Nat→Bool) (k:Nat) (st:St),(∀j,j<l.length→L (k+j)=true)→oP L k l st=l.foldl (fun st x=>apply x st) st
 | [],_,_,_,_=>rfl
 | x::l,L,k,st,h=>by
  simp only [oP,List.foldl_cons]
  rw [if_pos (by simpa using h 0 (by simp))]
  exact R1 l L (k+1) _ fun j hj=>by have:=h (j+1) (by simp;omega);rwa [show k+(j+1)=k+1+j by omega] at this
theorem MT: ∀{pos:List PO} {st bl:St} {outs:List Out},gb γ pos st=some (outs,bl)→outs.length=pos.length∧bl=outs.foldl (fun st x=>apply x st) st∧ ∀(i:Nat) po,pos[i]?=some po→ ∃x,outs[i]?=some x∧iP γ po (oP (fun j=>decide (j<i)) 0 outs st)=some x
 | [],st,bl,outs,h=>by
  simp only [gb,Option.some.injEq,Prod.mk.injEq] at h
  obtain ⟨rfl,rfl⟩:=h
  exact ⟨rfl,rfl,fun i po hi=>by simp at hi⟩
 | po::pos,st,bl,outs,h=>by
  simp only [gb] at h
  split at h
  ·rename_i x hx
   split at h
   ·rename_i l ju hl
    simp only [Option.some.injEq,Prod.mk.injEq] at h
    obtain ⟨rfl,rfl⟩:=h
    obtain ⟨h1,h2,h3⟩:=MT hl
    refine ⟨by simp [h1],by simpa using h2,fun i po' hi=>?_⟩
    cases i with
    | zero=>
     simp at hi;subst hi
     refine ⟨x,rfl,?_⟩
     have:(fun j=>decide (j<0))=fun _=>false:=by funext j;simp
     rw [this,EW];exact hx
    | succ i=>
     obtain ⟨y,hy,he⟩:=h3 i po' (by simpa using hi)
     refine ⟨y,by simpa using hy,?_⟩
     simp only [oP]
     rw [if_pos (by simp),Ix]
     have:(fun j=>decide (j+1<i+1))=fun j=>decide (j<i):=by funext j;simp
     rw [this];exact he
   ·cases h
  ·cases h
theorem VN{ρ ρ':Operand→PV}{H H':Nat→cq}{d:Nat}{pop:kj}(h1: ∀x∈cw pop,ρ x=ρ' x)(h2: ∀a∈bT ρ H d pop,H a.1=H' a.1):bT ρ H d pop=bT ρ' H' d pop:=by
 have hm: ∀{xs:List Operand},(∀x∈xs,ρ x=ρ' x)→xs.map ρ=xs.map ρ':=fun h=>List.map_congr_left h
 cases pop with
 | call f xs=>have e:=hm (xs:=xs) h1;simp only [bT,e]
 | jd f xs=>have e:=hm (xs:=xs) h1;simp only [bT,e]
 | fO f xs=>
  have e:=hm (xs:=xs) h1
  have e2:=Iq (H:=H) (H':=H') (args:=(xs.map ρ).map pZ) (fun i hi=>h2 (i,false) (by simp only [bT,List.mem_append];exact .inl (.inr (List.mem_map_of_mem hi))))
  rw [e] at e2
  simp only [bT,e,e2]
 | lU x xs=>have e:=hm (xs:=xs) (fun y hy=>h1 y (by simp [cw,hy]));simp only [bT,e,h1 x (by simp [cw])]
 | app e k b x y=>simp only [bT,h1 x (by simp [cw]),h1 y (by simp [cw])]
 | store n x y=>simp only [bT,h1 x (by simp [cw])]
 | Ox n k x lo hi=>simp only [bT,h1 x (by simp [cw])]
 | HP n k x lo hi=>simp only [bT,h1 x (by simp [cw])]
 | Oy k z x=>simp only [bT,h1 x (by simp [cw])]
 | OA x=>simp only [bT,h1 x (by simp [cw])]
 | Cy k x y=>simp only [bT,h1 x (by simp [cw]),h1 y (by simp [cw])]
 | sN l k x y=>simp only [bT,h1 x (by simp [cw])]
 | jz l k x y=>simp only [bT,h1 x (by simp [cw])]
 | uW l k x lo hi=>simp only [bT,h1 x (by simp [cw])]
 | load a n x=>simp only [bT,h1 x (by simp [cw])]
 | Mw x=>simp only [bT,h1 x (by simp [cw])]
 | Rk o x=>simp only [bT,h1 x (by simp [cw])]
 | Rm o k x=>simp only [bT,h1 x (by simp [cw])]
 | len s x=>simp only [bT,h1 x (by simp [cw])]
 | sS x=>simp only [bT,h1 x (by simp [cw])]
 | wU e k n z ps=>
  have e:ps.map (fun x=>ρ x.2.2)=ps.map (fun x=>ρ' x.2.2):=List.map_congr_left fun x hx=>h1 _ (by simp only [cw];exact List.mem_map_of_mem (f:=fun x=>x.2.2) hx)
  simp only [bT,e]
 | _=>simp only [bT]
theorem VO{po:PO}{st ju:St}{x:Out}(h1: ∀t∈slotsOf po,st.s t=ju.s t)(he:iP γ po st=some x)(h2: ∀a∈x.tc,st.h a.1=ju.h a.1):iP γ po ju=some x:=by
 have ho: ∀y∈cw po.op,bU st.s y=bU ju.s y:=by
  intro y hy
  cases y with
  | tmp t=>exact h1 t (by simp only [slotsOf,List.mem_append];exact .inl (List.mem_flatMap.2 ⟨_,hy,by simp [ahQ]⟩))
  | _=>rfl
 have core: ∀{r:Option Out},(match az γ st.h (po.d.getD 0) (bU st.s) po.op with
   | some (p,aD)=>some (⟨po.d,p,aD,bT (bU st.s) st.h (po.d.getD 0) po.op⟩:Out)
   | none=>none)=some x→(match az γ ju.h (po.d.getD 0) (bU ju.s) po.op with
   | some (p,aD)=>some (⟨po.d,p,aD,bT (bU ju.s) ju.h (po.d.getD 0) po.op⟩:Out)
   | none=>none)=some x:=by
  intro r he
  split at he
  ·rename_i p aD hp
   simp only [Option.some.injEq] at he
   have htc:x.tc=bT (bU st.s) st.h (po.d.getD 0) po.op:=by rw [←he]
   rw [←VK ho (fun a ha=>h2 a (by rw [htc];exact ha)),hp,←VN ho (fun a ha=>h2 a (by rw [htc];exact ha))]
   simp only [he]
  ·cases he
 cases hg:po.g with
 | none=>
  simp only [iP,hg] at he ⊢
  exact core (r:=none) he
 | some q=>
  obtain ⟨t,b⟩:=q
  have:=h1 t (by simp [slotsOf,hg])
  simp only [iP,hg,←this] at he ⊢
  split at he
  ·split at he
   ·rename_i hcb
    rw [if_pos hcb]
    exact core (r:=none) he
   ·rename_i hcb
    rw [if_neg hcb]
    exact he
  ·cases he
theorem R2{po:PO}{st:St}{x:Out}(he:iP γ po st=some x):x.d=po.d∧(∀u∈x.aD,(u.1,true)∈x.tc)∧(x.tc≠ []→w9 po.op=true)∧(ro po.op=true→ ∀a∈x.tc,a.2=false):=by
 have hh: ∀{ρ:Operand→PV} {H:Nat→cq} {d:Nat},bT ρ H d po.op≠ []→w9 po.op=true:=by
  intro ρ H d h
  cases hp:po.op<;>first | rfl | (rw [hp] at h;exact absurd rfl h)
 have hr: ∀{ρ:Operand→PV} {H:Nat→cq} {d:Nat},ro po.op=true→ ∀a∈bT ρ H d po.op,a.2=false:=by
  intro ρ H d h a ha
  cases hp:po.op<;>rw [hp] at h ha<;>first | (cases h;done) | (simp only [bT,rd] at ha;obtain ⟨i,_,rfl⟩:=List.mem_map.1 ha;rfl)
 have core:(match az γ st.h (po.d.getD 0) (bU st.s) po.op with
   | some (p,aD)=>some (⟨po.d,p,aD,bT (bU st.s) st.h (po.d.getD 0) po.op⟩:Out)
   | none=>none)=some x→x.d=po.d∧(∀u∈x.aD,(u.1,true)∈x.tc)∧(x.tc≠ []→w9 po.op=true)∧(ro po.op=true→ ∀a∈x.tc,a.2=false):=by
  intro he
  split at he
  ·rename_i p aD hp
   simp only [Option.some.injEq] at he;subst he
   exact ⟨rfl,VL hp,hh,hr⟩
  ·cases he
 unfold iP at he
 split at he
 ·exact core he
 ·split at he
  ·split at he
   ·exact core he
   ·simp only [Option.some.injEq] at he;subst he
    refine ⟨rfl,?_,fun h=>absurd rfl h,?_⟩
    ·intro u hu;cases hu
    ·intro _ a ha;cases ha
  ·cases he
end
end Go.Proofs.YtimbfadnabfabaaGreatDoor.Pm
