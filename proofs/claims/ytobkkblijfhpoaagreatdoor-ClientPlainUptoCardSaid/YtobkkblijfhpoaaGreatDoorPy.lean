/- The small machine: a statement whose order is open. No program is named here. -/
import Derived.Test.YtobkkblijfhpoaaGreatDoorPx
namespace Go.Proofs.YtobkkblijfhpoaaGreatDoor.Pm
open Go.RowKit

def axn(A:List (List Nat))(o:Oper):List Nat:=((o.after.toList.filter (Region.binds .any ·)).flatMap fun e=>e.on::A.getD e.on []).eraseDups
def awd:List Oper→List (List Nat)→List (List Nat)
 | [],A=>A
 | o::r,A=>awd r (A++ [axn A o])
def Nd(A:List (List Nat)):List Oper→Nat→Bool
 | [],_=>true
 | o::r,i=>((A.getD i []).all fun j=>o.after.toList.any fun e=>Region.binds .any e&&decide (e.on<i)&&(Nat.beq e.on j || (A.getD e.on []).any (Nat.beq j)))&&(o.after.toList.all fun e=> !Region.binds .any e || decide (e.on<i))&&Nd A r (i+1)
def hasB(A:List (List Nat))(i j:Nat):Bool:=(A.getD i []).any (Nat.beq j)
def ajS:Operand→List Nat
 | .tmp t=> [t]
 | _=> []
def slotsOf(o:PO):List Nat:=(cN o.op).flatMap ajS++(match o.g with | some (t,_)=> [t] | none=> [])
def ro:gP→Bool
 | .load .. | .fQ .. | .tD .. | .len .. | .su _=>true
 | _=>false
def DO(A:List (List Nat))(pos:List PO):List (Nat×Nat):=
 (List.range pos.length).flatMap fun j=>(List.range j).filterMap fun i=>
  match pos[i]?,pos[j]? with
  | some a,some b=>if hasB A j i || !yb a.op || !yb b.op || (ro a.op&&ro b.op) then none else some (i,j)
  | _,_=>none
def isD(d:Option Nat)(t:Nat):Bool:=match d with | some x=>Nat.beq x t | none=>false
def I1(A:List (List Nat))(pos:List PO):Bool:=
 (List.range pos.length).all fun i=>(List.range pos.length).all fun j=>Nat.beq i j ||
  match pos[i]?,pos[j]? with
  | some a,some b=>
   (match b.d with
    | some t=> !isD a.d t&&(!(slotsOf a).any (Nat.beq t) || (decide (j<i)&&hasB A i j) || (decide (i<j)&&hasB A j i))
    | none=>true)
  | _,_=>true

section
variable {γ : cX}
def oJ(L:Nat→Bool):Nat→List Out→St→St
 | _,[],st=>st
 | k,x::l,st=>oJ L (k+1) l (if L k then apply x st else st)
section
variable {α : Type} {c : St → α} {W : Out → Prop}
theorem nT(hn: ∀x st,¬W x→c (apply x st)=c st)(hw: ∀x st ji,W x→c (apply x st)=c (apply x ji)){L L':Nat→Bool}: ∀(outs:List Out) (k:Nat) (st ji:St),(∀(i:Nat) x,outs[i]?=some x→W x→L (k+i)=L' (k+i))→c st=c ji→c (oJ L k outs st)=c (oJ L' k outs ji)
 | [],_,_,_,_,h=>h
 | x::l,k,st,ji,h,he=>by
  simp only [oJ]
  refine nT hn hw l (k+1) _ _ (fun i y hy hW=>by have:=h (i+1) y (by simpa using hy) hW;rwa [show k+(i+1)=k+1+i by omega] at this) ?_
  by_cases hW:W x
  ·have:=h 0 x rfl hW
   simp only [Nat.add_zero] at this
   rw [this]
   split
   ·exact hw _ _ _ hW
   ·exact he
  ·split<;>split<;>simp only [hn _ _ hW,he]
theorem GH(hn: ∀x st,¬W x→c (apply x st)=c st)(hw: ∀x st ji,W x→c (apply x st)=c (apply x ji)){L:Nat→Bool}: ∀(outs:List Out) (i k:Nat) (x:Out) (st ji:St),outs[i]?=some x→W x→L (k+i)=true→(∀j y,outs[j]?=some y→i<j→W y→L (k+j)=false)→c (oJ L k outs st)=c (apply x ji)
 | [],i,_,_,_,_,h,_,_,_=>by simp at h
 | y::l,0,k,x,st,ji,h,hW,hL,hno=>by
  simp at h;subst h
  simp only [oJ]
  rw [if_pos (by simpa using hL)]
  have:=nT hn hw (L:=L) (L':=fun _=>false) l (k+1) (apply y st) (apply y ji) (fun i z hz hWz=>by
   have:=hno (i+1) z (by simpa using hz) (by omega) hWz
   rwa [show k+(i+1)=k+1+i by omega] at this) (hw _ _ _ hW)
  rw [this]
  clear this
  have: ∀(l:List Out) (k:Nat) (st:St),oJ (fun _=>false) k l st=st:=by
   intro l
   induction l with
   | nil=>intro _ _;rfl
   | cons z l ih=>intro k st;simp only [oJ];exact ih _ _
  rw [this]
 | y::l,i+1,k,x,st,ji,h,hW,hL,hno=>by
  simp only [oJ]
  exact GH hn hw l i (k+1) x _ ji (by simpa using h) hW (by rwa [show k+1+i=k+(i+1) by omega]) fun j z hz xR hWz=>by
   have:=hno (j+1) z (by simpa using hz) (by omega) hWz
   rwa [show k+(j+1)=k+1+j by omega] at this
end
theorem HQ: ∀(l:eo) (H H':Nat→cL) (i:Nat),(∃u∈l,u.1=i)→eO H l i=eO H' l i
 | [],_,_,_,h=>by obtain ⟨u,hu,_⟩:=h;cases hu
 | x::l,H,H',i,h=>by
  simp only [eO]
  by_cases hl: ∃u∈l,u.1=i
  ·exact HQ l _ _ i hl
  ·obtain ⟨u,hu,rfl⟩:=h
   have hno: ∀y∈l,y.1≠u.1:=fun y hy e=>hl ⟨y,hy,e⟩
   rcases List.mem_cons.1 hu with rfl | hu
   ·rw [jh _ _ _ hno,jh _ _ _ hno,aQ,aQ]
   ·exact absurd rfl (hno u hu)
theorem aaJ(t:Nat):(∀(x:Out) (st:St),¬x.d=some t→(apply x st).s t=st.s t)∧(∀(x:Out) (st ji:St),x.d=some t→(apply x st).s t=(apply x ji).s t):=by
 refine ⟨fun x st h=>?_,fun x st ji h=>?_⟩
 ·simp only [apply]
  cases hd:x.d with
  | none=>rfl
  | some d=>exact dV _ _ _ _ (fun e=>h (by rw [hd,e]))
 ·simp only [apply,h,aQ]
theorem aaK(i:Nat):(∀(x:Out) (st:St),¬(∃u∈x.aH,u.1=i)→(apply x st).h i=st.h i)∧(∀(x:Out) (st ji:St),(∃u∈x.aH,u.1=i)→(apply x st).h i=(apply x ji).h i):=
 ⟨fun x st h=>jh _ _ _ fun u hu e=>h ⟨u,hu,e⟩,fun x st ji h=>HQ _ _ _ _ h⟩
theorem St.eq{a b:St}(h1: ∀t,a.s t=b.s t)(h2: ∀i,a.h i=b.h i):a=b:=by
 obtain ⟨s,h⟩:=a
 obtain ⟨s',h'⟩:=b
 congr 1
 ·exact funext h1
 ·exact funext h2
theorem ajT{L L':Nat→Bool}{outs:List Out}{i:Nat}{x:Out}{st:St}(hi:outs[i]?=some x)(hL':L' i=true)(hne: ∀j,j≠i→L' j=L j)
  (hd: ∀(j:Nat) y t,outs[j]?=some y→i<j→L j=true→x.d=some t→y.d≠some t) (hh: ∀(j:Nat) y u v,outs[j]?=some y→i<j→L j=true→u∈x.aH→v∈y.aH→v.1≠u.1):oJ L' 0 outs st=apply x (oJ L 0 outs st):=by
 refine St.eq (fun t=>?_) fun id=>?_
 ·obtain ⟨hn,hw⟩:=aaJ t
  by_cases hx:x.d=some t
  ·exact GH (c:=fun st=>st.s t) hn hw outs i 0 x st _ hi hx (by simpa using hL') fun j y hy xR Kj=>by
    rw [Nat.zero_add,hne j (by omega)]
    cases Xt:L j with
    | false=>rfl
    | true=>exact absurd Kj (hd j y t hy xR Xt hx)
  ·rw [hn x _ hx]
   exact nT (c:=fun st=>st.s t) hn hw outs 0 st st (fun j y hy Kj=>by
    rw [Nat.zero_add]
    refine hne j fun e=>?_
    subst e;rw [hi] at hy;cases hy;exact hx Kj) rfl
 ·obtain ⟨hn,hw⟩:=aaK id
  by_cases hx: ∃u∈x.aH,u.1=id
  ·exact GH (c:=fun st=>st.h id) hn hw outs i 0 x st _ hi hx (by simpa using hL') fun j y hy xR Kj=>by
    rw [Nat.zero_add,hne j (by omega)]
    cases Xt:L j with
    | false=>rfl
    | true=>
     obtain ⟨u,hu,rfl⟩:=hx
     obtain ⟨v,hv,e⟩:=Kj
     exact absurd e (hh j y u v hy xR Xt hu hv)
  ·rw [hn x _ hx]
   exact nT (c:=fun st=>st.h id) hn hw outs 0 st st (fun j y hy Kj=>by
    rw [Nat.zero_add]
    refine hne j fun e=>?_
    subst e;rw [hi] at hy;cases hy;exact hx Kj) rfl
theorem Kk(L:Nat→Bool): ∀(l:List Out) (k:Nat) (st:St),oJ L (k+1) l st=oJ (fun j=>L (j+1)) k l st
 | [],_,_=>rfl
 | x::l,k,st=>by simp only [oJ];exact Kk L l (k+1) _
theorem GI: ∀(l:List Out) (k:Nat) (st:St),oJ (fun _=>false) k l st=st
 | [],_,_=>rfl
 | x::l,k,st=>by simp only [oJ];exact GI l (k+1) _
theorem Td: ∀(l:List Out) (L:Nat→Bool) (k:Nat) (st:St),(∀j,j<l.length→L (k+j)=true)→oJ L k l st=l.foldl (fun st x=>apply x st) st
 | [],_,_,_,_=>rfl
 | x::l,L,k,st,h=>by
  simp only [oJ,List.foldl_cons]
  rw [if_pos (by simpa using h 0 (by simp))]
  exact Td l L (k+1) _ fun j hj=>by have:=h (j+1) (by simp;omega);rwa [show k+(j+1)=k+1+j by omega] at this
theorem OH: ∀{pos:List PO} {st bX:St} {outs:List Out},fS γ pos st=some (outs,bX)→outs.length=pos.length∧bX=outs.foldl (fun st x=>apply x st) st∧ ∀(i:Nat) po,pos[i]?=some po→ ∃x,outs[i]?=some x∧iB γ po (oJ (fun j=>decide (j<i)) 0 outs st)=some x
 | [],st,bX,outs,h=>by
  simp only [fS,Option.some.injEq,Prod.mk.injEq] at h
  obtain ⟨rfl,rfl⟩:=h
  exact ⟨rfl,rfl,fun i po hi=>by simp at hi⟩
 | po::pos,st,bX,outs,h=>by
  simp only [fS] at h
  split at h
  ·rename_i x hx
   split at h
   ·rename_i l ji hl
    simp only [Option.some.injEq,Prod.mk.injEq] at h
    obtain ⟨rfl,rfl⟩:=h
    obtain ⟨h1,h2,h3⟩:=OH hl
    refine ⟨by simp [h1],by simpa using h2,fun i po' hi=>?_⟩
    cases i with
    | zero=>
     simp at hi;subst hi
     refine ⟨x,rfl,?_⟩
     have:(fun j=>decide (j<0))=fun _=>false:=by funext j;simp
     rw [this,GI];exact hx
    | succ i=>
     obtain ⟨y,hy,he⟩:=h3 i po' (by simpa using hi)
     refine ⟨y,by simpa using hy,?_⟩
     simp only [oJ]
     rw [if_pos (by simp),Kk]
     have:(fun j=>decide (j+1<i+1))=fun j=>decide (j<i):=by funext j;simp
     rw [this];exact he
   ·cases h
  ·cases h
theorem Xu{ρ ρ':Operand→PV}{H H':Nat→cL}{d:Nat}{pop:gP}(h1: ∀x∈cN pop,ρ x=ρ' x)(h2: ∀a∈cE ρ H d pop,H a.1=H' a.1):cE ρ H d pop=cE ρ' H' d pop:=by
 have hm: ∀{xs:List Operand},(∀x∈xs,ρ x=ρ' x)→xs.map ρ=xs.map ρ':=fun h=>List.map_congr_left h
 cases pop with
 | call f xs=>have e:=hm (xs:=xs) h1;simp only [cE,e]
 | eR f xs=>have e:=hm (xs:=xs) h1;simp only [cE,e]
 | er f xs=>
  have e:=hm (xs:=xs) h1
  have e2:=Kg (H:=H) (H':=H') (args:=(xs.map ρ).map tG) (fun i hi=>h2 (i,false) (by simp only [cE,List.mem_append];exact .inl (.inr (List.mem_map_of_mem hi))))
  rw [e] at e2
  simp only [cE,e,e2]
 | nQ x xs=>have e:=hm (xs:=xs) (fun y hy=>h1 y (by simp [cN,hy]));simp only [cE,e,h1 x (by simp [cN])]
 | app e k b x y=>simp only [cE,h1 x (by simp [cN]),h1 y (by simp [cN])]
 | store n x y=>simp only [cE,h1 x (by simp [cN])]
 | Qb n k x lo hi=>simp only [cE,h1 x (by simp [cN])]
 | JO n k x lo hi=>simp only [cE,h1 x (by simp [cN])]
 | Qc k z x=>simp only [cE,h1 x (by simp [cN])]
 | Qd x=>simp only [cE,h1 x (by simp [cN])]
 | Dt k x y=>simp only [cE,h1 x (by simp [cN]),h1 y (by simp [cN])]
 | xZ l k x y=>simp only [cE,h1 x (by simp [cN])]
 | fQ l k x y=>simp only [cE,h1 x (by simp [cN])]
 | tD l k x lo hi=>simp only [cE,h1 x (by simp [cN])]
 | load a n x=>simp only [cE,h1 x (by simp [cN])]
 | Og x=>simp only [cE,h1 x (by simp [cN])]
 | Qa o x=>simp only [cE,h1 x (by simp [cN])]
 | SF o k x=>simp only [cE,h1 x (by simp [cN])]
 | len s x=>simp only [cE,h1 x (by simp [cN])]
 | su x=>simp only [cE,h1 x (by simp [cN])]
 | tC e k n z ps=>
  have e:ps.map (fun x=>ρ x.2.2)=ps.map (fun x=>ρ' x.2.2):=List.map_congr_left fun x hx=>h1 _ (by simp only [cN];exact List.mem_map_of_mem (f:=fun x=>x.2.2) hx)
  simp only [cE,e]
 | _=>simp only [cE]
theorem Xv{po:PO}{st ji:St}{x:Out}(h1: ∀t∈slotsOf po,st.s t=ji.s t)(he:iB γ po st=some x)(h2: ∀a∈x.tc,st.h a.1=ji.h a.1):iB γ po ji=some x:=by
 have ho: ∀y∈cN po.op,cK st.s y=cK ji.s y:=by
  intro y hy
  cases y with
  | tmp t=>exact h1 t (by simp only [slotsOf,List.mem_append];exact .inl (List.mem_flatMap.2 ⟨_,hy,by simp [ajS]⟩))
  | _=>rfl
 have core: ∀{r:Option Out},(match aD γ st.h (po.d.getD 0) (cK st.s) po.op with
   | some (p,aH)=>some (⟨po.d,p,aH,cE (cK st.s) st.h (po.d.getD 0) po.op⟩:Out)
   | none=>none)=some x→(match aD γ ji.h (po.d.getD 0) (cK ji.s) po.op with
   | some (p,aH)=>some (⟨po.d,p,aH,cE (cK ji.s) ji.h (po.d.getD 0) po.op⟩:Out)
   | none=>none)=some x:=by
  intro r he
  split at he
  ·rename_i p aH hp
   simp only [Option.some.injEq] at he
   have htc:x.tc=cE (cK st.s) st.h (po.d.getD 0) po.op:=by rw [←he]
   rw [←Xq ho (fun a ha=>h2 a (by rw [htc];exact ha)),hp,←Xu ho (fun a ha=>h2 a (by rw [htc];exact ha))]
   simp only [he]
  ·cases he
 cases hg:po.g with
 | none=>
  simp only [iB,hg] at he ⊢
  exact core (r:=none) he
 | some q=>
  obtain ⟨t,b⟩:=q
  have:=h1 t (by simp [slotsOf,hg])
  simp only [iB,hg,←this] at he ⊢
  split at he
  ·split at he
   ·rename_i hcb
    rw [if_pos hcb]
    exact core (r:=none) he
   ·rename_i hcb
    rw [if_neg hcb]
    exact he
  ·cases he
theorem Te{po:PO}{st:St}{x:Out}(he:iB γ po st=some x):x.d=po.d∧(∀u∈x.aH,(u.1,true)∈x.tc)∧(x.tc≠ []→yb po.op=true)∧(ro po.op=true→ ∀a∈x.tc,a.2=false):=by
 have hh: ∀{ρ:Operand→PV} {H:Nat→cL} {d:Nat},cE ρ H d po.op≠ []→yb po.op=true:=by
  intro ρ H d h
  cases hp:po.op<;>first | rfl | (rw [hp] at h;exact absurd rfl h)
 have hr: ∀{ρ:Operand→PV} {H:Nat→cL} {d:Nat},ro po.op=true→ ∀a∈cE ρ H d po.op,a.2=false:=by
  intro ρ H d h a ha
  cases hp:po.op<;>rw [hp] at h ha<;>first | (cases h;done) | (simp only [cE,rd] at ha;obtain ⟨i,_,rfl⟩:=List.mem_map.1 ha;rfl)
 have core:(match aD γ st.h (po.d.getD 0) (cK st.s) po.op with
   | some (p,aH)=>some (⟨po.d,p,aH,cE (cK st.s) st.h (po.d.getD 0) po.op⟩:Out)
   | none=>none)=some x→x.d=po.d∧(∀u∈x.aH,(u.1,true)∈x.tc)∧(x.tc≠ []→yb po.op=true)∧(ro po.op=true→ ∀a∈x.tc,a.2=false):=by
  intro he
  split at he
  ·rename_i p aH hp
   simp only [Option.some.injEq] at he;subst he
   exact ⟨rfl,Xr hp,hh,hr⟩
  ·cases he
 unfold iB at he
 split at he
 ·exact core he
 ·split at he
  ·split at he
   ·exact core he
   ·simp only [Option.some.injEq] at he;subst he
    refine ⟨rfl,?_,fun h=>absurd rfl h,?_⟩
    ·intro u hu;cases hu
    ·intro _ a ha;cases ha
  ·cases he
end
end Go.Proofs.YtobkkblijfhpoaaGreatDoor.Pm
