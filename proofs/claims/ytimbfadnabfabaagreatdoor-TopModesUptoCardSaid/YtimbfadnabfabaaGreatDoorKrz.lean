/- What is known of functions without code. -/
import Derived.Test.YtimbfadnabfabaaGreatDoorPb
namespace Go.Proofs.YtimbfadnabfabaaGreatDoor.Pm
open Go.RowKit
set_option linter.unusedVariables false
set_option linter.unusedSimpArgs false
def pl0:PV→Bool
 | .d _=>true
 | _=>false
def pl1:PV→Bool
 | .d _=>true
 | .agg cs=>cs.all pl0
 | _=>false
def pl:PV→Bool
 | .d _=>true
 | .bE cs=>cs.all pl1
 | _=>false
def FP(l:List (Nat×(List PV→Option PV))):ek:=fun f args bs=>
 match bs with
 | []=>match l.find? (fun x=>Nat.beq x.1 f) with
  | some x=>match x.2 args with
   | some r=>if pl r=true then some (r,[]) else none
   | none=>none
  | none=>none
 | _=>none
def n_(P:Program)(W:World)(Φ:Nat→cg)(x:Nat×(List PV→Option PV)):Prop:=
 gB P x.1∧ ∀args r,x.2 args=some r→ ∀(E:Nat→Prop) (w:World) (aP:Nat→cg) (R:Ref→Value→Prop) (vs:List Value),gV W Φ w aP→(∀b,E b→b<w.heap.size)→aY E w R args vs→
  Calls P x.1 vs.toArray w fun e w'=> ∃v,e= .returned v∧cJ (fun b=>b<w.heap.size) w' (fun _ _=>False) r v∧Below w.heap.size w w'
theorem air{c:PV}(h:pl0 c=true): ∃x,c= .d x:=by
 unfold pl0 at h
 split at h
 ·exact ⟨_,rfl⟩
 ·cases h
theorem ais{c:PV}(h:pl1 c=true):(∃x,c= .d x)∨ ∃cs,c= .agg cs∧cs.all pl0=true:=by
 unfold pl1 at h
 split at h
 ·exact .inl ⟨_,rfl⟩
 ·exact .inr ⟨_,rfl,h⟩
 ·cases h
theorem M6: ∀cs:List PV,cs.all pl0=true→eB cs= []
 | [],_=>rfl
 | c::cs,h=>by
  rw [List.all_cons,Bool.and_eq_true] at h
  obtain ⟨x,rfl⟩:=air h.1
  show owns (.d x)++eB cs= []
  rw [M6 cs h.2];rfl
theorem Sp{X X':Nat→Prop}{w:World}{R R':Ref→Value→Prop}(hX: ∀b,b<w.heap.size→ ¬X b→ ¬X' b): ∀(cs:List PV) (vs:List Value),cs.all pl0=true→aY X w R cs vs→aY X' w R' cs vs
 | [],vs,_,h=>h
 | c::cs,vs,h,hr=>by
  rw [List.all_cons,Bool.and_eq_true] at h
  obtain ⟨v,r,e,q1,q2⟩:=hr
  refine ⟨v,r,e,?_,Sp hX cs r h.2 q2⟩
  obtain ⟨x,rfl⟩:=air h.1
  exact dR.sub hX q1
theorem M7{r:PV}(h:pl r=true):(∃x,r= .d x)∨ ∃cs,r= .bE cs∧cs.all pl1=true:=by
 unfold pl at h
 split at h
 ·exact .inl ⟨_,rfl⟩
 ·exact .inr ⟨_,rfl,h⟩
 ·cases h
theorem ait{r:PV}(h:pl r=true):cA r []= []:=by
 have hl: ∀cs:List PV,cs.all pl1=true→eB cs= []:=fun cs=>by
  induction cs with
  | nil=>intro _;rfl
  | cons c cs ih=>
   intro h
   rw [List.all_cons,Bool.and_eq_true] at h
   have:=ih h.2
   rcases ais h.1 with ⟨x,rfl⟩ | ⟨ds,rfl,hd⟩
   ·show owns (.d x)++eB cs= []
    rw [this];rfl
   ·show eB ds++eB cs= []
    rw [this,M6 ds hd];rfl
 rcases M7 h with ⟨x,rfl⟩ | ⟨cs,rfl,h⟩
 ·rfl
 ·show eB cs++ []= []
  rw [hl cs h];rfl
theorem aqq{X X':Nat→Prop}{w:World}{R R':Ref→Value→Prop}(hX: ∀b,b<w.heap.size→ ¬X b→ ¬X' b){r:PV}{v:Value}(h:pl r=true)(hv:cJ X w R r v):cJ X' w R' r v:=by
 have hl: ∀(cs:List PV) (vs:List Value),cs.all pl1=true→aY X w R cs vs→aY X' w R' cs vs:=fun cs=>by
  induction cs with
  | nil=>intro vs _ h;exact h
  | cons c cs ih=>
   intro vs h hr
   rw [List.all_cons,Bool.and_eq_true] at h
   obtain ⟨v,r,e,q1,q2⟩:=hr
   refine ⟨v,r,e,?_,ih r h.2 q2⟩
   rcases ais h.1 with ⟨x,rfl⟩ | ⟨ds,rfl,hd⟩
   ·exact dR.sub hX q1
   ·obtain ⟨q,e,q3⟩:=q1
    exact ⟨q,e,Sp hX _ _ hd q3⟩
 rcases M7 h with ⟨x,rfl⟩ | ⟨cs,rfl,h⟩
 ·exact dR.sub hX hv
 ·obtain ⟨vs,e,q⟩:=hv
  exact ⟨vs,e,hl _ _ h q⟩
theorem M8{P:Program}{W:World}{Φ:Nat→cg}{l:List (Nat×(List PV→Option PV))}(h: ∀x∈l,n_ P W Φ x):nS P (FP l) W Φ:=by
 intro f args bs r bJ hr
 unfold FP at hr
 split at hr
 ·split at hr
  ·rename_i x hx
   split at hr
   ·rename_i r' kn
    split at hr
    ·rename_i hpl
     cases hr
     have ahG:=List.mem_of_find?_eq_some hx
     have hf:x.1=f:=Nat.eq_of_beq_eq_true (List.find?_some (p:=fun x:Nat×(List PV→Option PV)=>Nat.beq x.1 f) hx)
     obtain ⟨h1,h2⟩:=h x ahG
     rw [hf] at h1 h2
     have h3:=h2 args r kn
     refine ⟨h1,fun E w aP vs hL hE hp ha=>?_⟩
     refine (h3 E w aP _ vs hL hE ha).mono ?_
     rintro e w' ⟨v,rfl,hv,hb⟩
     refine ⟨v,fun _=> .nil none,fun _=> .nil none,rfl,⟨hb.os,hb.tape,hb.output,hb.size,fun b hlt _=>hb.block b hlt⟩,?_⟩
     have hno:cA r []= []:=ait hpl
     refine ⟨aqq (fun b _ hb hy=>hb (by rcases hy with hy | ⟨i,c,hy⟩ | ⟨i,c,hy⟩<;>first | exact hE b hy | cases hy)) hpl hv,(fun i b kY hi=>by simp at hi),(fun x hx=>by rw [hno] at hx;cases hx),.inl rfl,(fun i b hi=>by simp at hi),(fun i b c hi=>by cases hi),(fun i j b c c' hi=>by cases hi),(fun i j b c c' hi=>by cases hi),(fun i j b c c' hi=>by cases hi),fun j b c hi=>by cases hi⟩
    ·cases hr
   ·cases hr
  ·cases hr
 ·cases hr
theorem oa{av:Nat→Option aK}{l:List (Nat×(List PV→Option PV))}{f:Nat}{o:List PV→Option PV}{args:List PV}{r:PV}(hc:av f=none)(hf:l.find? (fun x=>Nat.beq x.1 f)=some (f,o))(hp:pl r=true)(ho:o args=some r): ∀n,bW av (FP l) n f args []=some (r,[]):=by
 have hb:FP l f args []=some (r,[]):=by
  unfold FP
  rw [hf];simp only [ho];rw [if_pos hp]
 intro n
 cases n with
 | zero=>exact hb
 | succ n=>simp only [bW,hc];exact hb
end Go.Proofs.YtimbfadnabfabaaGreatDoor.Pm

namespace Go.Proofs.YtimbfadnabfabaaGreatDoor.Pm
open Go.RowKit
theorem iX{P:Program}{br:List Nat}{N:Nat}: ∀(c:Code) (pc:aj),ew P br N c=some pc→erase pc=pc
 | .skip,pc,h=>by simp only [ew,Option.some.injEq] at h;subst h;rfl
 | .label _,pc,h=>by simp only [ew,Option.some.injEq] at h;subst h;rfl
 | .region _ ops draw,pc,h=>by
  simp only [ew] at h
  split at h
  ·split at h
   ·split at h
    ·cases h;rfl
    ·cases h
   ·cases h;rfl
  ·cases h
 | .seq a b,pc,h=>by
  simp only [ew] at h
  split at h
  ·rename_i x y hx hy
   cases h
   simp only [erase,iX a x hx,iX b y hy]
  ·cases h
 | .cond c t e,pc,h=>by
  simp only [ew] at h
  split at h
  ·rename_i x y hx hy
   cases h
   simp only [erase,iX t x hx,iX e y hy]
  ·cases h
 | .block id c,pc,h=>by
  simp only [ew] at h
  split at h
  ·rename_i x hx
   cases h
   simp only [erase,iX c x hx]
  ·cases h
 | .loop c,pc,h=>by
  simp only [ew] at h
  split at h
  ·rename_i x hx
   cases h
   simp only [erase,iX c x hx]
  ·cases h
 | .exit _,pc,h=>by simp only [ew,Option.some.injEq] at h;subst h;rfl
 | .ret,pc,h=>by simp only [ew,Option.some.injEq] at h;subst h;rfl
 | .rangeFunc ..,pc,h=>by simp [ew] at h
 | .scope _,pc,h=>by simp [ew] at h
 | .goto _,pc,h=>by simp [ew] at h
noncomputable def Pa(P:Program)(br z fx:List Nat)(f:Nat):Option aK:=
 (aW P br f).map fun c=>⟨c.N,c.body,c.res,if fx.any (Nat.beq f)=true then some ([3000000,2000000],[],[]) else none,z.any (Nat.beq f)⟩
theorem V5{P:Program}{br z fx:List Nat}(f:Nat)(fc:aK)(h:Pa P br z fx f=some fc):wQ P br f fc:=by
 refine aF ?_
 unfold Pa at h
 cases hc:aW P br f with
 | none=>rw [hc] at h;cases h
 | some c=>
  rw [hc] at h
  simp only [Option.map_some,Option.some.injEq] at h
  subst h
  unfold aW at hc
  split at hc
  ·split at hc
   ·split at hc
    ·cases hc
    ·split at hc
     ·rename_i hb hr
      cases hc
      simp only [aO,iX _ _ hb]
     ·cases hc
   ·cases hc
  ·cases hc
def He(g:Option Bool):List PV→Option PV
 | []=>g.map fun b=> .d (.bool b)
 | _=>none
def oc:Option Bool:=some true
theorem aiu{g:Option Bool}{z:Bool}(h:g=some z):He g []=some (.d (.bool z)):=by rw [h];rfl
end Go.Proofs.YtimbfadnabfabaaGreatDoor.Pm

namespace Go.Proofs.YtimbfadnabfabaaGreatDoor.Pm
open Go.RowKit
set_option linter.unusedVariables false
set_option linter.unusedSimpArgs false
def dz1:PV→Option PV
 | .r (.own _ _ _ n cs)=>some (.d (.sl n cs))
 | .d x=>some (.d x)
 | _=>none
def dzL:List PV→Option (List PV)
 | []=>some []
 | p::ps=>match dz1 p,dzL ps with
  | some x,some l=>some (x::l)
  | _,_=>none
def dzV:PV→Option PV
 | .bE cs=>(dzL cs).map .bE
 | p=>dz1 p
def Sq(F:List Nat)(γ:ek):ek:=fun f args bs=>match F.any (Nat.beq f) with
 | true=>(match bs with
  | []=>(match γ f args [] with
   | some (r,[])=>(match dzV r with
    | some x=>some (x,[])
    | none=>none)
   | _=>none)
  | _=>none)
 | false=>γ f args bs
section
variable {E : Nat → Prop} {dA β : Nat → cg} {w w' : World}
theorem Sr(b:Nat)(h: ¬Yo E dA β b): ¬Yo E dA (fun _=> .nil none) b:=fun q=>by
 rcases q with q | q | ⟨j,c,q⟩
 ·exact h (.inl q)
 ·exact h (.inr (.inl q))
 ·cases q
theorem Ss(hE: ∀b,E b→b<w.heap.size)(h1: ∀i b c,dA i≠ .blk b c)(hn: ∀j b c,β j= .blk b c→w.heap.size≤b∧b<w'.heap.size){p p':PV}{v:Value}(hp:dz1 p=some p')(ho: ∀x∈owns p,uT (Yo E dA β) w' (fun _ _=>False) (β x.1) x.2)(q:cJ (Yo E dA β) w' (gI dA [] β) p v):
  cJ (Yo E dA (fun _=> .nil none)) w' (gI dA [] (fun _=> .nil none)) p' v∧owns p'= []:=by
 unfold dz1 at hp
 split at hp
 ·rename_i j e k n cs
  cases hp
  refine ⟨?_,rfl⟩
  have hb:=ho (j,.own e k cs) (by simp [owns])
  obtain ⟨k0,hlen,q⟩:=q
  show dR _ w' (.sl n cs) v
  cases tV:β j with
  | nil a=>
   rw [tV] at q
   obtain ⟨rfl,rfl⟩:=q
   have n0:n=0:=by
    rcases Nat.eq_zero_or_pos n with h | h
    ·exact h
    ·have:=Nat.mul_pos h k0
     rw [←hlen] at this;simp at this
   subst n0
   exact ⟨a,0,rfl,Nat.le_refl _,by simp,fun _=>rfl,.inl rfl⟩
  | blk b c=>
   rw [tV] at q
   obtain ⟨rfl,hnc⟩:=q
   have hb:uT (Yo E dA β) w' (fun _ _=>False) (β j) (.own e k cs):=hb
   rw [tV] at hb
   obtain ⟨_,cur,xs,hrow,hsz,hc,_,_,hx,hr⟩:=hb
   obtain ⟨n1,n2⟩:=hn j b c tV
   refine ⟨some ⟨b,off c,none⟩,cp c,rfl,hnc,hc,fun h=>(by cases h),.inr ⟨b,off c,rfl,fun y=>?_,n2,fh.Ih (fun b _ h=>Sr b h) hr fun i u hu=>?_⟩⟩
   ·rcases y with y | ⟨i,c,y⟩ | ⟨i,c,y⟩
    ·have:=hE b y;omega
    ·exact h1 _ _ _ y
    ·cases y
   ·rw [hrow.cell]
    subst hx
    rw [List.getElem?_take] at hu
    split at hu
    ·rw [List.getElem?_drop] at hu
     simpa using hu
    ·cases hu
 ·cases hp
  exact ⟨dR.sub (fun b _ h=>Sr b h) q,rfl⟩
 ·cases hp
theorem Su(hE: ∀b,E b→b<w.heap.size)(h1: ∀i b c,dA i≠ .blk b c)(hn: ∀j b c,β j= .blk b c→w.heap.size≤b∧b<w'.heap.size): ∀{ps EP:List PV} {vs:List Value},dzL ps=some EP→(∀x∈eB ps,uT (Yo E dA β) w' (fun _ _=>False) (β x.1) x.2)→aY (Yo E dA β) w' (gI dA [] β) ps vs→
  aY (Yo E dA (fun _=> .nil none)) w' (gI dA [] (fun _=> .nil none)) EP vs∧eB EP= []
 | [],EP,vs,h,_,q=>by
  simp only [dzL,Option.some.injEq] at h;subst h
  exact ⟨q,rfl⟩
 | p::ps,EP,vs,h,ho,⟨v,r,e,q1,q2⟩=>by
  simp only [dzL] at h
  split at h
  ·rename_i x l hx hl
   cases h
   obtain ⟨a1,a2⟩:=Ss hE h1 hn hx (fun y hy=>ho y (by simp only [eB];exact List.mem_append_left _ hy)) q1
   obtain ⟨b1,b2⟩:=Su hE h1 hn hl (fun y hy=>ho y (by simp only [eB];exact List.mem_append_right _ hy)) q2
   exact ⟨⟨v,r,e,a1,b1⟩,by simp only [eB,a2,b2];rfl⟩
  ·cases h
theorem aiw(hE: ∀b,E b→b<w.heap.size)(h1: ∀i b c,dA i≠ .blk b c)(hn: ∀j b c,β j= .blk b c→w.heap.size≤b∧b<w'.heap.size){p p':PV}{v:Value}(hp:dzV p=some p')(ho: ∀x∈owns p,uT (Yo E dA β) w' (fun _ _=>False) (β x.1) x.2)(q:cJ (Yo E dA β) w' (gI dA [] β) p v):
  cJ (Yo E dA (fun _=> .nil none)) w' (gI dA [] (fun _=> .nil none)) p' v∧owns p'= []:=by
 unfold dzV at hp
 split at hp
 ·rename_i cs
  simp only [Option.map_eq_some_iff] at hp
  obtain ⟨l,hl,rfl⟩:=hp
  obtain ⟨vs,e,q⟩:=q
  obtain ⟨a1,a2⟩:=Su hE h1 hn hl ho q
  exact ⟨⟨vs,e,a1⟩,a2⟩
 ·exact Ss hE h1 hn hp ho q
end
theorem xw{P:Program}{W:World}{Φ:Nat→cg}{F:List Nat}{γ:ek}(h:nS P γ W Φ):nS P (Sq F γ) W Φ:=by
 intro f args bs r bJ hr
 unfold Sq at hr
 split at hr
 ·split at hr
  ·split at hr
   ·rename_i r0 h0
    split at hr
    ·rename_i x hx
     cases hr
     obtain ⟨c,k⟩:=h f args [] r0 [] h0
     refine ⟨c,fun E w aP vs hL hE hp ha=>(k E w aP vs hL hE hp ha).mono ?_⟩
     rintro e w' ⟨v,dA,β,rfl,hc,o⟩
     have h1: ∀i b c,dA i≠ .blk b c:=fun i b c q=>by
      have:=(o.dom i b c q).1;simp at this
     obtain ⟨a1,a2⟩:=aiw hE h1 o.new hx (fun y hy=>o.own y (by unfold cA;simpa using hy)) o.rep
     refine ⟨v,dA,fun _=> .nil none,rfl,hc,⟨a1,fun i b hi=>(by simp at hi),fun y hy=>?_,.inl rfl,fun i b hi=>(by simp at hi),o.dom,o.inj1,fun i j b c c' q=>(by cases q),fun i j b c c' _ q=>(by cases q),fun j b c q=>(by cases q)⟩⟩
     unfold cA at hy
     rw [a2] at hy;simp at hy
    ·cases hr
   ·cases hr
  ·cases hr
 ·exact h f args bs r bJ hr
noncomputable def Pb(ex:List Nat)(av:Nat→Option aK)(f:Nat):Option aK:=match ex.any (Nat.beq f) with
 | true=>none
 | false=>av f
theorem V6{P:Program}{br ex:List Nat}{av:Nat→Option aK}(hc: ∀f fc,av f=some fc→wQ P br f fc)(f:Nat)(fc:aK)(h:Pb ex av f=some fc):wQ P br f fc:=by
 unfold Pb at h
 split at h
 ·cases h
 ·exact hc f fc h
end Go.Proofs.YtimbfadnabfabaaGreatDoor.Pm

