/- What is known of functions without code. -/
import Derived.Test.YtobkkblijfhpoaaGreatDoorPb
namespace Go.Proofs.YtobkkblijfhpoaaGreatDoor.Pm
open Go.RowKit
set_option linter.unusedVariables false
set_option linter.unusedSimpArgs false
def pl0:PV→Bool
 | .d _=>true
 | _=>false
def pl1:PV→Bool
 | .d _=>true
 | .agg cs=>cs.all pl0
 | _=>false
def pl:PV→Bool
 | .d _=>true
 | .bZ cs=>cs.all pl1
 | _=>false
def H6(l:List (Nat×(List PV→Option PV))):cX:=fun f args bs=>
 match bs with
 | []=>match l.find? (fun x=>Nat.beq x.1 f) with
  | some x=>match x.2 args with
   | some r=>if pl r=true then some (r,[]) else none
   | none=>none
  | none=>none
 | _=>none
def tL(P:Program)(W:World)(Φ:Nat→cJ)(x:Nat×(List PV→Option PV)):Prop:=
 gZ P x.1∧ ∀args r,x.2 args=some r→ ∀(E:Nat→Prop) (w:World) (aS:Nat→cJ) (R:Ref→Value→Prop) (vs:List Value),jg W Φ w aS→(∀b,E b→b<w.heap.size)→aZ E w R args vs→
  Calls P x.1 vs.toArray w fun e w'=> ∃v,e= .returned v∧cT (fun b=>b<w.heap.size) w' (fun _ _=>False) r v∧Below w.heap.size w w'
theorem akv{c:PV}(h:pl0 c=true): ∃x,c= .d x:=by
 unfold pl0 at h
 split at h
 ·exact ⟨_,rfl⟩
 ·cases h
theorem akw{c:PV}(h:pl1 c=true):(∃x,c= .d x)∨ ∃cs,c= .agg cs∧cs.all pl0=true:=by
 unfold pl1 at h
 split at h
 ·exact .inl ⟨_,rfl⟩
 ·exact .inr ⟨_,rfl,h⟩
 ·cases h
theorem OU: ∀cs:List PV,cs.all pl0=true→eD cs= []
 | [],_=>rfl
 | c::cs,h=>by
  rw [List.all_cons,Bool.and_eq_true] at h
  obtain ⟨x,rfl⟩:=akv h.1
  show owns (.d x)++eD cs= []
  rw [OU cs h.2];rfl
theorem TG{X X':Nat→Prop}{w:World}{R R':Ref→Value→Prop}(hX: ∀b,b<w.heap.size→ ¬X b→ ¬X' b): ∀(cs:List PV) (vs:List Value),cs.all pl0=true→aZ X w R cs vs→aZ X' w R' cs vs
 | [],vs,_,h=>h
 | c::cs,vs,h,hr=>by
  rw [List.all_cons,Bool.and_eq_true] at h
  obtain ⟨v,r,e,q1,q2⟩:=hr
  refine ⟨v,r,e,?_,TG hX cs r h.2 q2⟩
  obtain ⟨x,rfl⟩:=akv h.1
  exact dQ.sub hX q1
theorem OV{r:PV}(h:pl r=true):(∃x,r= .d x)∨ ∃cs,r= .bZ cs∧cs.all pl1=true:=by
 unfold pl at h
 split at h
 ·exact .inl ⟨_,rfl⟩
 ·exact .inr ⟨_,rfl,h⟩
 ·cases h
theorem akx{r:PV}(h:pl r=true):cY r []= []:=by
 have hl: ∀cs:List PV,cs.all pl1=true→eD cs= []:=fun cs=>by
  induction cs with
  | nil=>intro _;rfl
  | cons c cs ih=>
   intro h
   rw [List.all_cons,Bool.and_eq_true] at h
   have:=ih h.2
   rcases akw h.1 with ⟨x,rfl⟩ | ⟨ds,rfl,hd⟩
   ·show owns (.d x)++eD cs= []
    rw [this];rfl
   ·show eD ds++eD cs= []
    rw [this,OU ds hd];rfl
 rcases OV h with ⟨x,rfl⟩ | ⟨cs,rfl,h⟩
 ·rfl
 ·show eD cs++ []= []
  rw [hl cs h];rfl
theorem atb{X X':Nat→Prop}{w:World}{R R':Ref→Value→Prop}(hX: ∀b,b<w.heap.size→ ¬X b→ ¬X' b){r:PV}{v:Value}(h:pl r=true)(hv:cT X w R r v):cT X' w R' r v:=by
 have hl: ∀(cs:List PV) (vs:List Value),cs.all pl1=true→aZ X w R cs vs→aZ X' w R' cs vs:=fun cs=>by
  induction cs with
  | nil=>intro vs _ h;exact h
  | cons c cs ih=>
   intro vs h hr
   rw [List.all_cons,Bool.and_eq_true] at h
   obtain ⟨v,r,e,q1,q2⟩:=hr
   refine ⟨v,r,e,?_,ih r h.2 q2⟩
   rcases akw h.1 with ⟨x,rfl⟩ | ⟨ds,rfl,hd⟩
   ·exact dQ.sub hX q1
   ·obtain ⟨q,e,q3⟩:=q1
    exact ⟨q,e,TG hX _ _ hd q3⟩
 rcases OV h with ⟨x,rfl⟩ | ⟨cs,rfl,h⟩
 ·exact dQ.sub hX hv
 ·obtain ⟨vs,e,q⟩:=hv
  exact ⟨vs,e,hl _ _ h q⟩
theorem OW{P:Program}{W:World}{Φ:Nat→cJ}{l:List (Nat×(List PV→Option PV))}(h: ∀x∈l,tL P W Φ x):nI P (H6 l) W Φ:=by
 intro f args bs r b_ hr
 unfold H6 at hr
 split at hr
 ·split at hr
  ·rename_i x hx
   split at hr
   ·rename_i r' jZ
    split at hr
    ·rename_i hpl
     cases hr
     have ajI:=List.mem_of_find?_eq_some hx
     have hf:x.1=f:=Nat.eq_of_beq_eq_true (List.find?_some (p:=fun x:Nat×(List PV→Option PV)=>Nat.beq x.1 f) hx)
     obtain ⟨h1,h2⟩:=h x ajI
     rw [hf] at h1 h2
     have h3:=h2 args r jZ
     refine ⟨h1,fun E w aS vs hL hE hp ha=>?_⟩
     refine (h3 E w aS _ vs hL hE ha).mono ?_
     rintro e w' ⟨v,rfl,hv,hb⟩
     refine ⟨v,fun _=> .nil none,fun _=> .nil none,rfl,⟨hb.os,hb.tape,hb.output,hb.size,fun b hlt _=>hb.block b hlt⟩,?_⟩
     have hno:cY r []= []:=akx hpl
     refine ⟨atb (fun b _ hb hy=>hb (by rcases hy with hy | ⟨i,c,hy⟩ | ⟨i,c,hy⟩<;>first | exact hE b hy | cases hy)) hpl hv,(fun i b jx hi=>by simp at hi),(fun x hx=>by rw [hno] at hx;cases hx),.inl rfl,(fun i b hi=>by simp at hi),(fun i b c hi=>by cases hi),(fun i j b c c' hi=>by cases hi),(fun i j b c c' hi=>by cases hi),(fun i j b c c' hi=>by cases hi),fun j b c hi=>by cases hi⟩
    ·cases hr
   ·cases hr
  ·cases hr
 ·cases hr
theorem qp{az:Nat→Option aO}{l:List (Nat×(List PV→Option PV))}{f:Nat}{o:List PV→Option PV}{args:List PV}{r:PV}(hc:az f=none)(hf:l.find? (fun x=>Nat.beq x.1 f)=some (f,o))(hp:pl r=true)(ho:o args=some r): ∀n,cg az (H6 l) n f args []=some (r,[]):=by
 have hb:H6 l f args []=some (r,[]):=by
  unfold H6
  rw [hf];simp only [ho];rw [if_pos hp]
 intro n
 cases n with
 | zero=>exact hb
 | succ n=>simp only [cg,hc];exact hb
end Go.Proofs.YtobkkblijfhpoaaGreatDoor.Pm

namespace Go.Proofs.YtobkkblijfhpoaaGreatDoor.Pm
open Go.RowKit
theorem iL{P:Program}{br:List Nat}{N:Nat}: ∀(c:Code) (pc:aj),eA P br N c=some pc→erase pc=pc
 | .skip,pc,h=>by simp only [eA,Option.some.injEq] at h;subst h;rfl
 | .label _,pc,h=>by simp only [eA,Option.some.injEq] at h;subst h;rfl
 | .region _ ops draw,pc,h=>by
  simp only [eA] at h
  split at h
  ·split at h
   ·split at h
    ·cases h;rfl
    ·cases h
   ·cases h;rfl
  ·cases h
 | .seq a b,pc,h=>by
  simp only [eA] at h
  split at h
  ·rename_i x y hx hy
   cases h
   simp only [erase,iL a x hx,iL b y hy]
  ·cases h
 | .cond c t e,pc,h=>by
  simp only [eA] at h
  split at h
  ·rename_i x y hx hy
   cases h
   simp only [erase,iL t x hx,iL e y hy]
  ·cases h
 | .block id c,pc,h=>by
  simp only [eA] at h
  split at h
  ·rename_i x hx
   cases h
   simp only [erase,iL c x hx]
  ·cases h
 | .loop c,pc,h=>by
  simp only [eA] at h
  split at h
  ·rename_i x hx
   cases h
   simp only [erase,iL c x hx]
  ·cases h
 | .exit _,pc,h=>by simp only [eA,Option.some.injEq] at h;subst h;rfl
 | .ret,pc,h=>by simp only [eA,Option.some.injEq] at h;subst h;rfl
 | .rangeFunc ..,pc,h=>by simp [eA] at h
 | .scope _,pc,h=>by simp [eA] at h
 | .goto _,pc,h=>by simp [eA] at h
noncomputable def QD(P:Program)(br z fx:List Nat)(f:Nat):Option aO:=
 (bz P br f).map fun c=>⟨c.N,c.body,c.res,if fx.any (Nat.beq f)=true then some ([3000000,2000000],[],[]) else none,z.any (Nat.beq f)⟩
theorem XX{P:Program}{br z fx:List Nat}(f:Nat)(fc:aO)(h:QD P br z fx f=some fc):uw P br f fc:=by
 refine aK ?_
 unfold QD at h
 cases hc:bz P br f with
 | none=>rw [hc] at h;cases h
 | some c=>
  rw [hc] at h
  simp only [Option.map_some,Option.some.injEq] at h
  subst h
  unfold bz at hc
  split at hc
  ·split at hc
   ·split at hc
    ·cases hc
    ·split at hc
     ·rename_i hb hr
      cases hc
      simp only [aU,iL _ _ hb]
     ·cases hc
   ·cases hc
  ·cases hc
def Ja(g:Option Bool):List PV→Option PV
 | []=>g.map fun b=> .d (.bool b)
 | _=>none
def jO:Option Bool:=some true
theorem aky{g:Option Bool}{z:Bool}(h:g=some z):Ja g []=some (.d (.bool z)):=by rw [h];rfl
end Go.Proofs.YtobkkblijfhpoaaGreatDoor.Pm

namespace Go.Proofs.YtobkkblijfhpoaaGreatDoor.Pm
open Go.RowKit
set_option linter.unusedVariables false
set_option linter.unusedSimpArgs false
def dz1:PV→Option PV
 | .r (.own _ _ _ n cs)=>some (.d (.sl n cs))
 | .d x=>some (.d x)
 | _=>none
def dzL:List PV→Option (List PV)
 | []=>some []
 | p::ps=>match dz1 p,dzL ps with
  | some x,some l=>some (x::l)
  | _,_=>none
def dzV:PV→Option PV
 | .bZ cs=>(dzL cs).map .bZ
 | p=>dz1 p
def TH(F:List Nat)(γ:cX):cX:=fun f args bs=>match F.any (Nat.beq f) with
 | true=>(match bs with
  | []=>(match γ f args [] with
   | some (r,[])=>(match dzV r with
    | some x=>some (x,[])
    | none=>none)
   | _=>none)
  | _=>none)
 | false=>γ f args bs
section
variable {E : Nat → Prop} {dz β : Nat → cJ} {w w' : World}
theorem TI(b:Nat)(h: ¬Yo E dz β b): ¬Yo E dz (fun _=> .nil none) b:=fun q=>by
 rcases q with q | q | ⟨j,c,q⟩
 ·exact h (.inl q)
 ·exact h (.inr (.inl q))
 ·cases q
theorem TJ(hE: ∀b,E b→b<w.heap.size)(h1: ∀i b c,dz i≠ .blk b c)(hn: ∀j b c,β j= .blk b c→w.heap.size≤b∧b<w'.heap.size){p p':PV}{v:Value}(hp:dz1 p=some p')(ho: ∀x∈owns p,vI (Yo E dz β) w' (fun _ _=>False) (β x.1) x.2)(q:cT (Yo E dz β) w' (gu dz [] β) p v):
  cT (Yo E dz (fun _=> .nil none)) w' (gu dz [] (fun _=> .nil none)) p' v∧owns p'= []:=by
 unfold dz1 at hp
 split at hp
 ·rename_i j e k n cs
  cases hp
  refine ⟨?_,rfl⟩
  have hb:=ho (j,.own e k cs) (by simp [owns])
  obtain ⟨k0,hlen,q⟩:=q
  show dQ _ w' (.sl n cs) v
  cases pV:β j with
  | nil a=>
   rw [pV] at q
   obtain ⟨rfl,rfl⟩:=q
   have n0:n=0:=by
    rcases Nat.eq_zero_or_pos n with h | h
    ·exact h
    ·have:=Nat.mul_pos h k0
     rw [←hlen] at this;simp at this
   subst n0
   exact ⟨a,0,rfl,Nat.le_refl _,by simp,fun _=>rfl,.inl rfl⟩
  | blk b c=>
   rw [pV] at q
   obtain ⟨rfl,hnc⟩:=q
   have hb:vI (Yo E dz β) w' (fun _ _=>False) (β j) (.own e k cs):=hb
   rw [pV] at hb
   obtain ⟨_,cur,xs,hrow,hsz,hc,_,_,hx,hr⟩:=hb
   obtain ⟨n1,n2⟩:=hn j b c pV
   refine ⟨some ⟨b,off c,none⟩,cp c,rfl,hnc,hc,fun h=>(by cases h),.inr ⟨b,off c,rfl,fun y=>?_,n2,fq.J8 (fun b _ h=>TI b h) hr fun i u hu=>?_⟩⟩
   ·rcases y with y | ⟨i,c,y⟩ | ⟨i,c,y⟩
    ·have:=hE b y;omega
    ·exact h1 _ _ _ y
    ·cases y
   ·rw [hrow.cell]
    subst hx
    rw [List.getElem?_take] at hu
    split at hu
    ·rw [List.getElem?_drop] at hu
     simpa using hu
    ·cases hu
 ·cases hp
  exact ⟨dQ.sub (fun b _ h=>TI b h) q,rfl⟩
 ·cases hp
theorem TK(hE: ∀b,E b→b<w.heap.size)(h1: ∀i b c,dz i≠ .blk b c)(hn: ∀j b c,β j= .blk b c→w.heap.size≤b∧b<w'.heap.size): ∀{ps Bh:List PV} {vs:List Value},dzL ps=some Bh→(∀x∈eD ps,vI (Yo E dz β) w' (fun _ _=>False) (β x.1) x.2)→aZ (Yo E dz β) w' (gu dz [] β) ps vs→
  aZ (Yo E dz (fun _=> .nil none)) w' (gu dz [] (fun _=> .nil none)) Bh vs∧eD Bh= []
 | [],Bh,vs,h,_,q=>by
  simp only [dzL,Option.some.injEq] at h;subst h
  exact ⟨q,rfl⟩
 | p::ps,Bh,vs,h,ho,⟨v,r,e,q1,q2⟩=>by
  simp only [dzL] at h
  split at h
  ·rename_i x l hx hl
   cases h
   obtain ⟨a1,a2⟩:=TJ hE h1 hn hx (fun y hy=>ho y (by simp only [eD];exact List.mem_append_left _ hy)) q1
   obtain ⟨b1,b2⟩:=TK hE h1 hn hl (fun y hy=>ho y (by simp only [eD];exact List.mem_append_right _ hy)) q2
   exact ⟨⟨v,r,e,a1,b1⟩,by simp only [eD,a2,b2];rfl⟩
  ·cases h
theorem akA(hE: ∀b,E b→b<w.heap.size)(h1: ∀i b c,dz i≠ .blk b c)(hn: ∀j b c,β j= .blk b c→w.heap.size≤b∧b<w'.heap.size){p p':PV}{v:Value}(hp:dzV p=some p')(ho: ∀x∈owns p,vI (Yo E dz β) w' (fun _ _=>False) (β x.1) x.2)(q:cT (Yo E dz β) w' (gu dz [] β) p v):
  cT (Yo E dz (fun _=> .nil none)) w' (gu dz [] (fun _=> .nil none)) p' v∧owns p'= []:=by
 unfold dzV at hp
 split at hp
 ·rename_i cs
  simp only [Option.map_eq_some_iff] at hp
  obtain ⟨l,hl,rfl⟩:=hp
  obtain ⟨vs,e,q⟩:=q
  obtain ⟨a1,a2⟩:=TK hE h1 hn hl ho q
  exact ⟨⟨vs,e,a1⟩,a2⟩
 ·exact TJ hE h1 hn hp ho q
end
theorem yF{P:Program}{W:World}{Φ:Nat→cJ}{F:List Nat}{γ:cX}(h:nI P γ W Φ):nI P (TH F γ) W Φ:=by
 intro f args bs r b_ hr
 unfold TH at hr
 split at hr
 ·split at hr
  ·split at hr
   ·rename_i r0 h0
    split at hr
    ·rename_i x hx
     cases hr
     obtain ⟨c,k⟩:=h f args [] r0 [] h0
     refine ⟨c,fun E w aS vs hL hE hp ha=>(k E w aS vs hL hE hp ha).mono ?_⟩
     rintro e w' ⟨v,dz,β,rfl,hc,o⟩
     have h1: ∀i b c,dz i≠ .blk b c:=fun i b c q=>by
      have:=(o.dom i b c q).1;simp at this
     obtain ⟨a1,a2⟩:=akA hE h1 o.new hx (fun y hy=>o.own y (by unfold cY;simpa using hy)) o.rep
     refine ⟨v,dz,fun _=> .nil none,rfl,hc,⟨a1,fun i b hi=>(by simp at hi),fun y hy=>?_,.inl rfl,fun i b hi=>(by simp at hi),o.dom,o.inj1,fun i j b c c' q=>(by cases q),fun i j b c c' _ q=>(by cases q),fun j b c q=>(by cases q)⟩⟩
     unfold cY at hy
     rw [a2] at hy;simp at hy
    ·cases hr
   ·cases hr
  ·cases hr
 ·exact h f args bs r b_ hr
noncomputable def QE(ex:List Nat)(az:Nat→Option aO)(f:Nat):Option aO:=match ex.any (Nat.beq f) with
 | true=>none
 | false=>az f
theorem XY{P:Program}{br ex:List Nat}{az:Nat→Option aO}(hc: ∀f fc,az f=some fc→uw P br f fc)(f:Nat)(fc:aO)(h:QE ex az f=some fc):uw P br f fc:=by
 unfold QE at h
 split at h
 ·cases h
 ·exact hc f fc h
end Go.Proofs.YtobkkblijfhpoaaGreatDoor.Pm

