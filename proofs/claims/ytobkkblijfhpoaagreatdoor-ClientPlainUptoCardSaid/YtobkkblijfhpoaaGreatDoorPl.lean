/- The small machine: how a run of it is followed. No program is named here. -/
import Derived.Test.YtobkkblijfhpoaaGreatDoorPg
namespace Go.Proofs.YtobkkblijfhpoaaGreatDoor.Pm

inductive It where
 | seq (b:aj)
 | blk (id:Nat)
section
variable {γ : cX} {Q : PX → St → Prop}
def gf(γ:cX)(Q:PX→St→Prop):List It→PX→St→Prop
 | [],e,st=>Q e st
 | .seq b::k,.normal,st=> ∃n e g_,prun γ n b st=some (e,g_)∧gf γ Q k e g_
 | .seq _::k,.exit i,st=>gf γ Q k (.exit i) st
 | .seq _::k,.ret,st=>gf γ Q k .ret st
 | .blk _::k,.normal,st=>gf γ Q k .normal st
 | .blk id::k,.exit i,st=>if i=id then gf γ Q k .normal st else gf γ Q k (.exit i) st
 | .blk _::k,.ret,st=>gf γ Q k .ret st
def R(γ:cX)(Q:PX→St→Prop)(c:aj)(k:List It)(st:St):Prop:= ∃n e g_,prun γ n c st=some (e,g_)∧gf γ Q k e g_
theorem Qy(e:PX)(st:St):gf γ Q [] e st=Q e st:=by cases e<;>rfl
theorem I2(id:Nat)(k:List It)(i:Nat)(st:St):gf γ Q (.blk id::k) (.exit i) st=if i=id then gf γ Q k .normal st else gf γ Q k (.exit i) st:=rfl
theorem asQ(k:List It)(st:St):R γ Q .skip k st=gf γ Q k .normal st:=
 propext ⟨fun ⟨_,_,_,h,q⟩=>by simp only [prun,Option.some.injEq,Prod.mk.injEq] at h;obtain ⟨rfl,rfl⟩:=h;exact q,fun q=>⟨0,_,_,rfl,q⟩⟩
theorem asR(i:Nat)(k:List It)(st:St):R γ Q (.exit i) k st=gf γ Q k (.exit i) st:=
 propext ⟨fun ⟨_,_,_,h,q⟩=>by simp only [prun,Option.some.injEq,Prod.mk.injEq] at h;obtain ⟨rfl,rfl⟩:=h;exact q,fun q=>⟨0,_,_,rfl,q⟩⟩
theorem axx(k:List It)(st:St):R γ Q .ret k st=gf γ Q k .ret st:=
 propext ⟨fun ⟨_,_,_,h,q⟩=>by simp only [prun,Option.some.injEq,Prod.mk.injEq] at h;obtain ⟨rfl,rfl⟩:=h;exact q,fun q=>⟨0,_,_,rfl,q⟩⟩
theorem asS(L:List Nat)(B:List (Nat×Loc))(A:List NA)(c:aj)(k:List It)(st:St):R γ Q (.keep L B A c) k st=R γ Q c k (aA L B A st):=rfl
theorem axy(a b:aj)(k:List It)(st:St):R γ Q (.seq a b) k st=R γ Q a (.seq b::k) st:=by
 refine propext ⟨?_,?_⟩
 ·rintro ⟨n,e,g_,h,q⟩
  simp only [prun] at h
  split at h
  ·rename_i bX hs
   exact ⟨n,.normal,bX,hs,n,e,g_,h,q⟩
  ·rename_i hne
   refine ⟨n,e,g_,h,?_⟩
   cases e with
   | normal=>exact absurd h (hne g_)
   | exit i=>exact q
   | ret=>exact q
 ·rintro ⟨n,e,g_,h,q⟩
  cases e with
  | normal=>
   obtain ⟨n2,e2,ji,h2,q⟩:=q
   refine ⟨max n n2,e2,ji,?_,q⟩
   simp only [prun,fh (Nat.le_max_left n n2) _ _ _ h,fh (Nat.le_max_right n n2) _ _ _ h2]
  | exit i=>exact ⟨n,_,g_,by simp only [prun,h],q⟩
  | ret=>exact ⟨n,_,g_,by simp only [prun,h],q⟩
theorem aj9(id:Nat)(c:aj)(k:List It)(st:St):R γ Q (.block id c) k st=R γ Q c (.blk id::k) st:=by
 refine propext ⟨?_,?_⟩
 ·rintro ⟨n,e,g_,h,q⟩
  simp only [prun] at h
  cases hq:prun γ n c st with
  | none=>rw [hq] at h;cases h
  | some r=>
   obtain ⟨e',s⟩:=r
   rw [hq] at h
   refine ⟨n,e',s,hq,?_⟩
   cases e' with
   | normal=>simp only [blk,Option.some.injEq,Prod.mk.injEq] at h;obtain ⟨rfl,rfl⟩:=h;exact q
   | ret=>simp only [blk,Option.some.injEq,Prod.mk.injEq] at h;obtain ⟨rfl,rfl⟩:=h;exact q
   | exit i=>
    simp only [blk] at h
    rw [I2]
    split at h
    ·rename_i hi;simp only [Option.some.injEq,Prod.mk.injEq] at h;obtain ⟨rfl,rfl⟩:=h;rw [if_pos hi];exact q
    ·rename_i hi;simp only [Option.some.injEq,Prod.mk.injEq] at h;obtain ⟨rfl,rfl⟩:=h;rw [if_neg hi];exact q
 ·rintro ⟨n,e,g_,h,q⟩
  cases e with
  | normal=>exact ⟨n,.normal,g_,by simp only [prun,h,blk],q⟩
  | ret=>exact ⟨n,.ret,g_,by simp only [prun,h,blk],q⟩
  | exit i=>
   rw [I2] at q
   by_cases hi:i=id
   ·rw [if_pos hi] at q;exact ⟨n,.normal,g_,by simp only [prun,h,blk,if_pos hi],q⟩
   ·rw [if_neg hi] at q;exact ⟨n,.exit i,g_,by simp only [prun,h,blk,if_neg hi],q⟩
def Kv(b:Option Bool)(x y:Prop):Prop:=match b with | some true=>x | some false=>y | none=>False
theorem aaO(c:Operand)(t e:aj)(k:List It)(st:St):R γ Q (.cond c t e) k st=Kv ((cK st.s c).bool?) (R γ Q t k st) (R γ Q e k st):=by
 unfold R
 cases hb:(cK st.s c).bool? with
 | none=>simp only [prun,hb,Kv];simp
 | some b=>cases b<;>simp only [prun,hb,Kv,if_true,Bool.false_eq_true,if_false]
def awk(o:Option St)(K:St→Prop):Prop:=match o with | some st=>K st | none=>False
def aaP(b:Option Bool)(want:Bool)(x y:Prop):Prop:=match b with | some c=>if c=want then x else y | none=>False
theorem aj_(pos:List PO)(k:List It)(st:St):R γ Q (.eF pos []) k st=R γ Q (.ai pos) k st:=by
 have key: ∀(pos:List PO) (st:St),(fS γ pos st).map (·.2)=oH γ pos st:=by
  intro pos
  induction pos with
  | nil=>intro st;rfl
  | cons o r ih=>
   intro st
   simp only [fS,oH]
   cases iB γ o st with
   | none=>rfl
   | some x=>
    simp only
    rw [←ih]
    cases fS γ r (apply x st)<;>rfl
 unfold R
 simp only [prun,←key]
 cases fS γ pos st with
 | none=>rfl
 | some q=>obtain ⟨a,b⟩:=q;simp
def RD(γ:cX)(Q:PX→St→Prop)(fP:List (Nat×Nat))(k:List It):List (List (Nat×Bool))→List PO→St→Prop
 | acc,[],st=>(fP.all fun x=>apart (acc.getD x.1 []) (acc.getD x.2 []))=true∧gf γ Q k .normal st
 | acc,o::r,st=>match iB γ o st with
  | some x=>RD γ Q fP k (acc++ [x.tc]) r (apply x st)
  | none=>False
theorem aaQ(pos:List PO)(fP:List (Nat×Nat))(k:List It)(st:St):R γ Q (.eF pos fP) k st=RD γ Q fP k [] pos st:=by
 have key: ∀(pos:List PO) (st:St) (acc:List (List (Nat×Bool))),RD γ Q fP k acc pos st↔ ∃outs bX,fS γ pos st=some (outs,bX)∧(fP.all fun x=>apart ((acc++outs.map (·.tc)).getD x.1 []) ((acc++outs.map (·.tc)).getD x.2 []))=true∧gf γ Q k .normal bX:=by
  intro pos
  induction pos with
  | nil=>
   intro st acc
   simp only [RD,fS]
   constructor
   ·rintro ⟨h1,h2⟩;exact ⟨[],st,rfl,by simpa using h1,h2⟩
   ·rintro ⟨outs,bX,h,h1,h2⟩
    simp only [Option.some.injEq,Prod.mk.injEq] at h
    obtain ⟨rfl,rfl⟩:=h
    exact ⟨by simpa using h1,h2⟩
  | cons o r ih=>
   intro st acc
   simp only [RD,fS]
   cases iB γ o st with
   | none=>simp
   | some x=>
    simp only
    rw [ih]
    constructor
    ·rintro ⟨outs,bX,h,h1,h2⟩
     exact ⟨x::outs,bX,by rw [h],by simpa using h1,h2⟩
    ·rintro ⟨outs,bX,h,h1,h2⟩
     split at h
     ·rename_i l s hs
      simp only [Option.some.injEq,Prod.mk.injEq] at h
      obtain ⟨rfl,rfl⟩:=h
      exact ⟨l,s,hs,by simpa using h1,h2⟩
     ·cases h
 have tc: ∀(outs:List Out) (i:Nat),Nc outs i=([]++outs.map (fun o:Out=>o.tc)).getD i []:=by
  intro outs i
  simp only [Nc,List.nil_append,List.getD_eq_getElem?_getD,List.getElem?_map]
  cases outs[i]?<;>rfl
 refine propext ⟨?_,fun h=>?_⟩
 ·rintro ⟨n,e,g_,h,q⟩
  simp only [prun] at h
  split at h
  ·rename_i outs bX hs
   split at h
   ·rename_i hap
    simp only [Option.some.injEq,Prod.mk.injEq] at h
    obtain ⟨rfl,rfl⟩:=h
    exact (key pos st []).2 ⟨outs,bX,hs,by simpa only [tc] using hap,q⟩
   ·cases h
  ·cases h
 ·obtain ⟨outs,bX,hs,hap,q⟩:=(key pos st []).1 h
  refine ⟨0,.normal,bX,?_,q⟩
  simp only [prun,hs]
  rw [if_pos (by simpa only [tc] using hap)]
def awl(o:Option (St×List (Nat×Bool)))(K:List (Nat×Bool)→St→Prop):Prop:=match o with | some (st,t)=>K t st | none=>False
def axz(fx:Bool)(m:Nat)(rs:List PR)(r:PV×List cj):PX→St→Prop
 | .normal,st=>DT fx st m rs=some r
 | .ret,st=>DT fx st m rs=some r
 | .exit _,_=>False
def bh(fc:aO)(m:Nat)(r:PV×List cj)(e:PX)(st:St):Prop:=axz (Kq fc.fin) m fc.res r e (dZ fc.fin st)
theorem yz{γ:cX}{fc:aO}{args:List PV}{bs:List cj}{r:PV×List cj}(hl:args.length≤fc.N)(h:R γ (bh fc bs.length r) fc.body [] (rX args bs)):yq γ fc args bs=some r:=by
 obtain ⟨n,e,g_,h1,q⟩:=h
 rw [Qy] at q
 refine afa (n:=n) ?_
 unfold sx
 rw [if_pos hl,h1]
 cases e with
 | normal=>exact q
 | ret=>exact q
 | exit i=>exact q.elim
theorem asT{az:Nat→Option aO}{base:cX}{d f:Nat}{fc:aO}{args:List PV}{bs:List cj}{r:PV×List cj}(hc:az f=some fc)(hz:fc.z=false)(hl:args.length≤fc.N)(hd:1≤d)
  (h:R (cg az base (d-1)) (bh fc bs.length r) fc.body [] (rX args bs)):cg az base d f args bs=some r:=by
 obtain ⟨d,rfl⟩: ∃x,d=x+1:=⟨d-1,by omega⟩
 simp only [Nat.add_sub_cancel] at h
 simp only [cg,hc,Qu,hz]
 rw [if_neg (by simp)]
 exact yz hl h
theorem aka{az:Nat→Option aO}{base:cX}{d f m:Nat}{fc:aO}{cs:List PD}{ar:List PV}{bs:List cj}{r:PV×List cj}(hc:az f=some fc)(hz:fc.z=true)(hl:ar.length+1≤fc.N)(hd:1≤d)
  (h1:R (cg az base (d-1)) (bh fc bs.length r) fc.body [] (rX (.iG false m cs::ar) bs)) (h2:m=0→R (cg az base (d-1)) (bh fc bs.length r) fc.body [] (rX (.iG true 0 []::ar) bs)):cg az base d f (.d (.sl m cs)::ar) bs=some r:=by
 obtain ⟨d,rfl⟩: ∃x,d=x+1:=⟨d-1,by omega⟩
 simp only [Nat.add_sub_cancel] at h1 h2
 simp only [cg,hc,Qu,hz,if_true,yz (args:= .iG false m cs::ar) (by simpa using hl) h1]
 by_cases hm:m=0
 ·rw [if_pos (.inr (yz (by simpa using hl) (h2 hm)))]
 ·rw [if_pos (.inl hm)]
end
-- reading
end Go.Proofs.YtobkkblijfhpoaaGreatDoor.Pm

namespace Go.Proofs.YtobkkblijfhpoaaGreatDoor.Pm
@[congr] theorem ase {b b' : Option Bool} (w : Bool) (x y : Prop) (h : b = b') : aaP b w x y = aaP b' w x y := by rw [h]
@[congr] theorem asU {b b' : Option Bool} (x y : Prop) (h : b = b') : Kv b x y = Kv b' x y := by rw [h]
@[congr] theorem awm {o o' : Option St} (K : St → Prop) (h : o = o') : awk o K = awk o' K := by rw [h]
@[congr] theorem awn {o o' : Option (St × List (Nat × Bool))} (K : List (Nat × Bool) → St → Prop) (h : o = o') : awl o K = awl o' K := by rw [h]
section
variable {p : Prop} [Decidable p] {x y : Prop}
end
theorem aaR{H:Nat→cL}{m:Nat}: ∀(l:List PV) (ids:List Nat),(∀p∈l,∃x,p= .d x)→lM H m l ids=some (l,ids)
 | [],ids,_=>rfl
 | p::l,ids,h=>by
  obtain ⟨x,rfl⟩:=h p (by simp)
  simp only [lM,kg,aaR l ids (fun q hq=>h q (by simp [hq]))]
end Go.Proofs.YtobkkblijfhpoaaGreatDoor.Pm

