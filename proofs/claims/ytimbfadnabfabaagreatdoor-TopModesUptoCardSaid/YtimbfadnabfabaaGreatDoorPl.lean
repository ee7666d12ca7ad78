/- The small machine: how a run of it is followed. No program is named here. -/
import Derived.Test.YtimbfadnabfabaaGreatDoorPg
namespace Go.Proofs.YtimbfadnabfabaaGreatDoor.Pm

inductive It where
 | seq (b:aj)
 | blk (id:Nat)
section
variable {γ : ek} {Q : PX → St → Prop}
def gf(γ:ek)(Q:PX→St→Prop):List It→PX→St→Prop
 | [],e,st=>Q e st
 | .seq b::k,.normal,st=> ∃n e iH,prun γ n b st=some (e,iH)∧gf γ Q k e iH
 | .seq _::k,.exit i,st=>gf γ Q k (.exit i) st
 | .seq _::k,.ret,st=>gf γ Q k .ret st
 | .blk _::k,.normal,st=>gf γ Q k .normal st
 | .blk id::k,.exit i,st=>if i=id then gf γ Q k .normal st else gf γ Q k (.exit i) st
 | .blk _::k,.ret,st=>gf γ Q k .ret st
def R(γ:ek)(Q:PX→St→Prop)(c:aj)(k:List It)(st:St):Prop:= ∃n e iH,prun γ n c st=some (e,iH)∧gf γ Q k e iH
theorem O0(e:PX)(st:St):gf γ Q [] e st=Q e st:=by cases e<;>rfl
theorem G7(id:Nat)(k:List It)(i:Nat)(st:St):gf γ Q (.blk id::k) (.exit i) st=if i=id then gf γ Q k .normal st else gf γ Q k (.exit i) st:=rfl
theorem ap8(k:List It)(st:St):R γ Q .skip k st=gf γ Q k .normal st:=
 propext ⟨fun ⟨_,_,_,h,q⟩=>by simp only [prun,Option.some.injEq,Prod.mk.injEq] at h;obtain ⟨rfl,rfl⟩:=h;exact q,fun q=>⟨0,_,_,rfl,q⟩⟩
theorem ap9(i:Nat)(k:List It)(st:St):R γ Q (.exit i) k st=gf γ Q k (.exit i) st:=
 propext ⟨fun ⟨_,_,_,h,q⟩=>by simp only [prun,Option.some.injEq,Prod.mk.injEq] at h;obtain ⟨rfl,rfl⟩:=h;exact q,fun q=>⟨0,_,_,rfl,q⟩⟩
theorem axF(k:List It)(st:St):R γ Q .ret k st=gf γ Q k .ret st:=
 propext ⟨fun ⟨_,_,_,h,q⟩=>by simp only [prun,Option.some.injEq,Prod.mk.injEq] at h;obtain ⟨rfl,rfl⟩:=h;exact q,fun q=>⟨0,_,_,rfl,q⟩⟩
theorem ap_(L:List Nat)(B:List (Nat×Loc))(A:List NA)(c:aj)(k:List It)(st:St):R γ Q (.keep L B A c) k st=R γ Q c k (au L B A st):=rfl
theorem axG(a b:aj)(k:List It)(st:St):R γ Q (.seq a b) k st=R γ Q a (.seq b::k) st:=by
 refine propext ⟨?_,?_⟩
 ·rintro ⟨n,e,iH,h,q⟩
  simp only [prun] at h
  split at h
  ·rename_i bl hs
   exact ⟨n,.normal,bl,hs,n,e,iH,h,q⟩
  ·rename_i hne
   refine ⟨n,e,iH,h,?_⟩
   cases e with
   | normal=>exact absurd h (hne iH)
   | exit i=>exact q
   | ret=>exact q
 ·rintro ⟨n,e,iH,h,q⟩
  cases e with
  | normal=>
   obtain ⟨n2,e2,ju,h2,q⟩:=q
   refine ⟨max n n2,e2,ju,?_,q⟩
   simp only [prun,eZ (Nat.le_max_left n n2) _ _ _ h,eZ (Nat.le_max_right n n2) _ _ _ h2]
  | exit i=>exact ⟨n,_,iH,by simp only [prun,h],q⟩
  | ret=>exact ⟨n,_,iH,by simp only [prun,h],q⟩
theorem ah7(id:Nat)(c:aj)(k:List It)(st:St):R γ Q (.block id c) k st=R γ Q c (.blk id::k) st:=by
 refine propext ⟨?_,?_⟩
 ·rintro ⟨n,e,iH,h,q⟩
  simp only [prun] at h
  cases hq:prun γ n c st with
  | none=>rw [hq] at h;cases h
  | some r=>
   obtain ⟨e',s⟩:=r
   rw [hq] at h
   refine ⟨n,e',s,hq,?_⟩
   cases e' with
   | normal=>simp only [blk,Option.some.injEq,Prod.mk.injEq] at h;obtain ⟨rfl,rfl⟩:=h;exact q
   | ret=>simp only [blk,Option.some.injEq,Prod.mk.injEq] at h;obtain ⟨rfl,rfl⟩:=h;exact q
   | exit i=>
    simp only [blk] at h
    rw [G7]
    split at h
    ·rename_i hi;simp only [Option.some.injEq,Prod.mk.injEq] at h;obtain ⟨rfl,rfl⟩:=h;rw [if_pos hi];exact q
    ·rename_i hi;simp only [Option.some.injEq,Prod.mk.injEq] at h;obtain ⟨rfl,rfl⟩:=h;rw [if_neg hi];exact q
 ·rintro ⟨n,e,iH,h,q⟩
  cases e with
  | normal=>exact ⟨n,.normal,iH,by simp only [prun,h,blk],q⟩
  | ret=>exact ⟨n,.ret,iH,by simp only [prun,h,blk],q⟩
  | exit i=>
   rw [G7] at q
   by_cases hi:i=id
   ·rw [if_pos hi] at q;exact ⟨n,.normal,iH,by simp only [prun,h,blk,if_pos hi],q⟩
   ·rw [if_neg hi] at q;exact ⟨n,.exit i,iH,by simp only [prun,h,blk,if_neg hi],q⟩
def IK(b:Option Bool)(x y:Prop):Prop:=match b with | some true=>x | some false=>y | none=>False
theorem Zk(c:Operand)(t e:aj)(k:List It)(st:St):R γ Q (.cond c t e) k st=IK ((bU st.s c).bool?) (R γ Q t k st) (R γ Q e k st):=by
 unfold R
 cases hb:(bU st.s c).bool? with
 | none=>simp only [prun,hb,IK];simp
 | some b=>cases b<;>simp only [prun,hb,IK,if_true,Bool.false_eq_true,if_false]
def avZ(o:Option St)(K:St→Prop):Prop:=match o with | some st=>K st | none=>False
def Zl(b:Option Bool)(want:Bool)(x y:Prop):Prop:=match b with | some c=>if c=want then x else y | none=>False
theorem ah8(pos:List PO)(k:List It)(st:St):R γ Q (.cU pos []) k st=R γ Q (.ai pos) k st:=by
 have key: ∀(pos:List PO) (st:St),(gb γ pos st).map (·.2)=oN γ pos st:=by
  intro pos
  induction pos with
  | nil=>intro st;rfl
  | cons o r ih=>
   intro st
   simp only [gb,oN]
   cases iP γ o st with
   | none=>rfl
   | some x=>
    simp only
    rw [←ih]
    cases gb γ r (apply x st)<;>rfl
 unfold R
 simp only [prun,←key]
 cases gb γ pos st with
 | none=>rfl
 | some q=>obtain ⟨a,b⟩:=q;simp
def RD(γ:ek)(Q:PX→St→Prop)(gi:List (Nat×Nat))(k:List It):List (List (Nat×Bool))→List PO→St→Prop
 | acc,[],st=>(gi.all fun x=>apart (acc.getD x.1 []) (acc.getD x.2 []))=true∧gf γ Q k .normal st
 | acc,o::r,st=>match iP γ o st with
  | some x=>RD γ Q gi k (acc++ [x.tc]) r (apply x st)
  | none=>False
theorem Zm(pos:List PO)(gi:List (Nat×Nat))(k:List It)(st:St):R γ Q (.cU pos gi) k st=RD γ Q gi k [] pos st:=by
 have key: ∀(pos:List PO) (st:St) (acc:List (List (Nat×Bool))),RD γ Q gi k acc pos st↔ ∃outs bl,gb γ pos st=some (outs,bl)∧(gi.all fun x=>apart ((acc++outs.map (·.tc)).getD x.1 []) ((acc++outs.map (·.tc)).getD x.2 []))=true∧gf γ Q k .normal bl:=by
  intro pos
  induction pos with
  | nil=>
   intro st acc
   simp only [RD,gb]
   constructor
   ·rintro ⟨h1,h2⟩;exact ⟨[],st,rfl,by simpa using h1,h2⟩
   ·rintro ⟨outs,bl,h,h1,h2⟩
    simp only [Option.some.injEq,Prod.mk.injEq] at h
    obtain ⟨rfl,rfl⟩:=h
    exact ⟨by simpa using h1,h2⟩
  | cons o r ih=>
   intro st acc
   simp only [RD,gb]
   cases iP γ o st with
   | none=>simp
   | some x=>
    simp only
    rw [ih]
    constructor
    ·rintro ⟨outs,bl,h,h1,h2⟩
     exact ⟨x::outs,bl,by rw [h],by simpa using h1,h2⟩
    ·rintro ⟨outs,bl,h,h1,h2⟩
     split at h
     ·rename_i l s hs
      simp only [Option.some.injEq,Prod.mk.injEq] at h
      obtain ⟨rfl,rfl⟩:=h
      exact ⟨l,s,hs,by simpa using h1,h2⟩
     ·cases h
 have tc: ∀(outs:List Out) (i:Nat),Li outs i=([]++outs.map (fun o:Out=>o.tc)).getD i []:=by
  intro outs i
  simp only [Li,List.nil_append,List.getD_eq_getElem?_getD,List.getElem?_map]
  cases outs[i]?<;>rfl
 refine propext ⟨?_,fun h=>?_⟩
 ·rintro ⟨n,e,iH,h,q⟩
  simp only [prun] at h
  split at h
  ·rename_i outs bl hs
   split at h
   ·rename_i hap
    simp only [Option.some.injEq,Prod.mk.injEq] at h
    obtain ⟨rfl,rfl⟩:=h
    exact (key pos st []).2 ⟨outs,bl,hs,by simpa only [tc] using hap,q⟩
   ·cases h
  ·cases h
 ·obtain ⟨outs,bl,hs,hap,q⟩:=(key pos st []).1 h
  refine ⟨0,.normal,bl,?_,q⟩
  simp only [prun,hs]
  rw [if_pos (by simpa only [tc] using hap)]
def av0(o:Option (St×List (Nat×Bool)))(K:List (Nat×Bool)→St→Prop):Prop:=match o with | some (st,t)=>K t st | none=>False
def axH(fx:Bool)(m:Nat)(rs:List PR)(r:PV×List bH):PX→St→Prop
 | .normal,st=>xk fx st m rs=some r
 | .ret,st=>xk fx st m rs=some r
 | .exit _,_=>False
def aV(fc:aK)(m:Nat)(r:PV×List bH)(e:PX)(st:St):Prop:=axH (Lk fc.fin) m fc.res r e (dY fc.fin st)
theorem xq{γ:ek}{fc:aK}{args:List PV}{bs:List bH}{r:PV×List bH}(hl:args.length≤fc.N)(h:R γ (aV fc bs.length r) fc.body [] (qV args bs)):xl γ fc args bs=some r:=by
 obtain ⟨n,e,iH,h1,q⟩:=h
 rw [O0] at q
 refine adM (n:=n) ?_
 unfold sV
 rw [if_pos hl,h1]
 cases e with
 | normal=>exact q
 | ret=>exact q
 | exit i=>exact q.elim
theorem aqa{av:Nat→Option aK}{base:ek}{d f:Nat}{fc:aK}{args:List PV}{bs:List bH}{r:PV×List bH}(hc:av f=some fc)(hz:fc.z=false)(hl:args.length≤fc.N)(hd:1≤d)
  (h:R (bW av base (d-1)) (aV fc bs.length r) fc.body [] (qV args bs)):bW av base d f args bs=some r:=by
 obtain ⟨d,rfl⟩: ∃x,d=x+1:=⟨d-1,by omega⟩
 simp only [Nat.add_sub_cancel] at h
 simp only [bW,hc,OW,hz]
 rw [if_neg (by simp)]
 exact xq hl h
theorem ah9{av:Nat→Option aK}{base:ek}{d f m:Nat}{fc:aK}{cs:List PD}{ar:List PV}{bs:List bH}{r:PV×List bH}(hc:av f=some fc)(hz:fc.z=true)(hl:ar.length+1≤fc.N)(hd:1≤d)
  (h1:R (bW av base (d-1)) (aV fc bs.length r) fc.body [] (qV (.jo false m cs::ar) bs)) (h2:m=0→R (bW av base (d-1)) (aV fc bs.length r) fc.body [] (qV (.jo true 0 []::ar) bs)):bW av base d f (.d (.sl m cs)::ar) bs=some r:=by
 obtain ⟨d,rfl⟩: ∃x,d=x+1:=⟨d-1,by omega⟩
 simp only [Nat.add_sub_cancel] at h1 h2
 simp only [bW,hc,OW,hz,if_true,xq (args:= .jo false m cs::ar) (by simpa using hl) h1]
 by_cases hm:m=0
 ·rw [if_pos (.inr (xq (by simpa using hl) (h2 hm)))]
 ·rw [if_pos (.inl hm)]
end
-- reading
end Go.Proofs.YtimbfadnabfabaaGreatDoor.Pm

namespace Go.Proofs.YtimbfadnabfabaaGreatDoor.Pm
@[congr] theorem apw {b b' : Option Bool} (w : Bool) (x y : Prop) (h : b = b') : Zl b w x y = Zl b' w x y := by rw [h]
@[congr] theorem aqb {b b' : Option Bool} (x y : Prop) (h : b = b') : IK b x y = IK b' x y := by rw [h]
@[congr] theorem av1 {o o' : Option St} (K : St → Prop) (h : o = o') : avZ o K = avZ o' K := by rw [h]
@[congr] theorem av2 {o o' : Option (St × List (Nat × Bool))} (K : List (Nat × Bool) → St → Prop) (h : o = o') : av0 o K = av0 o' K := by rw [h]
section
variable {p : Prop} [Decidable p] {x y : Prop}
end
theorem wrap_i64(n:Int)(h: -9223372036854775808≤n∧n≤9223372036854775807):IntKind.i64.wrap n=n:=IntWalk.i64_in n h
theorem Zn{H:Nat→cq}{m:Nat}: ∀(l:List PV) (ids:List Nat),(∀p∈l,∃x,p= .d x)→lz H m l ids=some (l,ids)
 | [],ids,_=>rfl
 | p::l,ids,h=>by
  obtain ⟨x,rfl⟩:=h p (by simp)
  simp only [lz,kB,Zn l ids (fun q hq=>h q (by simp [hq]))]
end Go.Proofs.YtimbfadnabfabaaGreatDoor.Pm

