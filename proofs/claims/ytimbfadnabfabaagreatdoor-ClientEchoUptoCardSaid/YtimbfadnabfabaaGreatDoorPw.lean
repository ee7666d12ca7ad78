/- The small machine: statements, in order and in any order. No program is named here. -/
import Derived.Test.YtimbfadnabfabaaGreatDoorPv
namespace Go.Proofs.YtimbfadnabfabaaGreatDoor.Pm
open Go.RowKit

structure PO where
 d:Option Nat
 op:kA
 g:Option (Nat×Bool)
 deriving Inhabited
structure Out where
 d:Option Nat
 p:PV
 aD:eu
 tc:List (Nat×Bool)
def apply(o:Out)(st:St):St:=⟨match o.d with | some d=>up st.s d o.p | none=>st.s,eJ st.h o.aD⟩
def rd(p:PV):List (Nat×Bool):=(dr p).map fun i=>(i,false)
def bY(ρ:Operand→PV)(H:Nat→cw)(d:Nat):kA→List (Nat×Bool)
 | .Gu .. | .I2 .. | .box .. | .alloc .. | .wo .. => [(aZ d 0,true)]
 | .yy _ _ _ _ ps=>(aZ d 0,true)::(bB (ps.map fun x=>ρ x.2.2)).map fun i=>(i,true)
 | .R2 _ _ x=>(aZ d 0,true)::rd (ρ x)
 | .Pj _ _ x _ _ | .I3 _ _ x _ _=>(dr (ρ x)).map fun i=>(i,true)
 | .Pn .. | .VP _=> [(aZ d 0,true)]
 | .Po x | .Pk _ _ x=>(dr (ρ x)).map fun i=>(i,true)
 | .Di _ x y=>(dr (ρ x)).map (fun i=>(i,true))++rd (ρ y)
 | .load _ _ x | .jc _ _ x _ | .wq _ _ x _ _ | .len _ x | .tI x=>rd (ρ x)
 | .store _ x _=>(dr (ρ x)).map fun i=>(i,true)
 | .app _ _ _ x y=>(aZ d 0,true)::((dr (ρ x)).map fun i=>(i,true))++rd (ρ y)
 | .call _ xs=>(bB (xs.map ρ)).map (fun i=>(i,false))++(List.range 8).map fun j=>(aZ d j,true)
 | .jn _ xs=>(bB (xs.map ρ)).map (fun i=>(i,true))++(List.range 8).map fun j=>(aZ d j,true)
 | .fU _ xs=>(fQ H ((xs.map ρ).map qQ)).map (fun i=>(i,true))++(bB ((xs.map ρ).map qQ)).map (fun i=>(i,false))++(List.range 8).map fun j=>(aZ d j,true)
 | .lM x xs=>(bB (xs.map ρ)).map (fun i=>(i,false))++rd (ρ x)++(List.range 8).map fun j=>(aZ d j,true)
 | _=> []
def yF:kA→Bool
 | .Gu .. | .I2 .. | .box .. | .alloc .. | .wo .. | .yy .. | .R2 .. | .load .. | .jc .. | .wq .. | .len .. | .tI _ | .store .. | .app .. | .call .. | .lM .. | .fU .. | .jn .. | .Pj .. | .I3 .. | .Pk .. | .Pn .. | .Di .. | .VP _ | .Po _=>true
 | _=>false
def PV.PC:PV→Option (Option Bool)
 | .d (.bool b)=>some (some b)
 | .bH []=>some none
 | _=>none
def iV(γ:dZ)(o:PO)(st:St):Option Out:=
 match o.g with
 | none=>match az γ st.h (o.d.getD 0) (b8 st.s) o.op with
  | some (p,aD)=>some ⟨o.d,p,aD,bY (b8 st.s) st.h (o.d.getD 0) o.op⟩
  | none=>none
 | some (t,b)=>match (st.s t).PC with
  | some c=>if c=some b then (match az γ st.h (o.d.getD 0) (b8 st.s) o.op with
   | some (p,aD)=>some ⟨o.d,p,aD,bY (b8 st.s) st.h (o.d.getD 0) o.op⟩
   | none=>none) else some ⟨o.d,.bH [],[],[]⟩
  | none=>none
def pU(γ:dZ):List PO→St→Option St
 | [],st=>some st
 | o::r,st=>match iV γ o st with
  | some x=>pU γ r (apply x st)
  | none=>none
def gp(γ:dZ):List PO→St→Option (List Out×St)
 | [],st=>some ([],st)
 | o::r,st=>match iV γ o st with
  | some x=>match gp γ r (apply x st) with
   | some (l,bl)=>some (x::l,bl)
   | none=>none
  | none=>none
def apart(x y:List (Nat×Bool)):Bool:=x.all fun a=>y.all fun b=> !Nat.beq a.1 b.1 || (!a.2&& !b.2)
def Mb(l:List Out)(i:Nat):List (Nat×Bool):=match l[i]? with | some o=>o.tc | none=> []

def guardOf(ops:Array Oper)(o:Oper):Option (Option (Nat×Bool)):=
 match o.guard with
 | none=>some none
 | some (j,b)=>match (ops[j]?).bind (·.dst) with
  | some t=>some (some (t,b))
  | none=>none
def We(N:Nat):Option Nat→Bool
 | some d=>decide (d<N)
 | none=>true
def PE(P:Program)(br:List Nat)(N:Nat)(ops:Array Oper)(o:Oper):Option PO:=
 match comp P br o,guardOf ops o with
 | some p,some g=>if We N o.dst then some ⟨o.dst,p,g⟩ else none
 | _,_=>none
def wF(P:Program)(br:List Nat)(N:Nat)(ops:Array Oper):List Oper→Option (List PO)
 | []=>some []
 | o::r=>match PE P br N ops o,wF P br N ops r with
  | some x,some xs=>some (x::xs)
  | _,_=>none

section
variable {P : Program} {br : List Nat} {E : Nat → Prop} {m : List bM} {aQ : Nat → cr} {w0 : World} {N : Nat} {γ : dZ}
structure Rel (E:Nat→Prop) (m:List bM) (aQ:Nat→cr) (w0:World) (N:Nat) (st:St) (a:Act) (w:World):Prop where
 all: ∃φ,Mem E m aQ w0 φ st.h w∧ ∀t,cK (cW E φ) w (bk φ st.h) (st.s t) (a.eval (.tmp t))
 defers:a.defers= []
 size:a.tmps.size=N
theorem Jr{φ:Nat→cr}{H:Nat→cw}{X:Nat→Prop}{w:World}{s:Nat→PV}{a:Act}(h: ∀t,cK X w (bk φ H) (s t) (a.eval (.tmp t))): ∀x,cK X w (bk φ H) (b8 s x) (a.eval x)
 | .tmp t=>h t
 | .const v=>I6 v
 | .global _=>trivial
 | .func f=>⟨#[],rfl,rfl⟩
theorem eval_put{a:Act}{d t:Nat}{v:Value}(h:d<a.tmps.size):(a.put (some d) v).eval (.tmp t)=if t=d then v else a.eval (.tmp t):=by
 simp only [Act.put,Act.eval,Array.getD_eq_getD_getElem?]
 by_cases e:t=d
 ·subst e;simp [h]
 ·rw [if_neg e,Array.getElem?_setIfInBounds_ne (Ne.symm e)]
theorem Dw{st:St}{a:Act}{w w':World}{φ bq:Nat→cr}{p:PV}{aD:eu}{v:Value}{d:Option Nat}(hr: ∀t,cK (cW E φ) w (bk φ st.h) (st.s t) (a.eval (.tmp t)))(Dx:a.defers= [])(hsz:a.tmps.size=N)(hd:We N d=true)
  (m1:Mem E m aQ w0 bq (eJ st.h aD) w') (t1:Tr E φ st.h w bq (eJ st.h aD) w') (hv:cK (cW E bq) w' (bk bq (eJ st.h aD)) p v) (tc:List (Nat×Bool)):Rel E m aQ w0 N (apply ⟨d,p,aD,tc⟩ st) (a.put d v) w':=by
 cases d with
 | none=>exact ⟨⟨bq,m1,fun t=>t1.v (hr t)⟩,Dx,hsz⟩
 | some d=>
  have hlt:d<a.tmps.size:=by simp [We] at hd;omega
  refine ⟨⟨bq,m1,fun t=>?_⟩,Dx,by simp [Act.put,hsz]⟩
  rw [eval_put hlt]
  simp only [apply]
  by_cases e:t=d
  ·subst e;rw [aR,if_pos rfl];exact hv
  ·rw [dM _ _ _ _ e,if_neg e];exact t1.v (hr t)
theorem NG(k5:oo P γ w0 aQ){ops:Array Oper}{o:Oper}{po:PO}{st:St}{x:Out}{a:Act}{w:World}{K:Act→World→Prop}{Q:Exit→Act→World→Prop}(hc:PE P br N ops o=some po)(he:iV γ po st=some x)(hr:Rel E m aQ w0 N st a w)
  (hK: ∀a' w',Rel E m aQ w0 N (apply x st) a' w'→K a' w'):if Region.wanted o (yielded ops a.tmps)=true then o.wp P a w K Q else K (a.put o.dst undef) w:=by
 obtain ⟨⟨φ,hm,hs⟩,Dx,hsz⟩:=hr
 unfold PE at hc
 split at hc
 ·rename_i p g hp hg
  split at hc
  ·rename_i hd
   simp only [Option.some.injEq] at hc;subst hc
   have axM: ∀{pp:PV} {aD:eu} {tc:List (Nat×Bool)},az γ st.h (o.dst.getD 0) (b8 st.s) p=some (pp,aD)→x=⟨o.dst,pp,aD,tc⟩→o.wp P a w K Q:=by
    intro pp aD tc hpe hx
    subst hx
    have ajo:=ajl (ev:=a.eval) hm (Jr hs) k5 (fun _=>rfl) (fun _=>rfl) hp hpe
    unfold Oper.wp
    rcases ajo with ⟨v,w',hrun,bq,m1,t1,hv⟩ | ⟨w',hrun,bq,m1,t1,hv⟩ | ⟨f,args,hrun,Jo⟩
    ·rw [hrun];exact hK _ _ (Dw hs Dx hsz hd m1 t1 hv tc)
    ·rw [hrun];exact hK _ _ (Dw hs Dx hsz hd m1 t1 hv tc)
    ·rw [hrun]
     show Calls P f args w _
     refine Jo.mono ?_
     rintro e w' ⟨v,rfl,bq,m1,t1,hv⟩
     exact hK _ _ (Dw hs Dx hsz hd m1 t1 hv tc)
   unfold guardOf at hg
   unfold iV at he
   split at hg
   ·rename_i hgn
    simp only [Option.some.injEq] at hg;subst hg
    rw [if_pos (by simp [Region.wanted,hgn])]
    simp only at he
    split at he
    ·rename_i pp aD hpe
     exact axM hpe (Option.some.inj he).symm
    ·cases he
   ·rename_i j b hgs
    split at hg
    ·rename_i t ht
     simp only [Option.some.injEq] at hg;subst hg
     simp only at he
     split at he
     ·rename_i c hb
      have hy:yielded ops a.tmps j=c:=by
       have hst:=hs t
       unfold yielded
       rw [ht]
       simp only [Option.bind_some]
       simp only [Act.eval,Array.getD_eq_getD_getElem?] at hst
       unfold PV.PC at hb
       split at hb
       ·rename_i b' e
        rw [e] at hst
        cases hb
        have yj:(a.tmps[t]?).getD undef= .bool b':=hst
        cases hq:a.tmps[t]? with
        | none=>rw [hq] at yj;cases yj
        | some y=>rw [hq] at yj;simp at yj;subst yj;rfl
       ·rename_i e
        rw [e] at hst
        cases hb
        obtain ⟨vs,yj,hl⟩:=hst
        have Sg:vs.toList= []:=hl
        cases hq:a.tmps[t]? with
        | none=>rfl
        | some y=>rw [hq] at yj;simp at yj;subst yj;rfl
       ·cases hb
      split at he
      ·rename_i hcb;subst hcb
       rw [if_pos (by simp [Region.wanted,hgs,hy])]
       split at he
       ·rename_i pp aD hpe
        exact axM hpe (Option.some.inj he).symm
       ·cases he
      ·rename_i hcb
       simp only [Option.some.injEq] at he;subst he
       rw [if_neg (by simp [Region.wanted,hgs,hy,hcb])]
       exact hK _ _ (Dw hs Dx hsz hd hm Tr.refl (p:= .bH []) ⟨#[],rfl,rfl⟩ [])
     ·cases he
    ·cases hg
  ·cases hc
 ·cases hc
theorem Sw(k5:oo P γ w0 aQ){ops:Array Oper}{Q:Exit→Act→World→Prop}: ∀{l:List Oper} {pl:List PO} {st bl:St} {a:Act} {w:World},wF P br N ops l=some pl→pU γ pl st=some bl→Rel E m aQ w0 N st a w→(∀a' w',Rel E m aQ w0 N bl a' w'→Q .normal a' w')→wpList P ops Q l a w
 | [],pl,st,bl,a,w,hc,he,hr,hQ=>by
  simp only [wF,Option.some.injEq] at hc;subst hc
  simp only [pU,Option.some.injEq] at he;subst he
  exact hQ _ _ hr
 | o::l,pl,st,bl,a,w,hc,he,hr,hQ=>by
  simp only [wF] at hc
  split at hc
  ·rename_i x xs h1 h2
   simp only [Option.some.injEq] at hc;subst hc
   simp only [pU] at he
   split at he
   ·rename_i out hout
    refine wpList_step fun K hK=>?_
    exact NG k5 h1 hout hr fun a' w' kB=>hK _ _ (Sw k5 h2 he kB hQ)
   ·cases he
  ·cases hc
end
end Go.Proofs.YtimbfadnabfabaaGreatDoor.Pm
