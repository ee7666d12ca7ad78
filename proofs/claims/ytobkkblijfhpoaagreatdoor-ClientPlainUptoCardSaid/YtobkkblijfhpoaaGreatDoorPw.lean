/- The small machine: statements, in order and in any order. No program is named here. -/
import Derived.Test.YtobkkblijfhpoaaGreatDoorPv
namespace Go.Proofs.YtobkkblijfhpoaaGreatDoor.Pm
open Go.RowKit

structure PO where
 d:Option Nat
 op:gP
 g:Option (Nat×Bool)
 deriving Inhabited
structure Out where
 d:Option Nat
 p:PV
 aH:eo
 tc:List (Nat×Bool)
def apply(o:Out)(st:St):St:=⟨match o.d with | some d=>up st.s d o.p | none=>st.s,eO st.h o.aH⟩
def rd(p:PV):List (Nat×Bool):=(dH p).map fun i=>(i,false)
def cE(ρ:Operand→PV)(H:Nat→cL)(d:Nat):gP→List (Nat×Bool)
 | .HF .. | .Ds .. | .box .. | .alloc .. | .vL .. => [(bf d 0,true)]
 | .tC _ _ _ _ ps=>(bf d 0,true)::(bQ (ps.map fun x=>ρ x.2.2)).map fun i=>(i,true)
 | .SF _ _ x=>(bf d 0,true)::rd (ρ x)
 | .Qb _ _ x _ _ | .JO _ _ x _ _=>(dH (ρ x)).map fun i=>(i,true)
 | .JP .. | .WU _=> [(bf d 0,true)]
 | .Qd x | .Qc _ _ x=>(dH (ρ x)).map fun i=>(i,true)
 | .Dt _ x y=>(dH (ρ x)).map (fun i=>(i,true))++rd (ρ y)
 | .load _ _ x | .fQ _ _ x _ | .tD _ _ x _ _ | .len _ x | .su x=>rd (ρ x)
 | .store _ x _=>(dH (ρ x)).map fun i=>(i,true)
 | .app _ _ _ x y=>(bf d 0,true)::((dH (ρ x)).map fun i=>(i,true))++rd (ρ y)
 | .call _ xs=>(bQ (xs.map ρ)).map (fun i=>(i,false))++(List.range 8).map fun j=>(bf d j,true)
 | .eR _ xs=>(bQ (xs.map ρ)).map (fun i=>(i,true))++(List.range 8).map fun j=>(bf d j,true)
 | .er _ xs=>(gB H ((xs.map ρ).map tG)).map (fun i=>(i,true))++(bQ ((xs.map ρ).map tG)).map (fun i=>(i,false))++(List.range 8).map fun j=>(bf d j,true)
 | .nQ x xs=>(bQ (xs.map ρ)).map (fun i=>(i,false))++rd (ρ x)++(List.range 8).map fun j=>(bf d j,true)
 | _=> []
def yb:gP→Bool
 | .HF .. | .Ds .. | .box .. | .alloc .. | .vL .. | .tC .. | .SF .. | .load .. | .fQ .. | .tD .. | .len .. | .su _ | .store .. | .app .. | .call .. | .nQ .. | .er .. | .eR .. | .Qb .. | .JO .. | .Qc .. | .JP .. | .Dt .. | .WU _ | .Qd _=>true
 | _=>false
def PV.Qp:PV→Option (Option Bool)
 | .d (.bool b)=>some (some b)
 | .bZ []=>some none
 | _=>none
def iB(γ:cX)(o:PO)(st:St):Option Out:=
 match o.g with
 | none=>match aD γ st.h (o.d.getD 0) (cK st.s) o.op with
  | some (p,aH)=>some ⟨o.d,p,aH,cE (cK st.s) st.h (o.d.getD 0) o.op⟩
  | none=>none
 | some (t,b)=>match (st.s t).Qp with
  | some c=>if c=some b then (match aD γ st.h (o.d.getD 0) (cK st.s) o.op with
   | some (p,aH)=>some ⟨o.d,p,aH,cE (cK st.s) st.h (o.d.getD 0) o.op⟩
   | none=>none) else some ⟨o.d,.bZ [],[],[]⟩
  | none=>none
def oH(γ:cX):List PO→St→Option St
 | [],st=>some st
 | o::r,st=>match iB γ o st with
  | some x=>oH γ r (apply x st)
  | none=>none
def fS(γ:cX):List PO→St→Option (List Out×St)
 | [],st=>some ([],st)
 | o::r,st=>match iB γ o st with
  | some x=>match fS γ r (apply x st) with
   | some (l,bX)=>some (x::l,bX)
   | none=>none
  | none=>none
def apart(x y:List (Nat×Bool)):Bool:=x.all fun a=>y.all fun b=> !Nat.beq a.1 b.1 || (!a.2&& !b.2)
def Nc(l:List Out)(i:Nat):List (Nat×Bool):=match l[i]? with | some o=>o.tc | none=> []

def guardOf(ops:Array Oper)(o:Oper):Option (Option (Nat×Bool)):=
 match o.guard with
 | none=>some none
 | some (j,b)=>match (ops[j]?).bind (·.dst) with
  | some t=>some (some (t,b))
  | none=>none
def Xn(N:Nat):Option Nat→Bool
 | some d=>decide (d<N)
 | none=>true
def Qq(P:Program)(br:List Nat)(N:Nat)(ops:Array Oper)(o:Oper):Option PO:=
 match comp P br o,guardOf ops o with
 | some p,some g=>if Xn N o.dst then some ⟨o.dst,p,g⟩ else none
 | _,_=>none
def vS(P:Program)(br:List Nat)(N:Nat)(ops:Array Oper):List Oper→Option (List PO)
 | []=>some []
 | o::r=>match Qq P br N ops o,vS P br N ops r with
  | some x,some xs=>some (x::xs)
  | _,_=>none

section
variable {P : Program} {br : List Nat} {E : Nat → Prop} {m : List cj} {aS : Nat → cJ} {w0 : World} {N : Nat} {γ : cX}
structure Rel (E:Nat→Prop) (m:List cj) (aS:Nat→cJ) (w0:World) (N:Nat) (st:St) (a:Act) (w:World):Prop where
 all: ∃φ,Mem E m aS w0 φ st.h w∧ ∀t,cT (dr E φ) w (bu φ st.h) (st.s t) (a.eval (.tmp t))
 defers:a.defers= []
 size:a.tmps.size=N
theorem Kf{φ:Nat→cJ}{H:Nat→cL}{X:Nat→Prop}{w:World}{s:Nat→PV}{a:Act}(h: ∀t,cT X w (bu φ H) (s t) (a.eval (.tmp t))): ∀x,cT X w (bu φ H) (cK s x) (a.eval x)
 | .tmp t=>h t
 | .const v=>JS v
 | .global _=>trivial
 | .func f=>⟨#[],rfl,rfl⟩
theorem eval_put{a:Act}{d t:Nat}{v:Value}(h:d<a.tmps.size):(a.put (some d) v).eval (.tmp t)=if t=d then v else a.eval (.tmp t):=by
 simp only [Act.put,Act.eval,Array.getD_eq_getD_getElem?]
 by_cases e:t=d
 ·subst e;simp [h]
 ·rw [if_neg e,Array.getElem?_setIfInBounds_ne (Ne.symm e)]
theorem DK{st:St}{a:Act}{w w':World}{φ bK:Nat→cJ}{p:PV}{aH:eo}{v:Value}{d:Option Nat}(hr: ∀t,cT (dr E φ) w (bu φ st.h) (st.s t) (a.eval (.tmp t)))(DL:a.defers= [])(hsz:a.tmps.size=N)(hd:Xn N d=true)
  (m1:Mem E m aS w0 bK (eO st.h aH) w') (t1:Tr E φ st.h w bK (eO st.h aH) w') (hv:cT (dr E bK) w' (bu bK (eO st.h aH)) p v) (tc:List (Nat×Bool)):Rel E m aS w0 N (apply ⟨d,p,aH,tc⟩ st) (a.put d v) w':=by
 cases d with
 | none=>exact ⟨⟨bK,m1,fun t=>t1.v (hr t)⟩,DL,hsz⟩
 | some d=>
  have hlt:d<a.tmps.size:=by simp [Xn] at hd;omega
  refine ⟨⟨bK,m1,fun t=>?_⟩,DL,by simp [Act.put,hsz]⟩
  rw [eval_put hlt]
  simp only [apply]
  by_cases e:t=d
  ·subst e;rw [aQ,if_pos rfl];exact hv
  ·rw [dV _ _ _ _ e,if_neg e];exact t1.v (hr t)
theorem OE(kV:nI P γ w0 aS){ops:Array Oper}{o:Oper}{po:PO}{st:St}{x:Out}{a:Act}{w:World}{K:Act→World→Prop}{Q:Exit→Act→World→Prop}(hc:Qq P br N ops o=some po)(he:iB γ po st=some x)(hr:Rel E m aS w0 N st a w)
  (hK: ∀a' w',Rel E m aS w0 N (apply x st) a' w'→K a' w'):if Region.wanted o (yielded ops a.tmps)=true then o.wp P a w K Q else K (a.put o.dst undef) w:=by
 obtain ⟨⟨φ,hm,hs⟩,DL,hsz⟩:=hr
 unfold Qq at hc
 split at hc
 ·rename_i p g hp hg
  split at hc
  ·rename_i hd
   simp only [Option.some.injEq] at hc;subst hc
   have awc: ∀{pp:PV} {aH:eo} {tc:List (Nat×Bool)},aD γ st.h (o.dst.getD 0) (cK st.s) p=some (pp,aH)→x=⟨o.dst,pp,aH,tc⟩→o.wp P a w K Q:=by
    intro pp aH tc hpe hx
    subst hx
    have ajN:=ajK (ev:=a.eval) hm (Kf hs) kV (fun _=>rfl) (fun _=>rfl) hp hpe
    unfold Oper.wp
    rcases ajN with ⟨v,w',hrun,bK,m1,t1,hv⟩ | ⟨w',hrun,bK,m1,t1,hv⟩ | ⟨f,args,hrun,Kb⟩
    ·rw [hrun];exact hK _ _ (DK hs DL hsz hd m1 t1 hv tc)
    ·rw [hrun];exact hK _ _ (DK hs DL hsz hd m1 t1 hv tc)
    ·rw [hrun]
     show Calls P f args w _
     refine Kb.mono ?_
     rintro e w' ⟨v,rfl,bK,m1,t1,hv⟩
     exact hK _ _ (DK hs DL hsz hd m1 t1 hv tc)
   unfold guardOf at hg
   unfold iB at he
   split at hg
   ·rename_i hgn
    simp only [Option.some.injEq] at hg;subst hg
    rw [if_pos (by simp [Region.wanted,hgn])]
    simp only at he
    split at he
    ·rename_i pp aH hpe
     exact awc hpe (Option.some.inj he).symm
    ·cases he
   ·rename_i j b hgs
    split at hg
    ·rename_i t ht
     simp only [Option.some.injEq] at hg;subst hg
     simp only at he
     split at he
     ·rename_i c hb
      have hy:yielded ops a.tmps j=c:=by
       have hst:=hs t
       unfold yielded
       rw [ht]
       simp only [Option.bind_some]
       simp only [Act.eval,Array.getD_eq_getD_getElem?] at hst
       unfold PV.Qp at hb
       split at hb
       ·rename_i b' e
        rw [e] at hst
        cases hb
        have xP:(a.tmps[t]?).getD undef= .bool b':=hst
        cases hq:a.tmps[t]? with
        | none=>rw [hq] at xP;cases xP
        | some y=>rw [hq] at xP;simp at xP;subst xP;rfl
       ·rename_i e
        rw [e] at hst
        cases hb
        obtain ⟨vs,xP,hl⟩:=hst
        have Qi:vs.toList= []:=hl
        cases hq:a.tmps[t]? with
        | none=>rfl
        | some y=>rw [hq] at xP;simp at xP;subst xP;rfl
       ·cases hb
      split at he
      ·rename_i hcb;subst hcb
       rw [if_pos (by simp [Region.wanted,hgs,hy])]
       split at he
       ·rename_i pp aH hpe
        exact awc hpe (Option.some.inj he).symm
       ·cases he
      ·rename_i hcb
       simp only [Option.some.injEq] at he;subst he
       rw [if_neg (by simp [Region.wanted,hgs,hy,hcb])]
       exact hK _ _ (DK hs DL hsz hd hm Tr.refl (p:= .bZ []) ⟨#[],rfl,rfl⟩ [])
     ·cases he
    ·cases hg
  ·cases hc
 ·cases hc
theorem S_(kV:nI P γ w0 aS){ops:Array Oper}{Q:Exit→Act→World→Prop}: ∀{l:List Oper} {pl:List PO} {st bX:St} {a:Act} {w:World},vS P br N ops l=some pl→oH γ pl st=some bX→Rel E m aS w0 N st a w→(∀a' w',Rel E m aS w0 N bX a' w'→Q .normal a' w')→wpList P ops Q l a w
 | [],pl,st,bX,a,w,hc,he,hr,hQ=>by
  simp only [vS,Option.some.injEq] at hc;subst hc
  simp only [oH,Option.some.injEq] at he;subst he
  exact hQ _ _ hr
 | o::l,pl,st,bX,a,w,hc,he,hr,hQ=>by
  simp only [vS] at hc
  split at hc
  ·rename_i x xs h1 h2
   simp only [Option.some.injEq] at hc;subst hc
   simp only [oH] at he
   split at he
   ·rename_i out hout
    refine wpList_step fun K hK=>?_
    exact OE kV h1 hout hr fun a' w' jZ=>hK _ _ (S_ kV h2 he jZ hQ)
   ·cases he
  ·cases hc
end
end Go.Proofs.YtobkkblijfhpoaaGreatDoor.Pm
