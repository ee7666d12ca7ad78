/- The small machine: statements, in order and in any order. No program is named here. -/
import Derived.Test.YtimbfadnabfabaaGreatDoorPv
namespace Go.Proofs.YtimbfadnabfabaaGreatDoor.Pm
open Go.RowKit

structure PO where
 d:Option Nat
 op:kj
 g:Option (Nat×Bool)
 deriving Inhabited
structure Out where
 d:Option Nat
 p:PV
 aD:eu
 tc:List (Nat×Bool)
def apply(o:Out)(st:St):St:=⟨match o.d with | some d=>up st.s d o.p | none=>st.s,eJ st.h o.aD⟩
def rd(p:PV):List (Nat×Bool):=(dw p).map fun i=>(i,false)
def bT(ρ:Operand→PV)(H:Nat→cq)(d:Nat):kj→List (Nat×Bool)
 | .FC .. | .HN .. | .box .. | .alloc .. | .uV .. => [(aZ d 0,true)]
 | .wU _ _ _ _ ps=>(aZ d 0,true)::(bA (ps.map fun x=>ρ x.2.2)).map fun i=>(i,true)
 | .Rm _ _ x=>(aZ d 0,true)::rd (ρ x)
 | .Ox _ _ x _ _ | .HP _ _ x _ _=>(dw (ρ x)).map fun i=>(i,true)
 | .Oz .. | .Vj _=> [(aZ d 0,true)]
 | .OA x | .Oy _ _ x=>(dw (ρ x)).map fun i=>(i,true)
 | .Cy _ x y=>(dw (ρ x)).map (fun i=>(i,true))++rd (ρ y)
 | .load _ _ x | .jz _ _ x _ | .uW _ _ x _ _ | .len _ x | .sS x=>rd (ρ x)
 | .store _ x _=>(dw (ρ x)).map fun i=>(i,true)
 | .app _ _ _ x y=>(aZ d 0,true)::((dw (ρ x)).map fun i=>(i,true))++rd (ρ y)
 | .call _ xs=>(bA (xs.map ρ)).map (fun i=>(i,false))++(List.range 8).map fun j=>(aZ d j,true)
 | .jd _ xs=>(bA (xs.map ρ)).map (fun i=>(i,true))++(List.range 8).map fun j=>(aZ d j,true)
 | .fO _ xs=>(fK H ((xs.map ρ).map pZ)).map (fun i=>(i,true))++(bA ((xs.map ρ).map pZ)).map (fun i=>(i,false))++(List.range 8).map fun j=>(aZ d j,true)
 | .lU x xs=>(bA (xs.map ρ)).map (fun i=>(i,false))++rd (ρ x)++(List.range 8).map fun j=>(aZ d j,true)
 | _=> []
def w9:kj→Bool
 | .FC .. | .HN .. | .box .. | .alloc .. | .uV .. | .wU .. | .Rm .. | .load .. | .jz .. | .uW .. | .len .. | .sS _ | .store .. | .app .. | .call .. | .lU .. | .fO .. | .jd .. | .Ox .. | .HP .. | .Oy .. | .Oz .. | .Cy .. | .Vj _ | .OA _=>true
 | _=>false
def PV.OP:PV→Option (Option Bool)
 | .d (.bool b)=>some (some b)
 | .bE []=>some none
 | _=>none
def iP(γ:ek)(o:PO)(st:St):Option Out:=
 match o.g with
 | none=>match az γ st.h (o.d.getD 0) (bU st.s) o.op with
  | some (p,aD)=>some ⟨o.d,p,aD,bT (bU st.s) st.h (o.d.getD 0) o.op⟩
  | none=>none
 | some (t,b)=>match (st.s t).OP with
  | some c=>if c=some b then (match az γ st.h (o.d.getD 0) (bU st.s) o.op with
   | some (p,aD)=>some ⟨o.d,p,aD,bT (bU st.s) st.h (o.d.getD 0) o.op⟩
   | none=>none) else some ⟨o.d,.bE [],[],[]⟩
  | none=>none
def oN(γ:ek):List PO→St→Option St
 | [],st=>some st
 | o::r,st=>match iP γ o st with
  | some x=>oN γ r (apply x st)
  | none=>none
def gb(γ:ek):List PO→St→Option (List Out×St)
 | [],st=>some ([],st)
 | o::r,st=>match iP γ o st with
  | some x=>match gb γ r (apply x st) with
   | some (l,bl)=>some (x::l,bl)
   | none=>none
  | none=>none
def apart(x y:List (Nat×Bool)):Bool:=x.all fun a=>y.all fun b=> !Nat.beq a.1 b.1 || (!a.2&& !b.2)
def Li(l:List Out)(i:Nat):List (Nat×Bool):=match l[i]? with | some o=>o.tc | none=> []

def guardOf(ops:Array Oper)(o:Oper):Option (Option (Nat×Bool)):=
 match o.guard with
 | none=>some none
 | some (j,b)=>match (ops[j]?).bind (·.dst) with
  | some t=>some (some (t,b))
  | none=>none
def VH(N:Nat):Option Nat→Bool
 | some d=>decide (d<N)
 | none=>true
def OQ(P:Program)(br:List Nat)(N:Nat)(ops:Array Oper)(o:Oper):Option PO:=
 match comp P br o,guardOf ops o with
 | some p,some g=>if VH N o.dst then some ⟨o.dst,p,g⟩ else none
 | _,_=>none
def u_(P:Program)(br:List Nat)(N:Nat)(ops:Array Oper):List Oper→Option (List PO)
 | []=>some []
 | o::r=>match OQ P br N ops o,u_ P br N ops r with
  | some x,some xs=>some (x::xs)
  | _,_=>none

section
variable {P : Program} {br : List Nat} {E : Nat → Prop} {m : List bH} {aP : Nat → cg} {w0 : World} {N : Nat} {γ : ek}
structure Rel (E:Nat→Prop) (m:List bH) (aP:Nat→cg) (w0:World) (N:Nat) (st:St) (a:Act) (w:World):Prop where
 all: ∃φ,Mem E m aP w0 φ st.h w∧ ∀t,cJ (cV E φ) w (bh φ st.h) (st.s t) (a.eval (.tmp t))
 defers:a.defers= []
 size:a.tmps.size=N
theorem Ip{φ:Nat→cg}{H:Nat→cq}{X:Nat→Prop}{w:World}{s:Nat→PV}{a:Act}(h: ∀t,cJ X w (bh φ H) (s t) (a.eval (.tmp t))): ∀x,cJ X w (bh φ H) (bU s x) (a.eval x)
 | .tmp t=>h t
 | .const v=>HT v
 | .global _=>trivial
 | .func f=>⟨#[],rfl,rfl⟩
theorem eval_put{a:Act}{d t:Nat}{v:Value}(h:d<a.tmps.size):(a.put (some d) v).eval (.tmp t)=if t=d then v else a.eval (.tmp t):=by
 simp only [Act.put,Act.eval,Array.getD_eq_getD_getElem?]
 by_cases e:t=d
 ·subst e;simp [h]
 ·rw [if_neg e,Array.getElem?_setIfInBounds_ne (Ne.symm e)]
theorem CO{st:St}{a:Act}{w w':World}{φ bp:Nat→cg}{p:PV}{aD:eu}{v:Value}{d:Option Nat}(hr: ∀t,cJ (cV E φ) w (bh φ st.h) (st.s t) (a.eval (.tmp t)))(CP:a.defers= [])(hsz:a.tmps.size=N)(hd:VH N d=true)
  (m1:Mem E m aP w0 bp (eJ st.h aD) w') (t1:Tr E φ st.h w bp (eJ st.h aD) w') (hv:cJ (cV E bp) w' (bh bp (eJ st.h aD)) p v) (tc:List (Nat×Bool)):Rel E m aP w0 N (apply ⟨d,p,aD,tc⟩ st) (a.put d v) w':=by
 cases d with
 | none=>exact ⟨⟨bp,m1,fun t=>t1.v (hr t)⟩,CP,hsz⟩
 | some d=>
  have hlt:d<a.tmps.size:=by simp [VH] at hd;omega
  refine ⟨⟨bp,m1,fun t=>?_⟩,CP,by simp [Act.put,hsz]⟩
  rw [eval_put hlt]
  simp only [apply]
  by_cases e:t=d
  ·subst e;rw [aQ,if_pos rfl];exact hv
  ·rw [dK _ _ _ _ e,if_neg e];exact t1.v (hr t)
theorem MR(kL:nS P γ w0 aP){ops:Array Oper}{o:Oper}{po:PO}{st:St}{x:Out}{a:Act}{w:World}{K:Act→World→Prop}{Q:Exit→Act→World→Prop}(hc:OQ P br N ops o=some po)(he:iP γ po st=some x)(hr:Rel E m aP w0 N st a w)
  (hK: ∀a' w',Rel E m aP w0 N (apply x st) a' w'→K a' w'):if Region.wanted o (yielded ops a.tmps)=true then o.wp P a w K Q else K (a.put o.dst undef) w:=by
 obtain ⟨⟨φ,hm,hs⟩,CP,hsz⟩:=hr
 unfold OQ at hc
 split at hc
 ·rename_i p g hp hg
  split at hc
  ·rename_i hd
   simp only [Option.some.injEq] at hc;subst hc
   have avR: ∀{pp:PV} {aD:eu} {tc:List (Nat×Bool)},az γ st.h (o.dst.getD 0) (bU st.s) p=some (pp,aD)→x=⟨o.dst,pp,aD,tc⟩→o.wp P a w K Q:=by
    intro pp aD tc hpe hx
    subst hx
    have ahL:=ahI (ev:=a.eval) hm (Ip hs) kL (fun _=>rfl) (fun _=>rfl) hp hpe
    unfold Oper.wp
    rcases ahL with ⟨v,w',hrun,bp,m1,t1,hv⟩ | ⟨w',hrun,bp,m1,t1,hv⟩ | ⟨f,args,hrun,Il⟩
    ·rw [hrun];exact hK _ _ (CO hs CP hsz hd m1 t1 hv tc)
    ·rw [hrun];exact hK _ _ (CO hs CP hsz hd m1 t1 hv tc)
    ·rw [hrun]
     show Calls P f args w _
     refine Il.mono ?_
     rintro e w' ⟨v,rfl,bp,m1,t1,hv⟩
     exact hK _ _ (CO hs CP hsz hd m1 t1 hv tc)
   unfold guardOf at hg
   unfold iP at he
   split at hg
   ·rename_i hgn
    simp only [Option.some.injEq] at hg;subst hg
    rw [if_pos (by simp [Region.wanted,hgn])]
    simp only at he
    split at he
    ·rename_i pp aD hpe
     exact avR hpe (Option.some.inj he).symm
    ·cases he
   ·rename_i j b hgs
    split at hg
    ·rename_i t ht
     simp only [Option.some.injEq] at hg;subst hg
     simp only at he
     split at he
     ·rename_i c hb
      have hy:yielded ops a.tmps j=c:=by
       have hst:=hs t
       unfold yielded
       rw [ht]
       simp only [Option.bind_some]
       simp only [Act.eval,Array.getD_eq_getD_getElem?] at hst
       unfold PV.OP at hb
       split at hb
       ·rename_i b' e
        rw [e] at hst
        cases hb
        have wO:(a.tmps[t]?).getD undef= .bool b':=hst
        cases hq:a.tmps[t]? with
        | none=>rw [hq] at wO;cases wO
        | some y=>rw [hq] at wO;simp at wO;subst wO;rfl
       ·rename_i e
        rw [e] at hst
        cases hb
        obtain ⟨vs,wO,hl⟩:=hst
        have RB:vs.toList= []:=hl
        cases hq:a.tmps[t]? with
        | none=>rfl
        | some y=>rw [hq] at wO;simp at wO;subst wO;rfl
       ·cases hb
      split at he
      ·rename_i hcb;subst hcb
       rw [if_pos (by simp [Region.wanted,hgs,hy])]
       split at he
       ·rename_i pp aD hpe
        exact avR hpe (Option.some.inj he).symm
       ·cases he
      ·rename_i hcb
       simp only [Option.some.injEq] at he;subst he
       rw [if_neg (by simp [Region.wanted,hgs,hy,hcb])]
       exact hK _ _ (CO hs CP hsz hd hm Tr.refl (p:= .bE []) ⟨#[],rfl,rfl⟩ [])
     ·cases he
    ·cases hg
  ·cases hc
 ·cases hc
theorem RU(kL:nS P γ w0 aP){ops:Array Oper}{Q:Exit→Act→World→Prop}: ∀{l:List Oper} {pl:List PO} {st bl:St} {a:Act} {w:World},u_ P br N ops l=some pl→oN γ pl st=some bl→Rel E m aP w0 N st a w→(∀a' w',Rel E m aP w0 N bl a' w'→Q .normal a' w')→wpList P ops Q l a w
 | [],pl,st,bl,a,w,hc,he,hr,hQ=>by
  simp only [u_,Option.some.injEq] at hc;subst hc
  simp only [oN,Option.some.injEq] at he;subst he
  exact hQ _ _ hr
 | o::l,pl,st,bl,a,w,hc,he,hr,hQ=>by
  simp only [u_] at hc
  split at hc
  ·rename_i x xs h1 h2
   simp only [Option.some.injEq] at hc;subst hc
   simp only [oN] at he
   split at he
   ·rename_i out hout
    refine wpList_step fun K hK=>?_
    exact MR kL h1 hout hr fun a' w' kn=>hK _ _ (RU kL h2 he kn hQ)
   ·cases he
  ·cases hc
end
end Go.Proofs.YtimbfadnabfabaaGreatDoor.Pm
