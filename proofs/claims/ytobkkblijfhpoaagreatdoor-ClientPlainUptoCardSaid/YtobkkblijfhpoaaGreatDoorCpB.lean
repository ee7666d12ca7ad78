/- ClientPlain: a client on a new screen is right, and is its own copy. -/
import Derived.Test.YtobkkblijfhpoaaGreatDoorCpG
namespace Go.Proofs.YtobkkblijfhpoaaGreatDoor.Pm
open Go.Proofs.YtobkkblijfhpoaaGreatDoor.Args
open Go.ChangeShapes Go.WideShapes Go.ChangeAt Go.RowKit
set_option linter.unusedVariables false
set_option linter.unusedSimpArgs false
set_option maxRecDepth 100000
def XT:List UInt8:= [65]
def K0:di:=di.mk (upd (upd (upd (upd (upd (fun _=>0) 10 2) 11 2) 12 2) 13 2) 14 2) (upd (upd (upd (upd (upd (fun _=>0) 10 127) 11 21) 12 23) 13 18) 14 22)
def mkC(s:ah)(w:bW)(n:dm):aL:=⟨w,false,[],⟨0,0,[],[],[]⟩,s,n,⟨[XT],0⟩,[],K0,⟨fun _=>0⟩,⟨[],false⟩,false⟩
def sN(W H:Nat)(st:cH):ah:=Hx W H st (iU (W*H) (fun _=>blank P0)) 0 0 false
theorem aaC(W H:Nat)(h1:1≤W∧W≤160)(h2:1≤H∧H≤60):f44 (W:Int) (H:Int) (bq.mk 0 0 0)=some ((W:Int),(H:Int),iU (W*H) (fun _=>blank P0),0):=by
 unfold f44 Jh
 rw [Gg,bs,Bc,bs,if_pos (by omega),dK (by rfl),dK (by rfl),WA W H _ h1 h2,bs];rfl
theorem Wx(a b:Int)(h: ¬(1≤a∧a≤160∧1≤b∧b≤60)):f44 a b (bq.mk 0 0 0)=some (0,0,[],1):=by
 unfold f44
 rw [Gg,bs,if_neg h,cZ (by rfl)]
theorem arS(W H:Nat)(h1:1≤W∧W≤160)(h2:1≤H∧H≤60): ∃st,f23 (W:Int) (H:Int)=some (Hx W H st (iU (W*H) (fun _=>blank P0)) 0 0 false,0):=by
 obtain ⟨st,hst⟩:=PY
 have h9:=size_le W H h1.2 h2.2
 refine ⟨st,?_⟩
 unfold f23
 rw [aaC W H h1 h2,bs,dK (by rfl)]
 unfold Ji
 show ((f45 ⟨(W:Int),(H:Int),iU (W*H) (fun _=>blank P0)⟩).bind _)=_
 rw [JK W H _ (by rw [eX];omega),bs,hst,bs];rfl
theorem ai4(a b:Int)(h: ¬(1≤a∧a≤160∧1≤b∧b≤60)): ∃s,f23 a b=some (s,1):=by
 unfold f23
 rw [Wx a b h,bs,cZ (by rfl)]
 exact ⟨_,rfl⟩
theorem aBT(s:ah)(W H:Nat)(h1:1≤W∧W≤160)(h2:1≤H∧H≤60)(g:pM s.aT=0)(o:pM s.bT=0)(gw:s.aT.bV=W)(gh:s.aT.cC=H)(ow:s.bT.bV=W)(oh:s.bT.cC=H)(row:s.Row=0)(col:s.dS=0)(late:s.eL=false)(top:s.jo=0)(bot:s.dy=H)
  (pn:r_ s.bM=true) (sp:r_ s.aR.bM=true) (md:s.gD=12) (p1:s.bY.1=1) (p2:s.bY.2=1) (q1:s.aR.bY.1=1) (q2:s.aR.bY.2=1) (sh:s.dF=0) (ssh:s.aR.dF=0) (sr:s.aR.Row=0) (sc:s.aR.dS=0) (ti:s.iF= []) (pa:s.cD= []):f55 s=some ():=by
 have pl:f100 []=some ():=rfl
 have wi: ∀a lo hi:Int,lo≤a→a≤hi→f98 a lo hi=some true:=fun a lo hi x y=>by rw [MW,dt x,dt y];rfl
 have kn:f99 1=some true:=by rw [Hz];rfl
 unfold f55
 rw [Hy,bs,cZ (dt g),Hy,bs,cZ (dt o),cZ (dt (gw.trans ow.symm)),cZ (dt (gh.trans oh.symm))]
 unfold Fk
 rw [ct,gh,gw,gY ((H:Int)-1) (by omega),gY ((W:Int)-1) (by omega),row,wi _ _ _ (by omega) (by omega),bs,ct,col,wi _ _ _ (by omega) (by omega),bs,ct,late,Bool.not_false,ct,top,bot,gY ((H:Int)-1) (by omega),wi _ _ _ (by omega) (by omega),bs,ct,cZ (dt (by omega))]
 unfold Fi
 rw [ct,Bc,bs,arL,pn,ct,Bc,bs,arL,sp,ct,md,wi _ _ _ (by omega) (by omega),bs]
 unfold Ju
 rw [ct,p1,kn,bs,ct,q1,kn,bs]
 unfold Jt
 rw [ct,p2,kn,bs,ct,q2,kn,bs]
 unfold Js
 rw [ct,sh,wi _ _ _ (by omega) (by omega),bs,ct,ssh,wi _ _ _ (by omega) (by omega),bs,ct,sr,wi _ _ _ (by omega) (by omega),bs,ct,sc,wi _ _ _ (by omega) (by omega),bs,ct,ti,cZ (dt (by simp)),pa,pl,bs]
theorem WG(W H:Nat)(st:cH)(h1:1≤W∧W≤160)(h2:1≤H∧H≤60):f55 (Hx W H st (iU (W*H) (fun _=>blank P0)) 0 0 false)=some ():=by
 have g:pM ⟨(W:Int),(H:Int),iU (W*H) (fun _=>blank P0)⟩=0:=qq W H _ h1 h2 (eX _ _) (aep W H)
 exact aBT _ W H h1 h2 g g rfl rfl rfl rfl rfl rfl rfl rfl rfl (by decide:r_ ⟨0,0,0⟩=true) (by decide:r_ ⟨0,0,0⟩=true) rfl rfl rfl rfl rfl rfl rfl rfl rfl rfl rfl
theorem arT:f57 K0=some ():=by
 unfold f57
 rw [kZ (n:=20) (r:=()) (by kernel_rfl),bs]
 kernel_rfl
theorem arU:f47 XT=some ():=by
 unfold f47
 rw [kZ (n:=2) (r:=()) (by kernel_rfl),bs]
 kernel_rfl
theorem ai5(z:List UInt8):f48 [] z=some ():=rfl
theorem P1:f26 ⟨[XT],0⟩=some ():=by
 have h:bR (wF ⟨[XT],0⟩) 0=some ():=by
  have e0:wF ⟨[XT],0⟩ 0=some (.inl 1):=by
   unfold wF qZ wE
   rw [cZ (dt (by decide)),ct]
   show ((idx [XT] 0).bind _)=_
   rw [show idx [XT] 0=some XT from rfl,bs,arU,bs,show ni [XT] 0 0=some [] from rfl,bs,ai5,bs]
   rfl
  have e1:wF ⟨[XT],0⟩ 1=some (.inr ()):=rfl
  exact kZ (n:=2) (by simp [nV,e0,e1])
 unfold f26 Jj
 rw [h];rfl
theorem WH:f27 []=some ():=rfl
theorem arV: ∃l,f95 []=some l:=by
 have h1:oN [] [48,49,50,51,52,53,54,55,56,57,59]=some []:=by
  unfold oN
  rw [if_pos ⟨by simp,by simp,by decide⟩,aiZ [] _ (by simp)]
 have h2:bR (Jo []) ()=some ():=eC (by rfl)
 have h3:ld [] [59]=some [[]]:=by rw [aiY [] 59 (by simp)];rfl
 have h5:bR (wJ []) ([],[[]],1,0)=some [-1]:=by
  have e0:wJ [] ([],[[]],1,0)=some (.inl ([-1],[[]],1,1)):=by
   unfold wJ q9 wI wG
   rw [cZ (dt (by decide)),ct]
   show (((idx [[]] 0):Option (List UInt8)).bind _)=_
   rw [show idx ([[]]:List (List UInt8)) 0=some [] from rfl,bs,dK (df (by decide)),dK (df (by decide)),fW _ _ _ (by simp),bs]
   rfl
  have e1:wJ [] ([-1],[[]],1,1)=some (.inr [-1]):=rfl
  exact kZ (n:=2) (by simp [nV,e0,e1])
 unfold f95 Jp Jn
 rw [h1,bs,show (!decide (([]:List UInt8)= []))=false from rfl,cf,h2,bs]
 refine ⟨[-1],?_⟩
 rw [h3,bs]
 have e:(([[]]:List (List UInt8)).length:Int)=1:=rfl
 rw [e,h5,bs]
theorem WI:f54 ⟨0,0,[],[],[]⟩=some ():=by
 obtain ⟨l,hl⟩:=arV
 have hi:f97 [] 3=some true:=by
  unfold f97
  rw [eC (r:= .inl ()) (by rfl)];rfl
 unfold f54 Fa
 show ((f95 []).bind _)=_
 rw [hl,bs]
 show ((f97 [] 3).bind _)=_
 rw [hi,bs]
 rfl
theorem arW:f58 ⟨[],false⟩=some ():=rfl
theorem WJ:f53 []=some ():=rfl
theorem nine(a:aL):bR (Jx a) ((fun i=>([0,0,0,0,0,0,0,0,0]:List Int).getD i 0),0)=some ():=kZ (n:=10) (by rfl)
theorem aet(W H:Nat)(st:cH)(g:List aa)(hg:g.length=W*H)(hW:W≤160)(hH:H≤60):f59 (Hx W H st g 0 0 false)=some (Hx W H st g 0 0 false):=by
 have h9:=size_le W H hW hH
 unfold f59
 have e1:f45 (Hx W H st g 0 0 false).aT=some ((W:Int),(H:Int),g):=JK W H g (by omega)
 have e2:f45 (Hx W H st g 0 0 false).bT=some ((W:Int),(H:Int),iU (W*H) (fun _=>blank P0)):=JK W H _ (by rw [eX];omega)
 rw [e1,bs,e2,bs]
 have hl:bR (A1 (Hx W H st g 0 0 false)) (Hx W H st g 0 0 false,[],0)=some (Hx W H st g 0 0 false,[]):=eC (by
  unfold A1 rA
  try dsimp only []
  rw [dK (df (by show¬(0:Int)<(([]:List bk).length:Int);simp)),cf])
 show ((bR (A1 (Hx W H st g 0 0 false)) (Hx W H st g 0 0 false,[],0)).bind _)=_
 rw [hl,bs];rfl
def zW:bW:=⟨0,0,0,[],false⟩
def n0:dm:=⟨fun _=>0,fun _=>0,fun _=>0,fun _=>0⟩
theorem M3:f52 zW=some 0:=rfl
theorem aBU(s:ah)(hs:f55 s=some ()):f28 (mkC s zW n0)=some ():=by
 have hq:f56 n0=some 0:=by
  rcases WB n0 with ⟨_,h⟩ | ⟨h,_⟩
  ·exact h
  ·exact absurd (fun i _=>⟨(by decide:(0:UInt8).toNat≤5),(by decide:(0:UInt8).toNat≤5)⟩) h
 unfold f28 mkC
 dsimp only []
 rw [WH,bs,M3,bs,WJ,bs,WI,bs,hs,bs,hq,bs,P1,bs,arT,bs,arW,bs,nine,bs]
theorem avL(s:ah)(w:bW)(n:dm)(hs:f59 s=some s):f29 (mkC s w n)=some (mkC s w n):=by
 have e1:f24 [XT]=some [XT]:=by
  unfold f24
  rw [fW _ _ _ (by simp),bs];rfl
 have e2:f25 []=some []:=by
  unfold f25
  rw [fW _ _ _ (by simp),bs];rfl
 unfold f29 mkC
 dsimp only []
 rw [hs,bs,e1,bs,e2,bs]
end Go.Proofs.YtobkkblijfhpoaaGreatDoor.Pm

namespace Go.Proofs.YtobkkblijfhpoaaGreatDoor.Pm
open Go.Proofs.YtobkkblijfhpoaaGreatDoor.Args
open Go.ChangeShapes Go.WideShapes Go.ChangeAt Go.RowKit
set_option linter.unusedVariables false
set_option linter.unusedSimpArgs false
set_option maxRecDepth 100000
theorem Dr(w:bW): ∀(mW pre:List UInt8),(∀b∈mW,b.toNat≠255)→pre.length+mW.length≤100000→
  bR (o_ w (pre++mW)) (0,0,0,[],false,[],pre,[],(pre.length:Int))=some (0,0,0,[],false,[],pre++mW,[])
 | [],pre,h,hl=>eC (by
   unfold o_ mI
   simp only [List.append_nil]
   rw [decide_eq_false (Int.lt_irrefl _)];rfl)
 | x::t,pre,h,hl=>by
  have e1:pre++x::t=(pre++ [x])++t:=by simp
  simp only [List.length_cons] at hl
  have ih:=Dr w t (pre++ [x]) (fun b hb=>h b (List.mem_cons_of_mem _ hb)) (by simp;omega)
  rw [←e1] at ih
  refine gI ?_ ih
  unfold o_ mI sX
  simp only [Jc,cond_true,oX,Option.bind_some]
  have hx:=h x (List.mem_cons_self ..)
  unfold f156
  rw [decide_eq_true rfl,decide_eq_false (p:=(x.toNat:Int)=255) (by omega)]
  simp only [cond_true,cond_false]
  rw [fW _ _ _ (by simp;omega)]
  simp only [Option.bind_some]
  rw [y9 pre x (by omega)]
theorem WK(d:List UInt8)(h: ∀b∈d,b.toNat≠255)(hl:d.length≤100000)(hne:d≠ []):f102 zW d=some (zW,[⟨1,0,0,d⟩]):=by
 have e:=Dr zW d [] h (by simpa using hl)
 unfold f102 zJ zH
 rw [M3]
 simp only [Option.bind_some,decide_true,Bool.not_true,cond_false]
 rw [show gz (decide (zW.oZ.length≤140737488355328))=some () from rfl]
 simp only [Option.bind_some]
 show ((bR (o_ zW ([]++d)) (0,0,0,[],false,[],[],[],(([]:List UInt8).length:Int))).bind _)=_
 rw [e]
 simp only [Option.bind_some,List.nil_append]
 unfold f157
 rw [decide_eq_true (p:=0<(d.length:Int)) (by have:=List.length_pos_iff.2 hne;omega)]
 simp only [cond_true]
 rw [fW _ _ _ (by simp)]
 rfl
def ua(s:Bool×List UInt8)(c:UInt8):Bool×List UInt8:=
 if s.1=true then
  (if c=10 then (false,s.2++ [10]) else if c=0 then (false,s.2++ [13]) else if c=13 then (true,s.2++ [13]) else (false,s.2++ [13]++ [c]))
 else if c=13 then (true,s.2) else (false,s.2++ [c])
theorem Ss(c:UInt8)(n:Nat)(hn:n<256):decide ((c.toNat:Int)=(n:Int))=decide (c=UInt8.ofNat n):=by
 by_cases h:c=UInt8.ofNat n
 ·subst h
  rw [decide_eq_true rfl]
  exact decide_eq_true (by have:(UInt8.ofNat n).toNat=n:=(by simp;omega);omega)
 ·rw [decide_eq_false h]
  refine decide_eq_false fun q=>h ?_
  have:c.toNat=n:=by omega
  rw [←this];simp
theorem P2(a:Bool)(b:Bool): ∀(mW pre:List UInt8) (s:Bool×List UInt8),s.2.length≤2*pre.length→pre.length+mW.length≤100000→
  bR (rE a (pre++mW) b) (s.1,s.2,(pre.length:Int))=some (mW.foldl ua s)
 | [],pre,s,h,hl=>eC (by
   unfold rE mJ
   simp only [abG,cond_false];rfl)
 | x::t,pre,s,h,hl=>by
  have e1:pre++x::t=(pre++ [x])++t:=by simp
  simp only [List.length_cons] at hl
  have hs:(ua s x).2.length≤2*(pre++ [x]).length:=by
   unfold ua
   repeat' split
   all_goals simp;omega
  have ih:=P2 a b t (pre++ [x]) (ua s x) hs (by simp;omega)
  rw [←e1] at ih
  refine gI ?_ ih
  unfold rE mJ sY pg
  simp only [Jc,cond_true,oX,Option.bind_some]
  have d10:decide ((x.toNat:Int)=10)=decide (x=10):=Ss x 10 (by omega)
  have d0:decide ((x.toNat:Int)=0)=decide (x=0):=Ss x 0 (by omega)
  have d13:decide ((x.toNat:Int)=13)=decide (x=13):=Ss x 13 (by omega)
  rw [d10,d0,d13,y9 pre x (by omega)]
  obtain ⟨c,o⟩:=s
  have ho:o.length≤200000:=by simp at h;omega
  unfold ua
  cases c
  ·simp only [cond_false,Bool.false_eq_true,if_false]
   by_cases M4:x=13
   ·rw [decide_eq_true M4,if_pos M4];rfl
   ·rw [decide_eq_false M4,if_neg M4]
    simp only [cond_false]
    rw [fW _ _ _ (by simp;omega)];rfl
  ·simp only [cond_true,if_true]
   by_cases h10:x=10
   ·rw [decide_eq_true h10,if_pos h10]
    simp only [cond_true]
    rw [fW _ _ _ (by simp;omega)];rfl
   ·rw [decide_eq_false h10,if_neg h10]
    by_cases h0:x=0
    ·rw [decide_eq_true h0,if_pos h0]
     simp only [cond_true,cond_false]
     rw [fW _ _ _ (by simp;omega)];rfl
    ·rw [decide_eq_false h0,if_neg h0]
     simp only [cond_false]
     rw [fW _ _ _ (by simp;omega)]
     simp only [Option.bind_some]
     by_cases M4:x=13
     ·rw [decide_eq_true M4,if_pos M4];rfl
     ·rw [decide_eq_false M4,if_neg M4]
      simp only [cond_false]
      rw [fW _ _ _ (by simp;omega)];rfl
theorem avM(d:List UInt8)(hl:d.length≤100000):f158 false d false=some (d.foldl ua (false,[])):=by
 have e:=P2 false false d [] (false,[]) (by simp) (by simpa using hl)
 unfold f158 Fx
 simp only [cond_false]
 show ((bR (rE false ([]++d) false) (false,[],(([]:List UInt8).length:Int))).bind _)=_
 rw [e];rfl
def sent(ls:List (List UInt8)):List UInt8:=ls.flatMap fun l=>l++ [13,0,13,10]
def come(ls:List (List UInt8)):List UInt8:=ls.flatMap fun l=>l++ [13,10]
def ek(s:List UInt8):List Int:=s.map fun b=>(b.toNat:Int)
theorem P3(a b:List UInt8): ∀(s:List UInt8) (o:List Int),(∀x∈s,x.toNat<128)→s.length+o.length≤100000→bR (vk a b) (s,o)=some (o++ek s)
 | [],o,h,hl=>eC (by
   unfold vk
   simp [ek])
 | x::t,o,h,hl=>by
  simp only [List.length_cons] at hl
  have ih:=P3 a b t (o++ [(x.toNat:Int)]) (fun y hy=>h y (List.mem_cons_of_mem _ hy)) (by simp;omega)
  have e:o++ [(x.toNat:Int)]++ek t=o++ek (x::t):=by unfold ek;simp
  rw [e] at ih
  refine gI ?_ ih
  unfold vk sZ
  have hx:=h x (List.mem_cons_self ..)
  simp only []
  rw [decide_eq_false (p:=x::t= []) (by simp)]
  simp only [Bool.not_false,cond_true]
  rw [show idx (x::t) 0=some x from oX [] x t]
  simp only [Option.bind_some]
  rw [decide_eq_true (p:=(x.toNat:Int)<128) (by omega)]
  simp only [cond_true]
  rw [fW _ _ _ (by simp;omega)]
  simp only [Option.bind_some]
  rw [show ni (x::t) 1 ((x::t).length:Int)=some t by
   have:=qR (x::t) 1 (x::t).length (by simp) (by omega)
   rw [List.take_length] at this
   exact this]
  rfl
theorem avN(s:List UInt8)(h: ∀x∈s,x.toNat<128)(hl:s.length≤100000):f159 [] s=some (ek s):=by
 have e:=P3 [] s s [] h (by simpa using hl)
 unfold f159 Fy
 rw [WJ]
 simp only [Option.bind_some]
 rw [abH _ _ (by simp;omega)]
 simp only [Option.bind_some,List.nil_append]
 rw [e];rfl
def dX(c:Int):aP:=if c<32 then ⟨2,c,0,[],[],[]⟩ else ⟨1,c,0,[],[],[]⟩
def Rn(c:Int):Prop:=c=10∨c=13∨(32≤c∧c≤126)
theorem arX(c:Int)(hc:Rn c)(l:List aP)(hl:l.length≤100000):f208 c 0 0 [] [] [] l=some (0,0,[],[],[],l++ [dX c]):=by
 unfold Rn at hc
 unfold f208 FD FC FB FA
 rw [decide_eq_false (p:=c<0) (by omega),decide_eq_false (p:=1114111<c) (by omega)]
 simp only [cond_false,show decide ((0:Int)=7)=false from rfl,show decide ((0:Int)=9)=false from rfl,show decide ((0:Int)=8)=false from rfl,show decide ((0:Int)=10)=false from rfl]
 unfold f242 f239 f96
 rw [decide_eq_false (p:=c=27) (by omega),decide_eq_false (p:=c=24) (by omega),decide_eq_false (p:=c=26) (by omega)]
 simp only [cond_false]
 unfold dX
 by_cases h:c<32
 ·rw [decide_eq_true h,if_pos h]
  simp only [cond_true]
  rw [fW _ _ _ (by simp;omega)]
  simp only [Option.bind_some,cond_true]
 ·rw [decide_eq_false h,if_neg h,decide_eq_false (p:=127≤c) (by omega)]
  simp only [cond_false,Option.bind_some,decide_true,cond_true]
  rw [fW _ _ _ (by simp;omega)]
  simp only [Option.bind_some]
theorem IB(p:bH): ∀(mW pre:List Int) (l:List aP),(∀c∈mW,Rn c)→l.length=pre.length→pre.length+mW.length≤100000→
  bR (rH p (pre++mW)) (0,0,[],[],[],l,(pre.length:Int))=some (0,0,[],[],[],l++mW.map dX)
 | [],pre,l,h,hk,hl=>eC (by
   unfold rH mK
   simp only [List.map_nil,List.append_nil]
   rw [decide_eq_false (Int.lt_irrefl _)];rfl)
 | x::t,pre,l,h,hk,hl=>by
  have e1:pre++x::t=(pre++ [x])++t:=by simp
  simp only [List.length_cons] at hl
  have ih:=IB p t (pre++ [x]) (l++ [dX x]) (fun y hy=>h y (List.mem_cons_of_mem _ hy)) (by simp;omega) (by simp;omega)
  rw [←e1,List.append_assoc] at ih
  refine gI ?_ ih
  unfold rH mK s8
  simp only [Jc,cond_true,oX,Option.bind_some]
  rw [arX x (h x (List.mem_cons_self ..)) l (by omega)]
  simp only [Option.bind_some]
  rw [y9 pre x (by omega)]
theorem ai6(rs:List Int)(h: ∀c∈rs,Rn c)(hl:rs.length≤100000):f160 ⟨0,0,[],[],[]⟩ rs=some (⟨0,0,[],[],[]⟩,rs.map dX):=by
 have e:=IB ⟨0,0,[],[],[]⟩ rs [] [] h rfl (by simpa using hl)
 unfold f160 FH FE
 rw [WI]
 simp only [Option.bind_some]
 show ((bR (rH ⟨0,0,[],[],[]⟩ ([]++rs)) (0,0,[],[],[],[],(([]:List Int).length:Int))).bind _)=_
 rw [e];rfl
end Go.Proofs.YtobkkblijfhpoaaGreatDoor.Pm

