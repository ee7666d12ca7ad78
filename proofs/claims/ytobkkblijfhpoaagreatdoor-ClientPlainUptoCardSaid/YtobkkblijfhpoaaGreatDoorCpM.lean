/- ClientPlain: signs and line ends on a screen of W by H cells: what the program's terminal does. -/
import Derived.Test.YtobkkblijfhpoaaGreatDoorCpB
namespace Go.Proofs.YtobkkblijfhpoaaGreatDoor.Pm
open Go.Proofs.YtobkkblijfhpoaaGreatDoor.Args
open Go.ChangeShapes Go.WideShapes Go.ChangeAt Go.RowKit
set_option linter.unusedVariables false
set_option linter.unusedSimpArgs false
set_option maxRecDepth 100000
def Pl(g:List aa):Prop:= ∀x∈g,x.bM=P0∧32≤x.cW∧x.cW≤126
theorem zi{a:Int}(h1:32≤a)(h2:a≤126):wd a=1:=(fM a 32 126 (by decide) h1 h2 (by decide) (by decide)).symm
theorem QX{g:List aa}(h:Pl g)(i:Nat)(hi:i<g.length):(cx g i).bM=P0∧32≤(cx g i).cW∧(cx g i).cW≤126:=by
 have:cx g i=g[i]:=by unfold cx;simp [hi]
 rw [this];exact h _ (List.getElem_mem hi)
theorem arY{g:List aa}(h:Pl g)(i:Nat)(hi:i<g.length)(hl:g.length≤1000000):f147 g (i:Int)=some false:=by
 rw [Gh g i hi hl]
 have:=QX h i hi
 unfold iE
 rw [if_neg (by omega),zi this.2.1 this.2.2]
 rfl
theorem aaw(o n:Nat)(g:List aa)(h:Pl g)(ho:o+n≤g.length)(hl:g.length≤100000):f170 o n g=some g:=by
 unfold f170
 have hp:kq g o n=some ((g.drop o).take n):=by unfold kq;rw [if_pos ho]
 rw [hp,bs,nx _ (by simp;omega),bs]
 have hr:Pl ((g.drop o).take n):=fun x hx=>h x (List.mem_of_mem_drop (List.mem_of_mem_take hx))
 have hn:((g.drop o).take n).length=n:=by simp;omega
 generalize (g.drop o).take n=r at*
 have:=fI (body:=vq o n g) (fun i=>(r,(i:Int))) () n (by
  unfold vq mP
  rw [dK (df (by omega)),cf]) 0 (by omega) (fun i _ hi=>by
  unfold vq mP tv
  rw [cZ (dt (by omega)),ct,arY hr i (by omega) (by omega),bs,cf,gY _ (by omega)];rfl)
 rw [show ((0:Nat):Int)=0 from rfl] at this
 rw [this,bs]
def SW(W H:Nat)(st:cH)(g:List aa)(pa:List bk)(r c:Nat)(late:Bool):ah:=
 ⟨⟨W,H,g⟩,r,c,late,0,H,⟨0,0,0⟩,12,st,(1,1),0,⟨0,0,⟨0,0,0⟩,false,(1,1),0⟩,⟨W,H,iU (W*H) (fun _=>blank P0)⟩,[],pa⟩
def TW(W H:Nat)(st:cH)(g:List aa)(pa:List bk)(r c:Nat)(late:Bool):aB:=⟨SW W H st g pa r c late,[]⟩
structure PS where
 g:List aa
 pa:List bk
 r:Nat
 c:Nat
 l:Bool
def PS.ok(W H:Nat)(x:PS):Prop:=x.g.length=W*H∧Pl x.g∧x.r<H∧x.c<W∧x.pa.length≤40
def HB(W:Nat):List aa:=List.replicate W (blank P0)
def Ak(W H:Nat)(x:PS):PS:=if x.r+1=H then ⟨x.g.drop W++HB W,(x.pa++ [bk.mk (x.g.take W)]).drop (x.pa.length+1-40),x.r,x.c,false⟩ else ⟨x.g,x.pa,x.r+1,x.c,false⟩
def P4(W:Nat)(b:Nat)(x:PS):PS:=⟨x.g.set (x.r*W+x.c) ⟨(b:Int),P0⟩,x.pa,x.r,if x.c+1=W then x.c else x.c+1,decide (x.c+1=W)⟩
def WL(W H:Nat)(b:Nat)(x:PS):PS:=if x.l=true then P4 W b (Ak W H {x with c:=0}) else P4 W b x
def PS.p_(W H:Nat)(st:cH)(x:PS):ah:=SW W H st x.g x.pa x.r x.c x.l
def PS.mB(W H:Nat)(st:cH)(x:PS):aB:=TW W H st x.g x.pa x.r x.c x.l
theorem Jd{g:List aa}(h:Pl g)(i:Nat)(b:Int)(hb:32≤b∧b≤126):Pl (g.set i ⟨b,P0⟩):=fun x hx=>by
 rcases List.mem_or_eq_of_mem_set hx with q | q
 ·exact h x q
 ·subst q;exact ⟨rfl,hb.1,hb.2⟩
theorem avO{a b:List aa}(ha:Pl a)(hb:Pl b):Pl (a++b):=fun x hx=>(List.mem_append.1 hx).elim (ha x) (hb x)
theorem aeu(n:Nat):Pl (List.replicate n (blank P0)):=fun x hx=>by
 rw [(List.mem_replicate.1 hx).2];exact ⟨rfl,by decide,by decide⟩
theorem JM{W H:Nat}(hW:1≤W)(hH:1≤H){x:PS}(h:x.ok W H):(Ak W H x).ok W H:=by
 obtain ⟨h1,h2,h3,h4,h5⟩:=h
 unfold Ak
 by_cases hr:x.r+1=H
 ·rw [if_pos hr]
  have aDT:W≤x.g.length:=by rw [h1];exact Nat.le_mul_of_pos_right _ (by omega)
  refine ⟨?_,avO (fun y hy=>h2 y (List.mem_of_mem_drop hy)) (aeu W),h3,h4,?_⟩
  ·show (x.g.drop W++HB W).length=_
   unfold HB;rw [List.length_append,List.length_drop,List.length_replicate];omega
  ·show ((x.pa++ [bk.mk (x.g.take W)]).drop _).length≤40
   rw [List.length_drop,List.length_append,List.length_singleton];omega
 ·rw [if_neg hr];exact ⟨h1,h2,by show x.r+1<H;omega,h4,h5⟩
theorem WM{W H b:Nat}(hb:32≤b∧b≤126){x:PS}(h:x.ok W H):(P4 W b x).ok W H:=by
 obtain ⟨h1,h2,h3,h4,h5⟩:=h
 refine ⟨by show (x.g.set _ _).length=_;rw [List.length_set];exact h1,Jd h2 _ _ (by omega),h3,?_,h5⟩
 show (if x.c+1=W then x.c else x.c+1)<W
 split<;>omega
theorem avP{W H b:Nat}(hW:1≤W)(hH:1≤H)(hb:32≤b∧b≤126){x:PS}(h:x.ok W H):(WL W H b x).ok W H:=by
 unfold WL
 split
 ·exact WM hb (JM hW hH ⟨h.1,h.2.1,h.2.2.1,by show 0<W;omega,h.2.2.2.2⟩)
 ·exact WM hb h
theorem is_(W H:Nat)(st:cH)(g:List aa)(pa:List bk)(r c:Nat)(late:Bool)(l:List PD)(m:Int)(hm:gG .and .i64 12 m=0):f274 (TW W H st g pa r c late) l m=some false:=by
 unfold f274
 show (bif (!decide (gG .and .i64 12 m=0)) then _ else _)=_
 rw [hm];rfl
theorem azc(W H:Nat)(st:cH)(g:List aa)(pa:List bk)(r c:Nat)(late:Bool)(l:List PD)(m:Int)(hm:gG .and .i64 12 m≠0):f274 (TW W H st g pa r c late) l m=some true:=by
 unfold f274
 show (bif (!decide (gG .and .i64 12 m=0)) then _ else _)=_
 rw [decide_eq_false hm];rfl
theorem avQ(W H:Nat)(hW:1≤W∧W≤160)(hH:1≤H∧H≤60)(g:List aa)(hg:g.length=W*H)(h:Pl g)(r c:Nat)(hr:r<H)(hc:c<W)(b:Int)(hb:32≤b∧b≤126):f277 W H (r:Int) (c:Int) b P0 g=some (g.set (r*W+c) ⟨b,P0⟩):=by
 have h9:=size_le W H hW.2 hH.2
 have hrow:(r+1)*W≤W*H:=by rw [Nat.mul_comm W];exact Nat.mul_le_mul_right _ hr
 have hrw:(r+1)*W=r*W+W:=by rw [Nat.add_mul,Nat.one_mul]
 unfold f277
 rw [Gk W H r g hg hr hW.2 hH.2,bs]
 dsimp only []
 rw [jV (dt rfl),bs,fX c W hc,bs,List.getElem?_eq_getElem (by omega),bs,bs,oy,zi hb.1 hb.2,bs,dK (by rfl)]
 rw [aaw (r*W) W _ (Jd h _ b hb) (by rw [List.length_set];omega) (by rw [List.length_set];omega),bs,jV (dt rfl),bs]
theorem Gp{a b:Nat}(h:a=b):gz (decide (a=b))=some ():=jV (dt h)
theorem arZ(a:Int)(h:0≤a):f299 0 0 a=some 0:=by
 unfold f299
 by_cases q:a<0
 ·omega
 ·rw [if_neg q,if_neg (by omega)]
theorem aBV(W H:Nat)(hW:1≤W∧W≤160)(st:cH)(g:List aa)(pa:List bk)(r c:Nat)(late:Bool):f272 0 (TW W H st g pa r c late)=some (TW W H st g pa r 0 false):=by
 unfold f272
 rw [show IntKind.i64.wrap ((TW W H st g pa r c late).af.aT.bV-1)=(W:Int)-1 from gY _ (by show-9223372036854775808≤(W:Int)-1∧(W:Int)-1≤_;omega)]
 rw [arZ ((W:Int)-1) (by omega),bs];rfl
theorem aax(W H:Nat)(hW:1≤W)(hH:1≤H)(g:List aa)(hg:g.length=W*H):vG W g 0 H 1 P0=g.drop W++HB W:=by
 have hle:W≤W*H:=Nat.le_mul_of_pos_right _ (by omega)
 refine Gl _ _ (by unfold vG HB;rw [eX,List.length_append,List.length_drop,List.length_replicate];omega) fun j hj=>?_
 have hj':j<W*H:=by unfold vG at hj;rw [eX] at hj;omega
 have hq:j/W<H:=Nat.div_lt_of_lt_mul hj'
 have hdm:=Nat.div_add_mod j W
 have hm:=Nat.mod_lt j (show 0<W by omega)
 unfold vG
 rw [xD _ _ _ (by omega)]
 unfold Bv lD
 generalize j/W=q at*
 generalize j%W=m at*
 rw [if_pos (by omega)]
 by_cases h:q+1<H
 ·rw [if_pos (by omega)]
  have e:(0+(((q-0:Nat):Int)+1).toNat)=q+1:=by omega
  have e2:(q+1)*W+m=W+j:=by rw [Nat.add_mul,Nat.one_mul,Nat.mul_comm];omega
  have hl:W+j<W*H:=by
   have h8:(q+1+1)*W≤H*W:=Nat.mul_le_mul_right _ h
   rw [Nat.add_mul,Nat.add_mul,Nat.one_mul,Nat.mul_comm H,Nat.mul_comm q] at h8;omega
  rw [e,e2];unfold cx
  rw [List.getD_eq_getElem?_getD,List.getD_eq_getElem?_getD,List.getElem?_append_left (by rw [List.length_drop];omega),List.getElem?_drop]
 ·rw [if_neg (by omega)];unfold cx
  have hj2:W*H≤W+j:=by
   have e3:q=H-1:=by omega
   have e4:W*(H-1)+W=W*H:=by rw [←Nat.mul_succ];congr 1;omega
   rw [e3] at hdm;omega
  rw [List.getD_eq_getElem?_getD,List.getElem?_append_right (by rw [List.length_drop];omega)]
  unfold HB
  rw [List.getElem?_replicate,if_pos (by rw [List.length_drop];omega)];rfl
theorem M5(a b:Int)(e:a=b)(h: -9223372036854775808≤b∧b≤9223372036854775807):IntKind.i64.wrap a=b:=by subst e;exact gY _ h
theorem ar0{α:Type}(l:List α)(h:1<l.length):KC l 1 (l.length:Int)=some (l.drop 1):=by
 unfold KC
 rw [if_pos (by omega),show (1:Int)=((1:Nat):Int) from rfl,qR l 1 l.length (by omega) (Nat.le_refl _),List.take_length]
theorem ar1(W H:Nat)(hW:1≤W∧W≤160)(hH:1≤H∧H≤60)(st:cH)(g:List aa)(pa:List bk)(r c:Nat)(t0:aB)(hg:g.length=W*H):nE t0 (TW W H st g pa r c false)=some (TW W H st (g.drop W++HB W) pa r c false):=by
 have hs:=Gj W H 0 H 1 P0 g hg hW.1 hW.2 hH.2 (Nat.zero_le _) (Nat.le_refl _) (by omega)
 rw [Nat.sub_zero,aax W H hW.1 hH.1 g hg] at hs
 have hle:W≤W*H:=Nat.le_mul_of_pos_right _ (by omega)
 unfold nE f276
 rw [bs]
 have hs':f301 (TW W H st g pa r c false).af.aT.bV (TW W H st g pa r c false).af.aT.cC (TW W H st g pa r c false).af.jo (TW W H st g pa r c false).af.dy 1 (bq.mk 0 0 (TW W H st g pa r c false).af.bM.b9) (TW W H st g pa r c false).af.aT.Cells=some (g.drop W++HB W):=hs
 rw [hs',bs,Gp (by show (g.drop W++HB W).length=g.length;unfold HB;rw [List.length_append,List.length_drop,List.length_replicate];omega),bs]
 rfl
theorem aev(W H:Nat)(hW:1≤W∧W≤160)(hH:1≤H∧H≤60)(st:cH)(x:PS)(h:x.ok W H):f273 (x.mB W H st)=some ((Ak W H x).mB W H st):=by
 obtain ⟨g,pa,r,c,l⟩:=x
 obtain ⟨hg,hp,hr,hc,hpa⟩:=h
 have hg:g.length=W*H:=hg
 have hr:r<H:=hr
 have hpa:pa.length≤40:=hpa
 show f273 (TW W H st g pa r c l)=_
 have e2:IntKind.i64.wrap ((TW W H st g pa r c l).af.dy-1)=((H-1:Nat):Int):=M5 _ _ (by show (H:Int)-1=_;omega) (by omega)
 have e3:IntKind.i64.wrap ((TW W H st g pa r c l).af.aT.cC-1)=((H-1:Nat):Int):=M5 _ _ (by show (H:Int)-1=_;omega) (by omega)
 have e4:IntKind.i64.wrap ((TW W H st g pa r c l).af.Row+1)=((r+1:Nat):Int):=M5 _ _ (by show (r:Int)+1=_;omega) (by omega)
 unfold Ak
 by_cases q:r+1=H
 ·rw [if_pos q]
  have hrow:f300 (TW W H st g pa r c l).af.aT 0=some (g.take W):=by
   unfold f300
   have:=JL W H g 0 hg (by omega) hW.2 hH.2
   have h9:=size_le W H hW.2 hH.2
   rw [show f38 (TW W H st g pa r c l).af.aT 0=some (dA W g 0) from this,bs,nx _ (by unfold dA;rw [List.length_drop,List.length_take];omega),bs]
   unfold dA
   rw [Nat.zero_mul,List.drop_zero,Nat.zero_add,Nat.one_mul]
  unfold f273
  rw [e2,cZ (dt (by show (r:Int)=_;omega)),cZ (by rfl)]
  rw [show f274 (aB.mk ({(TW W H st g pa r c l).af with eL:=false}) (TW W H st g pa r c l).sent) [] 256=some false from is_ W H st g pa r c false [] 256 (by decide),bs,cZ (by rfl),hrow,bs]
  rw [show (TW W H st g pa r c l).af.cD=pa from rfl,fW _ _ _ (by rw [List.length_singleton];omega),bs]
  by_cases q4:40<pa.length+1
  ·rw [cZ (dt (by rw [List.length_append,List.length_singleton];omega)),ar0 _ (by rw [List.length_append,List.length_singleton];omega),bs]
   have e:pa.length+1-40=1:=by omega
   show nE _ (TW W H st g ((pa++ [bk.mk (g.take W)]).drop 1) r c false)=some (TW W H st (g.drop W++HB W) ((pa++ [bk.mk (g.take W)]).drop (pa.length+1-40)) r c false)
   rw [e]
   exact ar1 W H hW hH st g _ r c _ hg
  ·rw [dK (df (by rw [List.length_append,List.length_singleton];omega))]
   have e:pa.length+1-40=0:=by omega
   show nE _ (TW W H st g (pa++ [bk.mk (g.take W)]) r c false)=some (TW W H st (g.drop W++HB W) ((pa++ [bk.mk (g.take W)]).drop (pa.length+1-40)) r c false)
   rw [e,List.drop_zero]
   exact ar1 W H hW hH st g _ r c _ hg
 ·rw [if_neg q]
  unfold f273
  rw [e2,e3,e4,dK (df (by show¬(r:Int)=_;omega)),cZ (dt (by show (r:Int)<_;omega))]
  rfl
theorem avR(W H:Nat)(hW:1≤W∧W≤160)(hH:1≤H∧H≤60)(st:cH)(x:PS)(h:x.ok W H):f247 10 (x.mB W H st)=some ((Ak W H x).mB W H st):=by
 unfold f247 Aa
 rw [dK (by rfl),dK (by rfl),cZ (by rfl),ct,aev W H hW hH st x h,bs,show f274 ((Ak W H x).mB W H st) [] 128=some false from is_ W H st _ _ _ _ _ [] 128 (by decide),bs,cf]
theorem ar2(W H:Nat)(hW:1≤W∧W≤160)(hH:1≤H∧H≤60)(st:cH)(x:PS)(h:x.ok W H)(hl:x.l=false)(t0:aB)(ht:t0.af.aT.bV=W)(b:Nat)(hb:32≤b∧b≤126):
  vt (b:Int) t0 (x.mB W H st) (b:Int) 1=some ((P4 W b x).mB W H st):=by
 obtain ⟨g,pa,r,c,l⟩:=x
 obtain ⟨hg,hp,hr,hc,hpa⟩:=h
 have hl:l=false:=hl
 subst hl
 have hg:g.length=W*H:=hg
 have hr:r<H:=hr
 have hc:c<W:=hc
 unfold vt FO FN
 have e5:IntKind.i64.wrap (t0.af.aT.bV-1)=((W-1:Nat):Int):=M5 _ _ (by rw [ht];omega) (by omega)
 have e6:IntKind.i64.wrap ((TW W H st g pa r c false).af.dS+1)=((c+1:Nat):Int):=M5 _ _ (by show (c:Int)+1=_;omega) (by omega)
 show (bif decide ((1:Int)=2) then _ else ((f274 (TW W H st g pa r c false) [] 1).bind _))=_
 rw [dK (by rfl),is_ W H st g pa r c false [] 1 (by decide),bs,cf]
 rw [show f277 (PS.mB W H st ⟨g,pa,r,c,false⟩).af.aT.bV (PS.mB W H st ⟨g,pa,r,c,false⟩).af.aT.cC (PS.mB W H st ⟨g,pa,r,c,false⟩).af.Row (PS.mB W H st ⟨g,pa,r,c,false⟩).af.dS (b:Int) (PS.mB W H st ⟨g,pa,r,c,false⟩).af.bM (PS.mB W H st ⟨g,pa,r,c,false⟩).af.aT.Cells=_ from avQ W H hW hH g hg hp r c hr hc (b:Int) (by omega),bs]
 rw [Gp (by show (g.set _ _).length=g.length;rw [List.length_set]),bs,e5]
 rw [show IntKind.i64.wrap ((PS.mB W H st ⟨g,pa,r,c,false⟩).af.dS+1)=((c+1:Nat):Int) from e6]
 unfold P4
 by_cases q:c+1=W
 ·rw [cZ (dt (by omega))]
  rw [show f274 (aB.mk ({(PS.mB W H st ⟨g,pa,r,c,false⟩).af with aT:=(aV.mk (PS.mB W H st ⟨g,pa,r,c,false⟩).af.aT.bV (PS.mB W H st ⟨g,pa,r,c,false⟩).af.aT.cC (g.set (r*W+c) ⟨(b:Int),P0⟩)),dS:=((c+1:Nat):Int)}) (PS.mB W H st ⟨g,pa,r,c,false⟩).sent) [] 4=some true from azc W H st (g.set (r*W+c) ⟨(b:Int),P0⟩) pa r (c+1) false [] 4 (by decide),bs]
  have e7:W-1=c:=by omega
  rw [e7]
  show _=some (TW W H st (g.set (r*W+c) ⟨(b:Int),P0⟩) pa r (if c+1=W then c else c+1) (decide (c+1=W)))
  rw [if_pos q,decide_eq_true q]
  rfl
 ·rw [dK (df (by omega))]
  show _=some (TW W H st (g.set (r*W+c) ⟨(b:Int),P0⟩) pa r (if c+1=W then c else c+1) (decide (c+1=W)))
  rw [if_neg q,decide_eq_false q]
  rfl
theorem avS(W H:Nat)(hW:1≤W∧W≤160)(hH:1≤H∧H≤60)(st:cH)(x:PS)(h:x.ok W H)(b:Nat)(hb:32≤b∧b≤126):f246 (b:Int) (x.mB W H st)=some ((WL W H b x).mB W H st):=by
 have hu:((u8 (b:Int)).toNat:Int)=b:=by have:=XK (b:Int);omega
 have hp:f271 1 (u8 (b:Int))=some ((b:Int),0):=by
  unfold f271
  rw [Hz,bs]
  unfold f298
  rw [show (!(decide ((1:Int)≤1)&&decide ((1:Int)≤4)))=false from rfl,cf,dK (by rfl),hu,dK (df (by omega)),dK (by rfl),dK (by rfl),bs]
 unfold f246
 rw [cZ (dt (by omega)),cZ (dt (by omega)),show iJ (x.mB W H st).af.dF 2=some 0 from rfl,bs,cZ (by rfl)]
 rw [show f271 (x.mB W H st).af.bY.1 (u8 (b:Int))=_ from hp,bs]
 unfold z_ FP
 dsimp only []
 rw [oy,zi (by omega) (by omega),bs,dK (by rfl),dK (df (by show¬(W:Int)<1;omega))]
 unfold WL
 by_cases hl:x.l=true
 ·have hl':(x.mB W H st).af.eL=true:=hl
  have hx:({x with c:=0,l:=false}:PS).ok W H:=⟨h.1,h.2.1,h.2.2.1,by show 0<W;omega,h.2.2.2.2⟩
  rw [if_pos hl,hl',ct,show f272 0 (x.mB W H st)=some (PS.mB W H st {x with c:=0,l:=false}) from aBV W H hW st _ _ _ _ _,bs,Gp (by rfl),bs,Gp (by rfl),bs,Gp (by rfl),bs]
  rw [aev W H hW hH st _ hx,bs]
  have e:Ak W H {x with c:=0,l:=false}=Ak W H {x with c:=0}:=rfl
  rw [e]
  exact ar2 W H hW hH st _ (JM hW.1 hH.1 hx) (by unfold Ak;split<;>rfl) _ rfl b hb
 ·have hf:x.l=false:=by cases hx:x.l;rfl;exact absurd hx hl
  have hl':(x.mB W H st).af.eL=false:=hf
  rw [if_neg hl,hl',cf]
  exact ar2 W H hW hH st x h hf _ rfl b hb
theorem azd(c:Int)(t:aB):f210 ⟨1,c,0,[],[],[]⟩ t=(f246 c t).bind fun z=>some z:=by
 unfold f210
 exact cZ (by rfl)
theorem aze(c:Int)(t:aB):f210 ⟨2,c,0,[],[],[]⟩ t=(f247 c t).bind fun z=>some z:=by
 unfold f210
 rw [dK (by rfl)]
 exact cZ (by rfl)
def M6(W H:Nat)(b:UInt8)(x:PS):PS:=if b=10 then Ak W H x else WL W H b.toNat x
def Sg(b:UInt8):Prop:=b=10∨(32≤b.toNat∧b.toNat≤126)
theorem Su{W H:Nat}(hW:1≤W)(hH:1≤H){b:UInt8}(hb:Sg b){x:PS}(h:x.ok W H):(M6 W H b x).ok W H:=by
 unfold M6
 split
 ·exact JM hW hH h
 ·rename_i q;exact avP hW hH (hb.resolve_left q) h
theorem avT(W H:Nat)(hW:1≤W∧W≤160)(hH:1≤H∧H≤60)(st:cH)(x:PS)(h:x.ok W H)(b:UInt8)(hb:Sg b):f210 (dX (b.toNat:Int)) (x.mB W H st)=some ((M6 W H b x).mB W H st):=by
 unfold M6
 by_cases q:b=10
 ·subst q
  rw [if_pos rfl,show dX (((10:UInt8).toNat:Nat):Int)=⟨2,10,0,[],[],[]⟩ from rfl,aze,avR W H hW hH st x h,bs]
 ·have hb:=hb.resolve_left q
  rw [if_neg q,show dX (b.toNat:Int)=⟨1,(b.toNat:Int),0,[],[],[]⟩ by unfold dX;rw [if_neg (by omega)],azd,avS W H hW hH st x h b.toNat hb,bs]
end Go.Proofs.YtobkkblijfhpoaaGreatDoor.Pm

namespace Go.Proofs.YtobkkblijfhpoaaGreatDoor.Pm
open Go.Proofs.YtobkkblijfhpoaaGreatDoor.Args
open Go.ChangeShapes Go.WideShapes Go.ChangeAt Go.RowKit
set_option linter.unusedVariables false
set_option linter.unusedSimpArgs false
set_option maxRecDepth 100000
theorem aew: ∀g:List aa,Pl g→Ym (ag.cells g)=true
 | [],_=>rfl
 | x::l,h=>by
  have hx:=h x (List.mem_cons_self ..)
  have ih:=aew l fun y hy=>h y (List.mem_cons_of_mem _ hy)
  show Ym (.int .i64 x.cW:: .int .i64 x.bM.Flags:: .int .i64 x.bM.cz:: .int .i64 x.bM.b9::ag.cells l)=true
  unfold Ym
  rw [ih,hx.1,dt hx.2.1,dt hx.2.2];rfl
theorem aex(W H:Nat)(hW:1≤W∧W≤160)(hH:1≤H∧H≤60)(g:List aa)(hg:g.length=W*H)(h:Pl g):LD (W:Int) (H:Int) g.length (ag.cells g)=true:=by
 have hl:=ag.dU g
 have hk:ag.k=4:=rfl
 rw [hk] at hl
 unfold LD
 rw [dt (by omega),dt (by omega),dt (by omega),dt (by omega),dt (by rw [hg];push_cast;rfl),dt (by rw [hl]),aew g h];rfl
theorem Sv(s:ah)(hs:s.gD=12)(m:Int)(h0:m≠0)(h:Int.tmod (IntKind.i64.wrap (Int.tdiv 12 m)) 2≠1):f131 s m=some false:=by
 unfold f131
 rw [decide_eq_false h0,show gz (!false)=some () from rfl,bs,hs,dK (df h)]
theorem avU(s:ah)(hs:s.gD=12)(m:Int)(h0:m≠0)(h:Int.tmod (IntKind.i64.wrap (Int.tdiv 12 m)) 2=1):f131 s m=some true:=by
 unfold f131
 rw [decide_eq_false h0,show gz (!false)=some () from rfl,bs,hs,cZ (dt h)]
theorem P5(W H:Nat)(hW:1≤W∧W≤160)(hH:1≤H∧H≤60)(s:ah)(gw:s.aT.bV=W)(gh:s.aT.cC=H)(r c:Nat)(hr:r<H):f134 s (r:Int) (c:Int)=some {s with Row:=(r:Int),dS:=((if c<W then c else W-1:Nat):Int),eL:=false}:=by
 unfold f134
 rw [gw,gh,gY ((H:Int)-1) (by omega),gY ((W:Int)-1) (by omega)]
 have e1:(if (0:Int)>(r:Int) then 0 else (r:Int))=r:=if_neg (by omega)
 have e2:(if (0:Int)>(c:Int) then 0 else (c:Int))=c:=if_neg (by omega)
 rw [e1,e2,if_neg (by omega)]
 by_cases q:c<W
 ·rw [if_pos q,if_neg (by omega)]
 ·rw [if_neg q,if_pos (by omega)]
  have:((W-1:Nat):Int)=(W:Int)-1:=by omega
  rw [this]
theorem Sw(W H:Nat)(hW:1≤W∧W≤160)(hH:1≤H∧H≤60)(st:cH)(g:List aa)(pa:List bk)(r c:Nat)(l:Bool)(hg:g.length=W*H)(h:Pl g):f136 (SW W H st g pa r c l) 0 (H:Int) 1=some (SW W H st (g.drop W++HB W) pa r c false):=by
 unfold f136 f182
 rw [bs]
 unfold F3
 rw [if_pos ⟨aex W H hW hH g hg h,⟨rfl,rfl,rfl⟩,rfl,rfl,rfl⟩,bs]
 rfl
theorem IC(W H:Nat)(hW:1≤W∧W≤160)(hH:1≤H∧H≤60)(st:cH)(x:PS)(h:x.ok W H):f130 (x.p_ W H st)=some ((Ak W H x).p_ W H st):=by
 obtain ⟨g,pa,r,c,l⟩:=x
 obtain ⟨hg,hp,hr,hc,hpa⟩:=h
 have hg:g.length=W*H:=hg
 have hr:r<H:=hr
 have hc:c<W:=hc
 have hpa:pa.length≤40:=hpa
 show f130 (SW W H st g pa r c l)=_
 have e4:IntKind.i64.wrap ((SW W H st g pa r c l).Row+1)=((r+1:Nat):Int):=M5 _ _ (by show (r:Int)+1=_;omega) (by omega)
 unfold Ak f130
 rw [e4]
 by_cases q:r+1=H
 ·rw [if_pos q,dt (by show ((r+1:Nat):Int)=(H:Int);omega),Bool.not_true,cf]
  unfold F4
  rw [cZ (by rfl),Sv _ rfl 256 (by decide) (by decide),bs,Bool.not_false,ct]
  have e5:f179 (SW W H st g pa r c l).cD=some pa:=by
   unfold f179
   rw [fW _ _ _ (by show (([]:List bk).length+pa.length)*24≤_;simp;omega),bs];rfl
  have e6:f180 (SW W H st g pa r c l).aT=some (fY W g H):=EN W H g hg hW.2 hH.2
  have e7:(fY W g H)[0]?=some (g.take W):=by
   unfold fY
   rw [List.getElem?_map,List.getElem?_range (by omega)]
   show some (dA W g 0)=_
   unfold dA
   rw [Nat.zero_mul,List.drop_zero,Nat.zero_add,Nat.one_mul]
  have e8:(fY W g H).length=H:=by unfold fY;simp
  rw [e5,bs,e6,bs,show iJ (0:Int) (fY W g H).length=some 0 from fX 0 _ (by rw [e8];omega),bs,e7,bs,fW _ _ _ (by rw [List.length_singleton];omega),bs]
  have hn:(pa++ [bk.mk (g.take W)]).length=pa.length+1:=by rw [List.length_append,List.length_singleton]
  have e9:(if IntKind.i64.wrap (((pa++ [bk.mk (g.take W)]).length:Int)-40)>0 then IntKind.i64.wrap (((pa++ [bk.mk (g.take W)]).length:Int)-40) else 0)=((pa.length+1-40:Nat):Int):=by
   rw [hn,gY _ (by omega)]
   by_cases q4:40<pa.length+1
   ·rw [if_pos (by omega)];omega
   ·rw [if_neg (by omega)];omega
  rw [e9,jV (by rw [dt (by omega),dt (by rw [hn];omega),dt (Int.le_refl _)];rfl),bs]
  have e10:kq (pa++ [bk.mk (g.take W)]) (((pa.length+1-40:Nat):Int).toNat) ((((pa++ [bk.mk (g.take W)]).length:Int)).toNat-(((pa.length+1-40:Nat):Int).toNat))=some ((pa++ [bk.mk (g.take W)]).drop (pa.length+1-40)):=by
   unfold kq
   rw [Int.toNat_natCast,Int.toNat_natCast,if_pos (by rw [hn];omega),List.take_of_length_le (by rw [List.length_drop];exact Nat.le_refl _)]
  rw [e10,bs]
  show ((f136 (SW W H st g ((pa++ [bk.mk (g.take W)]).drop (pa.length+1-40)) r c l) 0 (H:Int) 1).bind _)=_
  rw [Sw W H hW hH st g _ r c l hg hp,bs];rfl
 ·rw [if_neg q,df (by show¬((r+1:Nat):Int)=(H:Int);omega),Bool.not_false,ct,show (SW W H st g pa r c l).dS=(c:Int) from rfl,P5 W H hW hH (SW W H st g pa r c l) rfl rfl (r+1) c (by omega),bs,if_pos hc];rfl
def pv(i:Nat):Int:=if 127<i then 65533 else i
def sj(i:Nat):List Int:=(List.range i).map pv++List.replicate (256-i) 0
theorem ar3(i:Nat)(h:i<256)(v:Int):(sj i).set i v=(List.range i).map pv++(v::List.replicate (256-(i+1)) 0):=by
 unfold sj
 obtain ⟨k,hk⟩: ∃k,256-i=k+1:=⟨255-i,by omega⟩
 rw [List.set_append_right _ _ (by simp),hk,show 256-(i+1)=k by omega,List.replicate_succ,List.length_map,List.length_range,Nat.sub_self];rfl
theorem Al(i:Nat)(h:i≤256):(sj i).length=256:=by unfold sj;simp;omega
theorem P6(i:Nat)(h:i<256):(sj i).set i (pv i)=sj (i+1):=by
 rw [ar3 i h];unfold sj;rw [List.range_succ,List.map_append,List.append_assoc];rfl
theorem ai7:f128 1=some (sj 256):=by
 have h:=fI (body:=rS 1) (fun i=>(sj i,(256:Int),(i:Int))) (sj 256) 256 (by
  unfold rS mR
  rw [dK (by rfl),cf]) 0 (by omega) (fun i _ hi=>by
  unfold rS mR tB
  dsimp only []
  have g1:(sj i)[i]?=some ((sj i).getD i 0):=by
   rw [List.getD_eq_getElem?_getD,List.getElem?_eq_getElem (by rw [Al i (by omega)];omega)];rfl
  rw [cZ (dt (by omega)),ct,fX i _ (by rw [Al i (by omega)];omega),bs,g1,bs,bs]
  by_cases q:127<i
  ·have g2:((sj i).set i (i:Int))[i]?=some (i:Int):=by
    rw [List.getElem?_set_self (by rw [Al i (by omega)];omega)]
   rw [cZ (dt (by omega)),show (!decide ((1:Int)=2))=true from rfl,ct,fX i _ (by rw [List.length_set,Al i (by omega)];omega),bs,g2,bs,bs,List.set_set,show (65533:Int)=pv i by unfold pv;rw [if_pos q],P6 i hi,r9 i (by omega)]
  ·rw [dK (df (by omega))]
   have:(sj i).set i (i:Int)=sj (i+1):=by rw [←P6 i hi];unfold pv;rw [if_neg q]
   rw [this,r9 i (by omega)])
 unfold f128
 rw [jD,bs,show (!(decide ((1:Int)≤1)&&decide ((1:Int)≤4)))=false from rfl,cf]
 unfold FZ
 rw [show mk? 8 256 256 (0:Int)=some (sj 0) from rfl,bs,show ((sj 0).length:Int)=256 from rfl,show bR (rS 1) (sj 0,256,0)=some (sj 256) from h,bs]
 unfold FY Ac
 rw [dK (by rfl),dK (by rfl)]
theorem avV(b:Nat)(h:b≤127):(sj 256)[b]?=some (b:Int):=by
 unfold sj
 rw [List.getElem?_append_left (by simp;omega),List.getElem?_map,List.getElem?_range (by omega)]
 show some (pv b)=_
 unfold pv;rw [if_neg (by omega)]
theorem avW(W H:Nat)(hW:1≤W∧W≤160)(hH:1≤H∧H≤60)(g:List aa)(hg:g.length=W*H)(h:Pl g)(r c:Nat)(hr:r<H)(hc:c<W)(b:Nat)(hb:32≤b∧b≤126):PT ⟨W,H,g⟩ (r:Int) (c:Int) (b:Int) ⟨0,0,0⟩=some (⟨W,H,g.set (r*W+c) ⟨(b:Int),P0⟩⟩,0):=by
 unfold PT
 rw [if_pos ⟨aex W H hW hH g hg h,⟨rfl,rfl,rfl⟩,by omega,⟨by omega,by show (r:Int)<(H:Int);omega⟩,by omega,by show (c:Int)<(W:Int);omega⟩]
 have e:((r:Int)*(W:Int)+(c:Int)).toNat=r*W+c:=by
  have:(r:Int)*(W:Int)+(c:Int)=((r*W+c:Nat):Int):=by push_cast;rfl
  rw [this,Int.toNat_natCast]
 show some ((⟨(W:Int),(H:Int),g.set ((r:Int)*(W:Int)+(c:Int)).toNat ⟨(b:Int),⟨0,0,0⟩⟩⟩:aV),(0:Int))=_
 rw [e];rfl
theorem ar4(W H:Nat)(hW:1≤W∧W≤160)(hH:1≤H∧H≤60)(st:cH)(x:PS)(h:x.ok W H)(hl:x.l=false)(t0:ah)(b:Nat)(hb:32≤b∧b≤126):
  xk t0 (b:Int) (b:Int) (x.p_ W H st) 1=some ((P4 W b x).p_ W H st):=by
 obtain ⟨g,pa,r,c,l⟩:=x
 obtain ⟨hg,hp,hr,hc,hpa⟩:=h
 have hl:l=false:=hl
 subst hl
 have hg:g.length=W*H:=hg
 have hr:r<H:=hr
 have hc:c<W:=hc
 have e6:IntKind.i64.wrap ((SW W H st g pa r c false).dS+1)=((c+1:Nat):Int):=M5 _ _ (by show (c:Int)+1=_;omega) (by omega)
 show xk t0 (b:Int) (b:Int) (SW W H st g pa r c false) 1=some (SW W H st (g.set (r*W+c) ⟨(b:Int),P0⟩) pa r (if c+1=W then c else c+1) (decide (c+1=W)))
 unfold xk F5 JD
 rw [e6,dK (df (by show¬(W:Int)<_;omega)),Sv _ rfl 1 (by decide) (by decide),bs,cf]
 rw [show PT (SW W H st g pa r c false).aT (SW W H st g pa r c false).Row (SW W H st g pa r c false).dS (b:Int) (SW W H st g pa r c false).bM=_ from avW W H hW hH g hg hp r c hr hc b hb,bs]
 have e7:IntKind.i64.wrap ((SW W H st (g.set (r*W+c) ⟨(b:Int),P0⟩) pa r c false).dS+1)=((c+1:Nat):Int):=e6
 have key: ∀v:Bool,v=decide (c+1=W)→A5 t0 (b:Int) (SW W H st (g.set (r*W+c) ⟨(b:Int),P0⟩) pa r c false) 1 v=some (SW W H st (g.set (r*W+c) ⟨(b:Int),P0⟩) pa r (if c+1=W then c else c+1) (decide (c+1=W))):=fun v hv=>by
  unfold A5
  rw [e7,show (SW W H st (g.set (r*W+c) ⟨(b:Int),P0⟩) pa r c false).Row=(r:Int) from rfl,P5 W H hW hH _ rfl rfl r (c+1) hr,bs,hv]
  by_cases q:c+1=W
  ·rw [decide_eq_true q,ct,avU _ rfl 4 (by decide) (by decide),bs,if_neg (by omega),if_pos q,show W-1=c by omega];rfl
  ·rw [decide_eq_false q,cf,if_pos (by omega),if_neg q];rfl
 by_cases q:c+1=W
 ·rw [cZ (dt (by show (W:Int)≤_;omega))]
  exact key true (decide_eq_true q).symm
 ·rw [dK (df (by show¬(W:Int)≤_;omega))]
  exact key false (decide_eq_false q).symm
theorem avX(W H:Nat)(hW:1≤W∧W≤160)(hH:1≤H∧H≤60)(st:cH)(x:PS)(h:x.ok W H)(b:Nat)(hb:32≤b∧b≤126):f77 (x.p_ W H st) (b:Int)=some ((WL W H b x).p_ W H st):=by
 unfold f77
 rw [jD,bs,dt (by omega),dt (by omega),Bool.and_self,ct,show iJ (x.p_ W H st).dF 2=some 0 from rfl,bs,cZ (by rfl),show f128 (x.p_ W H st).bY.1=some (sj 256) from ai7,bs,fX b _ (by rw [Al 256 (Nat.le_refl _)];omega),bs,avV b (by omega),bs]
 unfold A6 JE
 rw [jB,zi (by omega) (by omega),bs,dK (by rfl),dK (df (by show¬(W:Int)<1;omega))]
 unfold WL
 by_cases hl:x.l=true
 ·have hl':(x.p_ W H st).eL=true:=hl
  have hx:({x with c:=0}:PS).ok W H:=⟨h.1,h.2.1,h.2.2.1,by show 0<W;omega,h.2.2.2.2⟩
  rw [if_pos hl,cZ hl',show f130 ({(x.p_ W H st) with dS:=0})=_ from IC W H hW hH st {x with c:=0} hx,bs]
  exact ar4 W H hW hH st _ (JM hW.1 hH.1 hx) (by unfold Ak;split<;>rfl) _ b hb
 ·have hf:x.l=false:=by cases hx:x.l;rfl;exact absurd hx hl
  have hl':(x.p_ W H st).eL=false:=hf
  rw [if_neg hl,dK hl']
  exact ar4 W H hW hH st x h hf _ b hb
theorem avY(W H:Nat)(hW:1≤W∧W≤160)(hH:1≤H∧H≤60)(st:cH)(x:PS)(h:x.ok W H):f78 (x.p_ W H st) 10=some ((Ak W H x).p_ W H st):=by
 unfold f78 xo
 rw [dK (by rfl),dK (by rfl),cZ (by rfl),ct,IC W H hW hH st x h,bs,Sv _ rfl 128 (by decide) (by decide),bs,cf]
theorem ar5(W H:Nat)(hW:1≤W∧W≤160)(hH:1≤H∧H≤60)(st:cH)(x:PS)(h:x.ok W H)(b:UInt8)(hb:Sg b):f32 (x.p_ W H st) (dX (b.toNat:Int))=some ((M6 W H b x).p_ W H st,[]):=by
 unfold M6 f32
 by_cases q:b=10
 ·subst q
  rw [if_pos rfl,show dX (((10:UInt8).toNat:Nat):Int)=⟨2,10,0,[],[],[]⟩ from rfl,dK (by rfl),cZ (by rfl),avY W H hW hH st x h,bs]
 ·have hb:=hb.resolve_left q
  rw [if_neg q,show dX (b.toNat:Int)=⟨1,(b.toNat:Int),0,[],[],[]⟩ by unfold dX;rw [if_neg (by omega)],cZ (by rfl),avX W H hW hH st x h b.toNat hb,bs]
end Go.Proofs.YtobkkblijfhpoaaGreatDoor.Pm

namespace Go.Proofs.YtobkkblijfhpoaaGreatDoor.Pm
open Go.Proofs.YtobkkblijfhpoaaGreatDoor.Args
open Go.ChangeShapes Go.WideShapes Go.ChangeAt Go.RowKit
set_option linter.unusedVariables false
set_option linter.unusedSimpArgs false
set_option maxRecDepth 100000
theorem WN{α:Type}(l:List α)(i:Nat)(h:i<l.length):idx l (i:Int)=some l[i]:=by
 unfold idx;rw [if_pos (by omega)];simp [h]
theorem wrn(k:Nat)(h:k≤1000000000):IntKind.i64.wrap ((k:Int)+1)=((k+1:Nat):Int):=by rw [gY _ (by omega)];omega
theorem avZ(c:Int):(dX c).Args= []∧(dX c).Text= []:=by unfold dX;split<;>exact ⟨rfl,rfl⟩
theorem ar7(l:List Int)(hl:l.length≤100000):f209 (l.map dX)=some ():=by
 have h:=fI (body:=rJ (l.map dX)) (fun i=>(i:Int)) () l.length (by
  unfold rJ mL
  rw [dK (df (by rw [List.length_map];omega)),cf]) 0 (by omega) (fun i _ hi=>by
  have ha:=avZ l[i]
  unfold rJ mL s9
  rw [cZ (dt (by rw [List.length_map];omega)),ct,WN _ i (by rw [List.length_map];exact hi),bs,List.getElem_map,ha.1,ha.2,dK (df (by decide)),dK (df (by decide))]
  rw [show f232 []=some () from rfl,bs,wrn i (by omega)])
 unfold f209
 rw [show bR (rJ (l.map dX)) 0=some () from h,bs]
noncomputable def WO:List aP→aB→Option aB
 | [],t=>some t
 | a::l,t=>(f210 a t).bind (WO l)
theorem P7(s:ah)(acts:List aP)(hl:acts.length≤100000): ∀(mW pre:List aP) (t t':aB),pre++mW=acts→WO mW t=some t'→bR (rQ s acts) (t,(pre.length:Int))=some t'
 | [],pre,t,t',e,h=>eC (by
  rw [List.append_nil] at e
  subst e
  unfold rQ mQ
  rw [dK (df (by show¬(pre.length:Int)<(pre.length:Int);omega)),cf]
  have:t=t':=Option.some.inj h
  subst this;rfl)
 | a::mW,pre,t,t',e,h=>by
  have h':(f210 a t).bind (WO mW)=some t':=h
  cases hy:f210 a t with
  | none=>rw [hy] at h';cases h'
  | some y=>
   rw [hy,bs] at h'
   have e1:pre++a::mW=(pre++ [a])++mW:=by simp
   have ih:=P7 s acts hl mW (pre++ [a]) y t' (by rw [←e1];exact e) h'
   refine gI ?_ ih
   subst e
   unfold rQ mQ tA
   rw [cZ (dt (by show (pre.length:Int)<((pre++a::mW).length:Int);simp;omega)),ct]
   show ((idx (pre++a::mW) (pre.length:Int)).bind _)=_
   rw [oX,bs,hy,bs,y9 pre a (by simp at hl;omega)]
theorem rV(b:List UInt8):(ek b).length=b.length:=by unfold ek;simp
def Bw(W H:Nat)(t:List UInt8)(x:PS):PS:=t.foldl (fun x b=>M6 W H b x) x
theorem WQ(W H:Nat)(hW:1≤W∧W≤160)(hH:1≤H∧H≤60)(st:cH): ∀(t:List UInt8) (x:PS),x.ok W H→(∀b∈t,Sg b)→WO ((ek t).map dX) (x.mB W H st)=some ((Bw W H t x).mB W H st)
 | [],x,h,ht=>rfl
 | b::t,x,h,ht=>by
  show (f210 (dX (b.toNat:Int)) (x.mB W H st)).bind (WO ((ek t).map dX))=_
  rw [avT W H hW hH st x h b (ht b (List.mem_cons_self ..)),bs]
  exact WQ W H hW hH st t _ (Su hW.1 hH.1 (ht b (List.mem_cons_self ..)) h) fun y hy=>ht y (List.mem_cons_of_mem _ hy)
def x0(W H:Nat):PS:=⟨iU (W*H) (fun _=>blank P0),[],0,0,false⟩
theorem aaz(W H:Nat)(hW:1≤W∧W≤160)(hH:1≤H∧H≤60):(x0 W H).ok W H:=by
 refine ⟨eX _ _,?_,by show 0<H;omega,by show 0<W;omega,by show 0≤40;omega⟩
 show Pl (iU (W*H) (fun _=>blank P0))
 rw [←Gi]
 exact aeu _
theorem av0(W H:Nat)(hW:1≤W∧W≤160)(hH:1≤H∧H≤60)(st:cH)(t:List UInt8)(ht: ∀b∈t,Sg b)(hl:t.length≤100000):f161 (sN W H st) ((ek t).map dX)=some ((Bw W H t (x0 W H)).p_ W H st,[]):=by
 unfold f161 FU FT FR
 rw [show f55 (sN W H st)=some () from WG W H st hW hH,bs,ar7 _ (by rw [rV];exact hl),bs]
 rw [show f59 (sN W H st)=some (sN W H st) from aet W H st _ (by rw [eX]) hW.2 hH.2,bs]
 have:=P7 (sN W H st) ((ek t).map dX) (by rw [List.length_map,rV];exact hl) _ [] _ _ (List.nil_append _) (WQ W H hW hH st t (x0 W H) (aaz W H hW hH) ht)
 rw [show (([]:List aP).length:Int)=0 from rfl] at this
 rw [show bR (rQ (sN W H st) ((ek t).map dX)) (aB.mk (sN W H st) [],0)=_ from this,bs]
 rfl
theorem M7(W H:Nat)(hW:1≤W∧W≤160)(hH:1≤H∧H≤60)(st:cH)(s0:ah)(acts:List aP)(hl:acts.length≤100000): ∀(t:List UInt8) (pre:List aP) (x:PS),x.ok W H→(∀b∈t,Sg b)→pre++(ek t).map dX=acts→
  bR (xx s0 acts) (x.p_ W H st,[],(pre.length:Int))=some ((Bw W H t x).p_ W H st,[])
 | [],pre,x,h,ht,e=>eC (by
  have e:pre=acts:=by rw [←e];show pre=pre++ [];simp
  subst e
  unfold xx ot
  rw [dK (df (by show¬(pre.length:Int)<(pre.length:Int);omega)),cf]
  rfl)
 | b::t,pre,x,h,ht,e=>by
  have hb:=ht b (List.mem_cons_self ..)
  have e1:(pre++ [dX (b.toNat:Int)])++(ek t).map dX=acts:=by rw [←e];show _=pre++(dX (b.toNat:Int)::(ek t).map dX);simp
  have ih:=M7 W H hW hH st s0 acts hl t (pre++ [dX (b.toNat:Int)]) (M6 W H b x) (Su hW.1 hH.1 hb h) (fun y hy=>ht y (List.mem_cons_of_mem _ hy)) e1
  refine gI ?_ ih
  have e2:acts=pre++dX (b.toNat:Int)::(ek t).map dX:=by rw [←e];rfl
  rw [e2] at hl ⊢
  unfold xx ot xw
  rw [cZ (dt (by show (pre.length:Int)<((pre++dX (b.toNat:Int)::(ek t).map dX).length:Int);rw [List.length_append,List.length_cons];omega)),ct]
  show ((idx (pre++dX (b.toNat:Int)::(ek t).map dX) (pre.length:Int)).bind _)=_
  rw [oX,bs]
  show ((f32 (x.p_ W H st) (dX (b.toNat:Int))).bind _)=_
  rw [ar5 W H hW hH st x h b hb,bs]
  show ((yA [] ([]:List UInt8)).bind _)=_
  rw [show yA [] ([]:List UInt8)=some [] from rfl,bs]
  rw [List.length_append,List.length_cons] at hl
  have e3:IntKind.i64.wrap ((pre.length:Int)+1)=((pre++ [dX (b.toNat:Int)]).length:Int):=by rw [List.length_append,List.length_singleton,wrn _ (by omega)]
  show some (Sum.inl ((M6 W H b x).p_ W H st,([]:List UInt8),IntKind.i64.wrap ((pre.length:Int)+1)))=_
  rw [e3]
theorem ar8(W H:Nat)(hW:1≤W∧W≤160)(hH:1≤H∧H≤60)(st:cH)(t:List UInt8)(ht: ∀b∈t,Sg b)(hl:t.length≤100000):f15 (sN W H st) ((ek t).map dX)=some ((Bw W H t (x0 W H)).p_ W H st,[]):=by
 have:=M7 W H hW hH st (sN W H st) ((ek t).map dX) (by rw [List.length_map,rV];exact hl) t [] (x0 W H) (aaz W H hW hH) ht (List.nil_append _)
 unfold f15
 rw [show bR (xx (sN W H st) ((ek t).map dX)) (sN W H st,[],0)=_ from this,bs]
def Sy(b:UInt8):List UInt8:=if b=10 then [13,10] else [b]
def crlf(t:List UInt8):List UInt8:=t.flatMap Sy
theorem xF(b:UInt8)(t:List UInt8):crlf (b::t)=Sy b++crlf t:=by unfold crlf;rw [List.flatMap_cons]
theorem ar9(b c:UInt8)(new:List UInt8)(h:b≠c)(t:List UInt8)(k:Nat):Lib.replaceK [c] new k (b::t)=b::Lib.replaceK [c] new k t:=by
 cases k with
 | zero=>rfl
 | succ k=>
  have Gt:=Lib.indexByte_ge t c
  have hi:Lib.index (b::t) [c]=if Lib.index t [c]= -1 then-1 else Lib.index t [c]+1:=by
   rw [Lib.index_one,Lib.index_one,Lib.indexByte,if_neg (by simpa using h)]
   by_cases hm:Lib.indexByte t c= -1
   ·rw [if_pos (by simpa using hm),if_pos hm]
   ·rw [if_neg (by simpa using hm),if_neg hm]
  unfold Lib.replaceK
  rw [hi]
  by_cases hm:Lib.index t [c]= -1
  ·rw [if_pos hm,if_pos (by rfl),if_pos (by rw [hm];rfl)]
  ·have hnn:0≤Lib.index t [c]:=by rw [Lib.index_one] at hm ⊢;omega
   rw [if_neg hm,if_neg (by simp;omega),if_neg (by simpa using hm)]
   obtain ⟨i,Qm⟩:=Int.eq_ofNat_of_zero_le hnn
   rw [Qm,show ((i:Int)+1).toNat=i+1 by omega,show (i:Int).toNat=i by omega]
   simp
theorem av1(c:UInt8)(new:List UInt8)(t:List UInt8)(k:Nat):Lib.replaceK [c] new (k+1) (c::t)=new++Lib.replaceK [c] new k t:=by
 have hi:Lib.index (c::t) [c]=0:=by rw [Lib.index_one,Lib.indexByte,if_pos (by simp)]
 rw [Lib.replaceK,hi,if_neg (by decide)]
 simp
theorem rcr: ∀s:List UInt8,Lib.replaceK [10] [13,10] (Lib.count s [10]) s=crlf s
 | []=>by
  rw [Lib.count_one];rfl
 | b::t=>by
  have ih:=rcr t
  rw [xF]
  by_cases h:b=10
  ·subst h
   rw [Lib.count_cons_eq,Nat.add_comm 1,av1,ih];rfl
  ·rw [Lib.count_cons_ne b 10 t h,ar9 b 10 _ h,ih]
   unfold Sy;rw [if_neg h];rfl
theorem ar_(s:List UInt8)(h:s.length≤10000000):gJ s [10] [13,10]=some (crlf s):=by
 unfold gJ
 have pT:Lib.countB ⟨s.toArray⟩ ⟨([10]:List UInt8).toArray⟩≤s.length+1:=Lib.count_le s [10]
 have hb:Lib.countB ⟨s.toArray⟩ ⟨([10]:List UInt8).toArray⟩*([13,10]:List UInt8).length≤(s.length+1)*2:=Nat.mul_le_mul_right 2 pT
 rw [if_pos ⟨by omega,by decide,by omega⟩]
 simp only [Option.some.injEq]
 unfold Lib.replaceAll Lib.replace
 rw [if_neg (by decide)]
 unfold Lib.replaceNum
 rw [if_pos (by left;decide)]
 exact rcr s
theorem HE: ∀s:List UInt8,(crlf s).length≤2*s.length
 | []=>Nat.le_refl _
 | b::t=>by
  have ih:=HE t
  rw [xF,List.length_append,List.length_cons]
  have:(Sy b).length≤2:=by unfold Sy;split<;>simp
  omega
theorem ai8{s:List UInt8}(h: ∀b∈s,Sg b): ∀b∈crlf s,b.toNat≠255:=fun b hb=>by
 unfold crlf at hb
 obtain ⟨c,hc,hb⟩:=List.mem_flatMap.1 hb
 unfold Sy at hb
 split at hb
 ·simp at hb;rcases hb with rfl | rfl<;>decide
 ·rename_i q
  rw [List.mem_singleton.1 hb]
  have:=(h c hc).resolve_left q;omega
theorem P8: ∀(t o:List UInt8),(∀b∈t,Sg b)→(crlf t).foldl ua (false,o)=(false,o++t)
 | [],o,h=>by show (false,o)=_;rw [List.append_nil]
 | b::t,o,h=>by
  have hb:=h b (List.mem_cons_self ..)
  rw [xF,List.foldl_append]
  have:(Sy b).foldl ua (false,o)=(false,o++ [b]):=by
   unfold Sy
   by_cases q:b=10
   ·subst q;rw [if_pos rfl];rfl
   ·have hb:=hb.resolve_left q
    have M4: ¬b=13:=fun e=>by subst e;have:(13:UInt8).toNat=13:=rfl;omega
    rw [if_neg q]
    show ua (false,o) b=_
    unfold ua;rw [if_neg (by simp),if_neg M4]
  rw [this,P8 t _ fun x hx=>h x (List.mem_cons_of_mem _ hx)]
  simp
theorem azf{b:UInt8}(h:Sg b):Rn (b.toNat:Int):=by
 unfold Rn
 rcases h with rfl | h
 ·exact .inl rfl
 ·omega
theorem av2{b:UInt8}(h:Sg b):b.toNat<128:=by
 rcases h with rfl | h
 ·decide
 ·omega
def CC(W H:Nat)(st:cH)(x:PS):aL:=mkC (x.p_ W H st) zW n0
theorem asa(W H:Nat)(hW:1≤W∧W≤160)(hH:1≤H∧H≤60)(st:cH)(t:List UInt8)(ht: ∀b∈t,Sg b)(hl:t.length≤1000):f103 (crlf t) ⟨CC W H st (x0 W H),[]⟩=some ⟨CC W H st (Bw W H t (x0 W H)),[]⟩:=by
 have hc:=HE t
 have hu:f107 ⟨CC W H st (x0 W H),[]⟩ [] 0=some false:=rfl
 have hN:f158 false (crlf t) false=some (false,t):=by
  rw [avM _ (by omega),P8 t [] ht,List.nil_append]
 have hU:f159 [] t=some (ek t):=avN _ (fun x hx=>av2 (ht x hx)) (by omega)
 have hP:f160 ⟨0,0,[],[],[]⟩ (ek t)=some (⟨0,0,[],[],[]⟩,(ek t).map dX):=ai6 _ (fun c hc=>by
  unfold ek at hc
  obtain ⟨b,hb,rfl⟩:=List.mem_map.1 hc
  exact azf (ht b hb)) (by rw [rV];omega)
 have hR:=av0 W H hW hH st t ht (by omega)
 unfold f103 FW FV
 rw [hu,bs,show f158 (aF.mk (CC W H st (x0 W H)) []).Client.Cr (crlf t) false=_ from hN,bs,show f159 (aF.mk (CC W H st (x0 W H)) []).Client.Part _=_ from hU,bs]
 rw [show f160 (aF.mk (CC W H st (x0 W H)) []).Client.Psr (ek t)=_ from hP,bs]
 rw [show f161 (aF.mk (CC W H st (x0 W H)) []).Client.af ((ek t).map dX)=_ from hR,bs]
 rfl
theorem ai9:f102 zW []=some (zW,[]):=by
 unfold f102 zJ zH
 rw [M3,bs,dK (by rfl),jV (by rfl),bs]
 have e:=Dr zW [] [] (fun b hb=>by cases hb) (by decide)
 rw [show ([]:List UInt8)++ []= [] from rfl,show (([]:List UInt8).length:Int)=0 from rfl] at e
 rw [show bR (o_ zW []) (zW.Mode,zW.G9,zW.Bp,zW.oZ,zW.Over,zW.oZ,[],[],0)=_ from e,bs]
 rfl
theorem ai_(W H:Nat)(hW:1≤W∧W≤160)(hH:1≤H∧H≤60)(st:cH)(t:List UInt8)(ht: ∀b∈t,Sg b)(hl:t.length≤1000):f60 (crlf t) ⟨CC W H st (x0 W H),[]⟩=some ⟨CC W H st (Bw W H t (x0 W H)),[]⟩:=by
 have hc:=HE t
 unfold f60 Jz
 rw [dK (df (by omega))]
 by_cases he:t= []
 ·subst he
  rw [show f102 (aF.mk (CC W H st (x0 W H)) []).Client.gj (crlf [])=_ from ai9,bs]
  have: ∀w:aF,bR (oB (crlf []) ⟨CC W H st (x0 W H),[]⟩) (w,([]:List cV),0,0)=some w:=fun w=>eC (by
   unfold oB mA
   rw [dK (df (by show¬(0:Int)<0;decide)),cf])
  rw [show (((zW,([]:List cV)):bW×List cV).2.length:Int)=0 from rfl,this,bs]
  rfl
 ·have hne:crlf t≠ []:=by
   obtain ⟨l,r,rfl⟩:=List.exists_cons_of_ne_nil he
   rw [xF];unfold Sy;split<;>simp
  rw [show f102 (aF.mk (CC W H st (x0 W H)) []).Client.gj (crlf t)=_ from WK (crlf t) (ai8 ht) (by omega) hne,bs]
  have e0:oB (crlf t) ⟨CC W H st (x0 W H),[]⟩ (⟨CC W H st (x0 W H),[]⟩,[⟨1,0,0,crlf t⟩],1,0)=some (.inl (⟨CC W H st (Bw W H t (x0 W H)),[]⟩,[⟨1,0,0,crlf t⟩],1,1)):=by
   unfold oB mA xh
   rw [cZ (by rfl),ct]
   show ((iJ (0:Int) 1).bind _)=_
   rw [show iJ (0:Int) 1=some 0 from rfl,bs]
   show (bif (decide ((1:Int)=1)) then ((f103 (crlf t) ⟨CC W H st (x0 W H),[]⟩).bind _) else none)=_
   rw [cZ (by rfl),asa W H hW hH st t ht hl,bs]
   rfl
  have e1:oB (crlf t) ⟨CC W H st (x0 W H),[]⟩ (⟨CC W H st (Bw W H t (x0 W H)),[]⟩,[⟨1,0,0,crlf t⟩],1,1)=some (.inr ⟨CC W H st (Bw W H t (x0 W H)),[]⟩):=by
   unfold oB mA
   rw [dK (by rfl),cf]
  have:=gI e0 (eC e1)
  rw [show bR (oB (crlf t) ⟨CC W H st (x0 W H),[]⟩) (aF.mk ({(aF.mk (CC W H st (x0 W H)) []).Client with gj:=(zW,[cV.mk 1 0 0 (crlf t)]).1}) (aF.mk (CC W H st (x0 W H)) []).sent,(zW,[cV.mk 1 0 0 (crlf t)]).2,((zW,[cV.mk 1 0 0 (crlf t)]).2.length:Int),0)=_ from this,bs]
theorem azg(W H:Nat)(hW:1≤W∧W≤160)(hH:1≤H∧H≤60)(st:cH)(t:List UInt8)(ht: ∀b∈t,Sg b)(hl:t.length≤1000)(ev:jF)(hk:ev.Kind=1)(hd:ev.Data=crlf t):f13 (CC W H st (x0 W H)) ev=some (CC W H st (Bw W H t (x0 W H)),[]):=by
 unfold f13 JB JA
 have e1:f28 (CC W H st (x0 W H))=some ():=aBU _ (WG W H st hW hH)
 have e2:f29 (CC W H st (x0 W H))=some (CC W H st (x0 W H)):=avL _ _ _ (aet W H st _ (eX _ _) hW.2 hH.2)
 rw [e1,bs,e2,bs]
 unfold f30
 rw [cZ (dt hk),hd,ai_ W H hW hH st t ht hl,bs,bs]
end Go.Proofs.YtobkkblijfhpoaaGreatDoor.Pm

namespace Go.Proofs.YtobkkblijfhpoaaGreatDoor.Pm
open Go.Proofs.YtobkkblijfhpoaaGreatDoor.Args
open Go.ChangeShapes Go.WideShapes Go.ChangeAt Go.RowKit
set_option linter.unusedVariables false
set_option linter.unusedSimpArgs false
set_option maxRecDepth 100000
def PL(W:Nat)(x:PS):Prop:= ∀y∈x.pa,y.Cells.length≤W
theorem aey{W H:Nat}{x:PS}(h:PL W x):PL W (Ak W H x):=by
 unfold Ak
 split
 ·intro y hy
  have hy:y∈(x.pa++ [bk.mk (x.g.take W)]).drop (x.pa.length+1-40):=hy
  rcases List.mem_append.1 (List.mem_of_mem_drop hy) with q | q
  ·exact h y q
  ·rw [List.mem_singleton.1 q];show (x.g.take W).length≤W;rw [List.length_take];omega
 ·exact h
theorem av3{W H:Nat}{b:UInt8}{x:PS}(h:PL W x):PL W (M6 W H b x):=by
 unfold M6
 split
 ·exact aey h
 ·unfold WL
  split
  ·exact aey (x:={x with c:=0}) h
  ·exact h
theorem aez{W H:Nat}: ∀(t:List UInt8) {x:PS},PL W x→PL W (Bw W H t x)
 | [],x,h=>h
 | b::t,x,h=>aez t (av3 h)
theorem aeA{W H:Nat}(hW:1≤W)(hH:1≤H): ∀(t:List UInt8) {x:PS},(∀b∈t,Sg b)→x.ok W H→(Bw W H t x).ok W H
 | [],x,ht,h=>h
 | b::t,x,ht,h=>aeA hW hH t (fun y hy=>ht y (List.mem_cons_of_mem _ hy)) (Su hW hH (ht b (List.mem_cons_self ..)) h)
theorem WR{α:Type} [DecidableEq α](n:Nat)(f:Nat→α):CR n f f=true:=by
 unfold CR;rw [List.all_eq_true];exact fun i _=>decide_eq_true rfl
theorem WS(l:List bk)(h: ∀y∈l,y.Cells.length≤1048576)(hl:l.length≤100000):f34 l l=some true:=by
 unfold f34
 rw [dt rfl,Bool.not_true,cf]
 unfold JI
 have h':=fI (body:=xB l l) (fun i=>(i:Int)) (.inl ()) l.length (by
  unfold xB ox
  rw [dK (df (by omega)),cf]) 0 (by omega) (fun i _ hi=>by
  unfold xB ox xA f35
  rw [cZ (dt (by omega)),ct,WN l i hi,bs,bs,Aj _ (h _ (List.getElem_mem hi)),bs,bs,Bool.not_true,cf,wrn i (by omega)])
 rw [show bR (xB l l) 0=_ from h',bs]
 rfl
theorem Sz(s:ah)(h1:s.aT.Cells.length≤1048576)(h2:s.bT.Cells.length≤1048576)(h3: ∀y∈s.cD,y.Cells.length≤1048576)(h4:s.cD.length≤100000):f16 s s=some true:=by
 unfold f16
 have e1:(decide (s.bM.Flags=s.bM.Flags)&&(decide (s.bM.cz=s.bM.cz)&&(decide (s.bM.b9=s.bM.b9)&&true)))=true:=by rw [dt rfl,dt rfl,dt rfl];rfl
 have e2:(CR 4 s.gU.Bits s.gU.Bits&&true)=true:=by rw [WR];rfl
 have e3:(decide (s.bY.1=s.bY.1)&&(decide (s.bY.2=s.bY.2)&&true))=true:=by rw [dt rfl,dt rfl];rfl
 have e4:(decide (s.aR.Row=s.aR.Row)&&(decide (s.aR.dS=s.aR.dS)&&(decide (s.aR.bM.Flags=s.aR.bM.Flags)&&(decide (s.aR.bM.cz=s.aR.bM.cz)&&(decide (s.aR.bM.b9=s.aR.bM.b9)&&(decide (s.aR.Origin=s.aR.Origin)&&(decide (s.aR.bY.1=s.aR.bY.1)&&(decide (s.aR.bY.2=s.aR.bY.2)&&(decide (s.aR.dF=s.aR.dF)&&true)))))))))=true:=by
  rw [dt rfl,dt rfl,dt rfl,dt rfl,dt rfl,dt rfl,dt rfl,dt rfl,dt rfl];rfl
 rw [Dq _ h1,bs,ct,Dq _ h2,bs,ct,cZ (dt rfl),cZ (dt rfl),cZ (dt rfl),cZ (dt rfl),cZ (dt rfl),cZ e1,cZ (dt rfl),cZ e2,cZ e3,cZ (dt rfl),cZ e4,cZ (dt rfl),WS _ h3 h4,bs]
theorem I_(W H:Nat)(hW:1≤W∧W≤160)(hH:1≤H∧H≤60): ∃st,f11 (W:Int) (H:Int) [[65]] [] (mo.mk (fun _=>0) (fun _=>0))=some (CC W H st (x0 W H),0):=by
 obtain ⟨st,hst⟩:=arS W H hW hH
 refine ⟨st,?_⟩
 unfold f11
 rw [hst,bs,dK (by rfl)]
 unfold Jm
 have e1:f24 [[65]]=some [XT]:=by
  unfold f24
  rw [fW _ _ _ (by simp),bs];rfl
 have e2:f25 []=some []:=by
  unfold f25
  rw [fW _ _ _ (by simp),bs];rfl
 rw [e1,bs,e2,bs,P1,bs]
 unfold Jl Jk
 rw [WH,bs]
 rfl
theorem asb(a b:Int)(h: ¬(1≤a∧a≤160∧1≤b∧b≤60)): ∃c,f11 a b [[65]] [] (mo.mk (fun _=>0) (fun _=>0))=some (c,1):=by
 obtain ⟨s,hs⟩:=ai4 a b h
 unfold f11
 rw [hs,bs,cZ (by rfl)]
 exact ⟨_,rfl⟩
theorem M8(a1 a2:Int)(t:List UInt8)(p:aL)(hl:t.length≤1000): ∀(mW pre:List UInt8),pre++mW=t→(∀b∈pre,Sg b)→
  ∃r,bR (xC a1 a2 t) (p,(ek pre).map dX,(pre.length:Int))=some r∧(r= .inr true∨(r= .inl (p,(ek t).map dX)∧ ∀b∈t,Sg b))
 | [],pre,e,h=>by
  rw [List.append_nil] at e
  subst e
  refine ⟨.inl (p,(ek pre).map dX),eC ?_,.inr ⟨rfl,h⟩⟩
  unfold xC qw
  rw [dK (df (by show¬(pre.length:Int)<(pre.length:Int);omega)),cf]
 | b::mW,pre,e,h=>by
  have e1:pre++b::mW=(pre++ [b])++mW:=by simp
  have hlen:pre.length<t.length:=by rw [←e];simp
  have hb:idx t (pre.length:Int)=some b:=by rw [←e];exact oX pre b mW
  have step:xC a1 a2 t (p,(ek pre).map dX,(pre.length:Int))=lA a1 a2 t p ((ek pre).map dX) (pre.length:Int):=by
   unfold xC qw
   rw [cZ (dt (by show (pre.length:Int)<(t.length:Int);omega)),ct]
  have hr:(ek (pre++ [b])).map dX=(ek pre).map dX++ [dX (b.toNat:Int)]:=by unfold ek;simp
  have hpl:(pre++ [b]).length=pre.length+1:=by simp
  have next:Sg b→lA a1 a2 t p ((ek pre).map dX) (pre.length:Int)=some (.inl (p,(ek (pre++ [b])).map dX,((pre++ [b]).length:Int)))→ ∃r,bR (xC a1 a2 t) (p,(ek pre).map dX,(pre.length:Int))=some r∧(r= .inr true∨(r= .inl (p,(ek t).map dX)∧ ∀b∈t,Sg b)):=fun hs hq=>by
   obtain ⟨r,hr1,hr2⟩:=M8 a1 a2 t p hl mW (pre++ [b]) (by rw [←e1];exact e) (fun x hx=>by
    rcases List.mem_append.1 hx with q | q
    ·exact h x q
    ·rw [List.mem_singleton.1 q];exact hs)
   exact ⟨r,gI (step.trans hq) hr1,hr2⟩
  have rl:((ek pre).map dX).length=pre.length:=by rw [List.length_map,rV]
  by_cases h1:b=10
  ·refine next (.inl h1) ?_
   unfold lA
   subst h1
   rw [hb,bs,cZ (by rfl),fW _ _ _ (by rw [rl];simp;omega),bs,hr,hpl,wrn _ (by omega)];rfl
  have h10: ¬((b.toNat:Int)=10):=fun q=>h1 (by
   have:b.toNat=(10:UInt8).toNat:=by show b.toNat=10;omega
   exact UInt8.toNat_inj.1 this)
  by_cases h2:32≤b.toNat
  ·by_cases h3:b.toNat<127
   ·refine next (.inr ⟨h2,by omega⟩) ?_
    unfold lA
    have ea:dX (b.toNat:Int)=⟨1,(b.toNat:Int),0,[],[],[]⟩:=by unfold dX;rw [if_neg (by omega)]
    rw [hb,bs,dK (df h10),bs,cZ (dt (by omega)),bs,cZ (dt (by omega)),bs,fW _ _ _ (by rw [rl];simp;omega),bs,hr,hpl,wrn _ (by omega),ea]
   ·refine ⟨.inr true,eC (step.trans ?_),.inl rfl⟩
    unfold lA
    rw [hb,bs,dK (df h10),bs,cZ (dt (by omega)),bs,dK (df (by omega))]
  ·refine ⟨.inr true,eC (step.trans ?_),.inl rfl⟩
   unfold lA
   rw [hb,bs,dK (df h10),bs,dK (df (by omega))]
theorem aja(a1 a2:Int)(t:List UInt8):f4 a1 a2 t=some true:=by
 unfold f4
 by_cases hs:1≤a1∧a1≤160∧1≤a2∧a2≤60
 ·obtain ⟨W,rfl⟩: ∃W:Nat,a1=W:=⟨a1.toNat,by omega⟩
  obtain ⟨H,rfl⟩: ∃H:Nat,a2=H:=⟨a2.toNat,by omega⟩
  have hW:1≤W∧W≤160:=by omega
  have hH:1≤H∧H≤60:=by omega
  obtain ⟨st,hn⟩:=I_ W H hW hH
  rw [hn,bs,show jO=some true from rfl,bs,Bool.not_true,cf,dK (by rfl)]
  by_cases hl:1000<t.length
  ·rw [cZ (dt (by omega)),bs]
  ·rw [dK (df (by omega))]
   obtain ⟨r,hr,hq⟩:=M8 (W:Int) (H:Int) t (CC W H st (x0 W H)) (by omega) t [] (List.nil_append _) (fun b hb=>by cases hb)
   unfold Sm
   rw [show bR (xC (W:Int) (H:Int) t) ((CC W H st (x0 W H),(0:Int)).1,[],0)=some r from hr,bs]
   rcases hq with rfl | ⟨rfl,ht⟩
   ·rfl
   ·have hc:=aaz W H hW hH
    have ho:=aeA (W:=W) (H:=H) hW.1 hH.1 t ht hc
    have hp:=aez (W:=W) (H:=H) t (x:=x0 W H) (fun y hy=>by cases hy)
    have h9:=size_le W H hW.2 hH.2
    show MS (W:Int) (H:Int) t (CC W H st (x0 W H)) ((ek t).map dX)=_
    unfold MS
    rw [ar_ t (by omega),bs,azg W H hW hH st t ht (by omega) _ rfl rfl,bs]
    unfold Sj
    rw [show f15 (CC W H st (x0 W H)).af ((ek t).map dX)=_ from ar8 W H hW hH st t ht (by omega),bs,cZ (by rfl)]
    rw [show f16 (CC W H st (Bw W H t (x0 W H)),([]:List UInt8)).1.af ((Bw W H t (x0 W H)).p_ W H st,([]:List UInt8)).1=some true from Sz ((Bw W H t (x0 W H)).p_ W H st) (by show (Bw W H t (x0 W H)).g.length≤_;rw [ho.1];omega) (by show (iU (W*H) _).length≤_;rw [eX];omega) (fun y hy=>Nat.le_trans (hp y hy) (by omega)) (Nat.le_trans ho.2.2.2.2 (by omega)),bs]
 ·obtain ⟨c,hn⟩:=asb a1 a2 hs
  rw [hn,bs,show jO=some true from rfl,bs,Bool.not_true,cf,cZ (by rfl),bs]
end Go.Proofs.YtobkkblijfhpoaaGreatDoor.Pm

namespace Go.Proofs.YtobkkblijfhpoaaGreatDoor.Pm
open Go.Proofs.YtobkkblijfhpoaaGreatDoor.Args
open Go.ChangeShapes Go.WideShapes Go.ChangeAt Go.RowKit
theorem asc{w:World}(hsh:w.ShapedOpen Go.Proofs.Tryz.prog): ∃m,w.cell? ⟨0,0,none⟩=some (.int .i64 m):=
 cell_of_shapedOpen_int (t:=3) (zero:= #[.int .i64 0]) hsh (of_decide_eq_true (by kernel_rfl)) (by kernel_rfl) rfl (by kernel_rfl) (by kernel_rfl) (by kernel_rfl)
theorem ClientPlain_walk(v0 v1 v2:Value)(w:World)(h0:Arg (some 1048576) Go.Proofs.Tryz.prog w 3 v0)(h1:Arg (some 1048576) Go.Proofs.Tryz.prog w 3 v1)(h2:Arg (some 1048576) Go.Proofs.Tryz.prog w 9 v2)(hsh:w.ShapedOpen Go.Proofs.Tryz.prog):Calls Go.Proofs.Tryz.prog 4 #[v0,v1,v2] w fun e w'=>e= .returned (.bool true)∧Below w.heap.size w w':=
 Dn (some 1048576) (fun a b c _ _ _=>aja a b c) v0 v1 v2 w h0 h1 h2 (asc hsh)
end Go.Proofs.YtobkkblijfhpoaaGreatDoor.Pm

