/- right_ok penR_ok widthR_ok whole_ok cloneR gcode_ok: what the typed functions compute, and the laws. -/
import Derived.Test.YtobkkblijfhpoaaGreatDoorDRpD
import Derived.Test.YtobkkblijfhpoaaGreatDoorBa0
import Derived.Test.YtobkkblijfhpoaaGreatDoorRpF
import Derived.Test.YtobkkblijfhpoaaGreatDoorKrz
namespace Go.Proofs.YtobkkblijfhpoaaGreatDoor.Rp
open Go.Proofs.YtobkkblijfhpoaaGreatDoor.Pm
open Go.Proofs.YtobkkblijfhpoaaGreatDoor.Args
open Go.ChangeShapes Go.WideShapes Go.ChangeAt Go.RowKit
set_option linter.unusedVariables false
set_option linter.unusedSimpArgs false
set_option maxRecDepth 100000
theorem fX(i n:Nat)(h:i<n):iJ (i:Int) n=some i:=by unfold iJ;rw [if_pos (by omega)];simp
theorem fI{σ ρ:Type}{body:σ→Option (σ⊕ρ)}(f:Nat→σ)(r:ρ)(n:Nat)(hn:body (f n)=some (.inr r)): ∀k,k≤n→(∀i,k≤i→i<n→body (f i)=some (.inl (f (i+1))))→bR body (f k)=some r:=by
 intro k hk h
 induction hd:n-k generalizing k with
 | zero=>
  have:k=n:=by omega
  subst this;exact eC hn
 | succ d ih=>exact gI (h k (by omega) (by omega)) (ih (k+1) (by omega) (fun i h1 h2=>h i (by omega) h2) (by omega))
theorem oa(P:Nat→Bool): ∀n,(∀i,i<n→P i=true)∨ ∃k,k<n∧P k=false∧ ∀i,i<k→P i=true
 | 0=> .inl fun i h=>absurd h (by omega)
 | n+1=>by
  rcases oa P n with h | ⟨k,h1,h2,h3⟩
  ·cases hp:P n with
   | true=>exact .inl fun i hi=>by rcases Nat.lt_succ_iff_lt_or_eq.1 hi with h' | rfl;exact h i h';exact hp
   | false=>exact .inr ⟨n,by omega,hp,h⟩
  ·exact .inr ⟨k,by omega,h2,h3⟩
theorem kH{σ ρ:Type}{body:σ→Option (σ⊕ρ)}(f:Nat→σ)(r0 r1:ρ)(n:Nat)(P:Nat→Bool)(h1: ∀i,i<n→P i=true→body (f i)=some (.inl (f (i+1))))(h2: ∀i,i<n→P i=false→body (f i)=some (.inr r1))
  (h0:body (f n)=some (.inr r0)):bR body (f 0)=some (if∀i,i<n→P i=true then r0 else r1):=by
 rcases oa P n with h | ⟨k,hk,hb,hg⟩
 ·rw [if_pos h];exact fI f r0 n h0 0 (by omega) fun i _ hi=>h1 i hi (h i hi)
 ·rw [if_neg (fun h=>by rw [h k hk] at hb;cases hb)]
  exact fI f r1 k (h2 k hk hb) 0 (by omega) fun i _ hi=>h1 i (by omega) (hg i hi)
theorem r9(i:Nat)(h:i<1000000000):IntKind.i64.wrap ((i:Int)+1)=((i+1:Nat):Int):=by rw [gY _ (by omega)];omega
theorem dt{p:Prop} [Decidable p](h:p):decide p=true:=decide_eq_true h
theorem df{p:Prop} [Decidable p](h: ¬p):decide p=false:=decide_eq_false h
theorem cZ{α:Type}{b:Bool}{x y:α}(h:b=true):(bif b then x else y)=x:=by rw [h,ct]
theorem dK{α:Type}{b:Bool}{x y:α}(h:b=false):(bif b then x else y)=y:=by rw [h,cf]
theorem uM{α:Type}(l:List α)(i:Nat)(z:α)(h:i<l.length):idx l (i:Int)=some (l.getD i z):=by
 unfold idx;rw [if_pos (by omega)];simp [h]
def hit(a:Int)(x:Int×Int):Bool:=decide (x.1≤a)&&decide (a≤x.2)
def oc:List (Int×Int):= [(0,31),(127,159),(768,879),(8203,8207),(55296,57343),(65024,65039)]
def Et:List (Int×Int):= [(4352,4447),(11904,12350),(12353,19903),(19968,42191),(44032,55203),(63744,64255),(65072,65135),(65280,65376),(65504,65510),(127744,128591),(129280,129535),(131072,262141)]
def wd(a:Int):Int:=if a<0∨1114111<a∨oc.any (hit a)=true then 0 else if Et.any (hit a)=true then 2 else 1
def jC(a:Int)(p:Int)(e:Int×Int):Int:=if e.1≤a then e.2 else p
def iP:List (Int×Int):= [(0,0),(32,1),(127,0),(160,1),(768,0),(880,1),(4352,2),(4448,1),(8203,0),(8208,1),(11904,2),(12351,1),(12353,2),(19904,1),(19968,2),(42192,1),(44032,2),(55204,1),(63744,2),(64256,1),(65024,0),(65040,1),(65072,2),(65136,1),(65280,2),(65377,1),(65504,2),(65511,1),(127744,2),(128592,1),(129280,2),(129536,1),(131072,2),(262142,1)]
theorem jD(a lo hi:Int):f127 a lo hi=some (decide (lo≤a)&&decide (a≤hi)):=by
 unfold f127
 cases decide (lo≤a)<;>cases decide (a≤hi)<;>rfl
theorem Lp(a:Int):f178 a=some ((decide (0≤a)&&decide (a≤55295)) || (decide (57344≤a)&&decide (a≤1114111))):=by
 unfold f178
 rw [jD,bs,jD,bs]
 cases (decide (0≤a)&&decide (a≤55295))<;>simp [ct,cf]
theorem G6:iP.length=34:=rfl
theorem wm(a:Int):bR (ij a) (0,0)=some (iP.foldl (jC a) 0):=by
 have h:=fI (body:=ij a) (fun i=>((iP.take i).foldl (jC a) 0,(i:Int))) (iP.foldl (jC a) 0) 34 ?_ 0 (by omega) ?_
 ·exact h
 ·unfold ij fH
  simp only []
  rw [dK (df (by simp)),cf]
  rfl
 ·intro i _ hi
  unfold ij fH iO
  rw [show ([(0,0),(32,1),(127,0),(160,1),(768,0),(880,1),(4352,2),(4448,1),(8203,0),(8208,1),(11904,2),(12351,1),(12353,2),(19904,1),(19968,2),(42192,1),(44032,2),(55204,1),(63744,2),(64256,1),(65024,0),(65040,1),(65072,2),(65136,1),(65280,2),(65377,1),(65504,2),(65511,1),(127744,2),(128592,1),(129280,2),(129536,1),(131072,2),(262142,1)]:List (Int×Int))=iP from rfl]
  dsimp only []
  rw [G6]
  have ht:iP[i]?=some (iP.getD i (0,0)):=by
   have:i<iP.length:=hi
   simp [this]
  rw [cZ (dt (by omega)),ct,fX i 34 hi,bs,ht,bs,r9 i (by omega)]
  have e:(iP.take (i+1)).foldl (jC a) 0=jC a ((iP.take i).foldl (jC a) 0) (iP.getD i (0,0)):=by
   rw [List.take_add_one,ht,List.foldl_append];rfl
  rw [e]
  unfold jC
  by_cases h:(iP.getD i (0,0)).1≤a
  ·rw [cZ (dt h),if_pos h]
  ·rw [dK (df h),if_neg h]
theorem C1(l:List (Int×Int))(a lo hi:Int)(h:(l.all fun x=>decide (hi<x.1) || decide (x.2<lo))=true)(h1:lo≤a)(h2:a≤hi):l.any (hit a)=false:=by
 rw [List.any_eq_false]
 intro x hx
 have:=List.all_eq_true.1 h x hx
 simp only [Bool.or_eq_true,decide_eq_true_eq] at this
 simp only [hit,Bool.and_eq_true,decide_eq_true_eq];omega
theorem Lr(l:List (Int×Int))(a lo hi:Int)(h:(l.any fun x=>decide (x.1≤lo)&&decide (hi≤x.2))=true)(h1:lo≤a)(h2:a≤hi):l.any (hit a)=true:=by
 obtain ⟨x,hx,hp⟩:=List.any_eq_true.1 h
 simp only [Bool.and_eq_true,decide_eq_true_eq] at hp
 rw [List.any_eq_true]
 refine ⟨x,hx,?_⟩
 simp only [hit,Bool.and_eq_true,decide_eq_true_eq];omega
theorem y_(a lo hi:Int)(h:(oc.any fun x=>decide (x.1≤lo)&&decide (hi≤x.2))=true)(h1:lo≤a)(h2:a≤hi):0=wd a:=by
 unfold wd;rw [if_pos (.inr (.inr (Lr _ a lo hi h h1 h2)))]
theorem jL(a lo hi:Int)(h:((oc.all fun x=>decide (hi<x.1) || decide (x.2<lo))&&(Et.any fun x=>decide (x.1≤lo)&&decide (hi≤x.2)))=true)(h1:lo≤a)(h2:a≤hi)(h3:0≤lo)(h4:hi≤1114111):2=wd a:=by
 rw [Bool.and_eq_true] at h
 unfold wd;rw [C1 _ a lo hi h.1 h1 h2,Lr _ a lo hi h.2 h1 h2,if_neg (by rintro (q | q | q);omega;omega;cases q),if_pos rfl]
theorem fM(a lo hi:Int)(h:((oc.all fun x=>decide (hi<x.1) || decide (x.2<lo))&&(Et.all fun x=>decide (hi<x.1) || decide (x.2<lo)))=true)(h1:lo≤a)(h2:a≤hi)(h3:0≤lo)(h4:hi≤1114111):1=wd a:=by
 rw [Bool.and_eq_true] at h
 unfold wd;rw [C1 _ a lo hi h.1 h1 h2,C1 _ a lo hi h.2 h1 h2,if_neg (by rintro (q | q | q);omega;omega;cases q),if_neg (by intro q;cases q)]
theorem QT(a:Int)(h0:0≤a)(h1:a≤1114111)(hs: ¬(55296≤a∧a≤57343)):iP.foldl (jC a) 0=wd a:=by
 simp only [iP,List.foldl_cons,List.foldl_nil,jC]
 by_cases za:262142≤a
 ·rw [if_pos za];exact fM a 262142 1114111 (by decide) (by omega) (by omega) (by omega) (by omega)
 rw [if_neg za]
 by_cases zb:131072≤a
 ·rw [if_pos zb];exact jL a 131072 262141 (by decide) (by omega) (by omega) (by omega) (by omega)
 rw [if_neg zb]
 by_cases ze:129536≤a
 ·rw [if_pos ze];exact fM a 129536 131071 (by decide) (by omega) (by omega) (by omega) (by omega)
 rw [if_neg ze]
 by_cases zf:129280≤a
 ·rw [if_pos zf];exact jL a 129280 129535 (by decide) (by omega) (by omega) (by omega) (by omega)
 rw [if_neg zf]
 by_cases zg:128592≤a
 ·rw [if_pos zg];exact fM a 128592 129279 (by decide) (by omega) (by omega) (by omega) (by omega)
 rw [if_neg zg]
 by_cases zh:127744≤a
 ·rw [if_pos zh];exact jL a 127744 128591 (by decide) (by omega) (by omega) (by omega) (by omega)
 rw [if_neg zh]
 by_cases Eu:65511≤a
 ·rw [if_pos Eu];exact fM a 65511 127743 (by decide) (by omega) (by omega) (by omega) (by omega)
 rw [if_neg Eu]
 by_cases Ev:65504≤a
 ·rw [if_pos Ev];exact jL a 65504 65510 (by decide) (by omega) (by omega) (by omega) (by omega)
 rw [if_neg Ev]
 by_cases Ew:65377≤a
 ·rw [if_pos Ew];exact fM a 65377 65503 (by decide) (by omega) (by omega) (by omega) (by omega)
 rw [if_neg Ew]
 by_cases Ex:65280≤a
 ·rw [if_pos Ex];exact jL a 65280 65376 (by decide) (by omega) (by omega) (by omega) (by omega)
 rw [if_neg Ex]
 by_cases Ey:65136≤a
 ·rw [if_pos Ey];exact fM a 65136 65279 (by decide) (by omega) (by omega) (by omega) (by omega)
 rw [if_neg Ey]
 by_cases Ez:65072≤a
 ·rw [if_pos Ez];exact jL a 65072 65135 (by decide) (by omega) (by omega) (by omega) (by omega)
 rw [if_neg Ez]
 by_cases EA:65040≤a
 ·rw [if_pos EA];exact fM a 65040 65071 (by decide) (by omega) (by omega) (by omega) (by omega)
 rw [if_neg EA]
 by_cases EB:65024≤a
 ·rw [if_pos EB];exact y_ a 65024 65039 (by decide) (by omega) (by omega)
 rw [if_neg EB]
 by_cases EC:64256≤a
 ·rw [if_pos EC];exact fM a 64256 65023 (by decide) (by omega) (by omega) (by omega) (by omega)
 rw [if_neg EC]
 by_cases ED:63744≤a
 ·rw [if_pos ED];exact jL a 63744 64255 (by decide) (by omega) (by omega) (by omega) (by omega)
 rw [if_neg ED]
 by_cases EE:55204≤a
 ·rw [if_pos EE]
  by_cases hq:a≤55295
  ·exact fM a 55204 55295 (by decide) (by omega) (by omega) (by omega) (by omega)
  ·exact fM a 57344 63743 (by decide) (by omega) (by omega) (by omega) (by omega)
 rw [if_neg EE]
 by_cases EF:44032≤a
 ·rw [if_pos EF];exact jL a 44032 55203 (by decide) (by omega) (by omega) (by omega) (by omega)
 rw [if_neg EF]
 by_cases EG:42192≤a
 ·rw [if_pos EG];exact fM a 42192 44031 (by decide) (by omega) (by omega) (by omega) (by omega)
 rw [if_neg EG]
 by_cases EH:19968≤a
 ·rw [if_pos EH];exact jL a 19968 42191 (by decide) (by omega) (by omega) (by omega) (by omega)
 rw [if_neg EH]
 by_cases EI:19904≤a
 ·rw [if_pos EI];exact fM a 19904 19967 (by decide) (by omega) (by omega) (by omega) (by omega)
 rw [if_neg EI]
 by_cases EJ:12353≤a
 ·rw [if_pos EJ];exact jL a 12353 19903 (by decide) (by omega) (by omega) (by omega) (by omega)
 rw [if_neg EJ]
 by_cases EK:12351≤a
 ·rw [if_pos EK];exact fM a 12351 12352 (by decide) (by omega) (by omega) (by omega) (by omega)
 rw [if_neg EK]
 by_cases EL:11904≤a
 ·rw [if_pos EL];exact jL a 11904 12350 (by decide) (by omega) (by omega) (by omega) (by omega)
 rw [if_neg EL]
 by_cases Ls:8208≤a
 ·rw [if_pos Ls];exact fM a 8208 11903 (by decide) (by omega) (by omega) (by omega) (by omega)
 rw [if_neg Ls]
 by_cases Lt:8203≤a
 ·rw [if_pos Lt];exact y_ a 8203 8207 (by decide) (by omega) (by omega)
 rw [if_neg Lt]
 by_cases Lu:4448≤a
 ·rw [if_pos Lu];exact fM a 4448 8202 (by decide) (by omega) (by omega) (by omega) (by omega)
 rw [if_neg Lu]
 by_cases Lv:4352≤a
 ·rw [if_pos Lv];exact jL a 4352 4447 (by decide) (by omega) (by omega) (by omega) (by omega)
 rw [if_neg Lv]
 by_cases Uf:880≤a
 ·rw [if_pos Uf];exact fM a 880 4351 (by decide) (by omega) (by omega) (by omega) (by omega)
 rw [if_neg Uf]
 by_cases Ug:768≤a
 ·rw [if_pos Ug];exact y_ a 768 879 (by decide) (by omega) (by omega)
 rw [if_neg Ug]
 by_cases Uh:160≤a
 ·rw [if_pos Uh];exact fM a 160 767 (by decide) (by omega) (by omega) (by omega) (by omega)
 rw [if_neg Uh]
 by_cases Ui:127≤a
 ·rw [if_pos Ui];exact y_ a 127 159 (by decide) (by omega) (by omega)
 rw [if_neg Ui]
 by_cases g32:32≤a
 ·rw [if_pos g32];exact fM a 32 126 (by decide) (by omega) (by omega) (by omega) (by omega)
 rw [if_neg g32]
 by_cases g0:0≤a
 ·rw [if_pos g0];exact y_ a 0 31 (by decide) (by omega) (by omega)
 rw [if_neg g0]
 omega
theorem jB(a:Int):f129 a=some (wd a):=by
 unfold f129 nv
 rw [Lp,bs,wm,bs]
 by_cases h:(0≤a∧a≤55295)∨(57344≤a∧a≤1114111)
 ·have:((decide (0≤a)&&decide (a≤55295)) || (decide (57344≤a)&&decide (a≤1114111)))=true:=by simpa using h
  rw [this,Bool.not_true,cf,QT a (by omega) (by omega) (by omega)]
 ·have:((decide (0≤a)&&decide (a≤55295)) || (decide (57344≤a)&&decide (a≤1114111)))=false:=by
   simp only [Bool.or_eq_false_iff,Bool.and_eq_false_imp,decide_eq_true_eq,decide_eq_false_iff_not];omega
  rw [this,Bool.not_false,ct]
  have:wd a=0:=by
   unfold wd
   rw [if_pos]
   by_cases h1:a<0
   ·exact .inl h1
   ·by_cases h2:1114111<a
    ·exact .inr (.inl h2)
    ·refine .inr (.inr ?_)
     simp only [oc,List.any_cons,List.any_nil,hit,Bool.or_false,Bool.or_eq_true,Bool.and_eq_true,decide_eq_true_eq];omega
  rw [this]
def nN(n:Int):Bool:=(decide (0≤n)&&decide (n≤256)) || (decide (16777216≤n)&&decide (n<33554432))
def r_(p:bq):Bool:=(decide (0≤p.Flags)&&decide (p.Flags≤255))&&(nN p.cz&&nN p.b9)
def Nt(p:bq):Int:=if r_ p=true then 0 else 4
theorem ak7:f262 24=some 16777216:=by
 unfold f262
 rw [kZ (n:=40) (body:=yP 24) (x:=(1,0)) (r:=16777216) (by kernel_rfl),bs]
theorem ak8:f262 25=some 33554432:=by
 unfold f262
 rw [kZ (n:=40) (body:=yP 25) (x:=(1,0)) (r:=33554432) (by kernel_rfl),bs]
theorem Es(p:bq):f228 p=some (Nt p):=by
 unfold f228
 have h:=kH (body:=yR p) (fun i=>(i:Int)) (.inl ()) (.inr 4) 2 (fun i=>nN ([p.cz,p.b9].getD i 0)) ?_ ?_ ?_
 ·rw [show ((0:Nat):Int)=0 from rfl] at h
  rw [h,bs]
  unfold Eg Nt r_
  rw [jD,bs]
  have e:(∀i,i<2→nN ([p.cz,p.b9].getD i 0)=true)↔(nN p.cz&&nN p.b9)=true:=by
   rw [Bool.and_eq_true]
   constructor
   ·intro h;exact ⟨h 0 (by omega),h 1 (by omega)⟩
   ·rintro ⟨h1,h2⟩ i hi
    match i,hi with
    | 0,_=>exact h1
    | 1,_=>exact h2
  by_cases hc:(nN p.cz&&nN p.b9)=true
  ·rw [if_pos (e.2 hc),hc,Bool.and_true]
   show (bif !(decide (0≤p.Flags)&&decide (p.Flags≤255)) then _ else _)=_
   cases (decide (0≤p.Flags)&&decide (p.Flags≤255))<;>rfl
  ·rw [if_neg (fun h=>hc (e.1 h)),if_neg (fun h=>hc (Bool.and_eq_true _ _▸h).2)]
   rfl
 all_goals
  try intro i hi hp
  try unfold yR oP sA
 ·have hi': [p.cz,p.b9][i]?=some ([p.cz,p.b9].getD i 0):=by
   match i,hi with
   | 0,_=>rfl
   | 1,_=>rfl
  simp only [List.length_cons,List.length_nil]
  rw [cZ (dt (by omega)),ct,fX i _ hi,bs,hi',bs,jD,bs,ak7,ak8,bs,bs,jD,bs,r9 i (by omega)]
  unfold nN at hp
  generalize [p.cz,p.b9].getD i 0=v at hp ⊢
  cases hq:(decide (0≤v)&&decide (v≤256)) with
  | true=>rfl
  | false=>
   rw [hq,Bool.false_or] at hp
   rw [Bool.not_false,ct,show IntKind.i64.wrap (33554432-1)=33554431 from rfl]
   have:(decide (16777216≤v)&&decide (v≤33554431))=true:=by
    simp only [Bool.and_eq_true,decide_eq_true_eq] at hp ⊢;omega
   rw [this];rfl
 ·have hi': [p.cz,p.b9][i]?=some ([p.cz,p.b9].getD i 0):=by
   match i,hi with
   | 0,_=>rfl
   | 1,_=>rfl
  simp only [List.length_cons,List.length_nil]
  rw [cZ (dt (by omega)),ct,fX i _ hi,bs,hi',bs,jD,bs,ak7,ak8,bs,bs,jD,bs]
  unfold nN at hp
  generalize [p.cz,p.b9].getD i 0=v at hp ⊢
  rw [Bool.or_eq_false_iff] at hp
  rw [hp.1,Bool.not_false,ct,show IntKind.i64.wrap (33554432-1)=33554431 from rfl]
  have:(decide (16777216≤v)&&decide (v≤33554431))=false:=by
   have:=hp.2
   simp only [Bool.and_eq_false_imp,decide_eq_true_eq,decide_eq_false_iff_not] at this ⊢;omega
  rw [this];rfl
 ·simp only [List.length_cons,List.length_nil]
  rw [dK (df (by omega)),cf]

def P0:bq:=⟨0,0,0⟩
def Z0:aa:=⟨0,P0⟩
abbrev cx(l:List aa)(i:Nat):aa:=l.getD i Z0
def G7(p q:bq):Bool:=decide (p.Flags=q.Flags)&&(decide (p.cz=q.cz)&&(decide (p.b9=q.b9)&&true))
theorem Uj(p q:bq):G7 p q=true↔p=q:=by
 obtain ⟨a,b,c⟩:=p;obtain ⟨d,e,f⟩:=q
 simp [G7]
theorem afQ(p q:bq):G7 p q=G7 q p:=by
 rw [Bool.eq_iff_iff,Uj,Uj];exact eq_comm
def Lx(f:Nat→aa)(W k:Nat):Bool:=decide (k<W)&&(decide ((f k).cW=0)&&G7 (f k).bM (f (k-1)).bM)
def iE(f:Nat→aa)(W i:Nat):Bool:=
 if (f i).cW=0 then (decide (i=0) || (!decide (wd (f (i-1)).cW=2) || !Lx f W i)) else (decide (wd (f i).cW=2)&& !Lx f W (i+1))
theorem lu(l:List aa)(i:Nat)(h:i<l.length):idx l (i:Int)=some (cx l i):=uM l i Z0 h
theorem wrm(k:Nat)(h1:1≤k)(h:k<1000000000):IntKind.i64.wrap ((k:Int)-1)=((k-1:Nat):Int):=by rw [gY _ (by omega)];omega
theorem AH(l:List aa)(i:Nat)(h:i<l.length)(hl:l.length≤1000000):f231 l (i:Int)=some (!iE (cx l) l.length i):=by
 unfold f231 Ei iE
 rw [lu l i h,bs]
 by_cases h0:(cx l i).cW=0
 ·rw [cZ (dt h0),if_pos h0]
  by_cases hi:i=0
  ·rw [dK (df (by omega)),dt hi];rfl
  ·rw [cZ (dt (by omega)),df hi,Bool.false_or,wrm i (by omega) (by omega),lu l (i-1) (by omega),bs,jB,bs,bs,bs]
   unfold Lx
   rw [dt h,dt h0,Bool.true_and,Bool.true_and,afQ]
   show (bif _ then (bif G7 (cx l (i-1)).bM (cx l i).bM then some true else some false) else some false)=_
   cases decide (wd (cx l (i-1)).cW=2)<;>cases G7 (cx l (i-1)).bM (cx l i).bM<;>rfl
 ·rw [dK (df h0),if_neg h0,bs,jB,bs,r9 i (by omega)]
  unfold Lx
  cases hw:decide (wd (cx l i).cW=2) with
  | false=>rfl
  | true=>
   rw [Bool.not_true,cf]
   by_cases h1:i+1<l.length
   ·rw [cZ (dt (by omega)),dt h1,Bool.true_and,lu l (i+1) h1,bs]
    by_cases h2:(cx l (i+1)).cW=0
    ·rw [cZ (dt h2),dt h2,Bool.true_and,bs,bs,show i+1-1=i from rfl]
     show (bif G7 (cx l (i+1)).bM (cx l i).bM then some true else some false)=_
     cases G7 (cx l (i+1)).bM (cx l i).bM<;>rfl
    ·rw [dK (df h2),df h2];rfl
   ·rw [dK (df (by omega)),df h1];rfl
theorem ny(f g:Nat→aa)(W i:Nat)(hi:i<W)(h: ∀k,k<W→f k=g k):iE f W i=iE g W i:=by
 unfold iE Lx
 rw [h i hi,h (i-1) (by omega),show i+1-1=i from rfl,h i hi]
 by_cases h1:i+1<W
 ·rw [h (i+1) h1]
 ·rw [df h1];rfl
def okB(f:Nat→aa)(W i:Nat):Bool:=r_ (f i).bM&&((decide ((f i).cW=0) || !decide (wd (f i).cW=0))&& !iE f W i)
def lD(W:Nat)(c:List aa)(n:Nat):Nat→aa:=fun i=>cx c (n*W+i)
def Rt(W H:Nat)(c:List aa):Prop:= ∀n,n<H→(∀i,i<W→okB (lD W c n) W i=true)
instance(W H:Nat)(c:List aa):Decidable (Rt W H c):=by unfold Rt;infer_instance
def dA(W:Nat)(c:List aa)(n:Nat):List aa:=(c.take ((n+1)*W)).drop (n*W)
theorem jc(n H W:Nat)(h:n<H):(n+1)*W≤W*H:=by rw [Nat.mul_comm W H];exact Nat.mul_le_mul_right W h
theorem ia(W H:Nat)(c:List aa)(n:Nat)(hc:c.length=W*H)(hn:n<H):(dA W c n).length=W:=by
 have:=jc n H W hn
 unfold dA
 rw [List.length_drop,List.length_take,Nat.min_eq_left (by omega),Nat.succ_mul];omega
theorem EM(W H:Nat)(c:List aa)(n i:Nat)(hc:c.length=W*H)(hn:n<H)(hi:i<W):cx (dA W c n) i=lD W c n i:=by
 have:=jc n H W hn
 unfold dA lD cx
 rw [List.getD_eq_getElem?_getD,List.getD_eq_getElem?_getD,List.getElem?_drop,List.getElem?_take,if_pos (by rw [Nat.succ_mul];omega)]
theorem size_le(W H:Nat)(hW:W≤160)(hH:H≤60):W*H≤9600:=by
 have:=Nat.mul_le_mul hW hH;omega
theorem QU(W H n:Nat)(hW:W≤160)(hH:H≤60)(hn:n≤H):IntKind.i64.wrap ((n:Int)*(W:Int))=((n*W:Nat):Int):=by
 have h1:=Nat.mul_le_mul hn hW
 have h2:n*W≤9600:=by omega
 rw [show (n:Int)*(W:Int)=((n*W:Nat):Int) from (Int.natCast_mul n W).symm,gY _ (by omega)]
theorem Uk(W H:Nat)(hW:W≤160)(hH:H≤60):IntKind.i64.wrap ((W:Int)*(H:Int))=((W*H:Nat):Int):=by
 have h2:=size_le W H hW hH
 rw [show (W:Int)*(H:Int)=((W*H:Nat):Int) from (Int.natCast_mul W H).symm,gY _ (by omega)]
theorem qR{α:Type}(xs:List α)(a b:Nat)(h1:a≤b)(h2:b≤xs.length):ni xs (a:Int) (b:Int)=some ((xs.take b).drop a):=by
 unfold ni
 rw [if_pos (by omega)];simp
def pM(g:aV):Int:=
 if 1≤g.bV∧g.bV≤160∧1≤g.cC∧g.cC≤60 then (if (g.Cells.length:Int)=g.bV*g.cC then (if Rt g.bV.toNat g.cC.toNat g.Cells then 0 else 4) else 4) else 1
theorem O3(p:bq):decide (Nt p=0)=r_ p:=by unfold Nt;cases r_ p<;>rfl
theorem Lz{ρ:Type}(P:Prop) [Decidable P](a b:ρ)(c:Prop) [Decidable c](h:P↔c):(if P then a else b)=if c then a else b:=by
 by_cases hp:P
 ·rw [if_pos hp,if_pos (h.1 hp)]
 ·rw [if_neg hp,if_neg (fun q=>hp (h.2 q))]
theorem QV(W H:Nat)(c:List aa):(∀n,n<H→decide (∀i,i<W→okB (lD W c n) W i=true)=true)↔Rt W H c:=by
 unfold Rt
 constructor
 ·intro h n hn;exact of_decide_eq_true (h n hn)
 ·intro h n hn;exact dt (h n hn)
def fY(W:Nat)(c:List aa)(k:Nat):List (List aa):=(List.range k).map (dA W c)
theorem qT{α:Type}(b:Nat)(xs ys:List α)(h:(xs.length+ys.length)*b≤1000000000):fT b xs ys=some (xs++ys):=fW b xs ys (by omega)
theorem nx(l:List aa)(hl:l.length≤100000):f91 l=some l:=by
 unfold f91;rw [qT 32 [] l (by simp;omega),bs];rfl
theorem EN(W H:Nat)(c:List aa)(hc:c.length=W*H)(hW:W≤160)(hH:H≤60):f180 ⟨W,H,c⟩=some (fY W c H):=by
 unfold f180
 have h:=fI (body:=ic ⟨W,H,c⟩) (fun i=>(fY W c i,(i:Int))) (fY W c H) H ?_ 0 (by omega) ?_
 ·have h':bR (ic ⟨W,H,c⟩) ([],0)=some (fY W c H):=h
  rw [h',bs]
 ·unfold ic
  rw [dK (df (by show¬(H:Int)<(H:Int);omega))]
 ·intro n _ hn
  have:=jc n H W hn
  have hl:=ia W H c n hc hn
  unfold ic iN
  dsimp only []
  rw [cZ (dt (by omega)),r9 n (by omega),QU W H n hW hH (by omega),QU W H (n+1) hW hH (by omega),qR _ _ _ (Nat.mul_le_mul_right W (by omega)) (by omega),bs]
  show (f91 (dA W c n)).bind _=_
  rw [nx _ (by omega),bs,qT 24 _ _ (by simp [fY];omega),bs]
  have:fY W c n++ [dA W c n]=fY W c (n+1):=by unfold fY;rw [List.range_succ,List.map_append];rfl
  rw [this]
theorem Ul(a1:aV)(W H:Nat)(c:List aa)(n:Nat)(y:List (List aa))(z u:Int)(hc:c.length=W*H)(hn:n<H)(hW:W≤160)(hH:H≤60):
  bR (jv a1) (dA W c n,y,z,u,dA W c n,((dA W c n).length:Int),0)=some (if∀i,i<W→okB (lD W c n) W i=true then .inl (y,z,u) else .inr 4):=by
 have hl:=ia W H c n hc hn
 have hx: ∀k,k<W→cx (dA W c n) k=lD W c n k:=fun k hk=>EM W H c n k hc hn hk
 generalize dA W c n=l at hl hx ⊢
 have h:=kH (body:=jv a1) (fun i=>(l,y,z,u,l,(l.length:Int),(i:Int))) (.inl (y,z,u)) (.inr 4) W (fun i=>okB (lD W c n) W i) ?_ ?_ ?_
 ·exact h
 ·intro i hi hp
  have jx:i<l.length:=by omega
  unfold okB at hp
  simp only [Bool.and_eq_true,Bool.or_eq_true,decide_eq_true_eq,Bool.not_eq_true'] at hp
  obtain ⟨h1,h2,h3⟩:=hp
  rw [←hx i hi] at h1 h2
  rw [←ny (cx l) _ W i hi hx] at h3
  unfold jv iq kA
  dsimp only []
  rw [cZ (dt (by omega)),ct,lu l i jx,bs,Es,bs,O3,h1,Bool.not_true,cf,jB,bs,AH l i jx (by omega),hl,h3]
  simp only [bs,cf,Bool.not_false,Bool.not_true]
  rw [r9 i (by omega)]
  rcases h2 with h2 | h2
  ·rw [dt h2];rfl
  ·rw [h2]
   cases decide ((cx l i).cW=0)<;>rfl
 ·intro i hi hp
  have jx:i<l.length:=by omega
  unfold okB at hp
  rw [←hx i hi,←ny (cx l) _ W i hi hx] at hp
  unfold jv iq kA
  dsimp only []
  rw [cZ (dt (by omega)),ct,lu l i jx,bs,Es,bs,O3,jB,bs,AH l i jx (by omega),hl]
  simp only [bs,Bool.not_not]
  cases h1:r_ (cx l i).bM with
  | false=>rfl
  | true=>
   rw [h1,Bool.true_and] at hp
   rw [Bool.not_true,cf]
   cases h2:decide ((cx l i).cW=0) with
   | true=>
    rw [h2,Bool.true_or,Bool.true_and] at hp
    have h3:iE (cx l) W i=true:=by simpa using hp
    rw [h3];rfl
   | false=>
    rw [h2,Bool.false_or] at hp
    rw [Bool.not_false,ct]
    cases h3:decide (wd (cx l i).cW=0) with
    | true=>rfl
    | false=>
     rw [h3,Bool.not_false,Bool.true_and] at hp
     have h3:iE (cx l) W i=true:=by simpa using hp
     rw [h3];rfl
 ·unfold jv iq
  dsimp only []
  rw [dK (df (by omega)),cf]
theorem LA(W:Nat)(c:List aa)(H n:Nat)(hn:n<H):(fY W c H)[n]?=some (dA W c n):=by
 unfold fY;simp [hn]
theorem C2(W:Nat)(c:List aa)(H:Nat):(fY W c H).length=H:=by unfold fY;simp
theorem Yh(W H:Nat)(c:List aa)(a1:aV)(hc:c.length=W*H)(hW:W≤160)(hH:H≤60):
  bR (oU a1) (fY W c H,(H:Int),0)=some (if Rt W H c then .inl () else .inr 4):=by
 have h:=kH (body:=oU a1) (fun i=>(fY W c H,(H:Int),(i:Int))) (.inl ()) (.inr 4) H (fun n=>decide (∀i,i<W→okB (lD W c n) W i=true)) ?_ ?_ ?_
 ·rw [Lz _ _ _ _ (QV W H c)] at h;exact h
 ·intro n hn hp
  unfold oU kD oT
  dsimp only []
  rw [cZ (dt (by omega)),ct,C2,fX n H hn,bs,LA W c H n hn,bs,Ul a1 W H c n _ _ _ hc hn hW hH,bs,if_pos (of_decide_eq_true hp)]
  simp only [Sum.elim_inl]
  rw [r9 n (by omega)]
 ·intro n hn hp
  unfold oU kD oT
  dsimp only []
  rw [cZ (dt (by omega)),ct,C2,fX n H hn,bs,LA W c H n hn,bs,Ul a1 W H c n _ _ _ hc hn hW hH,bs,if_neg (of_decide_eq_false hp)]
  rfl
 ·unfold oU kD
  dsimp only []
  rw [dK (df (by omega)),cf]
theorem afR(w h:Int):f187 w h=some (decide (1≤w∧w≤160∧1≤h∧h≤60)):=by
 unfold f187
 rw [jD,bs,jD,bs]
 by_cases h1:1≤w<;>by_cases h2:w≤160<;>by_cases h3:1≤h<;>by_cases h4:h≤60<;>simp [h1,h2,h3,h4,ct,cf]
theorem O2(g:aV):f227 g=some (pM g):=by
 obtain ⟨w,h,c⟩:=g
 unfold f227 Eo En pM
 rw [afR,bs]
 dsimp only []
 by_cases hs:1≤w∧w≤160∧1≤h∧h≤60
 ·rw [if_pos hs,dt hs,dK (by rfl)]
  obtain ⟨W,rfl⟩:=Int.eq_ofNat_of_zero_le (show 0≤w by omega)
  obtain ⟨H,rfl⟩:=Int.eq_ofNat_of_zero_le (show 0≤h by omega)
  rw [Uk W H (by omega) (by omega)]
  by_cases hc:c.length=W*H
  ·rw [if_pos (by rw [hc];exact Int.natCast_mul W H),dK (by rw [dt (by omega)];rfl),EN W H c hc (by omega) (by omega),bs,C2,Yh W H c _ hc (by omega) (by omega),bs,Int.toNat_natCast,Int.toNat_natCast]
   by_cases hr:Rt W H c
   ·rw [if_pos hr,if_pos hr];rfl
   ·rw [if_neg hr,if_neg hr];rfl
  ·rw [if_neg (by rw [←Int.natCast_mul];omega),cZ (by rw [df (by omega)];rfl)]
 ·rw [if_neg hs,df hs,cZ (by rfl)]

theorem qq(W H:Nat)(c:List aa)(h1:1≤W∧W≤160)(h2:1≤H∧H≤60)(hc:c.length=W*H)(hr:Rt W H c):pM ⟨W,H,c⟩=0:=by
 unfold pM
 try dsimp only []
 rw [if_pos (by omega),if_pos (by rw [hc];exact Int.natCast_mul W H),Int.toNat_natCast,Int.toNat_natCast,if_pos hr]
end Go.Proofs.YtobkkblijfhpoaaGreatDoor.Rp

namespace Go.Proofs.YtobkkblijfhpoaaGreatDoor.Rp
open Go Go.Proofs Go.RowKit Go.Proofs.YtobkkblijfhpoaaGreatDoor.D4 Go.Proofs.YtobkkblijfhpoaaGreatDoor.Pm
set_option linter.unusedVariables false
def oY:PD→Value
 | .int k n=> .int k n
 | _=>undef
def O4:PD→Bool
 | .int _ _=>true
 | _=>false
theorem O5{X:Nat→Prop}{w:World}{x:PD}{v:Value}(h:O4 x=true)(hr:dQ X w x v):v=oY x:=by
 cases x<;>first | exact hr | cases h
theorem Yi{X:Nat→Prop}{w:World}{x:PD}(h:O4 x=true):dQ X w x (oY x):=by
 cases x<;>first | rfl | cases h
theorem O6{X:Nat→Prop}{w:World}{R:Ref→Value→Prop}: ∀{cs:List PD} {us:List Value},cs.all O4=true→aZ X w R (cs.map .d) us→us=cs.map oY
 | [],us,_,h=>h
 | c::cs,us,hp,⟨v,r,e,h1,h2⟩=>by
  rw [List.all_cons,Bool.and_eq_true] at hp
  have h1:=O5 hp.1 h1
  subst h1;subst e
  rw [O6 hp.2 h2];rfl
theorem iQ: ∀xs:List aa,(ag.cells xs).all O4=true
 | []=>rfl
 | x::xs=>by
  have e:ag.cells (x::xs)=ag.enc x++ag.cells xs:=rfl
  rw [e,List.all_append,iQ xs];rfl
def vC(l:List aa):List Value:=(ag.cells l).map oY
theorem AJ(l:List aa):(vC l).length=l.length*4:=by
 unfold vC;rw [List.length_map,ag.dU];rfl
theorem abI(l m:List aa):vC (l++m)=vC l++vC m:=by
 induction l with
 | nil=>rfl
 | cons x l ih=>
  have e:vC (x::l)=(ag.enc x).map oY++vC l:=by
   show (ag.enc x++ag.cells l).map oY=_
   rw [List.map_append];rfl
  have e2:vC (x::(l++m))=(ag.enc x).map oY++vC (l++m):=by
   show (ag.enc x++ag.cells (l++m)).map oY=_
   rw [List.map_append];rfl
  rw [List.cons_append,e2,ih,e,List.append_assoc]
theorem atA(l:List aa): ∀v∈vC l,v.oneCell'=true:=fun v hv=>by
 obtain ⟨d,hd,rfl⟩:=List.mem_map.1 hv
 have:=(List.all_eq_true.1 (iQ l)) d hd
 cases d<;>first | rfl | cases this
theorem uN{X:Nat→Prop}{w:World}{b:Nat}: ∀(cs:List PD) (o:Nat),cs.all O4=true→(∀(j:Nat) d,cs[j]?=some d→w.cell? ⟨b,o+j,none⟩=some (oY d))→fq X w cs b o
 | [],_,_,_=>trivial
 | c::cs,o,hp,h=>by
  rw [List.all_cons,Bool.and_eq_true] at hp
  exact ⟨⟨_,h 0 c rfl,Yi hp.1⟩,uN cs (o+1) hp.2 fun j d hd=>by
   have:=h (j+1) d (by simpa using hd)
   rwa [show o+(j+1)=o+1+j by omega] at this⟩
theorem Ct.rep{W:World}{B:Nat}{l:List aa}{v:Value}(h:Ct W B (vC l) v):dQ XP W (.sl l.length (ag.cells l)) v:=by
 obtain ⟨b,o,n,c,cur,f,rfl,h2,h3,h4,h5,h6,h7,h8,h9⟩:=h
 rw [AJ] at h2
 have hn:n=l.length:=by omega
 subst hn
 refine ⟨_,_,rfl,h3,h4,(fun e=>by cases e),.inr ⟨b,o,rfl,fun hx=>hx.elim,(Array.getElem?_eq_some_iff.1 h6).1,uN _ _ (iQ l) fun j d hd=>?_⟩⟩
 rw [cell_of_row _ _ _ _ _ _ h6]
 have hv:(vC l)[j]?=some (oY d):=by unfold vC;rw [List.getElem?_map,hd];rfl
 rw [←h9,List.getElem?_take] at hv
 split at hv
 ·rw [List.getElem?_drop] at hv;simpa using hv
 ·cases hv
theorem QW{w w':World}{l:List aa}{v:Value}{dz β:Nat→cJ}(hl:l≠ [])(ho:JX (fun _=>False) w w' (fun _=> .nil none) [] (.r (.own 0 100 4 l.length (ag.cells l))) [] v dz β):Ct w' w.heap.size (vC l) v:=by
 have hr:gu dz [] β (.own 0 100 4 l.length (ag.cells l)) v:=ho.rep
 have hown:=ho.own (0,.own 100 4 (ag.cells l)) (by show _∈ [(0,cj.own 100 4 (ag.cells l))];simp)
 obtain ⟨_,hlen,hr⟩:=hr
 cases pV:β 0 with
 | nil a=>
  simp only [pV] at hr
  obtain ⟨hn,hc0⟩:=hr
  rw [hc0,List.length_nil] at hlen
  exact absurd (List.eq_nil_of_length_eq_zero (by omega)) hl
 | blk b c=>
  simp only [pV] at hr hown
  obtain ⟨rfl,hmc⟩:=hr
  obtain ⟨_,cur,xs,p1,p2,p3,p4,p5,p6,p7⟩:=hown
  have hx:=O6 (iQ l) p7
  obtain ⟨f,p8,p9⟩:=p1
  have hv:vC l=xs:=by rw [hx];rfl
  exact ⟨b,off c,l.length,cp c,cur,f,rfl,AJ l,hmc,p3,(ho.new 0 b c pV).1,p8,p9,p2,by rw [AJ,←hlen,hv];exact p6⟩
theorem kB_(W:World)(a b c:Int):Calls Go.Proofs.Tryz.prog 127 #[.int .i64 a,.int .i64 b,.int .i64 c] W fun e W'=>e= .returned (.bool (decide (b≤a)&&decide (a≤c)))∧Below W.heap.size W W':=by
 have h:f127 a b c=some (decide (b≤a)&&decide (a≤c)):=by
  unfold f127
  cases decide (b≤a)<;>cases decide (a≤c)<;>rfl
 refine (kj (mb _) lg (jm yE 9 (by decide) a b c _ h) (vs:= [_,_,_]) ⟨_,_,rfl,rfl,_,_,rfl,rfl,_,_,rfl,rfl,rfl⟩).mono ?_
 rintro e w' ⟨v,dz,β,rfl,hbl,ho⟩
 have hr:v= .bool _:=ho.rep
 subst hr
 exact ⟨rfl,hbl⟩
end Go.Proofs.YtobkkblijfhpoaaGreatDoor.Rp

namespace Go.Proofs.YtobkkblijfhpoaaGreatDoor.Rp
open Go.Proofs.YtobkkblijfhpoaaGreatDoor.Args
open Go Go.Proofs Go.RowKit Go.Proofs.YtobkkblijfhpoaaGreatDoor.D4 Go.Proofs.YtobkkblijfhpoaaGreatDoor.Pm
set_option linter.unusedVariables false
set_option linter.unusedSimpArgs false
set_option maxRecDepth 100000
def Pl(g:List aa):Prop:= ∀x∈g,x.bM=P0∧32≤x.cW∧x.cW≤126
theorem zi{a:Int}(h1:32≤a)(h2:a≤126):wd a=1:=(fM a 32 126 (by decide) h1 h2 (by decide) (by decide)).symm
theorem QX{g:List aa}(h:Pl g)(i:Nat)(hi:i<g.length):(cx g i).bM=P0∧32≤(cx g i).cW∧(cx g i).cW≤126:=by
 have:cx g i=g[i]:=by unfold cx;simp [hi]
 rw [this];exact h _ (List.getElem_mem hi)
theorem Um{f:Nat→aa}{W i:Nat}(h:32≤(f i).cW∧(f i).cW≤126):iE f W i=false:=by
 unfold iE
 rw [if_neg (by omega),zi h.1 h.2]
 rfl
theorem afS{g:List aa}(h:Pl g)(i:Nat)(hi:i<g.length)(hl:g.length≤1000000):f231 g (i:Int)=some true:=by
 rw [AH g i hi hl,Um (QX h i hi).2];rfl
theorem ayn{W H:Nat}{c:List aa}(h:Pl c)(hc:c.length=W*H):Rt W H c:=fun n hn i hi=>by
 have hlt:n*W+i<c.length:=by
  have:=jc n H W hn
  rw [Nat.add_mul,Nat.one_mul] at this;omega
 have hx:=QX h _ hlt
 have hr:lD W c n i=cx c (n*W+i):=rfl
 unfold okB
 rw [Um (by rw [hr];exact hx.2),hr,hx.1,zi hx.2.1 hx.2.2]
 simp [r_,P0,nN]
theorem afT{W H:Nat}{c:List aa}(h:Pl c)(h1:1≤W∧W≤160)(h2:1≤H∧H≤60)(hc:c.length=W*H):f227 ⟨W,H,c⟩=some 0:=by
 rw [O2,qq W H c h1 h2 hc (ayn h hc)]
theorem Yj{l:List aa}(h:Pl l)(hl:l.length≤100000):f190 l=some l:=by
 unfold f190
 rw [nx l hl,bs]
 have:=fI (body:=uK l) (fun i=>(l,(i:Int))) l l.length (by
  unfold uK mG
  rw [dK (df (by omega)),cf]) 0 (by omega) (fun i _ hi=>by
  unfold uK mG sI
  rw [cZ (dt (by omega)),ct,afS h i hi (by omega),bs]
  show some (Sum.inl (l,IntKind.i64.wrap ((i:Int)+1)))=_
  rw [gY _ (by omega)];rfl)
 rw [show ((0:Nat):Int)=0 from rfl] at this
 rw [this,bs]
end Go.Proofs.YtobkkblijfhpoaaGreatDoor.Rp

namespace Go.Proofs.YtobkkblijfhpoaaGreatDoor.Rp
open Go.Proofs.YtobkkblijfhpoaaGreatDoor.Args
open Go Go.Proofs Go.RowKit Go.Proofs.YtobkkblijfhpoaaGreatDoor.D4 Go.Proofs.YtobkkblijfhpoaaGreatDoor.Pm
set_option linter.unusedVariables false
set_option linter.unusedSimpArgs false
set_option maxRecDepth 100000
def BL:aa:=⟨32,P0⟩
theorem ak9{α:Type}(b z:α)(n i:Nat)(h:i<n):(List.replicate i b++List.replicate (n-i) z).set i b=List.replicate (i+1) b++List.replicate (n-(i+1)) z:=by
 obtain ⟨d,hd⟩: ∃d,n-i=d+1:=⟨n-i-1,by omega⟩
 rw [hd,show n-(i+1)=d by omega,List.set_append_right _ _ (by simp),List.replicate_succ' (n:=i)]
 simp [List.replicate_succ]
theorem Yk(n:Nat)(h:n≤160):f188 (n:Int) P0=some (List.replicate n BL):=by
 unfold f188
 have hm:mk? 32 (n:Int) (n:Int) (aa.mk 0 (bq.mk 0 0 0))=some (List.replicate n (aa.mk 0 (bq.mk 0 0 0))):=by
  unfold mk?;rw [if_pos (by simp;omega)];simp
 rw [hm,bs,List.length_replicate]
 have:=fI (body:=uL (n:Int) P0) (fun i=>(List.replicate i BL++List.replicate (n-i) (aa.mk 0 (bq.mk 0 0 0)),(n:Int),(i:Int))) (List.replicate n BL) n (by
  unfold uL mH
  rw [dK (df (show¬(n:Int)<(n:Int) by omega)),cf];simp) 0 (by omega) (fun i _ hi=>by
  unfold uL mH sJ
  rw [cZ (dt (show (i:Int)<(n:Int) by omega)),ct]
  show ((some BL).bind fun j4=>_)=_
  rw [bs]
  have hl:(List.replicate i BL++List.replicate (n-i) (aa.mk 0 (bq.mk 0 0 0))).length=n:=by simp;omega
  rw [hl,fX i n hi,bs]
  obtain ⟨y,hy⟩: ∃y,(List.replicate i BL++List.replicate (n-i) (aa.mk 0 (bq.mk 0 0 0)))[i]?=some y:=⟨_,List.getElem?_eq_getElem (by omega)⟩
  rw [hy,bs,bs,ak9 _ _ _ _ hi]
  show some (Sum.inl (_,(n:Int),IntKind.i64.wrap ((i:Int)+1)))=_
  rw [gY _ (by omega)];rfl)
 simp only [List.replicate_zero,List.nil_append,Nat.sub_zero] at this
 rw [show ((0:Nat):Int)=0 from rfl] at this
 rw [this,bs]
def Sl(w:World)(l:List aa)(b o n c:Nat):Prop:=
 n=l.length∧n≤c∧c≤maxLen∧b<w.heap.size∧ ∀(j:Nat) d,(ag.cells l)[j]?=some d→w.cell? ⟨b,o+j,none⟩=some (oY d)
theorem Sl.rep{w W:World}{l:List aa}{b o n c:Nat}(h:Sl w l b o n c)(hb:Below w.heap.size w W):dQ XP W (.sl l.length (ag.cells l)) (.slice (some ⟨b,o,none⟩) n c):=by
 obtain ⟨rfl,h1,h2,h3,h4⟩:=h
 exact ⟨_,_,rfl,h1,h2,(fun e=>by cases e),.inr ⟨b,o,rfl,fun hx=>hx.elim,Nat.lt_of_lt_of_le h3 hb.size,uN _ _ (iQ l) fun j d hd=>(Below.cell hb (p:=⟨b,o+j,none⟩) h3).trans (h4 j d hd)⟩⟩
theorem kG_{w:World}{gw gh b o n c:Nat}{l:List aa}(hs:Sl w l b o n c)(hp:Pl l)(h1:1≤gw∧gw≤160)(h2:1≤gh∧gh≤60)(hc:l.length=gw*gh)(W:World)(hW:Below w.heap.size w W):
  Calls Go.Proofs.Tryz.prog 227 #[.agg #[.int .i64 gw,.int .i64 gh,.slice (some ⟨b,o,none⟩) n c]] W fun e W'=>e= .returned (.int .i64 0)∧Below W.heap.size W W':=by
 refine (kj (mb _) lg (akU yE 9 (by decide) ⟨gw,gh,l⟩ 0 (afT hp h1 h2 hc)) (vs:= [_]) ⟨_,_,rfl,⟨#[_,_,_],rfl,_,_,rfl,rfl,_,_,rfl,rfl,_,_,rfl,hs.rep hW,rfl⟩,rfl⟩).mono ?_
 rintro e w' ⟨v,dz,β,rfl,hbl,ho⟩
 have hr:v= .int .i64 0:=ho.rep
 subst hr
 exact ⟨rfl,hbl⟩
theorem kP_(W:World):Calls Go.Proofs.Tryz.prog 228 #[.agg #[.int .i64 0,.int .i64 0,.int .i64 0]] W fun e W'=>e= .returned (.int .i64 0)∧Below W.heap.size W W':=by
 refine (kj (mb _) lg (T3 yE 9 (by decide) P0 0 (by rw [Es];rfl)) (vs:= [_]) ⟨_,_,rfl,⟨#[_,_,_],rfl,_,_,rfl,rfl,_,_,rfl,rfl,_,_,rfl,rfl,rfl⟩,rfl⟩).mono ?_
 rintro e w' ⟨v,dz,β,rfl,hbl,ho⟩
 have hr:v= .int .i64 0:=ho.rep
 subst hr
 exact ⟨rfl,hbl⟩
theorem kW_{a:Int}(h:32≤a∧a≤126)(W:World):Calls Go.Proofs.Tryz.prog 129 #[.int .i64 a] W fun e W'=>e= .returned (.int .i64 1)∧Below W.heap.size W W':=by
 refine (kj (mb _) lg (uH yE 9 (by decide) a 1 (by rw [jB,zi h.1 h.2])) (vs:= [_]) ⟨_,_,rfl,rfl,rfl⟩).mono ?_
 rintro e w' ⟨v,dz,β,rfl,hbl,ho⟩
 have hr:v= .int .i64 1:=ho.rep
 subst hr
 exact ⟨rfl,hbl⟩
theorem kL_(gw:Nat)(h:1≤gw∧gw≤160)(W:World):Calls Go.Proofs.Tryz.prog 188 #[.int .i64 gw,.agg #[.int .i64 0,.int .i64 0,.int .i64 0]] W fun e W'=> ∃s,e= .returned s∧Below W.heap.size W W'∧Ct W' W.heap.size (vC (List.replicate gw BL)) s:=by
 refine (kj (mb _) lg (akY yE 9 (by decide) gw P0 _ (Yk gw h.2)) (vs:= [_,_]) ⟨_,_,rfl,rfl,_,_,rfl,⟨#[_,_,_],rfl,_,_,rfl,rfl,_,_,rfl,rfl,_,_,rfl,rfl,rfl⟩,rfl⟩).mono ?_
 rintro e w' ⟨v,dz,β,rfl,hbl,ho⟩
 exact ⟨v,rfl,hbl,QW (fun e=>by have:=congrArg List.length e;simp at this;omega) ho⟩
theorem kM_{W:World}{v:Value}{B:Nat}{l:List aa}(hp:Pl l)(h0:l≠ [])(hl:l.length≤100000)(h:Ct W B (vC l) v):Calls Go.Proofs.Tryz.prog 190 #[v] W fun e W'=> ∃s,e= .returned s∧Below W.heap.size W W'∧Ct W' W.heap.size (vC l) s:=by
 refine (kj (mb _) lg (akW yE 9 (by decide) l _ (Yj hp hl)) (vs:= [_]) ⟨_,_,rfl,h.rep,rfl⟩).mono ?_
 rintro e w' ⟨v,dz,β,rfl,hbl,ho⟩
 exact ⟨v,rfl,hbl,QW h0 ho⟩
theorem kC_{W:World}{v:Value}{l:List aa}(h0:l≠ [])(hl:l.length≤100000)(h:dQ XP W (.sl l.length (ag.cells l)) v):Calls Go.Proofs.Tryz.prog 91 #[v] W fun e W'=> ∃s,e= .returned s∧Below W.heap.size W W'∧Ct W' W.heap.size (vC l) s:=by
 refine (kj (mb _) lg (oz yE 9 (by decide) l _ (nx l hl)) (vs:= [_]) ⟨_,_,rfl,h,rfl⟩).mono ?_
 rintro e w' ⟨v,dz,β,rfl,hbl,ho⟩
 exact ⟨v,rfl,hbl,QW h0 ho⟩
end Go.Proofs.YtobkkblijfhpoaaGreatDoor.Rp

namespace Go.Proofs.YtobkkblijfhpoaaGreatDoor.Rp
open Go.Proofs.YtobkkblijfhpoaaGreatDoor.Args
open Go Go.Proofs Go.RowKit Go.Proofs.YtobkkblijfhpoaaGreatDoor.D4 Go.Proofs.YtobkkblijfhpoaaGreatDoor.Pm
set_option linter.unusedVariables false
set_option linter.unusedSimpArgs false
set_option maxRecDepth 100000
theorem zj(x:aa)(l:List aa):vC (x::l)= .int .i64 x.cW:: .int .i64 x.bM.Flags:: .int .i64 x.bM.cz:: .int .i64 x.bM.b9::vC l:=by
 show (ag.enc x++ag.cells l).map oY=_
 rfl
theorem abJ(y:aa): ∀(row:List aa) (k:Nat),k<row.length→vC (row.set k y)=Ia (vC row) k [.int .i64 y.cW,.int .i64 y.bM.Flags,.int .i64 y.bM.cz,.int .i64 y.bM.b9]
 | [],k,h=>by simp at h
 | x::xs,0,_=>by
  show vC (y::xs)=_
  rw [zj,zj];rfl
 | x::xs,k+1,h=>by
  have ih:=abJ y xs k (by simpa using h)
  show vC (x::xs.set k y)=_
  rw [zj,ih,zj]
  unfold Ia
  rw [show (k+1)*4=k*4+4 by omega]
  rfl
theorem Un: ∀(l:List aa) (k:Nat),vC (l.drop k)=(vC l).drop (k*4)
 | l,0=>by simp
 | [],k+1=>by simp [vC,show ag.cells []= [] from rfl]
 | x::xs,k+1=>by
  rw [List.drop_succ_cons,Un xs k,zj,show (k+1)*4=k*4+4 by omega]
  rfl
theorem LB(gw:Nat)(l:List aa): ∀j,kE (fun i=>vC (dA gw l i)) j=vC (l.take (j*gw))
 | 0=>by simp [kE,vC,show ag.cells []= [] from rfl]
 | j+1=>by
  rw [Ib,LB gw l j,←abI]
  congr 1
  unfold dA
  have:=List.take_append_drop (j*gw) (l.take ((j+1)*gw))
  rw [List.take_take,Nat.min_eq_left (by rw [Nat.add_mul];omega)] at this
  exact this
theorem Nu(gw r k:Nat)(l:List aa)(y:aa)(hk:k<gw):dA gw (l.set (r*gw+k) y) r=(dA gw l r).set k y:=by
 unfold dA
 rw [List.take_set,List.drop_set,if_neg (by omega),Nat.add_sub_cancel_left]
theorem LC(gw r k i:Nat)(l:List aa)(y:aa)(hk:k<gw)(h:i≠r):dA gw (l.set (r*gw+k) y) i=dA gw l i:=by
 unfold dA
 rw [List.take_set,List.drop_set]
 by_cases hlt:r<i
 ·have:(r+1)*gw≤i*gw:=Nat.mul_le_mul_right _ hlt
  rw [Nat.add_mul,Nat.one_mul] at this
  rw [if_pos (by omega)]
 ·have:(i+1)*gw≤r*gw:=Nat.mul_le_mul_right _ (by omega)
  have h2:=this
  rw [Nat.add_mul,Nat.one_mul] at h2
  rw [if_neg (by omega),List.set_eq_of_length_le (by rw [List.length_drop,List.length_take];omega)]
theorem atB{gw n:Nat}{l:List aa}(h:Pl l):Pl (dA gw l n):=fun x hx=>h x (List.mem_of_mem_take (List.mem_of_mem_drop hx))
theorem Jd{l:List aa}(h:Pl l)(i:Nat)(a:Int)(ha:32≤a∧a≤126):Pl (l.set i ⟨a,P0⟩):=fun x hx=>by
 rcases List.mem_or_eq_of_mem_set hx with q | q
 ·exact h x q
 ·subst q;exact ⟨rfl,ha⟩
theorem Yl{l:List aa}{j:Nat}{d:PD}(h:(ag.cells l)[j]?=some d):(vC l)[j]?=some (oY d):=by unfold vC;rw [List.getElem?_map,h];rfl
theorem kR_{w:World}{gw gh b o n c:Nat}{l:List aa}(hs:Sl w l b o n c)(h1:1≤gw∧gw≤160)(h2:1≤gh∧gh≤60)(hc:l.length=gw*gh)(W:World)(hW:Below w.heap.size w W):
  Calls Go.Proofs.Tryz.prog 180 #[.agg #[.int .i64 gw,.int .i64 gh,.slice (some ⟨b,o,none⟩) n c]] W fun e W'=> ∃v vs,e= .returned v∧Below W.heap.size W W'∧oV W' W.heap.size v vs ((List.range gh).map fun i=>vC (dA gw l i)):=by
 have hs':=hs
 obtain ⟨q1,q2,q3,q4,q5⟩:=hs'
 have nJ:b<W.heap.size:=Nat.lt_of_lt_of_le q4 hW.size
 refine Ye W gw gh b o n c (fun i=>vC (dA gw l i)) h1 h2.2 (by omega) q2 q3 nJ fun W' j hW' hj=>?_
 have hlen:=ia gw gh l j hc hj
 have rW:=jc j gh gw hj
 rw [Nat.add_mul,Nat.one_mul] at rW
 refine kC_ (l:=dA gw l j) (fun e=>by rw [e] at hlen;simp at hlen;omega) (by omega) ?_
 have h9:dQ XP W' (.sl (dA gw l j).length (ag.cells (dA gw l j))) (.slice (some ⟨b,o+j*gw*4,none⟩) (dA gw l j).length (c-j*gw)):=by
  refine ⟨_,_,rfl,by omega,by omega,(fun e=>by cases e),.inr ⟨b,_,rfl,fun hx=>hx.elim,Nat.lt_of_lt_of_le nJ hW'.size,uN _ _ (iQ _) fun q d hd=>?_⟩⟩
  have hv:=Yl hd
  unfold dA at hv
  rw [Un,List.getElem?_drop] at hv
  have hv2:(vC l)[j*gw*4+q]?=some (oY d):=by
   have e:vC l=vC (l.take ((j+1)*gw))++vC (l.drop ((j+1)*gw)):=by rw [←abI,List.take_append_drop]
   rw [e,List.getElem?_append_left (by exact (List.getElem?_eq_some_iff.1 hv).1)]
   exact hv
  have hlt:=(List.getElem?_eq_some_iff.1 hv2).1
  obtain ⟨d2,uv⟩: ∃d2,(ag.cells l)[j*gw*4+q]?=some d2:=⟨_,List.getElem?_eq_getElem (by unfold vC at hlt;simpa using hlt)⟩
  have e2:=Yl uv
  rw [hv2] at e2
  have e3:oY d=oY d2:=Option.some.inj e2
  rw [e3,Nat.add_assoc]
  exact (Below.cell hW' (p:=⟨b,o+(j*gw*4+q),none⟩) nJ).trans ((Below.cell hW (p:=⟨b,o+(j*gw*4+q),none⟩) q4).trans (q5 _ _ uv))
 rw [hlen] at h9
 rwa [hlen]
end Go.Proofs.YtobkkblijfhpoaaGreatDoor.Rp

namespace Go.Proofs.YtobkkblijfhpoaaGreatDoor.Rp
open Go.Proofs.YtobkkblijfhpoaaGreatDoor.Args
open Go Go.Proofs Go.RowKit Go.Proofs.YtobkkblijfhpoaaGreatDoor.D4 Go.Proofs.YtobkkblijfhpoaaGreatDoor.Pm
set_option linter.unusedVariables false
set_option linter.unusedSimpArgs false
set_option maxRecDepth 100000
theorem QY{ρ ρ':Nat→List Value}{j:Nat}(h: ∀i,i<j→ρ i=ρ' i):kE ρ j=kE ρ' j:=by
 unfold kE
 rw [List.map_congr_left fun i hi=>h i (List.mem_range.1 hi)]
theorem abK{w:World}{gw gh b o n c:Nat}{l l':List aa}{R':Nat→List Value}(hs:Sl w l b o n c)(hp:Pl l)(hp':Pl l')(h1:1≤gw∧gw≤160)(h2:1≤gh∧gh≤60)(hc:l.length=gw*gh)(hc':l'.length=gw*gh)
  (hR: ∀i,i<gh→R' i=vC (dA gw l' i)):Ans w gw gh b o n c 0 0 0 (fun i=>vC (dA gw l i)) R' where
 kG:=kG_ hs hp h1 h2 hc
 kP:=fun W _=>kP_ W
 kR:=kR_ hs h1 h2 hc
 kM:=fun W v i B hB hct hi=>by
  have hlen:=ia gw gh l' i hc' hi
  rw [hR i hi] at hct ⊢
  exact kM_ (atB hp') (fun e=>by rw [e] at hlen;simp at hlen;omega) (by omega) hct
 kB:=kB_
 hR:=fun i hi=>by rw [hR i hi,AJ,ia gw gh l' i hc' hi]
 x9:=fun i hi=>by rw [hR i hi];exact atA _
theorem O7{gw gh:Nat}{l:List aa}{R':Nat→List Value}(hc:l.length=gw*gh)(hR: ∀i,i<gh→R' i=vC (dA gw l i)):kE R' gh=vC l:=by
 rw [QY hR,LB,List.take_of_length_le (by rw [hc,Nat.mul_comm];exact Nat.le_refl _)]
theorem O8{w:World}{gw gh b o n c r k:Nat}{l:List aa}{a:Int}(hs:Sl w l b o n c)(hp:Pl l)(h1:1≤gw∧gw≤160)(h2:1≤gh∧gh≤60)(hc:l.length=gw*gh)(hr:r<gh)(hk:k<gw)(ha:32≤a∧a≤126):
  Calls Go.Proofs.Tryz.prog 133 #[.agg #[.int .i64 gw,.int .i64 gh,.slice (some ⟨b,o,none⟩) n c],.int .i64 r,.int .i64 k,.int .i64 a,.agg #[.int .i64 0,.int .i64 0,.int .i64 0]] w fun e W=>
   ∃s,e= .returned (.tuple #[.agg #[.int .i64 gw,.int .i64 gh,s],.int .i64 0])∧Below w.heap.size w W∧W.ownsRow w.heap.size 100 4 s (gh*gw) (vC (l.set (r*gw+k) ⟨a,P0⟩)):=by
 have hR: ∀i,i<gh→Ue (fun i=>vC (dA gw l i)) r k [.int .i64 a,.int .i64 0,.int .i64 0,.int .i64 0] i=vC (dA gw (l.set (r*gw+k) ⟨a,P0⟩) i):=fun i hi=>by
  unfold Ue
  by_cases Yg:i=r
  ·subst Yg
   rw [if_pos rfl,Nu gw i k l _ hk,abJ _ _ _ (by rw [ia gw gh l i hc hi];exact hk)];rfl
  ·rw [if_neg Yg,LC gw r k i l _ hk Yg]
 have hc':(l.set (r*gw+k) ⟨a,P0⟩).length=gw*gh:=by rw [List.length_set];exact hc
 refine (Ns w gw gh b o n c r k a 0 0 0 (fun i=>vC (dA gw l i)) h1 h2 hr hk (by omega) (fun i hi=>by rw [AJ,ia gw gh l i hc hi]) (abK hs hp (Jd hp _ a ha) h1 h2 hc hc' hR) (fun W _=>kW_ ha W)).mono ?_
 rintro e W ⟨s,rfl,hb,ho⟩
 rw [O7 hc' hR] at ho
 exact ⟨s,rfl,hb,ho⟩
def yj(gw:Nat)(l:List aa):List aa:=l.drop gw++List.replicate gw BL
theorem ayo{gw:Nat}{l:List aa}(h:Pl l):Pl (yj gw l):=fun x hx=>by
 rcases List.mem_append.1 hx with q | q
 ·exact h x (List.mem_of_mem_drop q)
 ·rw [(List.mem_replicate.1 q).2];exact ⟨rfl,by decide,by decide⟩
theorem EO{w:World}{gw gh b o n c:Nat}{l:List aa}(hs:Sl w l b o n c)(hp:Pl l)(h1:1≤gw∧gw≤160)(h2:1≤gh∧gh≤60)(hc:l.length=gw*gh):
  Calls Go.Proofs.Tryz.prog 186 #[.agg #[.int .i64 gw,.int .i64 gh,.slice (some ⟨b,o,none⟩) n c],.int .i64 0,.int .i64 gh,.int .i64 1,.agg #[.int .i64 0,.int .i64 0,.int .i64 0]] w fun e W=>
   ∃s,e= .returned (.tuple #[.agg #[.int .i64 gw,.int .i64 gh,s],.int .i64 0])∧Below w.heap.size w W∧W.ownsRow w.heap.size 100 4 s (gh*gw) (vC (yj gw l)):=by
 have Gt:gw≤gw*gh:=Nat.le_mul_of_pos_right _ (by omega)
 have hc':(yj gw l).length=gw*gh:=by
  unfold yj;rw [List.length_append,List.length_drop,List.length_replicate,hc];omega
 have hR: ∀i,i<gh→QN gh (vC (List.replicate gw BL)) (fun i=>vC (dA gw l i)) i=vC (dA gw (yj gw l) i):=fun i hi=>by
  unfold QN
  have hm:=jc i gh gw hi
  have hm2:=hm
  rw [Nat.add_mul,Nat.one_mul] at hm2
  by_cases hl:i+1<gh
  ·rw [if_pos hl]
   have hn:=jc (i+1) gh gw hl
   have hn2:=hn
   rw [Nat.add_mul,Nat.one_mul] at hn2
   unfold dA yj
   rw [List.take_append_of_le_length (by rw [List.length_drop,hc];rw [Nat.add_mul,Nat.one_mul] at hn2 ⊢;omega)]
   rw [List.take_drop,List.drop_drop]
   have e1:(i+1+1)*gw=(i+1)*gw+gw:=by rw [Nat.add_mul (i+1) 1,Nat.one_mul]
   have e2:(i+1)*gw=i*gw+gw:=by rw [Nat.add_mul i 1,Nat.one_mul]
   show vC (List.drop ((i+1)*gw) (List.take ((i+1+1)*gw) l))=_
   rw [e1,e2,Nat.add_comm gw (i*gw),Nat.add_comm gw (i*gw+gw)]
  ·rw [if_neg hl]
   have he:i+1=gh:=by omega
   congr 1
   unfold dA yj
   have hlen:(l.drop gw).length=i*gw:=by
    rw [List.length_drop,hc,←he,Nat.mul_comm,Nat.add_mul,Nat.one_mul];omega
   rw [List.take_of_length_le (by rw [List.length_append,hlen,List.length_replicate,Nat.add_mul,Nat.one_mul];exact Nat.le_refl _),←hlen,List.drop_left]
 refine (G5 w gw gh b o n c 0 0 0 (fun i=>vC (dA gw l i)) (vC (List.replicate gw BL)) h1 h2 (abK hs hp (ayo hp) h1 h2 hc hc' hR) (fun W _=>kL_ gw h1 W)).mono ?_
 rintro e W ⟨s,rfl,hb,ho⟩
 rw [O7 hc' hR] at ho
 exact ⟨s,rfl,hb,ho⟩
end Go.Proofs.YtobkkblijfhpoaaGreatDoor.Rp

namespace Go.Proofs.YtobkkblijfhpoaaGreatDoor.Pm
open Go Go.Proofs Go.RowKit Go.Proofs.YtobkkblijfhpoaaGreatDoor.D4
open Go.Proofs.YtobkkblijfhpoaaGreatDoor.Rp (Pl P0 Sl vC O8 EO oY O4 uN iQ BL AJ)
set_option linter.unusedVariables false
abbrev RC:=Rp.ag
def Ym:List PD→Bool
 | []=>true
 | .int .i64 a:: .int .i64 x:: .int .i64 y:: .int .i64 z::r=>(decide (32≤a)&&decide (a≤126)&&(decide (x=0)&&decide (y=0)&&decide (z=0)))&&Ym r
 | _=>false
theorem abL: ∀cs:List PD,Ym cs=true→ ∃l,cs=RC.cells l∧Pl l
 | [],_=>⟨[],rfl,fun x hx=>by simp at hx⟩
 | .int .i64 a:: .int .i64 x:: .int .i64 y:: .int .i64 z::r,h=>by
  unfold Ym at h
  simp only [Bool.and_eq_true,decide_eq_true_eq] at h
  obtain ⟨⟨⟨h1,h2⟩,⟨h3,h4⟩,h5⟩,h6⟩:=h
  obtain ⟨l,e,hl⟩:=abL r h6
  subst h3 h4 h5
  refine ⟨⟨a,P0⟩::l,?_,fun x hx=>?_⟩
  ·show _=RC.enc ⟨a,P0⟩++RC.cells l
   rw [←e];rfl
  ·rcases List.mem_cons.1 hx with q | q
   ·subst q;exact ⟨rfl,h1,h2⟩
   ·exact hl x q
def zc(a:Int):List PD:= [.int .i64 a,.int .i64 0,.int .i64 0,.int .i64 0]
def Yn(gw gh:Int)(n:Nat)(cs:List PD):PV:= .bZ [.agg [.d (.int .i64 gw),.d (.int .i64 gh),.d (.sl n cs)],.d (.int .i64 0)]
def LD(gw gh:Int)(n:Nat)(cs:List PD):Bool:=(decide (1≤gw)&&decide (gw≤160)&&(decide (1≤gh)&&decide (gh≤60)))&&(decide ((n:Int)=gw*gh)&&(decide (cs.length=n*4)&&Ym cs))
def Uo:List PV→Option PV
 | [.agg [.d (.int .i64 gw),.d (.int .i64 gh),.d (.sl n cs)],.d (.int .i64 r),.d (.int .i64 k),.d (.int .i64 a),.agg [.d (.int .i64 x),.d (.int .i64 y),.d (.int .i64 z)]]=>
  if LD gw gh n cs=true∧(x=0∧y=0∧z=0)∧(32≤a∧a≤126)∧(0≤r∧r<gh)∧0≤k∧k<gw then some (Yn gw gh n (cs.take ((r*gw+k).toNat*4)++(zc a++cs.drop (((r*gw+k).toNat+1)*4)))) else none
 | _=>none
def zk:List PV→Option PV
 | [.agg [.d (.int .i64 gw),.d (.int .i64 gh),.d (.sl n cs)],.d (.int .i64 t),.d (.int .i64 b),.d (.int .i64 m),.agg [.d (.int .i64 x),.d (.int .i64 y),.d (.int .i64 z)]]=>
  if LD gw gh n cs=true∧(x=0∧y=0∧z=0)∧t=0∧b=gh∧m=1 then some (Yn gw gh n (cs.drop (gw.toNat*4)++(List.replicate gw.toNat (zc 32)).flatten)) else none
 | _=>none
theorem ak_{E:Nat→Prop}{w:World}{n:Nat}{l:List Rp.aa}{v:Value}(h:dQ E w (.sl n (RC.cells l)) v)(hn:l.length=n)(h0:0<n): ∃b o c,v= .slice (some ⟨b,o,none⟩) n c∧Sl w l b o n c:=by
 obtain ⟨a,c,rfl,h1,h2,h3,h4⟩:=h
 rcases h4 with h4 | ⟨b,o,rfl,_,hb,hc⟩
 ·have hl:=RC.dU l
  rw [h4] at hl
  have:RC.k=4:=rfl
  rw [this] at hl;simp at hl;omega
 ·refine ⟨b,o,c,rfl,hn.symm,h1,h2,hb,fun j d hd=>?_⟩
  obtain ⟨v,p1,p2⟩:=hc.get _ _ hd
  rw [p1,Rp.O5 ((List.all_eq_true.1 (iQ l)) d (List.mem_of_getElem? hd)) p2]
theorem ala{W:World}{B n:Nat}{l:List Rp.aa}{s:Value}(hn:l.length=n)(h0:0<n)(h:W.ownsRow B 100 4 s n (vC l)):dQ (fun b=>b<B) W (.sl n (RC.cells l)) s:=by
 rcases h.2 with ⟨_,e⟩ | ⟨g,cap,cur,e1,e2,e3,e4,e5,e6,e7⟩
 ·omega
 ·refine ⟨_,_,e1,e4,e5,(fun e=>by cases e),.inr ⟨g,0,rfl,Nat.not_lt.2 e2,(Array.getElem?_eq_some_iff.1 e3).1,uN _ _ (iQ l) fun j d hd=>?_⟩⟩
  rw [cell_of_row _ _ _ _ _ _ e3,Nat.zero_add]
  have hv:=Rp.Yl hd
  rw [←e7,List.getElem?_take] at hv
  split at hv
  ·simpa using hv
  ·cases hv
theorem Je{gw gh:Int}{n:Nat}{cs:List PD}(h:LD gw gh n cs=true): ∃(W H:Nat) (l:List Rp.aa),gw=W∧gh=H∧cs=RC.cells l∧Pl l∧(1≤W∧W≤160)∧(1≤H∧H≤60)∧l.length=n∧n=W*H:=by
 unfold LD at h
 simp only [Bool.and_eq_true,decide_eq_true_eq] at h
 obtain ⟨⟨⟨h1,h2⟩,h3,h4⟩,h5,h6,h7⟩:=h
 obtain ⟨l,rfl,hp⟩:=abL cs h7
 refine ⟨gw.toNat,gh.toNat,l,by omega,by omega,rfl,hp,by omega,by omega,?_,?_⟩
 ·have:=RC.dU l
  have hk:RC.k=4:=rfl
  rw [hk] at this;omega
 ·have e1:gw=(gw.toNat:Int):=by omega
  have e2:gh=(gh.toNat:Int):=by omega
  rw [e1,e2,←Int.natCast_mul] at h5
  exact_mod_cast h5
theorem O9{w w':World}{W H n:Nat}{l:List Rp.aa}{s:Value}(hn:l.length=n)(h0:0<n)(ho:w'.ownsRow w.heap.size 100 4 s n (vC l)):
  cT (fun b=>b<w.heap.size) w' (fun _ _=>False) (Yn W H n (RC.cells l)) (.tuple #[.agg #[.int .i64 W,.int .i64 H,s],.int .i64 0]):=
 ⟨#[_,_],rfl,_,_,rfl,⟨#[_,_,_],rfl,_,_,rfl,rfl,_,_,rfl,rfl,_,_,rfl,ala hn h0 ho,rfl⟩,_,_,rfl,rfl,rfl⟩
theorem QZ{l:List Rp.aa}{i:Nat}(a:Int)(h:i<l.length):(RC.cells l).take (i*4)++(zc a++(RC.cells l).drop ((i+1)*4))=RC.cells (l.set i ⟨a,P0⟩):=by
 obtain ⟨y,hy⟩: ∃y,l[i]?=some y:=⟨_,List.getElem?_eq_getElem h⟩
 rw [RC.vV hy,←RC.gX,←RC.gi];rfl
theorem afU(n:Nat):(List.replicate n (zc 32)).flatten=RC.cells (List.replicate n BL):=by
 induction n with
 | zero=>rfl
 | succ n ih=>rw [List.replicate_succ,List.replicate_succ,List.flatten_cons,ih];rfl
theorem alb{W:World}{Φ:Nat→cJ}(he:gZ Go.Proofs.Tryz.prog 133):tL Go.Proofs.Tryz.prog W Φ (133,Uo):=by
 refine ⟨he,fun args r hr=>?_⟩
 simp only at hr
 unfold Uo at hr
 split at hr
 ·rename_i gw gh n cs r0 k a x y z
  split at hr
  ·rename_i h
   obtain ⟨h,⟨rfl,rfl,rfl⟩,ha,hr0,pU⟩:=h
   cases hr
   obtain ⟨Wd,Hg,l,rfl,rfl,rfl,hp,h1,h2,hn,G8⟩:=Je h
   obtain ⟨rn,rfl⟩: ∃q:Nat,r0=q:=⟨r0.toNat,by omega⟩
   obtain ⟨kn,rfl⟩: ∃q:Nat,k=q:=⟨k.toNat,by omega⟩
   refine fun E w aS R vs hL hE hargs=>?_
   obtain ⟨v1,r1,rfl,⟨q,rfl,x1,t1,e1,k1,x2,t2,e2,k2,x3,t3,e3,k3,e4⟩,v2,r2,rfl,b2,v3,r3,rfl,b3,v4,r4,rfl,b4,v5,r5,rfl,⟨p,rfl,y1,u1,d1,j1,y2,u2,d2,j2,y3,u3,d3,j3,d4⟩,rfl⟩:=hargs
   obtain ⟨q⟩:=q
   obtain ⟨p⟩:=p
   have k1:x1= .int .i64 Wd:=k1
   have k2:x2= .int .i64 Hg:=k2
   have e1:q=x1::t1:=e1
   have d1:p=y1::u1:=d1
   have j1:y1= .int .i64 0:=j1
   have j2:y2= .int .i64 0:=j2
   have j3:y3= .int .i64 0:=j3
   have e4:t3= []:=e4
   have d4:u3= []:=d4
   subst k1 k2 j1 j2 j3 e4 d4 e3 e2 e1 d3 d2 d1
   have h0:0<n:=by rw [G8];exact Nat.mul_pos (by omega) (by omega)
   obtain ⟨b,o,c,rfl,hs⟩:=ak_ k3 hn h0
   have b2:v2= .int .i64 rn:=b2
   have b3:v3= .int .i64 kn:=b3
   have b4:v4= .int .i64 a:=b4
   subst b2 b3 b4
   refine (O8 hs hp h1 h2 (by rw [hn,G8]) (by omega) (by omega) ha).mono ?_
   rintro e w' ⟨s,rfl,hb,ho⟩
   have hi:((rn:Int)*(Wd:Int)+(kn:Int)).toNat=rn*Wd+kn:=by
    have:(rn:Int)*(Wd:Int)+(kn:Int)=((rn*Wd+kn:Nat):Int):=by push_cast;rfl
    rw [this];exact Int.toNat_natCast _
   have hlt:rn*Wd+kn<l.length:=by
    rw [hn,G8]
    have h9:(rn+1)*Wd≤Hg*Wd:=Nat.mul_le_mul_right _ (by omega)
    rw [Nat.add_mul,Nat.one_mul,Nat.mul_comm Hg] at h9;omega
   rw [hi,QZ a hlt]
   exact ⟨_,rfl,O9 (by rw [List.length_set];exact hn) h0 (by rw [G8,Nat.mul_comm];exact ho),hb⟩
  ·cases hr
 ·cases hr
theorem Uq{W:World}{Φ:Nat→cJ}(he:gZ Go.Proofs.Tryz.prog 186):tL Go.Proofs.Tryz.prog W Φ (186,zk):=by
 refine ⟨he,fun args r hr=>?_⟩
 simp only at hr
 unfold zk at hr
 split at hr
 ·rename_i gw gh n cs r0 k a x y z
  split at hr
  ·rename_i h
   obtain ⟨h,⟨rfl,rfl,rfl⟩,rfl,rfl,rfl⟩:=h
   cases hr
   obtain ⟨Wd,Hg,l,rfl,rfl,rfl,hp,h1,h2,hn,G8⟩:=Je h
   refine fun E w aS R vs hL hE hargs=>?_
   obtain ⟨v1,r1,rfl,⟨q,rfl,x1,t1,e1,k1,x2,t2,e2,k2,x3,t3,e3,k3,e4⟩,v2,r2,rfl,b2,v3,r3,rfl,b3,v4,r4,rfl,b4,v5,r5,rfl,⟨p,rfl,y1,u1,d1,j1,y2,u2,d2,j2,y3,u3,d3,j3,d4⟩,rfl⟩:=hargs
   obtain ⟨q⟩:=q
   obtain ⟨p⟩:=p
   have k1:x1= .int .i64 Wd:=k1
   have k2:x2= .int .i64 Hg:=k2
   have e1:q=x1::t1:=e1
   have d1:p=y1::u1:=d1
   have j1:y1= .int .i64 0:=j1
   have j2:y2= .int .i64 0:=j2
   have j3:y3= .int .i64 0:=j3
   have e4:t3= []:=e4
   have d4:u3= []:=d4
   subst k1 k2 j1 j2 j3 e4 d4 e3 e2 e1 d3 d2 d1
   have h0:0<n:=by rw [G8];exact Nat.mul_pos (by omega) (by omega)
   obtain ⟨b,o,c,rfl,hs⟩:=ak_ k3 hn h0
   have b2:v2= .int .i64 0:=b2
   have b3:v3= .int .i64 Hg:=b3
   have b4:v4= .int .i64 1:=b4
   subst b2 b3 b4
   refine (EO hs hp h1 h2 (by rw [hn,G8])).mono ?_
   rintro e w' ⟨s,rfl,hb,ho⟩
   have hle:Wd≤l.length:=by rw [hn,G8];exact Nat.le_mul_of_pos_right _ (by omega)
   have hu:(RC.cells l).drop (((Wd:Nat):Int).toNat*4)++(List.replicate ((Wd:Nat):Int).toNat (zc 32)).flatten=RC.cells (Rp.yj Wd l):=by
    rw [Int.toNat_natCast,afU,show (RC.cells l).drop (Wd*4)=RC.cells (l.drop Wd) from RC.gi l Wd,←RC.l9];rfl
   rw [hu]
   exact ⟨_,rfl,O9 (by unfold Rp.yj;rw [List.length_append,List.length_drop,List.length_replicate];omega) h0 (by rw [G8,Nat.mul_comm];exact ho),hb⟩
  ·cases hr
 ·cases hr
theorem Yp{α:Type}(E:dJ α)(hk:E.k=4){l:List α}{i:Nat}(y:α)(h:i<l.length):(E.cells l).take (i*4)++(E.enc y++(E.cells l).drop ((i+1)*4))=E.cells (l.set i y):=by
 obtain ⟨z,hz⟩: ∃z,l[i]?=some z:=⟨_,List.getElem?_eq_getElem h⟩
 rw [E.vV hz,←E.gX,←E.gi,hk]
theorem atD{gw gh r k:Int}{n:Nat}{cs:List PD}(h:LD gw gh n cs=true)(hr:0≤r∧r<gh)(hk:0≤k∧k<gw):(r*gw+k).toNat<n:=by
 obtain ⟨W,H,l,rfl,rfl,rfl,hp,h1,h2,hn,G8⟩:=Je h
 obtain ⟨rn,rfl⟩: ∃q:Nat,r=q:=⟨r.toNat,by omega⟩
 obtain ⟨kn,rfl⟩: ∃q:Nat,k=q:=⟨k.toNat,by omega⟩
 have e:(rn:Int)*(W:Int)+(kn:Int)=((rn*W+kn:Nat):Int):=by push_cast;rfl
 rw [e,Int.toNat_natCast,G8]
 have h9:(rn+1)*W≤H*W:=Nat.mul_le_mul_right _ (by omega)
 rw [Nat.add_mul,Nat.one_mul,Nat.mul_comm H] at h9;omega
theorem alc{α:Type}(E:dJ α)(hk:E.k=4){l:List α}{gw gh r k a:Int}(y:α)(hy:E.enc y=zc a)(h:LD gw gh l.length (E.cells l)=true)(h2:(32≤a∧a≤126)∧(0≤r∧r<gh)∧0≤k∧k<gw):
  Uo [.agg [.d (.int .i64 gw),.d (.int .i64 gh),.d (.sl l.length (E.cells l))],.d (.int .i64 r),.d (.int .i64 k),.d (.int .i64 a),.agg [.d (.int .i64 0),.d (.int .i64 0),.d (.int .i64 0)]]
   =some (.bZ [.agg [.d (.int .i64 gw),.d (.int .i64 gh),.d (.sl (l.set (r*gw+k).toNat y).length (E.cells (l.set (r*gw+k).toNat y)))],.d (.int .i64 0)]):=by
 unfold Uo
 simp only
 rw [if_pos ⟨h,⟨trivial,trivial,trivial⟩,h2⟩,←hy,Yp E hk y (atD h h2.2.1 h2.2.2),List.length_set]
 rfl
theorem Ur{α:Type}(E:dJ α)(hk:E.k=4){l:List α}{gw gh t b m:Int}(y:α)(hy:E.enc y=zc 32)(h:LD gw gh l.length (E.cells l)=true)(h2:t=0∧b=gh∧m=1):
  zk [.agg [.d (.int .i64 gw),.d (.int .i64 gh),.d (.sl l.length (E.cells l))],.d (.int .i64 t),.d (.int .i64 b),.d (.int .i64 m),.agg [.d (.int .i64 0),.d (.int .i64 0),.d (.int .i64 0)]]
   =some (.bZ [.agg [.d (.int .i64 gw),.d (.int .i64 gh),.d (.sl (l.drop gw.toNat++List.replicate gw.toNat y).length (E.cells (l.drop gw.toNat++List.replicate gw.toNat y)))],.d (.int .i64 0)]):=by
 have hle:gw.toNat≤l.length:=by
  obtain ⟨W,H,l',rfl,rfl,e,hp,h1,h3,hn,G8⟩:=Je h
  rw [Int.toNat_natCast,G8];exact Nat.le_mul_of_pos_right _ (by omega)
 have dG: ∀n:Nat,(List.replicate n (zc 32)).flatten=E.cells (List.replicate n y):=fun n=>by
  induction n with
  | zero=>rfl
  | succ n ih=>rw [List.replicate_succ,List.replicate_succ,List.flatten_cons,ih,←hy];rfl
 have hd:=E.gi l gw.toNat
 rw [hk] at hd
 unfold zk
 simp only
 rw [if_pos ⟨h,⟨trivial,trivial,trivial⟩,h2⟩,hd,dG,←E.l9,List.length_append,List.length_drop,List.length_replicate,Nat.sub_add_cancel hle]
 rfl
def awD(P:Program)(f:Nat):Bool:=match P.funcs[f]? with
 | some fn=>match fn.body with
  | some _=> !(fn.name== "runtime.NumGoroutine")
  | none=>false
 | none=>false
theorem Ic{P:Program}{f:Nat}(h:awD P f=true):gZ P f:=by
 unfold awD at h
 split at h
 ·rename_i fn hfn
  split at h
  ·rename_i c yy
   intro args w
   have hname:(fn.name== "runtime.NumGoroutine")=false:=by simpa using h
   simp only [callFunc,Sem.run_bind,run_program,Result.andThen_ok,hfn,yy]
   simp [hname]
  ·cases h
 ·cases h
end Go.Proofs.YtobkkblijfhpoaaGreatDoor.Pm

