/- sOf usual_ok blanksG blk_rt size_ok cloneG check_ok gcode_ok known_ok pen_ok pen0 mkL_len mkL_cx loop_to loop_scan inR_nat within_ok qchk_eq six u8_5 lone_ok width_ok wd32 wd_1 cx_idx cloneR repeat_ok rep_mkL blank_row sub_nat scrollin_ok rowv_ok gcode_ok row_ok rowL_len cx_ext part_nat widthR_ok rows_ok btw_ok same_grid same_cells: what the typed functions compute, and the laws. -/
import Derived.Test.YtobkkblijfhpoaaGreatDoorDCpZ
import Derived.Test.YtobkkblijfhpoaaGreatDoorBas
namespace Go.Proofs.YtobkkblijfhpoaaGreatDoor.Pm
open Go.Proofs.YtobkkblijfhpoaaGreatDoor.Args
open Go.ChangeShapes Go.WideShapes Go.ChangeAt Go.RowKit
set_option linter.unusedVariables false
set_option linter.unusedSimpArgs false
set_option maxRecDepth 100000
theorem fX(i n:Nat)(h:i<n):iJ (i:Int) n=some i:=by unfold iJ;rw [if_pos (by omega)];simp
theorem fI{σ ρ:Type}{body:σ→Option (σ⊕ρ)}(f:Nat→σ)(r:ρ)(n:Nat)(hn:body (f n)=some (.inr r)): ∀k,k≤n→(∀i,k≤i→i<n→body (f i)=some (.inl (f (i+1))))→bR body (f k)=some r:=by
 intro k hk h
 induction hd:n-k generalizing k with
 | zero=>
  have:k=n:=by omega
  subst this;exact eC hn
 | succ d ih=>exact gI (h k (by omega) (by omega)) (ih (k+1) (by omega) (fun i h1 h2=>h i (by omega) h2) (by omega))
theorem oa(P:Nat→Bool): ∀n,(∀i,i<n→P i=true)∨ ∃k,k<n∧P k=false∧ ∀i,i<k→P i=true
 | 0=> .inl fun i h=>absurd h (by omega)
 | n+1=>by
  rcases oa P n with h | ⟨k,h1,h2,h3⟩
  ·cases hp:P n with
   | true=>exact .inl fun i hi=>by rcases Nat.lt_succ_iff_lt_or_eq.1 hi with h' | rfl;exact h i h';exact hp
   | false=>exact .inr ⟨n,by omega,hp,h⟩
  ·exact .inr ⟨k,by omega,h2,h3⟩
theorem kH{σ ρ:Type}{body:σ→Option (σ⊕ρ)}(f:Nat→σ)(r0 r1:ρ)(n:Nat)(P:Nat→Bool)(h1: ∀i,i<n→P i=true→body (f i)=some (.inl (f (i+1))))(h2: ∀i,i<n→P i=false→body (f i)=some (.inr r1))
  (h0:body (f n)=some (.inr r0)):bR body (f 0)=some (if∀i,i<n→P i=true then r0 else r1):=by
 rcases oa P n with h | ⟨k,hk,hb,hg⟩
 ·rw [if_pos h];exact fI f r0 n h0 0 (by omega) fun i _ hi=>h1 i hi (h i hi)
 ·rw [if_neg (fun h=>by rw [h k hk] at hb;cases hb)]
  exact fI f r1 k (h2 k hk hb) 0 (by omega) fun i _ hi=>h1 i (by omega) (hg i hi)
theorem r9(i:Nat)(h:i<1000000000):IntKind.i64.wrap ((i:Int)+1)=((i+1:Nat):Int):=by rw [gY _ (by omega)];omega
theorem dt{p:Prop} [Decidable p](h:p):decide p=true:=decide_eq_true h
theorem df{p:Prop} [Decidable p](h: ¬p):decide p=false:=decide_eq_false h
theorem cZ{α:Type}{b:Bool}{x y:α}(h:b=true):(bif b then x else y)=x:=by rw [h,ct]
theorem dK{α:Type}{b:Bool}{x y:α}(h:b=false):(bif b then x else y)=y:=by rw [h,cf]
theorem uM{α:Type}(l:List α)(i:Nat)(z:α)(h:i<l.length):idx l (i:Int)=some (l.getD i z):=by
 unfold idx;rw [if_pos (by omega)];simp [h]
def hit(a:Int)(x:Int×Int):Bool:=decide (x.1≤a)&&decide (a≤x.2)
theorem arN(a:Int)(l:List (Int×Int))(hl:l.length≤1000):f194 a l=some (l.any (hit a)):=by
 unfold f194
 have h:=kH (body:=rj a l) (fun i=>(i:Int)) (.inl ()) (.inr true) l.length (fun i=> !(hit a (l.getD i (0,0)))) ?_ ?_ ?_
 ·rw [show ((0:Nat):Int)=0 from rfl] at h
  rw [h,bs]
  by_cases hp: ∀i,i<l.length→(!(hit a (l.getD i (0,0))))=true
  ·rw [if_pos hp]
   show some false=_
   have:l.any (hit a)=false:=by
    rw [List.any_eq_false]
    intro x hx
    obtain ⟨i,hi,rfl⟩:=List.getElem_of_mem hx
    have:=hp i hi
    simp [hi] at this
    simp [this]
   rw [this]
  ·rw [if_neg hp]
   show some true=_
   have:l.any (hit a)=true:=by
    rw [List.any_eq_true]
    rcases oa (fun i=> !(hit a (l.getD i (0,0)))) l.length with h | ⟨k,hk,hb,_⟩
    ·exact absurd h hp
    ·refine ⟨l[k],List.getElem_mem hk,?_⟩
     simp [hk] at hb
     exact hb
   rw [this]
 ·intro i hi hp
  unfold rj kJ o7
  simp only [hit,Bool.not_eq_true',Bool.and_eq_false_imp,decide_eq_true_eq,decide_eq_false_iff_not] at hp
  rw [cZ (dt (by omega)),ct,uM l i (0,0) hi,bs]
  by_cases h1:(l.getD i (0,0)).1≤a
  ·rw [cZ (dt h1),dK (df (hp h1)),r9 i (by omega)]
  ·rw [dK (df h1),r9 i (by omega)]
 ·intro i hi hp
  unfold rj kJ o7
  simp only [hit,Bool.not_eq_false',Bool.and_eq_true,decide_eq_true_eq] at hp
  rw [cZ (dt (by omega)),ct,uM l i (0,0) hi,bs,cZ (dt hp.1),cZ (dt hp.2)]
 ·unfold rj kJ
  rw [dK (df (by omega)),cf]
def oc:List (Int×Int):= [(0,31),(127,159),(768,879),(8203,8207),(55296,57343),(65024,65039)]
def Et:List (Int×Int):= [(4352,4447),(11904,12350),(12353,19903),(19968,42191),(44032,55203),(63744,64255),(65072,65135),(65280,65376),(65504,65510),(127744,128591),(129280,129535),(131072,262141)]
def wd(a:Int):Int:=if a<0∨1114111<a∨oc.any (hit a)=true then 0 else if Et.any (hit a)=true then 2 else 1
theorem oy(a:Int):f146 a=some (wd a):=by
 unfold f146 uX wd
 rw [arN a _ (by decide),arN a _ (by decide)]
 simp only [bs]
 rw [show ([(0,31),(127,159),(768,879),(8203,8207),(55296,57343),(65024,65039)]:List (Int×Int))=oc from rfl,
  show ([(4352,4447),(11904,12350),(12353,19903),(19968,42191),(44032,55203),(63744,64255),(65072,65135),(65280,65376),(65504,65510),(127744,128591),(129280,129535),(131072,262141)]:List (Int×Int))=Et from rfl]
 by_cases h1:a<0
 ·rw [cZ (dt h1),ct,if_pos (.inl h1)]
 ·rw [dK (df h1)]
  by_cases h2:1114111<a
  ·rw [cZ (dt h2),ct,if_pos (.inr (.inl h2))]
  ·rw [dK (df h2)]
   cases h3:oc.any (hit a) with
   | true=>rw [ct,if_pos (.inr (.inr rfl))]
   | false=>
    rw [cf,if_neg (by simp [h1,h2])]
    cases h4:Et.any (hit a) with
    | true=>rw [ct,if_pos rfl]
    | false=>rw [cf,if_neg (by simp)]
theorem arM:wd 32=1:=by decide
def jC(a:Int)(p:Int)(e:Int×Int):Int:=if e.1≤a then e.2 else p
def iP:List (Int×Int):= [(0,0),(32,1),(127,0),(160,1),(768,0),(880,1),(4352,2),(4448,1),(8203,0),(8208,1),(11904,2),(12351,1),(12353,2),(19904,1),(19968,2),(42192,1),(44032,2),(55204,1),(63744,2),(64256,1),(65024,0),(65040,1),(65072,2),(65136,1),(65280,2),(65377,1),(65504,2),(65511,1),(127744,2),(128592,1),(129280,2),(129536,1),(131072,2),(262142,1)]
theorem jD(a lo hi:Int):f127 a lo hi=some (decide (lo≤a)&&decide (a≤hi)):=by
 unfold f127
 cases decide (lo≤a)<;>cases decide (a≤hi)<;>rfl
theorem Lp(a:Int):f178 a=some ((decide (0≤a)&&decide (a≤55295)) || (decide (57344≤a)&&decide (a≤1114111))):=by
 unfold f178
 rw [jD,bs,jD,bs]
 cases (decide (0≤a)&&decide (a≤55295))<;>simp [ct,cf]
theorem G6:iP.length=34:=rfl
theorem wm(a:Int):bR (ij a) (0,0)=some (iP.foldl (jC a) 0):=by
 have h:=fI (body:=ij a) (fun i=>((iP.take i).foldl (jC a) 0,(i:Int))) (iP.foldl (jC a) 0) 34 ?_ 0 (by omega) ?_
 ·exact h
 ·unfold ij fH
  simp only []
  rw [dK (df (by simp)),cf]
  rfl
 ·intro i _ hi
  unfold ij fH iO
  rw [show ([(0,0),(32,1),(127,0),(160,1),(768,0),(880,1),(4352,2),(4448,1),(8203,0),(8208,1),(11904,2),(12351,1),(12353,2),(19904,1),(19968,2),(42192,1),(44032,2),(55204,1),(63744,2),(64256,1),(65024,0),(65040,1),(65072,2),(65136,1),(65280,2),(65377,1),(65504,2),(65511,1),(127744,2),(128592,1),(129280,2),(129536,1),(131072,2),(262142,1)]:List (Int×Int))=iP from rfl]
  dsimp only []
  rw [G6]
  have ht:iP[i]?=some (iP.getD i (0,0)):=by
   have:i<iP.length:=hi
   simp [this]
  rw [cZ (dt (by omega)),ct,fX i 34 hi,bs,ht,bs,r9 i (by omega)]
  have e:(iP.take (i+1)).foldl (jC a) 0=jC a ((iP.take i).foldl (jC a) 0) (iP.getD i (0,0)):=by
   rw [List.take_add_one,ht,List.foldl_append];rfl
  rw [e]
  unfold jC
  by_cases h:(iP.getD i (0,0)).1≤a
  ·rw [cZ (dt h),if_pos h]
  ·rw [dK (df h),if_neg h]
theorem C1(l:List (Int×Int))(a lo hi:Int)(h:(l.all fun x=>decide (hi<x.1) || decide (x.2<lo))=true)(h1:lo≤a)(h2:a≤hi):l.any (hit a)=false:=by
 rw [List.any_eq_false]
 intro x hx
 have:=List.all_eq_true.1 h x hx
 simp only [Bool.or_eq_true,decide_eq_true_eq] at this
 simp only [hit,Bool.and_eq_true,decide_eq_true_eq];omega
theorem Lr(l:List (Int×Int))(a lo hi:Int)(h:(l.any fun x=>decide (x.1≤lo)&&decide (hi≤x.2))=true)(h1:lo≤a)(h2:a≤hi):l.any (hit a)=true:=by
 obtain ⟨x,hx,hp⟩:=List.any_eq_true.1 h
 simp only [Bool.and_eq_true,decide_eq_true_eq] at hp
 rw [List.any_eq_true]
 refine ⟨x,hx,?_⟩
 simp only [hit,Bool.and_eq_true,decide_eq_true_eq];omega
theorem y_(a lo hi:Int)(h:(oc.any fun x=>decide (x.1≤lo)&&decide (hi≤x.2))=true)(h1:lo≤a)(h2:a≤hi):0=wd a:=by
 unfold wd;rw [if_pos (.inr (.inr (Lr _ a lo hi h h1 h2)))]
theorem jL(a lo hi:Int)(h:((oc.all fun x=>decide (hi<x.1) || decide (x.2<lo))&&(Et.any fun x=>decide (x.1≤lo)&&decide (hi≤x.2)))=true)(h1:lo≤a)(h2:a≤hi)(h3:0≤lo)(h4:hi≤1114111):2=wd a:=by
 rw [Bool.and_eq_true] at h
 unfold wd;rw [C1 _ a lo hi h.1 h1 h2,Lr _ a lo hi h.2 h1 h2,if_neg (by rintro (q | q | q);omega;omega;cases q),if_pos rfl]
theorem fM(a lo hi:Int)(h:((oc.all fun x=>decide (hi<x.1) || decide (x.2<lo))&&(Et.all fun x=>decide (hi<x.1) || decide (x.2<lo)))=true)(h1:lo≤a)(h2:a≤hi)(h3:0≤lo)(h4:hi≤1114111):1=wd a:=by
 rw [Bool.and_eq_true] at h
 unfold wd;rw [C1 _ a lo hi h.1 h1 h2,C1 _ a lo hi h.2 h1 h2,if_neg (by rintro (q | q | q);omega;omega;cases q),if_neg (by intro q;cases q)]
theorem QT(a:Int)(h0:0≤a)(h1:a≤1114111)(hs: ¬(55296≤a∧a≤57343)):iP.foldl (jC a) 0=wd a:=by
 simp only [iP,List.foldl_cons,List.foldl_nil,jC]
 by_cases za:262142≤a
 ·rw [if_pos za];exact fM a 262142 1114111 (by decide) (by omega) (by omega) (by omega) (by omega)
 rw [if_neg za]
 by_cases zb:131072≤a
 ·rw [if_pos zb];exact jL a 131072 262141 (by decide) (by omega) (by omega) (by omega) (by omega)
 rw [if_neg zb]
 by_cases ze:129536≤a
 ·rw [if_pos ze];exact fM a 129536 131071 (by decide) (by omega) (by omega) (by omega) (by omega)
 rw [if_neg ze]
 by_cases zf:129280≤a
 ·rw [if_pos zf];exact jL a 129280 129535 (by decide) (by omega) (by omega) (by omega) (by omega)
 rw [if_neg zf]
 by_cases zg:128592≤a
 ·rw [if_pos zg];exact fM a 128592 129279 (by decide) (by omega) (by omega) (by omega) (by omega)
 rw [if_neg zg]
 by_cases zh:127744≤a
 ·rw [if_pos zh];exact jL a 127744 128591 (by decide) (by omega) (by omega) (by omega) (by omega)
 rw [if_neg zh]
 by_cases Eu:65511≤a
 ·rw [if_pos Eu];exact fM a 65511 127743 (by decide) (by omega) (by omega) (by omega) (by omega)
 rw [if_neg Eu]
 by_cases Ev:65504≤a
 ·rw [if_pos Ev];exact jL a 65504 65510 (by decide) (by omega) (by omega) (by omega) (by omega)
 rw [if_neg Ev]
 by_cases Ew:65377≤a
 ·rw [if_pos Ew];exact fM a 65377 65503 (by decide) (by omega) (by omega) (by omega) (by omega)
 rw [if_neg Ew]
 by_cases Ex:65280≤a
 ·rw [if_pos Ex];exact jL a 65280 65376 (by decide) (by omega) (by omega) (by omega) (by omega)
 rw [if_neg Ex]
 by_cases Ey:65136≤a
 ·rw [if_pos Ey];exact fM a 65136 65279 (by decide) (by omega) (by omega) (by omega) (by omega)
 rw [if_neg Ey]
 by_cases Ez:65072≤a
 ·rw [if_pos Ez];exact jL a 65072 65135 (by decide) (by omega) (by omega) (by omega) (by omega)
 rw [if_neg Ez]
 by_cases EA:65040≤a
 ·rw [if_pos EA];exact fM a 65040 65071 (by decide) (by omega) (by omega) (by omega) (by omega)
 rw [if_neg EA]
 by_cases EB:65024≤a
 ·rw [if_pos EB];exact y_ a 65024 65039 (by decide) (by omega) (by omega)
 rw [if_neg EB]
 by_cases EC:64256≤a
 ·rw [if_pos EC];exact fM a 64256 65023 (by decide) (by omega) (by omega) (by omega) (by omega)
 rw [if_neg EC]
 by_cases ED:63744≤a
 ·rw [if_pos ED];exact jL a 63744 64255 (by decide) (by omega) (by omega) (by omega) (by omega)
 rw [if_neg ED]
 by_cases EE:55204≤a
 ·rw [if_pos EE]
  by_cases hq:a≤55295
  ·exact fM a 55204 55295 (by decide) (by omega) (by omega) (by omega) (by omega)
  ·exact fM a 57344 63743 (by decide) (by omega) (by omega) (by omega) (by omega)
 rw [if_neg EE]
 by_cases EF:44032≤a
 ·rw [if_pos EF];exact jL a 44032 55203 (by decide) (by omega) (by omega) (by omega) (by omega)
 rw [if_neg EF]
 by_cases EG:42192≤a
 ·rw [if_pos EG];exact fM a 42192 44031 (by decide) (by omega) (by omega) (by omega) (by omega)
 rw [if_neg EG]
 by_cases EH:19968≤a
 ·rw [if_pos EH];exact jL a 19968 42191 (by decide) (by omega) (by omega) (by omega) (by omega)
 rw [if_neg EH]
 by_cases EI:19904≤a
 ·rw [if_pos EI];exact fM a 19904 19967 (by decide) (by omega) (by omega) (by omega) (by omega)
 rw [if_neg EI]
 by_cases EJ:12353≤a
 ·rw [if_pos EJ];exact jL a 12353 19903 (by decide) (by omega) (by omega) (by omega) (by omega)
 rw [if_neg EJ]
 by_cases EK:12351≤a
 ·rw [if_pos EK];exact fM a 12351 12352 (by decide) (by omega) (by omega) (by omega) (by omega)
 rw [if_neg EK]
 by_cases EL:11904≤a
 ·rw [if_pos EL];exact jL a 11904 12350 (by decide) (by omega) (by omega) (by omega) (by omega)
 rw [if_neg EL]
 by_cases Ls:8208≤a
 ·rw [if_pos Ls];exact fM a 8208 11903 (by decide) (by omega) (by omega) (by omega) (by omega)
 rw [if_neg Ls]
 by_cases Lt:8203≤a
 ·rw [if_pos Lt];exact y_ a 8203 8207 (by decide) (by omega) (by omega)
 rw [if_neg Lt]
 by_cases Lu:4448≤a
 ·rw [if_pos Lu];exact fM a 4448 8202 (by decide) (by omega) (by omega) (by omega) (by omega)
 rw [if_neg Lu]
 by_cases Lv:4352≤a
 ·rw [if_pos Lv];exact jL a 4352 4447 (by decide) (by omega) (by omega) (by omega) (by omega)
 rw [if_neg Lv]
 by_cases Uf:880≤a
 ·rw [if_pos Uf];exact fM a 880 4351 (by decide) (by omega) (by omega) (by omega) (by omega)
 rw [if_neg Uf]
 by_cases Ug:768≤a
 ·rw [if_pos Ug];exact y_ a 768 879 (by decide) (by omega) (by omega)
 rw [if_neg Ug]
 by_cases Uh:160≤a
 ·rw [if_pos Uh];exact fM a 160 767 (by decide) (by omega) (by omega) (by omega) (by omega)
 rw [if_neg Uh]
 by_cases Ui:127≤a
 ·rw [if_pos Ui];exact y_ a 127 159 (by decide) (by omega) (by omega)
 rw [if_neg Ui]
 by_cases g32:32≤a
 ·rw [if_pos g32];exact fM a 32 126 (by decide) (by omega) (by omega) (by omega) (by omega)
 rw [if_neg g32]
 by_cases g0:0≤a
 ·rw [if_pos g0];exact y_ a 0 31 (by decide) (by omega) (by omega)
 rw [if_neg g0]
 omega
theorem jB(a:Int):f129 a=some (wd a):=by
 unfold f129 nv
 rw [Lp,bs,wm,bs]
 by_cases h:(0≤a∧a≤55295)∨(57344≤a∧a≤1114111)
 ·have:((decide (0≤a)&&decide (a≤55295)) || (decide (57344≤a)&&decide (a≤1114111)))=true:=by simpa using h
  rw [this,Bool.not_true,cf,QT a (by omega) (by omega) (by omega)]
 ·have:((decide (0≤a)&&decide (a≤55295)) || (decide (57344≤a)&&decide (a≤1114111)))=false:=by
   simp only [Bool.or_eq_false_iff,Bool.and_eq_false_imp,decide_eq_true_eq,decide_eq_false_iff_not];omega
  rw [this,Bool.not_false,ct]
  have:wd a=0:=by
   unfold wd
   rw [if_pos]
   by_cases h1:a<0
   ·exact .inl h1
   ·by_cases h2:1114111<a
    ·exact .inr (.inl h2)
    ·refine .inr (.inr ?_)
     simp only [oc,List.any_cons,List.any_nil,hit,Bool.or_false,Bool.or_eq_true,Bool.and_eq_true,decide_eq_true_eq];omega
  rw [this]
def nN(n:Int):Bool:=(decide (0≤n)&&decide (n≤256)) || (decide (16777216≤n)&&decide (n<33554432))
def r_(p:bq):Bool:=(decide (0≤p.Flags)&&decide (p.Flags≤255))&&(nN p.cz&&nN p.b9)
def Nt(p:bq):Int:=if r_ p=true then 0 else 4
theorem aeq(n:Int):f148 n=some (nN n):=by
 unfold f148 nN
 cases decide (0≤n)<;>cases decide (n≤256)<;>cases decide (16777216≤n)<;>cases decide (n<33554432)<;>rfl
theorem Bc(p:bq):f84 p=some (Nt p):=by
 unfold f84 Nt r_
 rw [aeq,aeq]
 simp only [bs]
 by_cases h1:p.Flags<0
 ·rw [cZ (dt h1),df (p:=0≤p.Flags) (by omega)];rfl
 ·rw [dK (df h1),dt (p:=0≤p.Flags) (by omega)]
  by_cases h2:255<p.Flags
  ·rw [cZ (dt h2),df (p:=p.Flags≤255) (by omega)];rfl
  ·rw [dK (df h2),dt (p:=p.Flags≤255) (by omega)]
   cases nN p.cz<;>cases nN p.b9<;>rfl
def P0:bq:=⟨0,0,0⟩
def Z0:aa:=⟨0,P0⟩
abbrev cx(l:List aa)(i:Nat):aa:=l.getD i Z0
def blank(p:bq):aa:=⟨32,p⟩
def G7(p q:bq):Bool:=decide (p.Flags=q.Flags)&&(decide (p.cz=q.cz)&&(decide (p.b9=q.b9)&&true))
def Lx(f:Nat→aa)(W k:Nat):Bool:=decide (k<W)&&(decide ((f k).cW=0)&&G7 (f k).bM (f (k-1)).bM)
def iE(f:Nat→aa)(W i:Nat):Bool:=
 if (f i).cW=0 then (decide (i=0) || (!decide (wd (f (i-1)).cW=2) || !Lx f W i)) else (decide (wd (f i).cW=2)&& !Lx f W (i+1))
theorem lu(l:List aa)(i:Nat)(h:i<l.length):idx l (i:Int)=some (cx l i):=uM l i Z0 h
theorem wrm(k:Nat)(h1:1≤k)(h:k<1000000000):IntKind.i64.wrap ((k:Int)-1)=((k-1:Nat):Int):=by rw [gY _ (by omega)];omega
theorem WC(l:List aa)(k:Nat)(h1:1≤k)(hk:k≤l.length)(hl:l.length≤1000000)(r:List PD):f195 (k:Int) l r=some (Lx (cx l) l.length k):=by
 unfold f195 Lx
 by_cases h:k<l.length
 ·rw [cZ (dt (by omega)),dt h,Bool.true_and,lu l k h,bs]
  by_cases h0:(cx l k).cW=0
  ·rw [cZ (dt h0),dt h0,Bool.true_and,bs,wrm k h1 (by omega),lu l (k-1) (by omega),bs]
   show (bif G7 (cx l k).bM (cx l (k-1)).bM then some true else some false)=_
   cases G7 (cx l k).bM (cx l (k-1)).bM<;>rfl
  ·rw [dK (df h0),df h0,Bool.false_and]
 ·rw [dK (df (by omega)),df h,Bool.false_and]
theorem Gh(l:List aa)(i:Nat)(h:i<l.length)(hl:l.length≤1000000):f147 l (i:Int)=some (iE (cx l) l.length i):=by
 unfold f147 Fb iE
 rw [lu l i h,bs]
 by_cases h0:(cx l i).cW=0
 ·rw [cZ (dt h0),if_pos h0]
  by_cases hi:i=0
  ·rw [cZ (dt (by omega)),dt hi,Bool.true_or]
  ·rw [dK (df (by omega)),df hi,Bool.false_or,wrm i (by omega) (by omega),lu l (i-1) (by omega),bs,oy,bs,WC l i (by omega) (by omega) hl,bs]
   cases decide (wd (cx l (i-1)).cW=2)<;>rfl
 ·rw [dK (df h0),if_neg h0,bs,oy,bs,r9 i (by omega),WC l (i+1) (by omega) (by omega) hl,bs]
  cases decide (wd (cx l i).cW=2)<;>rfl
theorem ny(f g:Nat→aa)(W i:Nat)(hi:i<W)(h: ∀k,k<W→f k=g k):iE f W i=iE g W i:=by
 unfold iE Lx
 rw [h i hi,h (i-1) (by omega),show i+1-1=i from rfl,h i hi]
 by_cases h1:i+1<W
 ·rw [h (i+1) h1]
 ·rw [df h1];rfl
def okB(f:Nat→aa)(W i:Nat):Bool:=r_ (f i).bM&&((decide ((f i).cW=0) || !decide (wd (f i).cW=0))&& !iE f W i)
def lD(W:Nat)(c:List aa)(n:Nat):Nat→aa:=fun i=>cx c (n*W+i)
def Rt(W H:Nat)(c:List aa):Prop:= ∀n,n<H→(∀i,i<W→okB (lD W c n) W i=true)
instance(W H:Nat)(c:List aa):Decidable (Rt W H c):=by unfold Rt;infer_instance
def dA(W:Nat)(c:List aa)(n:Nat):List aa:=(c.take ((n+1)*W)).drop (n*W)
theorem jc(n H W:Nat)(h:n<H):(n+1)*W≤W*H:=by rw [Nat.mul_comm W H];exact Nat.mul_le_mul_right W h
theorem mul_lt(n H W i:Nat)(h:n<H)(hi:i<W):n*W+i<W*H:=by
 have:=jc n H W h
 rw [Nat.succ_mul] at this;omega
theorem ia(W H:Nat)(c:List aa)(n:Nat)(hc:c.length=W*H)(hn:n<H):(dA W c n).length=W:=by
 have:=jc n H W hn
 unfold dA
 rw [List.length_drop,List.length_take,Nat.min_eq_left (by omega),Nat.succ_mul];omega
theorem EM(W H:Nat)(c:List aa)(n i:Nat)(hc:c.length=W*H)(hn:n<H)(hi:i<W):cx (dA W c n) i=lD W c n i:=by
 have:=jc n H W hn
 unfold dA lD cx
 rw [List.getD_eq_getElem?_getD,List.getD_eq_getElem?_getD,List.getElem?_drop,List.getElem?_take,if_pos (by rw [Nat.succ_mul];omega)]
theorem size_le(W H:Nat)(hW:W≤160)(hH:H≤60):W*H≤9600:=by
 have:=Nat.mul_le_mul hW hH;omega
theorem QU(W H n:Nat)(hW:W≤160)(hH:H≤60)(hn:n≤H):IntKind.i64.wrap ((n:Int)*(W:Int))=((n*W:Nat):Int):=by
 have h1:=Nat.mul_le_mul hn hW
 have h2:n*W≤9600:=by omega
 rw [show (n:Int)*(W:Int)=((n*W:Nat):Int) from (Int.natCast_mul n W).symm,gY _ (by omega)]
theorem Uk(W H:Nat)(hW:W≤160)(hH:H≤60):IntKind.i64.wrap ((W:Int)*(H:Int))=((W*H:Nat):Int):=by
 have h2:=size_le W H hW hH
 rw [show (W:Int)*(H:Int)=((W*H:Nat):Int) from (Int.natCast_mul W H).symm,gY _ (by omega)]
theorem qR{α:Type}(xs:List α)(a b:Nat)(h1:a≤b)(h2:b≤xs.length):ni xs (a:Int) (b:Int)=some ((xs.take b).drop a):=by
 unfold ni
 rw [if_pos (by omega)];simp
theorem JL(W H:Nat)(c:List aa)(n:Nat)(hc:c.length=W*H)(hn:n<H)(hW:W≤160)(hH:H≤60):f38 ⟨W,H,c⟩ (n:Int)=some (dA W c n):=by
 have:=jc n H W hn
 unfold f38
 dsimp only []
 rw [r9 n (by omega),QU W H n hW hH (by omega),QU W H (n+1) hW hH (by omega),qR _ _ _ (Nat.mul_le_mul_right W (by omega)) (by omega),bs]
 rfl
def pM(g:aV):Int:=
 if 1≤g.bV∧g.bV≤160∧1≤g.cC∧g.cC≤60 then (if (g.Cells.length:Int)=g.bV*g.cC then (if Rt g.bV.toNat g.cC.toNat g.Cells then 0 else 4) else 4) else 1
theorem Gg(w h:Int):f89 w h=some (if 1≤w∧w≤160∧1≤h∧h≤60 then 0 else 1):=by
 unfold f89
 by_cases h1:w<1
 ·rw [cZ (dt h1),if_neg (by omega)]
 rw [dK (df h1)]
 by_cases h2:160<w
 ·rw [cZ (dt h2),if_neg (by omega)]
 rw [dK (df h2)]
 by_cases h3:h<1
 ·rw [cZ (dt h3),if_neg (by omega)]
 rw [dK (df h3)]
 by_cases h4:60<h
 ·rw [cZ (dt h4),if_neg (by omega)]
 rw [dK (df h4),if_pos (by omega)]
theorem O3(p:bq):decide (Nt p=0)=r_ p:=by unfold Nt;cases r_ p<;>rfl
theorem Lz{ρ:Type}(P:Prop) [Decidable P](a b:ρ)(c:Prop) [Decidable c](h:P↔c):(if P then a else b)=if c then a else b:=by
 by_cases hp:P
 ·rw [if_pos hp,if_pos (h.1 hp)]
 ·rw [if_neg hp,if_neg (fun q=>hp (h.2 q))]
theorem MZ(a1:aV)(W H:Nat)(c:List aa)(n:Nat)(z:Int)(hc:c.length=W*H)(hn:n<H)(hW:W≤160)(hH:H≤60):
  bR (kK a1) (dA W c n,z,dA W c n,((dA W c n).length:Int),0)=some (if∀i,i<W→okB (lD W c n) W i=true then .inl z else .inr 4):=by
 have hl:=ia W H c n hc hn
 have hx: ∀k,k<W→cx (dA W c n) k=lD W c n k:=fun k hk=>EM W H c n k hc hn hk
 generalize dA W c n=l at hl hx ⊢
 have h:=kH (body:=kK a1) (fun i=>(l,z,l,(l.length:Int),(i:Int))) (.inl z) (.inr 4) W (fun i=>okB (lD W c n) W i) ?_ ?_ ?_
 ·exact h
 ·intro i hi hp
  have jx:i<l.length:=by omega
  unfold okB at hp
  simp only [Bool.and_eq_true,Bool.or_eq_true,decide_eq_true_eq,Bool.not_eq_true'] at hp
  obtain ⟨h1,h2,h3⟩:=hp
  rw [←hx i hi] at h1 h2
  rw [←ny (cx l) _ W i hi hx] at h3
  unfold kK iY lW
  dsimp only []
  rw [cZ (dt (by omega)),ct,lu l i jx,bs,Bc,bs,O3,h1,Bool.not_true,cf,oy,bs,Gh l i jx (by omega),hl,h3]
  simp only [bs,cf]
  rw [r9 i (by omega)]
  rcases h2 with h2 | h2
  ·rw [dt h2];rfl
  ·rw [h2]
   cases decide ((cx l i).cW=0)<;>rfl
 ·intro i hi hp
  have jx:i<l.length:=by omega
  unfold okB at hp
  rw [←hx i hi,←ny (cx l) _ W i hi hx] at hp
  unfold kK iY lW
  dsimp only []
  rw [cZ (dt (by omega)),ct,lu l i jx,bs,Bc,bs,O3,oy,bs,Gh l i jx (by omega),hl]
  simp only [bs]
  cases h1:r_ (cx l i).bM with
  | false=>rfl
  | true=>
   rw [h1,Bool.true_and] at hp
   rw [Bool.not_true,cf]
   cases h2:decide ((cx l i).cW=0) with
   | true=>
    rw [h2,Bool.true_or,Bool.true_and] at hp
    have h3:iE (cx l) W i=true:=by simpa using hp
    rw [h3];rfl
   | false=>
    rw [h2,Bool.false_or] at hp
    rw [Bool.not_false,ct]
    cases h3:decide (wd (cx l i).cW=0) with
    | true=>rfl
    | false=>
     rw [h3,Bool.not_false,Bool.true_and] at hp
     have h3:iE (cx l) W i=true:=by simpa using hp
     rw [h3];rfl
 ·unfold kK iY
  dsimp only []
  rw [dK (df (by omega)),cf]
theorem QV(W H:Nat)(c:List aa):(∀n,n<H→decide (∀i,i<W→okB (lD W c n) W i=true)=true)↔Rt W H c:=by
 unfold Rt
 constructor
 ·intro h n hn;exact of_decide_eq_true (h n hn)
 ·intro h n hn;exact dt (h n hn)
theorem ai0(W H:Nat)(c:List aa)(hc:c.length=W*H)(hW:W≤160)(hH:H≤60):
  bR (sU ⟨W,H,c⟩) 0=some (if Rt W H c then .inl () else .inr 4):=by
 have h:=kH (body:=sU ⟨W,H,c⟩) (fun i=>(i:Int)) (.inl ()) (.inr 4) H (fun n=>decide (∀i,i<W→okB (lD W c n) W i=true)) ?_ ?_ ?_
 ·rw [Lz _ _ _ _ (QV W H c)] at h;exact h
 ·intro n hn hp
  unfold sU mq ru
  rw [cZ (dt (by show (n:Int)<(H:Int);omega)),ct,JL W H c n hc hn hW hH,bs,MZ _ W H c n n hc hn hW hH,bs,if_pos (of_decide_eq_true hp)]
  simp only [Sum.elim_inl]
  rw [r9 n (by omega)]
 ·intro n hn hp
  unfold sU mq ru
  rw [cZ (dt (by show (n:Int)<(H:Int);omega)),ct,JL W H c n hc hn hW hH,bs,MZ _ W H c n n hc hn hW hH,bs,if_neg (of_decide_eq_false hp)]
  rfl
 ·unfold sU mq
  rw [dK (df (by show¬(H:Int)<(H:Int);omega)),cf]
theorem Hy(g:aV):f83 g=some (pM g):=by
 obtain ⟨w,h,c⟩:=g
 unfold f83 Jr Jq pM
 rw [Gg,bs]
 dsimp only []
 by_cases hs:1≤w∧w≤160∧1≤h∧h≤60
 ·rw [if_pos hs,if_pos hs,dK (by rfl)]
  obtain ⟨W,rfl⟩:=Int.eq_ofNat_of_zero_le (show 0≤w by omega)
  obtain ⟨H,rfl⟩:=Int.eq_ofNat_of_zero_le (show 0≤h by omega)
  rw [Uk W H (by omega) (by omega)]
  by_cases hc:c.length=W*H
  ·rw [if_pos (by rw [hc];exact Int.natCast_mul W H),dK (by rw [dt (by omega)];rfl),ai0 W H c hc (by omega) (by omega),bs,Int.toNat_natCast,Int.toNat_natCast]
   by_cases hr:Rt W H c
   ·rw [if_pos hr,if_pos hr];rfl
   ·rw [if_neg hr,if_neg hr];rfl
  ·rw [if_neg (by rw [←Int.natCast_mul];omega),cZ (by rw [df (by omega)];rfl)]
 ·rw [if_neg hs,if_neg hs,cZ (by rfl)]
def fY(W:Nat)(c:List aa)(k:Nat):List (List aa):=(List.range k).map (dA W c)
theorem qT{α:Type}(b:Nat)(xs ys:List α)(h:(xs.length+ys.length)*b≤1000000000):fT b xs ys=some (xs++ys):=fW b xs ys (by omega)
theorem nx(l:List aa)(hl:l.length≤100000):f91 l=some l:=by
 unfold f91;rw [qT 32 [] l (by simp;omega),bs];rfl
theorem EN(W H:Nat)(c:List aa)(hc:c.length=W*H)(hW:W≤160)(hH:H≤60):f180 ⟨W,H,c⟩=some (fY W c H):=by
 unfold f180
 have h:=fI (body:=ic ⟨W,H,c⟩) (fun i=>(fY W c i,(i:Int))) (fY W c H) H ?_ 0 (by omega) ?_
 ·have h':bR (ic ⟨W,H,c⟩) ([],0)=some (fY W c H):=h
  rw [h',bs]
 ·unfold ic
  rw [dK (df (by show¬(H:Int)<(H:Int);omega))]
 ·intro n _ hn
  have:=jc n H W hn
  have hl:=ia W H c n hc hn
  unfold ic iN
  dsimp only []
  rw [cZ (dt (by omega)),r9 n (by omega),QU W H n hW hH (by omega),QU W H (n+1) hW hH (by omega),qR _ _ _ (Nat.mul_le_mul_right W (by omega)) (by omega),bs]
  show (f91 (dA W c n)).bind _=_
  rw [nx _ (by omega),bs,qT 24 _ _ (by simp [fY];omega),bs]
  have:fY W c n++ [dA W c n]=fY W c (n+1):=by unfold fY;rw [List.range_succ,List.map_append];rfl
  rw [this]
def iU(n:Nat)(f:Nat→aa):List aa:=(List.range n).map f
theorem eX(n:Nat)(f:Nat→aa):(iU n f).length=n:=by unfold iU;simp
theorem Gm(n:Nat)(f:Nat→aa)(i:Nat)(h:i<n):(iU n f)[i]?=some (f i):=by unfold iU;simp [h]
theorem xD(n:Nat)(f:Nat→aa)(i:Nat)(h:i<n):cx (iU n f) i=f i:=by unfold cx;rw [List.getD_eq_getElem?_getD,Gm n f i h];rfl
theorem Sr(l:List aa)(i:Nat)(h:i<l.length):l[i]?=some (cx l i):=by unfold cx;simp [h]
theorem Gl(l m:List aa)(h:l.length=m.length)(hx: ∀i,i<l.length→cx l i=cx m i):l=m:=by
 refine List.ext_getElem? fun i=>?_
 by_cases hi:i<l.length
 ·rw [Sr l i hi,Sr m i (by omega),hx i hi]
 ·rw [List.getElem?_eq_none (by omega),List.getElem?_eq_none (by omega)]
theorem xE{n:Nat}{f g:Nat→aa}(h: ∀i,i<n→f i=g i):iU n f=iU n g:=by
 unfold iU
 exact List.map_congr_left fun i hi=>h i (List.mem_range.1 hi)
theorem ai1(l:List aa)(f:Nat→aa)(h: ∀i,i<l.length→f i=cx l i):iU l.length f=l:=
 Gl _ _ (eX _ _) fun i hi=>by rw [eX] at hi;rw [xD _ _ _ hi,h i hi]
theorem arO(n:Nat)(f:Nat→aa)(o m:Nat)(ys:List aa)(h:o+m≤n):
  nk (iU n f) o m ys=iU n (fun j=>if o≤j∧j<o+min ys.length m then cx ys (j-o) else f j):=by
 refine List.ext_getElem? fun i=>?_
 unfold nk
 by_cases hi:i<n
 ·rw [Gm n _ i hi]
  by_cases h1:i<o
  ·rw [if_neg (by omega),List.append_assoc,List.getElem?_append_left (by rw [List.length_take,eX];omega),List.getElem?_take,if_pos h1,Gm n f i hi]
  ·rw [List.append_assoc,List.getElem?_append_right (by rw [List.length_take,eX];omega),List.length_take,eX,Nat.min_eq_left (show o≤n by omega)]
   by_cases h2:i<o+min ys.length m
   ·rw [if_pos ⟨by omega,h2⟩,List.getElem?_append_left (by rw [List.length_take];omega),List.getElem?_take,if_pos (by omega),Sr ys (i-o) (by omega)]
   ·rw [if_neg (by omega),List.getElem?_append_right (by rw [List.length_take];omega),List.length_take,List.getElem?_drop,show o+min ys.length m+(i-o-min (min ys.length m) ys.length)=i by omega,Gm n f i hi]
 ·rw [List.getElem?_eq_none (by rw [List.length_append,List.length_append,List.length_take,List.length_take,List.length_drop,eX];omega),List.getElem?_eq_none (by rw [eX];omega)]
theorem PZ(c:List aa)(o m:Nat)(h:o+m≤c.length):kq c o m=some (iU m (fun i=>cx c (o+i))):=by
 unfold kq
 rw [if_pos h]
 refine congrArg some (Gl _ _ (by rw [eX,List.length_take,List.length_drop];omega) fun i hi=>?_)
 rw [List.length_take,List.length_drop] at hi
 rw [xD _ _ _ (by omega)]
 unfold cx
 rw [List.getD_eq_getElem?_getD,List.getD_eq_getElem?_getD,List.getElem?_take,if_pos (by omega),List.getElem?_drop]
theorem Gn(a b:Nat)(h:a=b):gz (decide (a=b))=some ():=jV (dt h)
theorem Gk(W H n:Nat)(c:List aa)(hc:c.length=W*H)(hn:n<H)(hW:W≤160)(hH:H≤60):De (W:Int) (H:Int) (n:Int) c=some (c,n*W,W):=by
 have:=jc n H W hn
 have hm:=Nat.mul_le_mul_right W (show n≤n+1 by omega)
 unfold De
 rw [r9 n (by omega),QU W H n hW hH (by omega),QU W H (n+1) hW hH (by omega),jV,bs]
 ·simp only [Int.toNat_natCast]
  rw [Nat.succ_mul,Nat.add_sub_cancel_left]
 ·rw [dt (by omega),dt (by omega),dt (by omega)];rfl
theorem aer(n:Nat)(h:n≤1000000):IntKind.u64.wrap (n:Int)=n:=by
 simp [IntKind.wrap,IntKind.signed,IntKind.bits];omega
theorem HA(n:Nat)(h:n≤1000000):gG .and .u64 (n:Int) 4294967295=n:=by
 have e:gG .and .u64 (n:Int) 4294967295=IntKind.u64.wrap (((BitVec.ofInt 64 (n:Int)&&&BitVec.ofInt 64 4294967295).toNat:Nat):Int):=rfl
 have e2:(BitVec.ofInt 64 (n:Int)&&&BitVec.ofInt 64 4294967295).toNat=n:=by
  rw [BitVec.toNat_and,BitVec.toNat_ofInt,show (BitVec.ofInt 64 4294967295).toNat=2^32-1 from rfl,Nat.and_two_pow_sub_one_eq_mod]
  have:(((n:Int)%((2^64:Nat):Int)).toNat)=n:=by
   rw [Int.emod_eq_of_lt (by omega) (by have:((2^64:Nat):Int)=18446744073709551616:=rfl;omega)];simp
  rw [this]
  exact Nat.mod_eq_of_lt (by have:(2:Nat)^32=4294967296:=rfl;omega)
 rw [e,e2,aer n h]
theorem aas(n:Nat)(h:n≤1000000):Int.fdiv (n:Int) (2^32)=0:=by
 have e:(2:Int)^32=4294967296:=rfl
 rw [e,Int.fdiv_eq_ediv_of_nonneg _ (by omega)]
 omega
theorem aBP(n:Nat)(h:n≤1000000):f198 (IntKind.u64.wrap 1) (IntKind.u64.wrap (n:Int))=some (0,(n:Int)):=by
 have a1:=HA 1 (by omega)
 have a0:=HA 0 (by omega)
 have an:=HA n h
 have d1:=aas 1 (by omega)
 have d0:=aas 0 (by omega)
 have dn:=aas n h
 have w0:=aer 0 (by omega)
 have w1:=aer 1 (by omega)
 have wn:=aer n h
 simp only [Int.natCast_zero,Int.natCast_one] at a1 a0 d1 d0 w0 w1
 unfold f198 E0 f236
 rw [bs,w1,wn]
 simp only [d1,d0,dn,a1,a0,an,Int.zero_mul,Int.mul_zero,Int.one_mul,Int.add_zero,Int.zero_add,w0,w1,wn]
theorem grow_step(z:aa)(n k:Nat)(hk:1≤k)(hn:k<n):
  nk (List.replicate k z++List.replicate (n-k) Z0) k (n-k) (((List.replicate k z++List.replicate (n-k) Z0).drop 0).take k)=List.replicate (k+min k (n-k)) z++List.replicate (n-(k+min k (n-k))) Z0:=by
 unfold nk
 rw [List.drop_zero,List.take_left' (by simp),List.length_replicate,List.take_replicate,List.drop_append,List.drop_replicate,List.drop_replicate,List.length_replicate,←List.replicate_append_replicate,List.append_assoc]
 rw [show k-(k+min k (n-k))=0 by omega,show n-k-(k+min k (n-k)-k)=n-(k+min k (n-k)) by omega,show min (min k (n-k)) k=min k (n-k) by omega]
 simp [←List.append_assoc,List.replicate_append_replicate]
theorem Dp(z:aa)(n:Nat)(h1:1≤n)(h:n≤100000):f151 [z] (n:Int)=some (List.replicate n z):=by
 unfold f151 zv
 rw [dK (df (by omega))]
 show ((f198 (IntKind.u64.wrap 1) (IntKind.u64.wrap (n:Int))).bind _)=_
 rw [aBP n (by omega),bs]
 try dsimp only []
 rw [dK (df (by omega)),dK (df (by omega))]
 unfold uQ
 rw [gY _ (by omega)]
 have hm:mk? 32 (n:Int) (n:Int) (aa.mk 0 (bq.mk 0 0 0))=some (List.replicate n Z0):=by
  unfold mk?
  rw [if_pos ⟨by omega,by omega,by rw [Int.toNat_natCast];omega⟩,Int.toNat_natCast];rfl
 rw [hm,bs,jV (dt (by omega)),bs,bs,List.length_replicate]
 have hc:nk (List.replicate n Z0) 0 n [z]=List.replicate 1 z++List.replicate (n-1) Z0:=by
  unfold nk
  rw [show min [z].length n=1 by show min 1 n=1;omega]
  simp
 rw [hc]
 obtain ⟨r,hr,hp⟩:=CT (body:=uP [z] (n:Int)) (fun m (x:List aa×Int)=> ∃k:Nat,1≤k∧k+m=n∧x=(List.replicate k z++List.replicate (n-k) Z0,(k:Int))) (fun r=>r=List.replicate n z) (fun m x hx=>by
  obtain ⟨k,Bf,hk2,rfl⟩:=hx
  have hl:(List.replicate k z++List.replicate (n-k) Z0).length=n:=by simp;omega
  by_cases hk:k<n
  ·refine .inl ⟨(List.replicate (k+min k (n-k)) z++List.replicate (n-(k+min k (n-k))) Z0,((k+min k (n-k):Nat):Int)),n-(k+min k (n-k)),?_,by omega,k+min k (n-k),by omega,by omega,rfl⟩
   unfold uP sQ
   try dsimp only []
   rw [hl,cZ (dt (by omega)),jV (by rw [dt (by omega),dt (by omega),dt (by omega)];rfl),bs,jV (by rw [dt (by omega),dt (by omega),dt (by omega)];rfl),bs]
   have hp:kq (List.replicate k z++List.replicate (n-k) Z0) 0 ((k:Int).toNat-(0:Int).toNat)=some (((List.replicate k z++List.replicate (n-k) Z0).drop 0).take k):=by
    unfold kq
    rw [if_pos (by rw [hl];simp;omega)];simp
   rw [hp,bs,jV (dt (by rw [Int.toNat_natCast,Int.toNat_natCast];omega)),bs,bs,Int.toNat_natCast,Int.toNat_natCast,grow_step z n k Bf hk]
   have e:(List.take k (List.drop 0 (List.replicate k z++List.replicate (n-k) Z0))).length=k:=by simp
   have e2:(List.replicate (k+min k (n-k)) z++List.replicate (n-(k+min k (n-k))) Z0).length=n:=by simp;omega
   rw [e,e2,Int.toNat_natCast,gY _ (by omega)]
   refine congrArg some (congrArg Sum.inl (Prod.ext rfl ?_))
   show (k:Int)+((min k (n-k):Nat):Int)=((k+min k (n-k):Nat):Int)
   omega
  ·have:k=n:=by omega
   subst this
   refine .inr ⟨List.replicate k z,?_,rfl⟩
   unfold uP
   try dsimp only []
   rw [hl,dK (df (by omega))]
   simp) (n:=n-1) (x:=(List.replicate 1 z++List.replicate (n-1) Z0,((1:Nat):Int))) ⟨1,by omega,by omega,rfl⟩
 have e1:(((min [z].length (List.replicate 1 z++List.replicate (n-1) Z0).length:Nat)):Int)=((1:Nat):Int):=by
  rw [List.length_append,List.length_replicate,List.length_replicate];show ((min 1 (1+(n-1)):Nat):Int)=_;omega
 rw [e1,hr,bs,hp]
theorem Gi(n:Nat)(z:aa):List.replicate n z=iU n (fun _=>z):=by
 unfold iU;rw [List.map_const'];simp
theorem aat(w h:Nat)(p:bq)(h1:1≤w∧w≤160)(h2:1≤h∧h≤60):f90 (w:Int) (h:Int) p=some ((w:Int),(h:Int),iU (w*h) (fun _=>blank p)):=by
 have h9:=size_le w h h1.2 h2.2
 have h3:=Nat.mul_le_mul h1.1 h2.1
 unfold f90
 rw [show f152 p=some (blank p) from rfl,bs,Uk w h h1.2 h2.2,Dp (blank p) (w*h) (by omega) (by omega),bs,Gi]
theorem qq(W H:Nat)(c:List aa)(h1:1≤W∧W≤160)(h2:1≤H∧H≤60)(hc:c.length=W*H)(hr:Rt W H c):pM ⟨W,H,c⟩=0:=by
 unfold pM
 try dsimp only []
 rw [if_pos (by omega),if_pos (by rw [hc];exact Int.natCast_mul W H),Int.toNat_natCast,Int.toNat_natCast,if_pos hr]
theorem arP(j n W:Nat)(hW:0<W):j/W=n↔n*W≤j∧j<n*W+W:=by
 have h1:=Nat.div_add_mod j W
 have h2:=Nat.mod_lt j hW
 constructor
 ·intro h;subst h;rw [Nat.mul_comm];omega
 ·rintro ⟨ha,hb⟩
  exact Nat.div_eq_of_lt_le ha (by rw [Nat.succ_mul];exact hb)
theorem avK(j n W:Nat)(hW:0<W)(h:j/W=n):j-n*W=j%W:=by
 have h1:=Nat.div_add_mod j W
 subst h;rw [Nat.mul_comm];omega
theorem aes(W H:Nat)(c:List aa)(n:Nat)(hc:c.length=W*H)(hn:n<H):dA W c n=iU W (lD W c n):=
 Gl _ _ (by rw [ia W H c n hc hn,eX]) fun i hi=>by
  rw [ia W H c n hc hn] at hi
  rw [EM W H c n i hc hn hi,xD _ _ _ hi]
def Bv(W:Nat)(c:List aa)(t m:Nat)(n:Int)(p:bq)(i k:Nat):aa:=if 0≤(i:Int)+n∧(i:Int)+n<m then lD W c (t+((i:Int)+n).toNat) k else blank p
theorem aau(W H:Nat)(c c2:List aa)(t m:Nat)(n a4:Int)(p:bq)(hc:c.length=W*H)(hW1:1≤W)(hW:W≤160)(hH:H≤60)(htm:t+m≤H)(hn: -100000≤n∧n≤100000):
  f314 (-n) ((List.range m).map fun r=>dA W c (t+r)) (W:Int) a4 p c2=some ((W:Int),a4,c2,p,(List.range m).map (fun r=>dA W c (t+r)),(List.range m).map (fun r=>iU W (Bv W c t m n p r))):=by
 unfold f314
 have hlen:((List.range m).map fun r=>dA W c (t+r)).length=m:=by simp
 have hlp:=fI (body:=rL (-n) ((List.range m).map fun r=>dA W c (t+r)) (W:Int) a4 p c2) (fun i=>((List.range i).map (fun r=>iU W (Bv W c t m n p r)),(i:Int))) ((List.range m).map (fun r=>iU W (Bv W c t m n p r))) m ?_ 0 (by omega) ?_
 ·have aBQ:bR (rL (-n) ((List.range m).map fun r=>dA W c (t+r)) (W:Int) a4 p c2) ([],0)=_:=hlp
  rw [aBQ,bs]
 ·unfold rL mM
  try dsimp only []
  rw [hlen,dK (df (by omega)),cf]
 ·intro i _ hi
  unfold rL mM th pq
  try dsimp only []
  have hbl:f315 (W:Int) a4 p []=some (iU W (fun _=>blank p)):=by
   unfold f315
   have:=aat W 1 p ⟨hW1,hW⟩ (by omega)
   rw [Nat.mul_one] at this
   rw [show (1:Int)=((1:Nat):Int) from rfl,this,bs]
  rw [hlen,cZ (dt (by omega)),ct,gY ((i:Int)- -n) (by omega),r9 i (by omega),hbl,bs]
  have hap: ∀x,x=iU W (Bv W c t m n p i)→fT 24 ((List.range i).map (fun r=>iU W (Bv W c t m n p r))) [x]=some ((List.range (i+1)).map (fun r=>iU W (Bv W c t m n p r))):=fun x hx=>by
   rw [qT 24 _ _ (by simp;omega),hx,List.range_succ,List.map_append];rfl
  have e:(i:Int)- -n=(i:Int)+n:=by omega
  rw [e]
  by_cases h1:0≤(i:Int)+n
  ·rw [cZ (dt h1)]
   by_cases h2:(i:Int)+n<m
   ·obtain ⟨k,hk⟩:=Int.eq_ofNat_of_zero_le h1
    rw [cZ (dt h2),hk,fX k m (by omega),bs]
    have hg:((List.range m).map fun r=>dA W c (t+r))[k]?=some (dA W c (t+k)):=by
     have:k<m:=by omega
     simp [this]
    rw [hg,bs,hap,bs]
    rw [aes W H c (t+k) hc (by omega)]
    refine xE fun j hj=>?_
    unfold Bv
    rw [if_pos ⟨h1,h2⟩,hk,Int.toNat_natCast]
   ·rw [dK (df h2),hap,bs]
    refine xE fun j hj=>?_
    unfold Bv
    rw [if_neg (fun q=>h2 q.2)]
  ·rw [dK (df h1),hap,bs]
   refine xE fun j hj=>?_
   unfold Bv
   rw [if_neg (fun q=>h1 q.1)]
def vG(W:Nat)(c:List aa)(t m:Nat)(n:Int)(p:bq):List aa:=iU c.length (fun j=>if t≤j/W∧j/W<t+m then Bv W c t m n p (j/W-t) (j%W) else cx c j)
theorem Gj(W H t b:Nat)(n:Int)(p:bq)(c:List aa)(hc:c.length=W*H)(hW1:1≤W)(hW:W≤160)(hH:H≤60)(htb:t≤b)(hb:b≤H)(hn: -100000≤n∧n≤100000):
  f301 (W:Int) (H:Int) (t:Int) (b:Int) n p c=some (vG W c t (b-t) n p):=by
 have h9:=size_le W H hW hH
 unfold f301
 have J6:=fI (body:=rN W H t b n p c) (fun i=>(c,(List.range (i-t)).map (fun r=>dA W c (t+r)),(i:Int))) (c,(List.range (b-t)).map (fun r=>dA W c (t+r))) b ?_ t htb ?_
 ·have aBR:bR (rN W H t b n p c) (c,[],(t:Int))=some (c,(List.range (b-t)).map (fun r=>dA W c (t+r))):=by
   have:=J6
   rw [Nat.sub_self] at this
   exact this
  rw [aBR,bs]
  unfold FL
  try dsimp only []
  have hw:IntKind.i64.wrap (0-n)= -n:=by rw [gY _ (by omega)];omega
  rw [hw,aau W H c c t (b-t) n _ p hc hW1 hW hH (by omega) hn,bs]
  try dsimp only []
  rw [Gn _ _ rfl,bs,Gn _ _ rfl,bs]
  have hlen:((List.range (b-t)).map (fun r=>iU W (Bv W c t (b-t) n p r))).length=b-t:=by simp
  rw [hlen]
  have hl2:=fI (body:=vp W H t b n p c) (fun i=>(iU c.length (fun j=>if t≤j/W∧j/W<t+i then Bv W c t (b-t) n p (j/W-t) (j%W) else cx c j),(W:Int),(H:Int),(List.range (b-t)).map (fun r=>iU W (Bv W c t (b-t) n p r)),((b-t:Nat):Int),(i:Int))) (vG W c t (b-t) n p) (b-t) ?_ 0 (by omega) ?_
  ·try dsimp only [] at hl2
   rw [ai1 c _ (fun j hj=>if_neg (by omega))] at hl2
   rw [show ((0:Nat):Int)=0 from rfl] at hl2
   rw [hl2,bs]
  ·unfold vp mO
   try dsimp only []
   rw [dK (df (by omega)),cf]
   rfl
  ·intro i _ hi
   have hm:=jc (t+i) H W (by omega)
   rw [Nat.succ_mul] at hm
   unfold vp mO tq
   try dsimp only []
   have hg:((List.range (b-t)).map fun r=>iU W (Bv W c t (b-t) n p r))[i]?=some (iU W (Bv W c t (b-t) n p i)):=by simp [hi]
   rw [cZ (dt (by omega)),ct,hlen,fX i _ hi,bs,hg,bs,gY ((t:Int)+(i:Int)) (by omega),show (t:Int)+(i:Int)=((t+i:Nat):Int) by omega,Gk W H (t+i) _ (by rw [eX];exact hc) (by omega) hW hH,bs]
   try dsimp only []
   rw [Gn _ _ rfl,bs,jV (dt (by rw [eX];omega)),bs,bs,arO _ _ _ _ _ (by omega),eX,Nat.min_self,r9 i (by omega)]
   refine congrArg some (congrArg Sum.inl (Prod.ext (xE fun j hj=>?_) rfl))
   have hd:=arP j (t+i) W hW1
   by_cases hj1:j/W=t+i
   ·rw [if_pos (hd.1 hj1),if_pos (by omega),xD _ _ _ (by have:=hd.1 hj1;omega),avK j (t+i) W hW1 hj1,hj1,Nat.add_sub_cancel_left]
   ·rw [if_neg (fun q=>hj1 (hd.2 q))]
    by_cases hj2:t≤j/W∧j/W<t+i
    ·rw [if_pos hj2,if_pos (by omega)]
    ·rw [if_neg hj2,if_neg (by omega)]
 ·unfold rN
  try dsimp only []
  rw [dK (df (by omega))]
 ·intro i hi1 hi
  have hm:=jc i H W (by omega)
  rw [Nat.succ_mul] at hm
  unfold rN tu
  try dsimp only []
  have hrow:iU W (fun k=>cx c (i*W+k))=dA W c i:=(aes W H c i hc (by omega)).symm
  rw [cZ (dt (by omega)),Gk W H i c hc (by omega) hW hH,bs]
  try dsimp only []
  rw [Gn _ _ rfl,bs,PZ c _ _ (by omega),bs,nx _ (by rw [eX];omega),bs,qT 24 _ _ (by simp;omega),bs,r9 i (by omega),hrow]
  refine congrArg some (congrArg Sum.inl (Prod.ext rfl (Prod.ext ?_ rfl)))
  try dsimp only []
  rw [show i+1-t=(i-t)+1 by omega,List.range_succ,List.map_append,List.map_singleton,show t+(i-t)=i by omega]
def aav(c:aa):Bool:=r_ c.bM&&(decide (c.cW=0) || !decide (wd c.cW=0))
theorem WD(p:bq)(hp:r_ p=true):aav (blank p)=true:=by
 unfold aav;rw [show (blank p).bM=p from rfl,hp,show (blank p).cW=32 from rfl,arM];rfl
theorem WE(f:Nat→aa)(W i:Nat)(h:(f i).cW=32):iE f W i=false:=by
 unfold iE;rw [h,if_neg (by decide),arM];rfl
theorem MX(p:bq)(hp:r_ p=true)(W i:Nat)(f:Nat→aa)(h:f i=blank p):okB f W i=true:=by
 have hl:=WE f W i (by rw [h];rfl)
 have hc:=WD p hp
 unfold aav at hc
 unfold okB
 rw [hl,h]
 rw [Bool.and_eq_true] at hc
 rw [hc.1,hc.2];rfl
theorem MW(a lo hi:Int):f98 a lo hi=some (decide (lo≤a)&&decide (a≤hi)):=by
 unfold f98
 cases decide (lo≤a)<;>cases decide (a≤hi)<;>rfl
theorem Hz(a:Int):f99 a=some (decide (1≤a)&&decide (a≤4)):=by
 unfold f99
 cases decide (1≤a)<;>cases decide (a≤4)<;>rfl
theorem arL(p:bq):decide (Nt p=0)=r_ p:=O3 p
def Hx(W H:Nat)(st:cH)(g:List aa)(r c:Int)(late:Bool):ah:=
 ⟨⟨W,H,g⟩,r,c,late,0,H,⟨0,0,0⟩,12,st,(1,1),0,⟨0,0,⟨0,0,0⟩,false,(1,1),0⟩,⟨W,H,iU (W*H) (fun _=>blank P0)⟩,[],[]⟩
theorem PY: ∃st,f46=some st:=by
 unfold f46
 obtain ⟨r,hr,_⟩:=CT (body:=E3) (fun k x=> ∃i:Nat,x.2=8*((i:Int)+1)∧i≤31∧k=31-i) (fun _=>True) (by
  rintro k ⟨s,_⟩ ⟨i,rfl,hi,rfl⟩
  unfold E3
  try dsimp only []
  by_cases hlt:i<31
  ·left
   rw [cZ (dt (by omega))]
   unfold wB
   have e:(8*((i:Int)+1))=((8*(i+1):Nat):Int):=by omega
   have e2:Int.tdiv ((8*(i+1):Nat):Int) 64=((8*(i+1)/64:Nat):Int):=by
    rw [show (64:Int)=((64:Nat):Int) from rfl];exact (Int.ofNat_tdiv _ _).symm
   have e3:0≤Int.tmod ((8*(i+1):Nat):Int) 64:=Int.tmod_nonneg _ (by omega)
   rw [e,e2,gY _ (by omega),fX _ 4 (by omega),bs,jV (dt e3),bs,bs,gY _ (by omega)]
   exact ⟨_,31-(i+1),rfl,by omega,i+1,by show ((8*(i+1):Nat):Int)+8=8*(((i+1:Nat):Int)+1);omega,by omega,rfl⟩
  ·right
   rw [dK (df (by omega))]
   exact ⟨_,rfl,trivial⟩) (n:=31) (x:=(cH.mk (fun _=>0),8)) ⟨0,by rfl,by omega,by omega⟩
 rw [hr,bs]
 exact ⟨_,rfl⟩
theorem JK(W H:Nat)(g:List aa)(h:g.length≤100000):f45 ⟨(W:Int),(H:Int),g⟩=some ⟨(W:Int),(H:Int),g⟩:=by
 unfold f45
 rw [nx _ h,bs]
theorem WA(W H:Nat)(p:bq)(h1:1≤W∧W≤160)(h2:1≤H∧H≤60):f90 (W:Int) (H:Int) p=some ⟨(W:Int),(H:Int),iU (W*H) (fun _=>blank p)⟩:=by
 have h9:=size_le W H h1.2 h2.2
 have h3:=Nat.mul_le_mul h1.1 h2.1
 unfold f90
 rw [show f152 p=some (blank p) from rfl,bs,Uk W H h1.2 h2.2,Dp (blank p) (W*H) (by omega) (by omega),bs,Gi]
theorem aep(W H:Nat):Rt W H (iU (W*H) (fun _=>blank P0)):=fun n hn i hi=>
 MX P0 (by decide) W i _ (xD _ _ _ (mul_lt n H W i hn hi))
def okN(n:dm):Prop:= ∀i,i<256→(n.Us i).toNat≤5∧(n.qU i).toNat≤5
theorem scan{body:Int→Option (Int⊕(Unit⊕Int))}{q:Nat→Prop}(hb: ∀i:Nat,i<256→(q i∧body i=some (.inl ((i+1:Nat):Int)))∨(¬q i∧body i=some (.inr (.inr 4))))(he:body 256=some (.inr (.inl ()))):
  ((∀i,i<256→q i)∧bR body 0=some (.inl ()))∨(¬(∀i,i<256→q i)∧bR body 0=some (.inr 4)):=by
 obtain ⟨r,h1,h2⟩:=CT (body:=body) (fun n x=> ∃i:Nat,x=(i:Int)∧i≤256∧n=256-i∧ ∀j,j<i→q j) (fun r=>((∀i,i<256→q i)∧r= .inl ())∨(¬(∀i,i<256→q i)∧r= .inr 4)) (by
  rintro n x ⟨i,rfl,hi,rfl,ha⟩
  by_cases h:i<256
  ·rcases hb i h with ⟨hq,e⟩ | ⟨hq,e⟩
   ·exact .inl ⟨_,256-(i+1),e,by omega,i+1,rfl,by omega,rfl,fun j hj=>by
     by_cases Xg:j=i
     ·subst Xg;exact hq
     ·exact ha j (by omega)⟩
   ·exact .inr ⟨_,e,.inr ⟨fun hh=>hq (hh i h),rfl⟩⟩
  ·have:i=256:=by omega
   subst this
   exact .inr ⟨_,he,.inl ⟨ha,rfl⟩⟩) (n:=256) (x:=0) ⟨0,rfl,by omega,rfl,fun j hj=>by omega⟩
 rw [h1]
 rcases h2 with ⟨a,rfl⟩ | ⟨a,rfl⟩
 ·exact .inl ⟨a,rfl⟩
 ·exact .inr ⟨a,rfl⟩
theorem M0(n:Int):f101 n=some (decide (0≤n∧n≤5)):=by
 unfold f101
 simp only [Bool.cond_decide]
 repeat' split
 all_goals first | exact congrArg some (decide_eq_true (by omega)).symm | exact congrArg some (decide_eq_false (by omega)).symm
theorem arR(a:dm):((∀i,i<256→(a.Us i).toNat≤5)∧bR (wO a) 0=some (.inl ()))∨(¬(∀i,i<256→(a.Us i).toNat≤5)∧bR (wO a) 0=some (.inr 4)):=
 scan (body:=wO a) (q:=fun i=>(a.Us i).toNat≤5) (fun i h=>by
  unfold wO ry wN
  rw [decide_eq_true (p:=(i:Int)<256) (by omega)]
  simp only [cond_true,fX i 256 h,Option.bind_some,M0]
  by_cases hq:(a.Us i).toNat≤5
  ·left
   rw [decide_eq_true (by omega),gY _ (by omega)]
   exact ⟨hq,rfl⟩
  ·right
   rw [decide_eq_false (by omega)]
   exact ⟨hq,rfl⟩) rfl
theorem ai2(a:dm):((∀i,i<256→(a.qU i).toNat≤5)∧bR (wQ a) 0=some (.inl ()))∨(¬(∀i,i<256→(a.qU i).toNat≤5)∧bR (wQ a) 0=some (.inr 4)):=
 scan (body:=wQ a) (q:=fun i=>(a.qU i).toNat≤5) (fun i h=>by
  unfold wQ rz wP
  rw [decide_eq_true (p:=(i:Int)<256) (by omega)]
  simp only [cond_true,fX i 256 h,Option.bind_some,M0]
  by_cases hq:(a.qU i).toNat≤5
  ·left
   rw [decide_eq_true (by omega),gY _ (by omega)]
   exact ⟨hq,rfl⟩
  ·right
   rw [decide_eq_false (by omega)]
   exact ⟨hq,rfl⟩) rfl
theorem WB(a:dm):(okN a∧f56 a=some 0)∨(¬okN a∧f56 a=some 4):=by
 unfold f56 Jw
 rcases arR a with ⟨h1,e1⟩ | ⟨h1,e1⟩
 ·rw [e1]
  simp only [Option.bind_some,Sum.elim_inl]
  unfold Jv
  rcases ai2 a with ⟨h2,e2⟩ | ⟨h2,e2⟩
  ·rw [e2];exact .inl ⟨fun i hi=>⟨h1 i hi,h2 i hi⟩,rfl⟩
  ·rw [e2];exact .inr ⟨fun h=>h2 fun i hi=>(h i hi).2,rfl⟩
 ·rw [e1];exact .inr ⟨fun h=>h1 fun i hi=>(h i hi).1,rfl⟩
theorem six(s:Int)(h:0≤s∧s≤5):s=0∨s=1∨s=2∨s=3∨s=4∨s=5:=by omega
theorem aBO(z:Int)(h:0≤z∧z≤5):(u8 z).toNat≤5:=by have:=XK z;omega
theorem Aj(l:List aa)(hl:l.length≤1048576):f36 l l=some true:=by
 unfold f36
 rw [dt rfl,Bool.not_true,cf]
 unfold JH
 have h:=fI (body:=xz l l) (fun i=>(i:Int)) (.inl ()) l.length ?_ 0 (by omega) ?_
 ·have h':bR (xz l l) 0=some (.inl ()):=h
  rw [h',bs];rfl
 ·unfold xz ou
  rw [dK (df (by omega)),cf]
 ·intro i _ hi
  unfold xz ou xy
  rw [cZ (dt (by omega)),ct,uM l i ⟨0,⟨0,0,0⟩⟩ hi,bs,bs,dt rfl,dt rfl,dt rfl,dt rfl,r9 i (by omega)]
  rfl
theorem Dq(g:aV)(hl:g.Cells.length≤1048576):f33 g g=some true:=by
 unfold f33
 rw [cZ (dt rfl),cZ (dt rfl),Aj _ hl,bs]
end Go.Proofs.YtobkkblijfhpoaaGreatDoor.Pm
