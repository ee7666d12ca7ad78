/- sOf usual_ok blk_rt size_ok cloneR check_ok gcode_ok gcode0 known_ok pen_ok width_ok wd_cases inR_nat qchk_eq lone_ok scr_check putin_ok shiftin_ok scrollin_ok row_ok rowL rowL_len next_ok back_ok cursor_ok lim_ok tcol snew_ok tset_ok get_ok pos_ok save_ok restore_ok mkL_len repL_len sub_nat size_le cloneS actions_ok loop_to idx_nat wr1 chk3 KS.kt KS.w KS.tr KT.w: what the typed functions compute, and the laws. -/
import Derived.Test.YtimbfadnabfabaaGreatDoorDMoO
import Derived.Test.YtimbfadnabfabaaGreatDoorBas
import Derived.Lib.LaidU8T
import Derived.MakeChecks
import Derived.LaidSub
import Derived.Test.YtimbfadnabfabaaGreatDoorRows
import Derived.Lib.ItoaLen
import Derived.Test.YtimbfadnabfabaaGreatDoorDMoZ
namespace Go.Proofs.YtimbfadnabfabaaGreatDoor.Pm
open Go.Proofs.YtimbfadnabfabaaGreatDoor.Args
open Go.ChangeShapes Go.WideShapes Go.ChangeAt Go.RowKit
set_option linter.unusedVariables false
set_option linter.unusedSimpArgs false
set_option maxRecDepth 100000
theorem iL(i n:Nat)(h:i<n):jG (i:Int) n=some i:=by unfold jG;rw [if_pos (by omega)];simp
theorem lN{σ ρ:Type}{body:σ→Option (σ⊕ρ)}(f:Nat→σ)(r:ρ)(n:Nat)(hn:body (f n)=some (.inr r)): ∀k,k≤n→(∀i,k≤i→i<n→body (f i)=some (.inl (f (i+1))))→b9 body (f k)=some r:=by
 intro k hk h
 induction hd:n-k generalizing k with
 | zero=>
  have:k=n:=by omega
  subst this;exact dJ hn
 | succ d ih=>exact fI (h k (by omega) (by omega)) (ih (k+1) (by omega) (fun i h1 h2=>h i (by omega) h2) (by omega))
theorem Cn(P:Nat→Bool): ∀n,(∀i,i<n→P i=true)∨ ∃k,k<n∧P k=false∧ ∀i,i<k→P i=true
 | 0=> .inl fun i h=>absurd h (by omega)
 | n+1=>by
  rcases Cn P n with h | ⟨k,h1,h2,h3⟩
  ·cases hp:P n with
   | true=>exact .inl fun i hi=>by rcases Nat.lt_succ_iff_lt_or_eq.1 hi with h' | rfl;exact h i h';exact hp
   | false=>exact .inr ⟨n,by omega,hp,h⟩
  ·exact .inr ⟨k,by omega,h2,h3⟩
theorem v_{σ ρ:Type}{body:σ→Option (σ⊕ρ)}(f:Nat→σ)(r0 r1:ρ)(n:Nat)(P:Nat→Bool)(h1: ∀i,i<n→P i=true→body (f i)=some (.inl (f (i+1))))(h2: ∀i,i<n→P i=false→body (f i)=some (.inr r1))
  (h0:body (f n)=some (.inr r0)):b9 body (f 0)=some (if∀i,i<n→P i=true then r0 else r1):=by
 rcases Cn P n with h | ⟨k,hk,hb,hg⟩
 ·rw [if_pos h];exact lN f r0 n h0 0 (by omega) fun i _ hi=>h1 i hi (h i hi)
 ·rw [if_neg (fun h=>by rw [h k hk] at hb;cases hb)]
  exact lN f r1 k (h2 k hk hb) 0 (by omega) fun i _ hi=>h1 i (by omega) (hg i hi)
theorem nI(i:Nat)(h:i<1000000000):IntKind.i64.wrap ((i:Int)+1)=((i+1:Nat):Int):=by rw [gz _ (by omega)];omega
theorem dt{p:Prop} [Decidable p](h:p):decide p=true:=decide_eq_true h
theorem df{p:Prop} [Decidable p](h: ¬p):decide p=false:=decide_eq_false h
theorem b8{α:Type}{b:Bool}{x y:α}(h:b=true):(bif b then x else y)=x:=by rw [h,ct]
theorem bN{α:Type}{b:Bool}{x y:α}(h:b=false):(bif b then x else y)=y:=by rw [h,cf]
theorem fX{α:Type}(l:List α)(i:Nat)(z:α)(h:i<l.length):idx l (i:Int)=some (l.getD i z):=by
 unfold idx;rw [if_pos (by omega)];simp [h]
def hit(a:Int)(x:Int×Int):Bool:=decide (x.1≤a)&&decide (a≤x.2)
theorem aoe(a:Int)(l:List (Int×Int))(hl:l.length≤1000):f126 a l=some (l.any (hit a)):=by
 unfold f126
 have h:=v_ (body:=uw a l) (fun i=>(i:Int)) (.inl ()) (.inr true) l.length (fun i=> !(hit a (l.getD i (0,0)))) ?_ ?_ ?_
 ·rw [show ((0:Nat):Int)=0 from rfl] at h
  rw [h,bs]
  by_cases hp: ∀i,i<l.length→(!(hit a (l.getD i (0,0))))=true
  ·rw [if_pos hp]
   show some false=_
   have:l.any (hit a)=false:=by
    rw [List.any_eq_false]
    intro x hx
    obtain ⟨i,hi,rfl⟩:=List.getElem_of_mem hx
    have:=hp i hi
    simp [hi] at this
    simp [this]
   rw [this]
  ·rw [if_neg hp]
   show some true=_
   have:l.any (hit a)=true:=by
    rw [List.any_eq_true]
    rcases Cn (fun i=> !(hit a (l.getD i (0,0)))) l.length with h | ⟨k,hk,hb,_⟩
    ·exact absurd h hp
    ·refine ⟨l[k],List.getElem_mem hk,?_⟩
     simp [hk] at hb
     exact hb
   rw [this]
 ·intro i hi hp
  unfold uw mE s4
  simp only [hit,Bool.not_eq_true',Bool.and_eq_false_imp,decide_eq_true_eq,decide_eq_false_iff_not] at hp
  rw [b8 (dt (by omega)),ct,fX l i (0,0) hi,bs]
  by_cases h1:(l.getD i (0,0)).1≤a
  ·rw [b8 (dt h1),bN (df (hp h1)),nI i (by omega)]
  ·rw [bN (df h1),nI i (by omega)]
 ·intro i hi hp
  unfold uw mE s4
  simp only [hit,Bool.not_eq_false',Bool.and_eq_true,decide_eq_true_eq] at hp
  rw [b8 (dt (by omega)),ct,fX l i (0,0) hi,bs,b8 (dt hp.1),b8 (dt hp.2)]
 ·unfold uw mE
  rw [bN (df (by omega)),cf]
def YB:List (Int×Int):= [(0,31),(127,159),(768,879),(8203,8207),(55296,57343),(65024,65039)]
def aof:List (Int×Int):= [(4352,4447),(11904,12350),(12353,19903),(19968,42191),(44032,55203),(63744,64255),(65072,65135),(65280,65376),(65504,65510),(127744,128591),(129280,129535),(131072,262141)]
def wd(a:Int):Int:=if a<0∨1114111<a∨YB.any (hit a)=true then 0 else if aof.any (hit a)=true then 2 else 1
theorem oB(a:Int):f90 a=some (wd a):=by
 unfold f90 Dm wd
 rw [aoe a _ (by decide),aoe a _ (by decide)]
 simp only [bs]
 rw [show ([(0,31),(127,159),(768,879),(8203,8207),(55296,57343),(65024,65039)]:List (Int×Int))=YB from rfl,
  show ([(4352,4447),(11904,12350),(12353,19903),(19968,42191),(44032,55203),(63744,64255),(65072,65135),(65280,65376),(65504,65510),(127744,128591),(129280,129535),(131072,262141)]:List (Int×Int))=aof from rfl]
 by_cases h1:a<0
 ·rw [b8 (dt h1),ct,if_pos (.inl h1)]
 ·rw [bN (df h1)]
  by_cases h2:1114111<a
  ·rw [b8 (dt h2),ct,if_pos (.inr (.inl h2))]
  ·rw [bN (df h2)]
   cases h3:YB.any (hit a) with
   | true=>rw [ct,if_pos (.inr (.inr rfl))]
   | false=>
    rw [cf,if_neg (by simp [h1,h2])]
    cases h4:aof.any (hit a) with
    | true=>rw [ct,if_pos rfl]
    | false=>rw [cf,if_neg (by simp)]
theorem z_(a:Int):wd a=0∨wd a=1∨wd a=2:=by
 unfold wd;split
 ·exact .inl rfl
 ·split
  ·exact .inr (.inr rfl)
  ·exact .inr (.inl rfl)
theorem awW:wd 32=1:=by decide
def Oe(n:Int):Bool:=(decide (0≤n)&&decide (n≤256)) || (decide (16777216≤n)&&decide (n<33554432))
def Et(p:bw):Bool:=(decide (0≤p.Flags)&&decide (p.Flags≤255))&&(Oe p.eK&&Oe p.dV)
def pcI(p:bw):Int:=if Et p=true then 0 else 4
theorem acP(n:Int):f92 n=some (Oe n):=by
 unfold f92 Oe
 cases decide (0≤n)<;>cases decide (n≤256)<;>cases decide (16777216≤n)<;>cases decide (n<33554432)<;>rfl
theorem zZ(p:bw):f59 p=some (pcI p):=by
 unfold f59 pcI Et
 rw [acP,acP]
 simp only [bs]
 by_cases h1:p.Flags<0
 ·rw [b8 (dt h1),df (p:=0≤p.Flags) (by omega)];rfl
 ·rw [bN (df h1),dt (p:=0≤p.Flags) (by omega)]
  by_cases h2:255<p.Flags
  ·rw [b8 (dt h2),df (p:=p.Flags≤255) (by omega)];rfl
  ·rw [bN (df h2),dt (p:=p.Flags≤255) (by omega)]
   cases Oe p.eK<;>cases Oe p.dV<;>rfl
def P0:bw:=⟨0,0,0⟩
def Z0:ah:=⟨0,P0⟩
abbrev cx(l:List ah)(i:Nat):ah:=l.getD i Z0
def blank(p:bw):ah:=⟨32,p⟩
def peq(p q:bw):Bool:=decide (p.Flags=q.Flags)&&(decide (p.eK=q.eK)&&(decide (p.dV=q.dV)&&true))
def tlF(f:Nat→ah)(W k:Nat):Bool:=decide (k<W)&&(decide ((f k).eC=0)&&peq (f k).cz (f (k-1)).cz)
def pS(f:Nat→ah)(W i:Nat):Bool:=
 if (f i).eC=0 then (decide (i=0) || (!decide (wd (f (i-1)).eC=2) || !tlF f W i)) else (decide (wd (f i).eC=2)&& !tlF f W (i+1))
theorem wh(l:List ah)(i:Nat)(h:i<l.length):idx l (i:Int)=some (cx l i):=fX l i Z0 h
theorem wrm(k:Nat)(h1:1≤k)(h:k<1000000000):IntKind.i64.wrap ((k:Int)-1)=((k-1:Nat):Int):=by rw [gz _ (by omega)];omega
theorem UF(l:List ah)(k:Nat)(h1:1≤k)(hk:k≤l.length)(hl:l.length≤1000000)(r:List PD):f127 (k:Int) l r=some (tlF (cx l) l.length k):=by
 unfold f127 tlF
 by_cases h:k<l.length
 ·rw [b8 (dt (by omega)),dt h,Bool.true_and,wh l k h,bs]
  by_cases h0:(cx l k).eC=0
  ·rw [b8 (dt h0),dt h0,Bool.true_and,bs,wrm k h1 (by omega),wh l (k-1) (by omega),bs]
   show (bif peq (cx l k).cz (cx l (k-1)).cz then some true else some false)=_
   cases peq (cx l k).cz (cx l (k-1)).cz<;>rfl
  ·rw [bN (df h0),df h0,Bool.false_and]
 ·rw [bN (df (by omega)),df h,Bool.false_and]
theorem Ep(l:List ah)(i:Nat)(h:i<l.length)(hl:l.length≤1000000):f91 l (i:Int)=some (pS (cx l) l.length i):=by
 unfold f91 PY pS
 rw [wh l i h,bs]
 by_cases h0:(cx l i).eC=0
 ·rw [b8 (dt h0),if_pos h0]
  by_cases hi:i=0
  ·rw [b8 (dt (by omega)),dt hi,Bool.true_or]
  ·rw [bN (df (by omega)),df hi,Bool.false_or,wrm i (by omega) (by omega),wh l (i-1) (by omega),bs,oB,bs,UF l i (by omega) (by omega) hl,bs]
   cases decide (wd (cx l (i-1)).eC=2)<;>rfl
 ·rw [bN (df h0),if_neg h0,bs,oB,bs,nI i (by omega),UF l (i+1) (by omega) (by omega) hl,bs]
  cases decide (wd (cx l i).eC=2)<;>rfl
theorem wj(f g:Nat→ah)(W i:Nat)(hi:i<W)(h: ∀k,k<W→f k=g k):pS f W i=pS g W i:=by
 unfold pS tlF
 rw [h i hi,h (i-1) (by omega),show i+1-1=i from rfl,h i hi]
 by_cases h1:i+1<W
 ·rw [h (i+1) h1]
 ·rw [df h1];rfl
def okB(f:Nat→ah)(W i:Nat):Bool:=Et (f i).cz&&((decide ((f i).eC=0) || !decide (wd (f i).eC=0))&& !pS f W i)
def Bq(W:Nat)(c:List ah)(n:Nat):Nat→ah:=fun i=>cx c (n*W+i)
def Rt(W H:Nat)(c:List ah):Prop:= ∀n,n<H→(∀i,i<W→okB (Bq W c n) W i=true)
instance(W H:Nat)(c:List ah):Decidable (Rt W H c):=by unfold Rt;infer_instance
def jT(W:Nat)(c:List ah)(n:Nat):List ah:=(c.take ((n+1)*W)).drop (n*W)
theorem qq(n H W:Nat)(h:n<H):(n+1)*W≤W*H:=by rw [Nat.mul_comm W H];exact Nat.mul_le_mul_right W h
theorem mul_lt(n H W i:Nat)(h:n<H)(hi:i<W):n*W+i<W*H:=by
 have:=qq n H W h
 rw [Nat.succ_mul] at this;omega
theorem uO(W H:Nat)(c:List ah)(n:Nat)(hc:c.length=W*H)(hn:n<H):(jT W c n).length=W:=by
 have:=qq n H W hn
 unfold jT
 rw [List.length_drop,List.length_take,Nat.min_eq_left (by omega),Nat.succ_mul];omega
theorem UG(W H:Nat)(c:List ah)(n i:Nat)(hc:c.length=W*H)(hn:n<H)(hi:i<W):cx (jT W c n) i=Bq W c n i:=by
 have:=qq n H W hn
 unfold jT Bq cx
 rw [List.getD_eq_getElem?_getD,List.getD_eq_getElem?_getD,List.getElem?_drop,List.getElem?_take,if_pos (by rw [Nat.succ_mul];omega)]
theorem size_le(W H:Nat)(hW:W≤160)(hH:H≤60):W*H≤9600:=by
 have:=Nat.mul_le_mul hW hH;omega
theorem wrW(W H n:Nat)(hW:W≤160)(hH:H≤60)(hn:n≤H):IntKind.i64.wrap ((n:Int)*(W:Int))=((n*W:Nat):Int):=by
 have h1:=Nat.mul_le_mul hn hW
 have h2:n*W≤9600:=by omega
 rw [show (n:Int)*(W:Int)=((n*W:Nat):Int) from (Int.natCast_mul n W).symm,gz _ (by omega)]
theorem aoi(W H:Nat)(hW:W≤160)(hH:H≤60):IntKind.i64.wrap ((W:Int)*(H:Int))=((W*H:Nat):Int):=by
 have h2:=size_le W H hW hH
 rw [show (W:Int)*(H:Int)=((W*H:Nat):Int) from (Int.natCast_mul W H).symm,gz _ (by omega)]
theorem KP{α:Type}(xs:List α)(a b:Nat)(h1:a≤b)(h2:b≤xs.length):pW xs (a:Int) (b:Int)=some ((xs.take b).drop a):=by
 unfold pW
 rw [if_pos (by omega)];simp
theorem Hy(W H:Nat)(c:List ah)(n:Nat)(hc:c.length=W*H)(hn:n<H)(hW:W≤160)(hH:H≤60):f89 ⟨W,H,c⟩ (n:Int)=some (jT W c n):=by
 have:=qq n H W hn
 unfold f89
 dsimp only []
 rw [nI n (by omega),wrW W H n hW hH (by omega),wrW W H (n+1) hW hH (by omega),KP _ _ _ (Nat.mul_le_mul_right W (by omega)) (by omega),bs]
 rfl
def mh(g:bQ):Int:=
 if 1≤g.bR∧g.bR≤160∧1≤g.bV∧g.bV≤60 then (if (g.Cells.length:Int)=g.bR*g.bV then (if Rt g.bR.toNat g.bV.toNat g.Cells then 0 else 4) else 4) else 1
theorem KM(w h:Int):f88 w h=some (if 1≤w∧w≤160∧1≤h∧h≤60 then 0 else 1):=by
 unfold f88
 by_cases h1:w<1
 ·rw [b8 (dt h1),if_neg (by omega)]
 rw [bN (df h1)]
 by_cases h2:160<w
 ·rw [b8 (dt h2),if_neg (by omega)]
 rw [bN (df h2)]
 by_cases h3:h<1
 ·rw [b8 (dt h3),if_neg (by omega)]
 rw [bN (df h3)]
 by_cases h4:60<h
 ·rw [b8 (dt h4),if_neg (by omega)]
 rw [bN (df h4),if_pos (by omega)]
theorem aoj(p:bw):decide (pcI p=0)=Et p:=by unfold pcI;cases Et p<;>rfl
theorem aok{ρ:Type}(P:Prop) [Decidable P](a b:ρ)(c:Prop) [Decidable c](h:P↔c):(if P then a else b)=if c then a else b:=by
 by_cases hp:P
 ·rw [if_pos hp,if_pos (h.1 hp)]
 ·rw [if_neg hp,if_neg (fun q=>hp (h.2 q))]
theorem KQ(a1:bQ)(W H:Nat)(c:List ah)(n:Nat)(z:Int)(hc:c.length=W*H)(hn:n<H)(hW:W≤160)(hH:H≤60):
  b9 (l_ a1) (jT W c n,z,jT W c n,((jT W c n).length:Int),0)=some (if∀i,i<W→okB (Bq W c n) W i=true then .inl z else .inr 4):=by
 have hl:=uO W H c n hc hn
 have hx: ∀k,k<W→cx (jT W c n) k=Bq W c n k:=fun k hk=>UG W H c n k hc hn hk
 generalize jT W c n=l at hl hx ⊢
 have h:=v_ (body:=l_ a1) (fun i=>(l,z,l,(l.length:Int),(i:Int))) (.inl z) (.inr 4) W (fun i=>okB (Bq W c n) W i) ?_ ?_ ?_
 ·exact h
 ·intro i hi hp
  have kY:i<l.length:=by omega
  unfold okB at hp
  simp only [Bool.and_eq_true,Bool.or_eq_true,decide_eq_true_eq,Bool.not_eq_true'] at hp
  obtain ⟨h1,h2,h3⟩:=hp
  rw [←hx i hi] at h1 h2
  rw [←wj (cx l) _ W i hi hx] at h3
  unfold l_ jV oH
  dsimp only []
  rw [b8 (dt (by omega)),ct,wh l i kY,bs,zZ,bs,aoj,h1,Bool.not_true,cf,oB,bs,Ep l i kY (by omega),hl,h3]
  simp only [bs,cf]
  rw [nI i (by omega)]
  rcases h2 with h2 | h2
  ·rw [dt h2];rfl
  ·rw [h2]
   cases decide ((cx l i).eC=0)<;>rfl
 ·intro i hi hp
  have kY:i<l.length:=by omega
  unfold okB at hp
  rw [←hx i hi,←wj (cx l) _ W i hi hx] at hp
  unfold l_ jV oH
  dsimp only []
  rw [b8 (dt (by omega)),ct,wh l i kY,bs,zZ,bs,aoj,oB,bs,Ep l i kY (by omega),hl]
  simp only [bs]
  cases h1:Et (cx l i).cz with
  | false=>rfl
  | true=>
   rw [h1,Bool.true_and] at hp
   rw [Bool.not_true,cf]
   cases h2:decide ((cx l i).eC=0) with
   | true=>
    rw [h2,Bool.true_or,Bool.true_and] at hp
    have h3:pS (cx l) W i=true:=by simpa using hp
    rw [h3];rfl
   | false=>
    rw [h2,Bool.false_or] at hp
    rw [Bool.not_false,ct]
    cases h3:decide (wd (cx l i).eC=0) with
    | true=>rfl
    | false=>
     rw [h3,Bool.not_false,Bool.true_and] at hp
     have h3:pS (cx l) W i=true:=by simpa using hp
     rw [h3];rfl
 ·unfold l_ jV
  dsimp only []
  rw [bN (df (by omega)),cf]
theorem auZ(W H:Nat)(c:List ah):(∀n,n<H→decide (∀i,i<W→okB (Bq W c n) W i=true)=true)↔Rt W H c:=by
 unfold Rt
 constructor
 ·intro h n hn;exact of_decide_eq_true (h n hn)
 ·intro h n hn;exact dt (h n hn)
theorem agK(W H:Nat)(c:List ah)(hc:c.length=W*H)(hW:W≤160)(hH:H≤60):
  b9 (vB ⟨W,H,c⟩) 0=some (if Rt W H c then .inl () else .inr 4):=by
 have h:=v_ (body:=vB ⟨W,H,c⟩) (fun i=>(i:Int)) (.inl ()) (.inr 4) H (fun n=>decide (∀i,i<W→okB (Bq W c n) W i=true)) ?_ ?_ ?_
 ·rw [aok _ _ _ _ (auZ W H c)] at h;exact h
 ·intro n hn hp
  unfold vB ot vA
  rw [b8 (dt (by show (n:Int)<(H:Int);omega)),ct,Hy W H c n hc hn hW hH,bs,KQ _ W H c n n hc hn hW hH,bs,if_pos (of_decide_eq_true hp)]
  simp only [Sum.elim_inl]
  rw [nI n (by omega)]
 ·intro n hn hp
  unfold vB ot vA
  rw [b8 (dt (by show (n:Int)<(H:Int);omega)),ct,Hy W H c n hc hn hW hH,bs,KQ _ W H c n n hc hn hW hH,bs,if_neg (of_decide_eq_false hp)]
  rfl
 ·unfold vB ot
  rw [bN (df (by show¬(H:Int)<(H:Int);omega)),cf]
theorem iU(g:bQ):f57 g=some (mh g):=by
 obtain ⟨w,h,c⟩:=g
 unfold f57 P5 P4 mh
 rw [KM,bs]
 dsimp only []
 by_cases hs:1≤w∧w≤160∧1≤h∧h≤60
 ·rw [if_pos hs,if_pos hs,bN (by rfl)]
  obtain ⟨W,rfl⟩:=Int.eq_ofNat_of_zero_le (show 0≤w by omega)
  obtain ⟨H,rfl⟩:=Int.eq_ofNat_of_zero_le (show 0≤h by omega)
  rw [aoi W H (by omega) (by omega)]
  by_cases hc:c.length=W*H
  ·rw [if_pos (by rw [hc];exact Int.natCast_mul W H),bN (by rw [dt (by omega)];rfl),agK W H c hc (by omega) (by omega),bs,Int.toNat_natCast,Int.toNat_natCast]
   by_cases hr:Rt W H c
   ·rw [if_pos hr,if_pos hr];rfl
   ·rw [if_neg hr,if_neg hr];rfl
  ·rw [if_neg (by rw [←Int.natCast_mul];omega),b8 (by rw [df (by omega)];rfl)]
 ·rw [if_neg hs,if_neg hs,b8 (by rfl)]
theorem uP{α:Type}(b:Nat)(xs ys:List α)(h:(xs.length+ys.length)*b≤1000000000):eN b xs ys=some (xs++ys):=fj b xs ys (by omega)
theorem Eo(l:List ah)(hl:l.length≤100000):f70 l=some l:=by
 unfold f70;rw [uP 32 [] l (by simp;omega),bs];rfl
def gD(n:Nat)(f:Nat→ah):List ah:=(List.range n).map f
theorem cR(n:Nat)(f:Nat→ah):(gD n f).length=n:=by unfold gD;simp
theorem nv(n:Nat)(f:Nat→ah)(i:Nat)(h:i<n):(gD n f)[i]?=some (f i):=by unfold gD;simp [h]
theorem tC(n:Nat)(f:Nat→ah)(i:Nat)(h:i<n):cx (gD n f) i=f i:=by unfold cx;rw [List.getD_eq_getElem?_getD,nv n f i h];rfl
theorem HA(l:List ah)(i:Nat)(h:i<l.length):l[i]?=some (cx l i):=by unfold cx;simp [h]
theorem Q0(l m:List ah)(h:l.length=m.length)(hx: ∀i,i<l.length→cx l i=cx m i):l=m:=by
 refine List.ext_getElem? fun i=>?_
 by_cases hi:i<l.length
 ·rw [HA l i hi,HA m i (by omega),hx i hi]
 ·rw [List.getElem?_eq_none (by omega),List.getElem?_eq_none (by omega)]
theorem jM{n:Nat}{f g:Nat→ah}(h: ∀i,i<n→f i=g i):gD n f=gD n g:=by
 unfold gD
 exact List.map_congr_left fun i hi=>h i (List.mem_range.1 hi)
theorem Aa(l:List ah)(f:Nat→ah)(h: ∀i,i<l.length→f i=cx l i):gD l.length f=l:=
 Q0 _ _ (cR _ _) fun i hi=>by rw [cR] at hi;rw [tC _ _ _ hi,h i hi]
theorem KR(n:Nat)(f:Nat→ah)(k:Nat)(x:ah):(gD n f).set k x=gD n (fun j=>if j=k then x else f j):=by
 refine List.ext_getElem? fun i=>?_
 by_cases hi:i<n
 ·rw [nv n _ i hi,List.getElem?_set,cR,nv n f i hi]
  by_cases h:k=i
  ·subst h;rw [if_pos rfl,if_pos hi,if_pos rfl]
  ·rw [if_neg h,if_neg (fun q=>h q.symm)]
 ·rw [List.getElem?_eq_none (by rw [List.length_set,cR];omega),List.getElem?_eq_none (by rw [cR];omega)]
theorem KU(n:Nat)(f:Nat→ah):gD n f++ [f n]=gD (n+1) f:=by unfold gD;rw [List.range_succ,List.map_append];rfl
theorem UH(n:Nat)(f:Nat→ah)(o m:Nat)(ys:List ah)(h:o+m≤n):
  mq (gD n f) o m ys=gD n (fun j=>if o≤j∧j<o+min ys.length m then cx ys (j-o) else f j):=by
 refine List.ext_getElem? fun i=>?_
 unfold mq
 by_cases hi:i<n
 ·rw [nv n _ i hi]
  by_cases h1:i<o
  ·rw [if_neg (by omega),List.append_assoc,List.getElem?_append_left (by rw [List.length_take,cR];omega),List.getElem?_take,if_pos h1,nv n f i hi]
  ·rw [List.append_assoc,List.getElem?_append_right (by rw [List.length_take,cR];omega),List.length_take,cR,Nat.min_eq_left (show o≤n by omega)]
   by_cases h2:i<o+min ys.length m
   ·rw [if_pos ⟨by omega,h2⟩,List.getElem?_append_left (by rw [List.length_take];omega),List.getElem?_take,if_pos (by omega),HA ys (i-o) (by omega)]
   ·rw [if_neg (by omega),List.getElem?_append_right (by rw [List.length_take];omega),List.length_take,List.getElem?_drop,show o+min ys.length m+(i-o-min (min ys.length m) ys.length)=i by omega,nv n f i hi]
 ·rw [List.getElem?_eq_none (by rw [List.length_append,List.length_append,List.length_take,List.length_take,List.length_drop,cR];omega),List.getElem?_eq_none (by rw [cR];omega)]
theorem Fm(c:List ah)(o m:Nat)(h:o+m≤c.length):pJ c o m=some (gD m (fun i=>cx c (o+i))):=by
 unfold pJ
 rw [if_pos h]
 refine congrArg some (Q0 _ _ (by rw [cR,List.length_take,List.length_drop];omega) fun i hi=>?_)
 rw [List.length_take,List.length_drop] at hi
 rw [tC _ _ _ (by omega)]
 unfold cx
 rw [List.getD_eq_getElem?_getD,List.getD_eq_getElem?_getD,List.getElem?_take,if_pos (by omega),List.getElem?_drop]
def acQ(f:Nat→ah)(W i:Nat):ah:=if pS f W i=true then blank (f i).cz else f i
def C1(c:List ah)(o W:Nat):List ah:=gD c.length (fun j=>if o≤j∧j<o+W then acQ (fun i=>cx c (o+i)) W (j-o) else cx c j)
theorem qH(c:List ah)(o W:Nat):(C1 c o W).length=c.length:=cR _ _
theorem Q1(c:List ah)(o W:Nat)(h:o+W≤c.length)(hl:c.length≤100000):f116 o W c=some (C1 c o W):=by
 unfold f116
 rw [Fm c o W h,bs,Eo _ (by rw [cR];omega),bs]
 have UI:=lN (body:=yz o W c) (fun i=>(gD c.length (fun j=>if o≤j∧j<o+i then acQ (fun i=>cx c (o+i)) W (j-o) else cx c j),gD W (fun i=>cx c (o+i)),(i:Int))) (C1 c o W) W ?_ 0 (by omega) ?_
 ·try dsimp only [] at UI
  rw [Aa c _ (fun j hj=>if_neg (by omega))] at UI
  rw [show ((0:Nat):Int)=0 from rfl] at UI
  rw [UI,bs]
 ·unfold yz pn
  try dsimp only []
  rw [bN (df (by omega)),cf]
  rfl
 ·intro i _ hi
  unfold yz pn yx
  try dsimp only []
  rw [b8 (dt (by omega)),ct,Ep _ i (by rw [cR];exact hi) (by rw [cR];omega),bs,cR,wj (cx (gD W fun i=>cx c (o+i))) (fun i=>cx c (o+i)) W i hi (fun k hk=>tC W _ k hk),nI i (by omega)]
  cases aol:pS (fun i=>cx c (o+i)) W i with
  | true=>
   rw [ct,iL i W hi,bs,nv W _ i hi,bs,show f161 (cx c (o+i)).cz=some (blank (cx c (o+i)).cz) from rfl,bs,bs,nv _ _ _ (by omega),bs,bs,KR]
   refine congrArg some (congrArg Sum.inl (Prod.ext (jM fun j hj=>?_) rfl))
   try dsimp only []
   by_cases Fo:j=o+i
   ·subst Fo
    rw [if_pos rfl,if_pos (by omega),Nat.add_sub_cancel_left]
    unfold acQ
    rw [if_pos aol]
   ·rw [if_neg Fo]
    by_cases UJ:o≤j∧j<o+i
    ·rw [if_pos UJ,if_pos (by omega)]
    ·rw [if_neg UJ,if_neg (by omega)]
  | false=>
   rw [cf]
   refine congrArg some (congrArg Sum.inl (Prod.ext (jM fun j hj=>?_) rfl))
   by_cases UJ:o≤j∧j<o+i
   ·rw [if_pos UJ,if_pos (by omega)]
   ·rw [if_neg UJ]
    by_cases Fo:j=o+i
    ·subst Fo
     rw [if_pos (by omega),Nat.add_sub_cancel_left]
     unfold acQ
     rw [if_neg (by rw [aol];intro q;cases q)]
    ·rw [if_neg (by omega)]
theorem ny(a b:Nat)(h:a=b):bO (decide (a=b))=some ():=fW (dt h)
theorem Eu(W H n:Nat)(c:List ah)(hc:c.length=W*H)(hn:n<H)(hW:W≤160)(hH:H≤60):Cg (W:Int) (H:Int) (n:Int) c=some (c,n*W,W):=by
 have:=qq n H W hn
 have hm:=Nat.mul_le_mul_right W (show n≤n+1 by omega)
 unfold Cg
 rw [nI n (by omega),wrW W H n hW hH (by omega),wrW W H (n+1) hW hH (by omega),fW,bs]
 ·simp only [Int.toNat_natCast]
  rw [Nat.succ_mul,Nat.add_sub_cancel_left]
 ·rw [dt (by omega),dt (by omega),dt (by omega)];rfl
def Gv(c:List ah)(o lg:Nat)(r:Int)(p:bw):List ah:=gD c.length (fun j=>if j=o+(lg+1)∧wd r=2 then ⟨0,p⟩ else if j=o+lg then ⟨r,p⟩ else cx c j)
theorem Od(W H n lg:Nat)(r:Int)(p:bw)(c:List ah)(hc:c.length=W*H)(hn:n<H)(hW:W≤160)(hH:H≤60)(hr:0<wd r)(Gw:(lg:Int)+wd r≤W):
  f217 (W:Int) (H:Int) (n:Int) (lg:Int) r p c=some (C1 (Gv c (n*W) lg r p) (n*W) W):=by
 have h9:=size_le W H hW hH
 have hm:=qq n H W hn
 rw [Nat.succ_mul] at hm
 have hs: ∀k x,c.set k x=gD c.length (fun j=>if j=k then x else cx c j):=fun k x=>by
  conv=>lhs;rw [←Aa c (cx c) (fun _ _=>rfl)]
  exact KR _ _ _ _
 unfold f217
 rw [Eu W H n c hc hn hW hH,bs,ny _ _ rfl,bs,iL lg W (by omega),bs,HA c _ (by show n*W+lg<_;omega),bs,bs,oB,bs]
 try dsimp only []
 by_cases h2:wd r=2
 ·rw [b8 (dt h2),nI lg (by omega),iL (lg+1) W (by omega),bs,hs,nv _ _ _ (by omega),bs,bs,KR]
  have e:gD c.length (fun j=>if j=n*W+(lg+1) then (⟨0,p⟩:ah) else if j=n*W+lg then ⟨r,p⟩ else cx c j)=Gv c (n*W) lg r p:=jM fun j hj=>by
   by_cases hj:j=n*W+(lg+1)
   ·rw [if_pos hj,if_pos ⟨hj,h2⟩]
   ·rw [if_neg hj,if_neg (show¬(j=n*W+(lg+1)∧wd r=2) from fun q=>hj q.1)]
  rw [e,Q1 _ _ _ (by unfold Gv;rw [cR];omega) (by unfold Gv;rw [cR];omega),bs,ny _ _ (qH _ _ _),bs]
 ·rw [bN (df h2),hs]
  have e:gD c.length (fun j=>if j=n*W+lg then (⟨r,p⟩:ah) else cx c j)=Gv c (n*W) lg r p:=jM fun j hj=>by
   rw [if_neg (show¬(j=n*W+(lg+1)∧wd r=2) from fun q=>h2 q.2)]
  rw [e,Q1 _ _ _ (by unfold Gv;rw [cR];omega) (by unfold Gv;rw [cR];omega),bs,ny _ _ (qH _ _ _),bs]
def Co(f:Nat→ah)(m:Nat)(by_:Int)(p:bw)(i:Nat):ah:=if 0≤(i:Int)-by_∧(i:Int)-by_<m then f ((i:Int)-by_).toNat else blank p
theorem aom(l:List ah)(b:Int)(p:bw)(rs:List PD)(hl:l.length≤100000)(hb: -100000≤b∧b≤100000):f240 l b p rs=some (gD l.length (Co (cx l) l.length b p)):=by
 unfold f240
 have UI:=lN (body:=o_ l b p rs) (fun i=>(gD i (Co (cx l) l.length b p),(i:Int))) (gD l.length (Co (cx l) l.length b p)) l.length ?_ 0 (by omega) ?_
 ·rw [show o_ l b p rs=o_ l b p rs from rfl]
  have aon:b9 (o_ l b p rs) ([],0)=some (gD l.length (Co (cx l) l.length b p)):=UI
  rw [aon,bs]
 ·unfold o_ o9
  try dsimp only []
  rw [bN (df (by omega)),cf]
 ·intro i _ hi
  unfold o_ o9 yu tq
  try dsimp only []
  rw [b8 (dt (by omega)),ct,gz ((i:Int)-b) (by omega),nI i (by omega)]
  by_cases h1:0≤(i:Int)-b
  ·rw [b8 (dt h1)]
   by_cases h2:(i:Int)-b<l.length
   ·rw [b8 (dt h2)]
    have hx:idx l ((i:Int)-b)=some (cx l ((i:Int)-b).toNat):=by
     have:=wh l ((i:Int)-b).toNat (by omega)
     rw [Int.toNat_of_nonneg h1] at this;exact this
    have e:Co (cx l) l.length b p i=cx l ((i:Int)-b).toNat:=by unfold Co;rw [if_pos ⟨h1,h2⟩]
    rw [hx,bs,uP 32 _ _ (by rw [cR];simp;omega),bs,←KU,e]
   ·have e:Co (cx l) l.length b p i=blank p:=by unfold Co;rw [if_neg (fun q=>h2 q.2)]
    rw [bN (df h2)]
    show ((f241 p rs).bind _)=_
    rw [show f241 p rs=some (blank p) from rfl,bs,uP 32 _ _ (by rw [cR];simp;omega),bs,←KU,e]
  ·have e:Co (cx l) l.length b p i=blank p:=by unfold Co;rw [if_neg (fun q=>h1 q.1)]
   rw [bN (df h1)]
   show ((f241 p rs).bind _)=_
   rw [show f241 p rs=some (blank p) from rfl,bs,uP 32 _ _ (by rw [cR];simp;omega),bs,←KU,e]
def Ev(c:List ah)(o a b:Nat)(k:Int)(p:bw):List ah:=gD c.length (fun j=>if o+a≤j∧j<o+b then Co (fun i=>cx c (o+a+i)) (b-a) k p (j-(o+a)) else cx c j)
theorem YC{f g:Nat→ah}{m:Nat}{b:Int}{p:bw}{i:Nat}(h: ∀k,k<m→f k=g k):Co f m b p i=Co g m b p i:=by
 unfold Co
 by_cases hc:0≤(i:Int)-b∧(i:Int)-b<m
 ·rw [if_pos hc,if_pos hc,h _ (by omega)]
 ·rw [if_neg hc,if_neg hc]
theorem Gs(W H n a b:Nat)(k:Int)(p:bw)(c:List ah)(hc:c.length=W*H)(hn:n<H)(hW:W≤160)(hH:H≤60)(hab:a≤b)(hb:b≤W)(hk: -100000≤k∧k≤100000):
  f215 (W:Int) (H:Int) (n:Int) (a:Int) (b:Int) k p c=some (C1 (Ev c (n*W) a b k p) (n*W) W):=by
 have h9:=size_le W H hW hH
 have hm:=qq n H W hn
 rw [Nat.succ_mul] at hm
 have hck:(decide ((0:Int)≤(a:Int))&&decide ((a:Int)≤(b:Int))&&decide ((b:Int)≤(W:Int)))=true:=by
  rw [dt (by omega),dt (by omega),dt (by omega)];rfl
 unfold f215
 rw [Eu W H n c hc hn hW hH,bs,ny _ _ rfl,bs]
 try dsimp only []
 rw [fW hck,bs,bs,Int.toNat_natCast,Int.toNat_natCast,Fm c _ _ (by omega),bs,aom _ k p _ (by rw [cR];omega) hk,bs,fW (dt (by omega)),bs,bs,cR]
 have e:mq c (n*W+a) (b-a) (gD (b-a) (Co (cx (gD (b-a) fun i=>cx c (n*W+a+i))) (b-a) k p))=Ev c (n*W) a b k p:=by
  conv=>lhs;arg 1;rw [←Aa c (cx c) (fun _ _=>rfl)]
  rw [UH _ _ _ _ _ (by omega),cR,Nat.min_self]
  refine jM fun j hj=>?_
  by_cases Fo:n*W+a≤j∧j<n*W+b
  ·rw [if_pos (by omega),if_pos Fo,tC _ _ _ (by omega)]
   exact YC fun q hq=>tC _ _ _ hq
  ·rw [if_neg (by omega),if_neg Fo]
 rw [e,Q1 _ _ _ (by unfold Ev;rw [cR];omega) (by unfold Ev;rw [cR];omega),bs,ny _ _ (qH _ _ _),bs]

theorem acR(n:Nat)(h:n≤1000000):IntKind.u64.wrap (n:Int)=n:=by
 simp [IntKind.wrap,IntKind.signed,IntKind.bits];omega
theorem Fp(n:Nat)(h:n≤1000000):cO .and .u64 (n:Int) 4294967295=n:=by
 have e:cO .and .u64 (n:Int) 4294967295=IntKind.u64.wrap (((BitVec.ofInt 64 (n:Int)&&&BitVec.ofInt 64 4294967295).toNat:Nat):Int):=rfl
 have e2:(BitVec.ofInt 64 (n:Int)&&&BitVec.ofInt 64 4294967295).toNat=n:=by
  rw [BitVec.toNat_and,BitVec.toNat_ofInt,show (BitVec.ofInt 64 4294967295).toNat=2^32-1 from rfl,Nat.and_two_pow_sub_one_eq_mod]
  have:(((n:Int)%((2^64:Nat):Int)).toNat)=n:=by
   rw [Int.emod_eq_of_lt (by omega) (by have:((2^64:Nat):Int)=18446744073709551616:=rfl;omega)];simp
  rw [this]
  exact Nat.mod_eq_of_lt (by have:(2:Nat)^32=4294967296:=rfl;omega)
 rw [e,e2,acR n h]
theorem YD(n:Nat)(h:n≤1000000):Int.fdiv (n:Int) (2^32)=0:=by
 have e:(2:Int)^32=4294967296:=rfl
 rw [e,Int.fdiv_eq_ediv_of_nonneg _ (by omega)]
 omega
theorem aCF(n:Nat)(h:n≤1000000):f205 (IntKind.u64.wrap 1) (IntKind.u64.wrap (n:Int))=some (0,(n:Int)):=by
 have a1:=Fp 1 (by omega)
 have a0:=Fp 0 (by omega)
 have an:=Fp n h
 have d1:=YD 1 (by omega)
 have d0:=YD 0 (by omega)
 have dn:=YD n h
 have w0:=acR 0 (by omega)
 have w1:=acR 1 (by omega)
 have wn:=acR n h
 simp only [Int.natCast_zero,Int.natCast_one] at a1 a0 d1 d0 w0 w1
 unfold f205 J3 f235
 rw [bs,w1,wn]
 simp only [d1,d0,dn,a1,a0,an,Int.zero_mul,Int.mul_zero,Int.one_mul,Int.add_zero,Int.zero_add,w0,w1,wn]
theorem grow_step(z:ah)(n k:Nat)(hk:1≤k)(hn:k<n):
  mq (List.replicate k z++List.replicate (n-k) Z0) k (n-k) (((List.replicate k z++List.replicate (n-k) Z0).drop 0).take k)=List.replicate (k+min k (n-k)) z++List.replicate (n-(k+min k (n-k))) Z0:=by
 unfold mq
 rw [List.drop_zero,List.take_left' (by simp),List.length_replicate,List.take_replicate,List.drop_append,List.drop_replicate,List.drop_replicate,List.length_replicate,←List.replicate_append_replicate,List.append_assoc]
 rw [show k-(k+min k (n-k))=0 by omega,show n-k-(k+min k (n-k)-k)=n-(k+min k (n-k)) by omega,show min (min k (n-k)) k=min k (n-k) by omega]
 simp [←List.append_assoc,List.replicate_append_replicate]
theorem KV(z:ah)(n:Nat)(h1:1≤n)(h:n≤100000):f177 [z] (n:Int)=some (List.replicate n z):=by
 unfold f177 D1
 rw [bN (df (by omega))]
 show ((f205 (IntKind.u64.wrap 1) (IntKind.u64.wrap (n:Int))).bind _)=_
 rw [aCF n (by omega),bs]
 try dsimp only []
 rw [bN (df (by omega)),bN (df (by omega))]
 unfold yc
 rw [gz _ (by omega)]
 have hm:mk? 32 (n:Int) (n:Int) (ah.mk 0 (bw.mk 0 0 0))=some (List.replicate n Z0):=by
  unfold mk?
  rw [if_pos ⟨by omega,by omega,by rw [Int.toNat_natCast];omega⟩,Int.toNat_natCast];rfl
 rw [hm,bs,fW (dt (by omega)),bs,bs,List.length_replicate]
 have hc:mq (List.replicate n Z0) 0 n [z]=List.replicate 1 z++List.replicate (n-1) Z0:=by
  unfold mq
  rw [show min [z].length n=1 by show min 1 n=1;omega]
  simp
 rw [hc]
 obtain ⟨r,hr,hp⟩:=gY (body:=yb [z] (n:Int)) (fun m (x:List ah×Int)=> ∃k:Nat,1≤k∧k+m=n∧x=(List.replicate k z++List.replicate (n-k) Z0,(k:Int))) (fun r=>r=List.replicate n z) (fun m x hx=>by
  obtain ⟨k,Ai,hk2,rfl⟩:=hx
  have hl:(List.replicate k z++List.replicate (n-k) Z0).length=n:=by simp;omega
  by_cases hk:k<n
  ·refine .inl ⟨(List.replicate (k+min k (n-k)) z++List.replicate (n-(k+min k (n-k))) Z0,((k+min k (n-k):Nat):Int)),n-(k+min k (n-k)),?_,by omega,k+min k (n-k),by omega,by omega,rfl⟩
   unfold yb ya
   try dsimp only []
   rw [hl,b8 (dt (by omega)),fW (by rw [dt (by omega),dt (by omega),dt (by omega)];rfl),bs,fW (by rw [dt (by omega),dt (by omega),dt (by omega)];rfl),bs]
   have hp:pJ (List.replicate k z++List.replicate (n-k) Z0) 0 ((k:Int).toNat-(0:Int).toNat)=some (((List.replicate k z++List.replicate (n-k) Z0).drop 0).take k):=by
    unfold pJ
    rw [if_pos (by rw [hl];simp;omega)];simp
   rw [hp,bs,fW (dt (by rw [Int.toNat_natCast,Int.toNat_natCast];omega)),bs,bs,Int.toNat_natCast,Int.toNat_natCast,grow_step z n k Ai hk]
   have e:(List.take k (List.drop 0 (List.replicate k z++List.replicate (n-k) Z0))).length=k:=by simp
   have e2:(List.replicate (k+min k (n-k)) z++List.replicate (n-(k+min k (n-k))) Z0).length=n:=by simp;omega
   rw [e,e2,Int.toNat_natCast,gz _ (by omega)]
   refine congrArg some (congrArg Sum.inl (Prod.ext rfl ?_))
   show (k:Int)+((min k (n-k):Nat):Int)=((k+min k (n-k):Nat):Int)
   omega
  ·have:k=n:=by omega
   subst this
   refine .inr ⟨List.replicate k z,?_,rfl⟩
   unfold yb
   try dsimp only []
   rw [hl,bN (df (by omega))]
   simp) (n:=n-1) (x:=(List.replicate 1 z++List.replicate (n-1) Z0,((1:Nat):Int))) ⟨1,by omega,by omega,rfl⟩
 have e1:(((min [z].length (List.replicate 1 z++List.replicate (n-1) Z0).length:Nat)):Int)=((1:Nat):Int):=by
  rw [List.length_append,List.length_replicate,List.length_replicate];show ((min 1 (1+(n-1)):Nat):Int)=_;omega
 rw [e1,hr,bs,hp]
theorem UK(n:Nat)(z:ah):List.replicate n z=gD n (fun _=>z):=by
 unfold gD;rw [List.map_const'];simp
theorem YE(w h:Nat)(p:bw)(h1:1≤w∧w≤160)(h2:1≤h∧h≤60):f138 (w:Int) (h:Int) p=some ((w:Int),(h:Int),gD (w*h) (fun _=>blank p)):=by
 have h9:=size_le w h h1.2 h2.2
 have h3:=Nat.mul_le_mul h1.1 h2.1
 unfold f138
 rw [show f161 p=some (blank p) from rfl,bs,aoi w h h1.2 h2.2,KV (blank p) (w*h) (by omega) (by omega),bs,UK]
theorem QY(g:bQ)(h:mh g=0): ∃W H:Nat,1≤W∧W≤160∧1≤H∧H≤60∧g=⟨W,H,g.Cells⟩∧g.Cells.length=W*H∧Rt W H g.Cells:=by
 obtain ⟨w,hh,c⟩:=g
 unfold mh at h
 dsimp only [] at h
 split at h
 ·rename_i hs
  split at h
  ·rename_i hc
   split at h
   ·rename_i hr
    obtain ⟨W,rfl⟩:=Int.eq_ofNat_of_zero_le (show 0≤w by omega)
    obtain ⟨H,rfl⟩:=Int.eq_ofNat_of_zero_le (show 0≤hh by omega)
    rw [Int.toNat_natCast,Int.toNat_natCast] at hr
    rw [←Int.natCast_mul] at hc
    exact ⟨W,H,by omega,by omega,by omega,by omega,rfl,by dsimp only [];omega,hr⟩
   ·exact absurd h (by decide)
  ·exact absurd h (by decide)
 ·exact absurd h (by decide)
theorem agJ(W H:Nat)(c:List ah)(h1:1≤W∧W≤160)(h2:1≤H∧H≤60)(hc:c.length=W*H)(hr:Rt W H c):mh ⟨W,H,c⟩=0:=by
 unfold mh
 try dsimp only []
 rw [if_pos (by omega),if_pos (by rw [hc];exact Int.natCast_mul W H),Int.toNat_natCast,Int.toNat_natCast,if_pos hr]
theorem aoo(j n W:Nat)(hW:0<W):j/W=n↔n*W≤j∧j<n*W+W:=by
 have h1:=Nat.div_add_mod j W
 have h2:=Nat.mod_lt j hW
 constructor
 ·intro h;subst h;rw [Nat.mul_comm];omega
 ·rintro ⟨ha,hb⟩
  exact Nat.div_eq_of_lt_le ha (by rw [Nat.succ_mul];exact hb)
theorem au0(j n W:Nat)(hW:0<W)(h:j/W=n):j-n*W=j%W:=by
 have h1:=Nat.div_add_mod j W
 subst h;rw [Nat.mul_comm];omega
theorem acS(W H:Nat)(c:List ah)(n:Nat)(hc:c.length=W*H)(hn:n<H):jT W c n=gD W (Bq W c n):=
 Q0 _ _ (by rw [uO W H c n hc hn,cR]) fun i hi=>by
  rw [uO W H c n hc hn] at hi
  rw [UG W H c n i hc hn hi,tC _ _ _ hi]
def Cp(W:Nat)(c:List ah)(t m:Nat)(n:Int)(p:bw)(i k:Nat):ah:=if 0≤(i:Int)+n∧(i:Int)+n<m then Bq W c (t+((i:Int)+n).toNat) k else blank p
theorem YF(W H:Nat)(c c2:List ah)(t m:Nat)(n a4:Int)(p:bw)(hc:c.length=W*H)(hW1:1≤W)(hW:W≤160)(hH:H≤60)(htm:t+m≤H)(hn: -100000≤n∧n≤100000):
  f250 (-n) ((List.range m).map fun r=>jT W c (t+r)) (W:Int) a4 p c2=some ((W:Int),a4,c2,p,(List.range m).map (fun r=>jT W c (t+r)),(List.range m).map (fun r=>gD W (Cp W c t m n p r))):=by
 unfold f250
 have hlen:((List.range m).map fun r=>jT W c (t+r)).length=m:=by simp
 have UI:=lN (body:=sr (-n) ((List.range m).map fun r=>jT W c (t+r)) (W:Int) a4 p c2) (fun i=>((List.range i).map (fun r=>gD W (Cp W c t m n p r)),(i:Int))) ((List.range m).map (fun r=>gD W (Cp W c t m n p r))) m ?_ 0 (by omega) ?_
 ·have aon:b9 (sr (-n) ((List.range m).map fun r=>jT W c (t+r)) (W:Int) a4 p c2) ([],0)=_:=UI
  rw [aon,bs]
 ·unfold sr mG
  try dsimp only []
  rw [hlen,bN (df (by omega)),cf]
 ·intro i _ hi
  unfold sr mG yg th
  try dsimp only []
  have hbl:f251 (W:Int) a4 p []=some (gD W (fun _=>blank p)):=by
   unfold f251
   have:=YE W 1 p ⟨hW1,hW⟩ (by omega)
   rw [Nat.mul_one] at this
   rw [show (1:Int)=((1:Nat):Int) from rfl,this,bs]
  rw [hlen,b8 (dt (by omega)),ct,gz ((i:Int)- -n) (by omega),nI i (by omega),hbl,bs]
  have hap: ∀x,x=gD W (Cp W c t m n p i)→eN 24 ((List.range i).map (fun r=>gD W (Cp W c t m n p r))) [x]=some ((List.range (i+1)).map (fun r=>gD W (Cp W c t m n p r))):=fun x hx=>by
   rw [uP 24 _ _ (by simp;omega),hx,List.range_succ,List.map_append];rfl
  have e:(i:Int)- -n=(i:Int)+n:=by omega
  rw [e]
  by_cases h1:0≤(i:Int)+n
  ·rw [b8 (dt h1)]
   by_cases h2:(i:Int)+n<m
   ·obtain ⟨k,hk⟩:=Int.eq_ofNat_of_zero_le h1
    rw [b8 (dt h2),hk,iL k m (by omega),bs]
    have hg:((List.range m).map fun r=>jT W c (t+r))[k]?=some (jT W c (t+k)):=by
     have:k<m:=by omega
     simp [this]
    rw [hg,bs,hap,bs]
    rw [acS W H c (t+k) hc (by omega)]
    refine jM fun j hj=>?_
    unfold Cp
    rw [if_pos ⟨h1,h2⟩,hk,Int.toNat_natCast]
   ·rw [bN (df h2),hap,bs]
    refine jM fun j hj=>?_
    unfold Cp
    rw [if_neg (fun q=>h2 q.2)]
  ·rw [bN (df h1),hap,bs]
   refine jM fun j hj=>?_
   unfold Cp
   rw [if_neg (fun q=>h1 q.1)]
def KW(W:Nat)(c:List ah)(t m:Nat)(n:Int)(p:bw):List ah:=gD c.length (fun j=>if t≤j/W∧j/W<t+m then Cp W c t m n p (j/W-t) (j%W) else cx c j)
theorem Er(W H t b:Nat)(n:Int)(p:bw)(c:List ah)(hc:c.length=W*H)(hW1:1≤W)(hW:W≤160)(hH:H≤60)(htb:t≤b)(hb:b≤H)(hn: -100000≤n∧n≤100000):
  f239 (W:Int) (H:Int) (t:Int) (b:Int) n p c=some (KW W c t (b-t) n p):=by
 have h9:=size_le W H hW hH
 unfold f239
 have hl1:=lN (body:=sw W H t b n p c) (fun i=>(c,(List.range (i-t)).map (fun r=>jT W c (t+r)),(i:Int))) (c,(List.range (b-t)).map (fun r=>jT W c (t+r))) b ?_ t htb ?_
 ·have aCG:b9 (sw W H t b n p c) (c,[],(t:Int))=some (c,(List.range (b-t)).map (fun r=>jT W c (t+r))):=by
   have:=hl1
   rw [Nat.sub_self] at this
   exact this
  rw [aCG,bs]
  unfold D6
  try dsimp only []
  have hw:IntKind.i64.wrap (0-n)= -n:=by rw [gz _ (by omega)];omega
  rw [hw,YF W H c c t (b-t) n _ p hc hW1 hW hH (by omega) hn,bs]
  try dsimp only []
  rw [ny _ _ rfl,bs,ny _ _ rfl,bs]
  have hlen:((List.range (b-t)).map (fun r=>gD W (Cp W c t (b-t) n p r))).length=b-t:=by simp
  rw [hlen]
  have hl2:=lN (body:=uM W H t b n p c) (fun i=>(gD c.length (fun j=>if t≤j/W∧j/W<t+i then Cp W c t (b-t) n p (j/W-t) (j%W) else cx c j),(W:Int),(H:Int),(List.range (b-t)).map (fun r=>gD W (Cp W c t (b-t) n p r)),((b-t:Nat):Int),(i:Int))) (KW W c t (b-t) n p) (b-t) ?_ 0 (by omega) ?_
  ·try dsimp only [] at hl2
   rw [Aa c _ (fun j hj=>if_neg (by omega))] at hl2
   rw [show ((0:Nat):Int)=0 from rfl] at hl2
   rw [hl2,bs]
  ·unfold uM mH
   try dsimp only []
   rw [bN (df (by omega)),cf]
   rfl
  ·intro i _ hi
   have hm:=qq (t+i) H W (by omega)
   rw [Nat.succ_mul] at hm
   unfold uM mH yj
   try dsimp only []
   have hg:((List.range (b-t)).map fun r=>gD W (Cp W c t (b-t) n p r))[i]?=some (gD W (Cp W c t (b-t) n p i)):=by simp [hi]
   rw [b8 (dt (by omega)),ct,hlen,iL i _ hi,bs,hg,bs,gz ((t:Int)+(i:Int)) (by omega),show (t:Int)+(i:Int)=((t+i:Nat):Int) by omega,Eu W H (t+i) _ (by rw [cR];exact hc) (by omega) hW hH,bs]
   try dsimp only []
   rw [ny _ _ rfl,bs,fW (dt (by rw [cR];omega)),bs,bs,UH _ _ _ _ _ (by omega),cR,Nat.min_self,nI i (by omega)]
   refine congrArg some (congrArg Sum.inl (Prod.ext (jM fun j hj=>?_) rfl))
   have hd:=aoo j (t+i) W hW1
   by_cases Fo:j/W=t+i
   ·rw [if_pos (hd.1 Fo),if_pos (by omega),tC _ _ _ (by have:=hd.1 Fo;omega),au0 j (t+i) W hW1 Fo,Fo,Nat.add_sub_cancel_left]
   ·rw [if_neg (fun q=>Fo (hd.2 q))]
    by_cases UJ:t≤j/W∧j/W<t+i
    ·rw [if_pos UJ,if_pos (by omega)]
    ·rw [if_neg UJ,if_neg (by omega)]
 ·unfold sw
  try dsimp only []
  rw [bN (df (by omega))]
 ·intro i hi1 hi
  have hm:=qq i H W (by omega)
  rw [Nat.succ_mul] at hm
  unfold sw ym
  try dsimp only []
  have hrow:gD W (fun k=>cx c (i*W+k))=jT W c i:=(acS W H c i hc (by omega)).symm
  rw [b8 (dt (by omega)),Eu W H i c hc (by omega) hW hH,bs]
  try dsimp only []
  rw [ny _ _ rfl,bs,Fm c _ _ (by omega),bs,Eo _ (by rw [cR];omega),bs,uP 24 _ _ (by simp;omega),bs,nI i (by omega),hrow]
  refine congrArg some (congrArg Sum.inl (Prod.ext rfl (Prod.ext ?_ rfl)))
  try dsimp only []
  rw [show i+1-t=(i-t)+1 by omega,List.range_succ,List.map_append,List.map_singleton,show t+(i-t)=i by omega]
def YG(c:ah):Bool:=Et c.cz&&(decide (c.eC=0) || !decide (wd c.eC=0))
theorem UL(p:bw)(hp:Et p=true):YG (blank p)=true:=by
 unfold YG;rw [show (blank p).cz=p from rfl,hp,show (blank p).eC=32 from rfl,awW];rfl
theorem UM(f:Nat→ah)(W i:Nat)(h:(f i).eC=32):pS f W i=false:=by
 unfold pS;rw [h,if_neg (by decide),awW];rfl
theorem YH(p:bw)(hp:Et p=true)(W i:Nat)(f:Nat→ah)(h:f i=blank p):okB f W i=true:=by
 have hl:=UM f W i (by rw [h];rfl)
 have hc:=UL p hp
 unfold YG at hc
 unfold okB
 rw [hl,h]
 rw [Bool.and_eq_true] at hc
 rw [hc.1,hc.2];rfl
theorem fY(a lo hi:Int):f58 a lo hi=some (decide (lo≤a)&&decide (a≤hi)):=by
 unfold f58
 cases decide (lo≤a)<;>cases decide (a≤hi)<;>rfl
theorem qG(a:Int):f60 a=some (decide (1≤a)&&decide (a≤4)):=by
 unfold f60
 cases decide (1≤a)<;>cases decide (a≤4)<;>rfl
def KX(x:bY):bQ:=⟨(x.Cells.length:Int),1,x.Cells⟩
def L0:bY:=⟨[]⟩
def KY(l:List bY)(i:Nat):Bool:=decide (mh (KX (l.getD i L0))=0)
theorem aop(l:List bY)(hl:l.length≤1048576):f61 l=some (decide ((∀i,i<l.length→KY l i=true)∧l.length≤40)):=by
 unfold f61
 have h:=v_ (body:=zv l) (fun i=>(i:Int)) (.inl ()) (.inr false) l.length (KY l) ?_ ?_ ?_
 ·rw [show ((0:Nat):Int)=0 from rfl] at h
  rw [h,bs]
  by_cases hp: ∀i,i<l.length→KY l i=true
  ·rw [if_pos hp,Sum.elim_inl]
   by_cases h4:l.length≤40
   ·rw [b8 (dt (by omega)),dt ⟨hp,h4⟩]
   ·rw [bN (df (by omega)),df (fun q=>h4 q.2)]
  ·rw [if_neg hp,Sum.elim_inr,df (fun q=>hp q.1)]
 ·intro i hi hp
  unfold zv ou vC
  rw [b8 (dt (by omega)),ct,fX l i L0 hi,bs,iU,bs,nI i (by omega)]
  have:mh (KX (l.getD i L0))=0:=of_decide_eq_true hp
  show (bif !decide (mh (KX (l.getD i L0))=0) then _ else _)=_
  rw [dt this,Bool.not_true,cf]
 ·intro i hi hp
  unfold zv ou vC
  rw [b8 (dt (by omega)),ct,fX l i L0 hi,bs,iU,bs]
  have: ¬mh (KX (l.getD i L0))=0:=of_decide_eq_false hp
  show (bif !decide (mh (KX (l.getD i L0))=0) then _ else _)=_
  rw [df this,Bool.not_false,ct]
 ·unfold zv ou
  rw [bN (df (by omega)),cf]
structure SF (s:aA):Prop where
 g:mh s.aG=0
 o:mh s.aT=0
 w:s.aG.bR=s.aT.bR
 h:s.aG.bV=s.aT.bV
 row:0≤s.Row∧s.Row≤s.aG.bV-1
 lg:0≤s.cQ∧s.cQ≤s.aG.bR-1
 pen:Et s.cz=true
 UN:Et s.aS.cz=true
 KZ:0≤s.dO∧s.dO≤2047
 pg1:1≤s.bF.1∧s.bF.1≤4
 sp1:1≤s.aS.bF.1∧s.aS.bF.1≤4
 pg2:1≤s.bF.2∧s.bF.2≤4
 sp2:1≤s.aS.bF.2∧s.aS.bF.2≤4
 sh:0≤s.cN∧s.cN≤1
 ssh:0≤s.aS.cN∧s.aS.cN≤1
 UO:0≤s.aS.Row∧s.aS.Row≤59
 UQ:0≤s.aS.cQ∧s.aS.cQ≤159
 title:s.gZ.length≤256
 past:(∀i,i<s.bn.length→KY s.bn i=true)∧s.bn.length≤40
 top:0≤s.jx∧s.jx≤IntKind.i64.wrap (s.cZ-1)
 bot:s.cZ≤s.aG.bV
theorem bc(b:Bool):b=true∨b=false:=by cases b<;>simp
theorem jU{p q:Prop} [Decidable p] [Decidable q](h:(decide p&&decide q)=true):p∧q:=by simpa using h
theorem awX(p:bw):decide (pcI p=0)=Et p:=aoj p
theorem Cm(s:aA)(hl:s.bn.length≤1048576):f22 s=some 4∨(f22 s=some 0∧SF s):=by
 unfold f22
 rw [iU,bs]
 by_cases g:mh s.aG=0
 case neg=>left;rw [bN (df g)];rfl
 rw [b8 (dt g),iU,bs]
 by_cases o:mh s.aT=0
 case neg=>left;rw [bN (df o)];rfl
 rw [b8 (dt o)]
 by_cases w:s.aG.bR=s.aT.bR
 case neg=>left;rw [bN (df w)];rfl
 rw [b8 (dt w)]
 by_cases h:s.aG.bV=s.aT.bV
 case neg=>left;rw [bN (df h)];rfl
 rw [b8 (dt h)]
 obtain ⟨W,H,w1,w2,h1,h2,e,hc,hR⟩:=QY s.aG g
 have eW:s.aG.bR=(W:Int):=by rw [e]
 have eH:s.aG.bV=(H:Int):=by rw [e]
 unfold vI
 rw [ct,fY,bs,gz (s.aG.bV-1) (by omega),gz (s.aG.bR-1) (by omega)]
 rcases bc (decide (0≤s.Row)&&decide (s.Row≤s.aG.bV-1)) with row | row
 case inr=>left;rw [bN row];rfl
 rw [b8 row,fY,bs]
 rcases bc (decide (0≤s.cQ)&&decide (s.cQ≤s.aG.bR-1)) with lg | lg
 case inr=>left;rw [bN lg];rfl
 rw [b8 lg]
 have late: ∀P:Option Int→Prop,P (lS s true)→P (some 4)→P (bif (!s.eV) then (lS s true) else (bif (decide (s.cQ=s.aG.bR-1)) then (lS s true) else (lS s false))):=fun P p1 p2=>by
  cases s.eV with
  | false=>exact p1
  | true=>
   show P (bif decide _ then _ else _)
   cases decide (s.cQ=s.aG.bR-1)
   ·exact p2
   ·exact p1
 refine late (fun x=>x=some 4∨(x=some 0∧SF s)) ?_ (.inl rfl)
 unfold lS
 rw [ct,fY,bs]
 rcases bc (decide (0≤s.jx)&&decide (s.jx≤IntKind.i64.wrap (s.cZ-1))) with top | top
 case inr=>left;rw [bN top];rfl
 rw [b8 top]
 rcases bc (decide (s.cZ≤s.aG.bV)) with bot | bot
 case inr=>left;rw [bN bot];rfl
 rw [b8 bot]
 unfold zx
 rw [ct,zZ,bs,awX]
 rcases bc (Et s.cz) with pen | pen
 case inr=>left;rw [bN pen];rfl
 rw [b8 pen,zZ,bs,awX]
 rcases bc (Et s.aS.cz) with UN | UN
 case inr=>left;rw [bN UN];rfl
 rw [b8 UN,fY,bs]
 unfold zw Qa
 rcases bc (decide (0≤s.dO)&&decide (s.dO≤2047)) with KZ | KZ
 case inr=>left;rw [bN KZ];rfl
 rw [b8 KZ,qG,bs]
 rcases bc (decide (1≤s.bF.1)&&decide (s.bF.1≤4)) with pg1 | pg1
 case inr=>left;rw [bN pg1];rfl
 rw [b8 pg1,qG,bs]
 unfold P_
 rcases bc (decide (1≤s.aS.bF.1)&&decide (s.aS.bF.1≤4)) with sp1 | sp1
 case inr=>left;rw [bN sp1];rfl
 rw [b8 sp1,qG,bs]
 rcases bc (decide (1≤s.bF.2)&&decide (s.bF.2≤4)) with pg2 | pg2
 case inr=>left;rw [bN pg2];rfl
 rw [b8 pg2,qG,bs]
 unfold vE
 rcases bc (decide (1≤s.aS.bF.2)&&decide (s.aS.bF.2≤4)) with sp2 | sp2
 case inr=>left;rw [bN sp2];rfl
 rw [b8 sp2,fY,bs]
 rcases bc (decide (0≤s.cN)&&decide (s.cN≤1)) with sh | sh
 case inr=>left;rw [bN sh];rfl
 rw [b8 sh,fY,bs]
 unfold Du
 rcases bc (decide (0≤s.aS.cN)&&decide (s.aS.cN≤1)) with ssh | ssh
 case inr=>left;rw [bN ssh];rfl
 rw [b8 ssh,fY,bs]
 rcases bc (decide (0≤s.aS.Row)&&decide (s.aS.Row≤59)) with UO | UO
 case inr=>left;rw [bN UO];rfl
 rw [b8 UO,fY,bs]
 unfold Dt
 rcases bc (decide (0≤s.aS.cQ)&&decide (s.aS.cQ≤159)) with UQ | UQ
 case inr=>left;rw [bN UQ]
 rw [b8 UQ]
 rcases bc (decide ((s.gZ.length:Int)≤256)) with title | title
 case inr=>left;rw [bN title]
 rw [b8 title,aop s.bn hl,bs]
 by_cases past:(∀i,i<s.bn.length→KY s.bn i=true)∧s.bn.length≤40
 case neg=>left;rw [df past];rfl
 right
 rw [dt past]
 have:=of_decide_eq_true title
 exact ⟨rfl,⟨g,o,w,h,jU row,jU lg,pen,UN,jU KZ,jU pg1,jU sp1,jU pg2,jU sp2,jU sh,jU ssh,jU UO,jU UQ,by omega,past,jU top,of_decide_eq_true bot⟩⟩
def okN(n:eT):Prop:= ∀i,i<256→(n.Us i).toNat≤5∧(n.mK i).toNat≤5
theorem scan{body:Int→Option (Int⊕(Unit⊕Int))}{q:Nat→Prop}(hb: ∀i:Nat,i<256→(q i∧body i=some (.inl ((i+1:Nat):Int)))∨(¬q i∧body i=some (.inr (.inr 4))))(he:body 256=some (.inr (.inl ()))):
  ((∀i,i<256→q i)∧b9 body 0=some (.inl ()))∨(¬(∀i,i<256→q i)∧b9 body 0=some (.inr 4)):=by
 obtain ⟨r,h1,h2⟩:=gY (body:=body) (fun n x=> ∃i:Nat,x=(i:Int)∧i≤256∧n=256-i∧ ∀j,j<i→q j) (fun r=>((∀i,i<256→q i)∧r= .inl ())∨(¬(∀i,i<256→q i)∧r= .inr 4)) (by
  rintro n x ⟨i,rfl,hi,rfl,ha⟩
  by_cases h:i<256
  ·rcases hb i h with ⟨hq,e⟩ | ⟨hq,e⟩
   ·exact .inl ⟨_,256-(i+1),e,by omega,i+1,rfl,by omega,rfl,fun j hj=>by
     by_cases VA:j=i
     ·subst VA;exact hq
     ·exact ha j (by omega)⟩
   ·exact .inr ⟨_,e,.inr ⟨fun hh=>hq (hh i h),rfl⟩⟩
  ·have:i=256:=by omega
   subst this
   exact .inr ⟨_,he,.inl ⟨ha,rfl⟩⟩) (n:=256) (x:=0) ⟨0,rfl,by omega,rfl,fun j hj=>by omega⟩
 rw [h1]
 rcases h2 with ⟨a,rfl⟩ | ⟨a,rfl⟩
 ·exact .inl ⟨a,rfl⟩
 ·exact .inr ⟨a,rfl⟩
theorem K0(n:Int):f62 n=some (decide (0≤n∧n≤5)):=by
 unfold f62
 simp only [Bool.cond_decide]
 repeat' split
 all_goals first | exact congrArg some (decide_eq_true (by omega)).symm | exact congrArg some (decide_eq_false (by omega)).symm
theorem aov(a:eT):((∀i,i<256→(a.Us i).toNat≤5)∧b9 (zA a) 0=some (.inl ()))∨(¬(∀i,i<256→(a.Us i).toNat≤5)∧b9 (zA a) 0=some (.inr 4)):=
 scan (body:=zA a) (q:=fun i=>(a.Us i).toNat≤5) (fun i h=>by
  unfold zA vJ B3
  rw [decide_eq_true (p:=(i:Int)<256) (by omega)]
  simp only [cond_true,iL i 256 h,Option.bind_some,K0]
  by_cases hq:(a.Us i).toNat≤5
  ·left
   rw [decide_eq_true (by omega),gz _ (by omega)]
   exact ⟨hq,rfl⟩
  ·right
   rw [decide_eq_false (by omega)]
   exact ⟨hq,rfl⟩) rfl
theorem agL(a:eT):((∀i,i<256→(a.mK i).toNat≤5)∧b9 (zD a) 0=some (.inl ()))∨(¬(∀i,i<256→(a.mK i).toNat≤5)∧b9 (zD a) 0=some (.inr 4)):=
 scan (body:=zD a) (q:=fun i=>(a.mK i).toNat≤5) (fun i h=>by
  unfold zD vK B4
  rw [decide_eq_true (p:=(i:Int)<256) (by omega)]
  simp only [cond_true,iL i 256 h,Option.bind_some,K0]
  by_cases hq:(a.mK i).toNat≤5
  ·left
   rw [decide_eq_true (by omega),gz _ (by omega)]
   exact ⟨hq,rfl⟩
  ·right
   rw [decide_eq_false (by omega)]
   exact ⟨hq,rfl⟩) rfl
theorem UB(a:eT):(okN a∧f23 a=some 0)∨(¬okN a∧f23 a=some 4):=by
 unfold f23 Qh
 rcases aov a with ⟨h1,e1⟩ | ⟨h1,e1⟩
 ·rw [e1]
  simp only [Option.bind_some,Sum.elim_inl]
  unfold Qg
  rcases agL a with ⟨h2,e2⟩ | ⟨h2,e2⟩
  ·rw [e2];exact .inl ⟨fun i hi=>⟨h1 i hi,h2 i hi⟩,rfl⟩
  ·rw [e2];exact .inr ⟨fun h=>h2 fun i hi=>(h i hi).2,rfl⟩
 ·rw [e1];exact .inr ⟨fun h=>h1 fun i hi=>(h i hi).1,rfl⟩
structure KT (u:Prop) (t t':ag):Prop where
 g:t'.af.aG=t.af.aG
 o:t'.af.aT=t.af.aT
 p:t'.af.bn=t.af.bn
 ti:t'.af.gZ=t.af.gZ
 pg:u∨t'.af.bF=t.af.bF
 sh:u∨t'.af.cN=t.af.cN
 se:t'.sent.length≤t.sent.length+60
theorem KT.w{u v:Prop}{t t':ag}(h:KT u t t')(huv:u→v):KT v t t':=⟨h.g,h.o,h.p,h.ti,h.pg.imp huv id,h.sh.imp huv id,h.se⟩
structure KS (u:Prop) (t t':ag):Prop where
 g:t'.af.aG=t.af.aG
 o:t'.af.aT=t.af.aT
 p:t'.af.bn=t.af.bn
 ti:t'.af.gZ=t.af.gZ
 pg:u∨t'.af.bF=t.af.bF
 sh:u∨t'.af.cN=t.af.cN
 se:t'.sent=t.sent
theorem KS.kt{u:Prop}{t t':ag}(h:KS u t t'):KT u t t':=⟨h.g,h.o,h.p,h.ti,h.pg,h.sh,by rw [h.se];omega⟩
theorem KS.tr{u:Prop}{t t' t'':ag}(h:KS u t t')(k:KS u t' t''):KS u t t'':=
 ⟨k.g.trans h.g,k.o.trans h.o,k.p.trans h.p,k.ti.trans h.ti,by
  rcases h.pg with a | a
  ·exact .inl a
  ·exact k.pg.imp id fun b=>b.trans a,by
  rcases h.sh with a | a
  ·exact .inl a
  ·exact k.sh.imp id fun b=>b.trans a,k.se.trans h.se⟩
theorem KS.w{u v:Prop}{t t':ag}(h:KS u t t')(huv:u→v):KS v t t':=⟨h.g,h.o,h.p,h.ti,h.pg.imp huv id,h.sh.imp huv id,h.se⟩
theorem wL{u:Prop}{t t':ag}(h:KT u t t'){α:Type}(k:Option α):((bO (decide (t'.af.bn.length=t.af.bn.length))).bind fun _=>((bO (decide (t'.af.aT.Cells.length=t.af.aT.Cells.length))).bind fun _=>((bO (decide (t'.af.aG.Cells.length=t.af.aG.Cells.length))).bind fun _=>k)))=k:=by
 rw [h.p,h.o,h.g,dt rfl,dt rfl,dt rfl,fW rfl,bs,bs,bs]
theorem Hz(a lo hi:Int): ∃r,f237 a lo hi=some r:=⟨_,rfl⟩
theorem Q2(n:Int)(t:ag): ∃t',f243 n t=some t'∧KS False t t':=by
 unfold f243 Eh Eg Ef Ee f237
 simp only [bs,Bool.cond_decide]
 split<;>(try split)<;>(try split)<;>(try split)<;>exact ⟨_,rfl,rfl,rfl,rfl,rfl,.inr rfl,.inr rfl,rfl⟩
theorem iM(c:Int)(t:ag): ∃t',f212 c t=some t'∧KS False t t':=by
 unfold f212 f237
 rw [bs]
 exact ⟨_,rfl,rfl,rfl,rfl,rfl,.inr rfl,.inr rfl,rfl⟩
theorem aox(t:ag)(x:List PD)(m:Int): ∃b,f214 t x m=some b:=by
 unfold f214
 cases (!decide (cO .and .i64 t.af.dO m=0))<;>exact ⟨_,rfl⟩
theorem Fq(r c:Int)(t:ag): ∃t',f244 r c t=some t'∧KS False t t':=by
 unfold f244
 obtain ⟨b,hb⟩:=aox t [] 2
 rw [hb,bs]
 cases b with
 | true=>
  rw [ct]
  obtain ⟨r',hr⟩:=Hz (IntKind.i64.wrap (r+t.af.jx)) t.af.jx (IntKind.i64.wrap (t.af.cZ-1))
  rw [hr,bs]
  obtain ⟨t',h1,h2⟩:=iM c (ag.mk ({t.af with Row:=r'}) t.sent)
  have h3:KS False t t':=⟨h2.g,h2.o,h2.p,h2.ti,h2.pg,h2.sh,h2.se⟩
  rw [h1,bs,wL h3.kt]
  exact ⟨t',rfl,h3⟩
 | false=>
  rw [cf]
  obtain ⟨r',hr⟩:=Hz r 0 (IntKind.i64.wrap (t.af.aG.bV-1))
  rw [hr,bs]
  obtain ⟨t',h1,h2⟩:=iM c (ag.mk ({t.af with Row:=r'}) t.sent)
  have h3:KS False t t':=⟨h2.g,h2.o,h2.p,h2.ti,h2.pg,h2.sh,h2.se⟩
  rw [h1,bs,wL h3.kt]
  exact ⟨t',rfl,h3⟩
theorem UE(t:ag): ∃t',f221 t=some t'∧KS False t t':=by
 unfold f221
 obtain ⟨b,hb⟩:=aox t [] 2
 rw [hb,bs]
 exact ⟨_,rfl,rfl,rfl,rfl,rfl,.inr rfl,.inr rfl,rfl⟩
theorem au1(m:Int)(b:Bool)(t:ag): ∃t',f223 m b t=some t'∧KS False t t':=by
 unfold f223
 cases b
 ·rw [cf];exact ⟨_,rfl,rfl,rfl,rfl,rfl,.inr rfl,.inr rfl,rfl⟩
 ·rw [ct];exact ⟨_,rfl,rfl,rfl,rfl,rfl,.inr rfl,.inr rfl,rfl⟩
theorem Gt(t:ag): ∃t',f222 t=some t'∧KS True t t':=by
 unfold f222
 obtain ⟨t1,h1,k1⟩:=au1 2 t.af.aS.Origin (ag.mk ({t.af with Row:=(if (IntKind.i64.wrap (t.af.aG.bV-1))<t.af.aS.Row then (IntKind.i64.wrap (t.af.aG.bV-1)) else t.af.aS.Row),cz:=t.af.aS.cz,bF:=t.af.aS.bF,cN:=t.af.aS.cN}) t.sent)
 have k1':KS True t t1:=⟨k1.g,k1.o,k1.p,k1.ti,.inl trivial,.inl trivial,k1.se⟩
 rw [h1,bs,wL k1'.kt]
 obtain ⟨t2,h2,k2⟩:=iM t.af.aS.cQ t1
 rw [h2,bs,wL k2.kt]
 exact ⟨t2,rfl,k1'.tr (k2.w fun h=>h.elim)⟩

theorem acN(c:Int)(h0:0≤c)(h1:c<256):(∃m,jG (IntKind.i64.wrap (Int.tdiv c 64)) 4=some m)∧0≤Int.tmod c 64:=by
 obtain ⟨n,rfl⟩:=Int.eq_ofNat_of_zero_le h0
 have e1:Int.tdiv (n:Int) 64=((n/64:Nat):Int):=by simp [Int.tdiv]
 have e2:Int.tmod (n:Int) 64=((n%64:Nat):Int):=by simp [Int.tmod]
 rw [e1,e2,gz _ (by omega),iL _ 4 (by omega)]
 exact ⟨⟨_,rfl⟩,by omega⟩
theorem acT(s:bq)(c:Int)(h0:0≤c)(h1:c<256): ∃b,f242 s c=some b:=by
 obtain ⟨⟨m,hm⟩,hc⟩:=acN c h0 h1
 unfold f242
 rw [hm,bs,fW (dt hc),bs]
 simp only [Bool.cond_decide]
 split<;>exact ⟨_,rfl⟩
theorem KN(s:bq)(c n w:Int): ∃r,f218 s c n w=some r:=by
 unfold f218
 simp only [Bool.cond_decide]
 split
 ·exact ⟨_,rfl⟩
 split
 ·exact ⟨_,rfl⟩
 split
 ·exact ⟨_,rfl⟩
 split
 ·exact ⟨_,rfl⟩
 split
 ·exact ⟨_,rfl⟩
 split
 ·exact ⟨_,rfl⟩
 unfold Kn
 obtain ⟨r,hr,_⟩:=gY (body:=Ea s c n w) (fun k x=>k=(w-x.2).toNat∧0≤x.2∧x.2<w∧x.1≤16383) (fun _=>True) (n:=(w-c).toNat) (x:=(n,c)) (fun k x hx=>by
  obtain ⟨e,q0,q1,q2⟩:=hx
  unfold Ea
  by_cases hp:0<x.1
  case neg=>right;rw [bN (df hp)];exact ⟨_,rfl,trivial⟩
  rw [b8 (dt hp)]
  unfold yG
  rw [gz (x.2+1) (by omega),gz (w-1) (by omega)]
  by_cases hw:w≤x.2+1
  ·right;rw [b8 (dt hw)];exact ⟨_,rfl,trivial⟩
  rw [bN (df hw)]
  unfold yF
  obtain ⟨b,hb⟩:=acT s (x.2+1) (by omega) (by omega)
  rw [hb,bs,gz (x.1-1) (by omega)]
  cases b with
  | false=>left;rw [cf];exact ⟨_,(w-(x.2+1)).toNat,rfl,by omega,rfl,by show 0≤x.2+1;omega,by show x.2+1<w;omega,q2⟩
  | true=>
   rw [ct]
   by_cases h1:x.1-1=0
   ·right;rw [b8 (dt h1)];exact ⟨_,rfl,trivial⟩
   ·left;rw [bN (df h1)];exact ⟨_,(w-(x.2+1)).toNat,rfl,by omega,rfl,by show 0≤x.2+1;omega,by show x.2+1<w;omega,by show x.1-1≤16383;omega⟩) ⟨rfl,by show 0≤c;omega,by show c<w;omega,by show n≤16383;omega⟩
 rw [hr,bs]
 cases r<;>exact ⟨_,rfl⟩
theorem UC(s:bq)(c n:Int): ∃r,f245 s c n=some r:=by
 unfold f245
 simp only [Bool.cond_decide]
 split
 ·exact ⟨_,rfl⟩
 split
 ·exact ⟨_,rfl⟩
 split
 ·exact ⟨_,rfl⟩
 split
 ·exact ⟨_,rfl⟩
 unfold Kt
 obtain ⟨r,hr,_⟩:=gY (body:=Ej s c n) (fun k x=>k=x.2.toNat∧0≤x.2∧x.2<256∧x.1≤16383) (fun _=>True) (n:=c.toNat) (x:=(n,c)) (fun k x hx=>by
  obtain ⟨e,q0,q1,q2⟩:=hx
  unfold Ej
  by_cases hp:0<x.1
  case neg=>right;rw [bN (df hp)];exact ⟨_,rfl,trivial⟩
  rw [b8 (dt hp)]
  unfold yK
  rw [gz (x.2-1) (by omega)]
  by_cases hw:x.2-1<0
  ·right;rw [b8 (dt hw)];exact ⟨_,rfl,trivial⟩
  rw [bN (df hw)]
  unfold yJ
  obtain ⟨b,hb⟩:=acT s (x.2-1) (by omega) (by omega)
  rw [hb,bs,gz (x.1-1) (by omega)]
  cases b with
  | false=>left;rw [cf];exact ⟨_,(x.2-1).toNat,rfl,by omega,rfl,by show 0≤x.2-1;omega,by show x.2-1<256;omega,q2⟩
  | true=>
   rw [ct]
   by_cases h1:x.1-1=0
   ·right;rw [b8 (dt h1)];exact ⟨_,rfl,trivial⟩
   ·left;rw [bN (df h1)];exact ⟨_,(x.2-1).toNat,rfl,by omega,rfl,by show 0≤x.2-1;omega,by show x.2-1<256;omega,by show x.1-1≤16383;omega⟩) ⟨rfl,by show 0≤c;omega,by show c<256;omega,by show n≤16383;omega⟩
 rw [hr,bs]
 cases r<;>exact ⟨_,rfl⟩
theorem aod(s:bq)(c:Int): ∃r,f220 s c false=some r:=by
 unfold f220
 simp only [Bool.cond_decide]
 split
 ·exact ⟨_,rfl⟩
 split
 ·exact ⟨_,rfl⟩
 unfold Eb
 obtain ⟨⟨m,hm⟩,hc⟩:=acN c (by omega) (by omega)
 rw [hm,bs,fW (dt hc),bs,bs,cf]
 exact ⟨_,rfl⟩
theorem QZ(l:List Int)(i z:Int): ∃r,f226 l i z=some r:=by
 unfold f226
 simp only [Bool.cond_decide]
 split
 ·exact ⟨_,rfl⟩
 split
 ·exact ⟨_,rfl⟩
 obtain ⟨n,rfl⟩:=Int.eq_ofNat_of_zero_le (show 0≤i by omega)
 rw [fX l n 0 (by omega),bs]
 split
 ·exact ⟨_,rfl⟩
 ·exact ⟨_,rfl⟩
theorem acO(l:List Int)(i:Int): ∃r,f225 l i=some r:=by
 unfold f225
 obtain ⟨r,hr⟩:=QZ l i 1
 rw [hr,bs]
 exact ⟨_,rfl⟩
def acU(c:Int):Prop:=c=65∨c=66∨c=67∨c=68∨c=69∨c=70∨c=71∨c=96∨c=100∨c=72∨c=102∨c=73∨c=90∨c=115∨c=117
theorem KO(a:aL)(n:Int)(t:ag):(acU a.Code∧ ∃t',f227 a n t=some (t',true)∧KS (a.Code=117) t t')∨(¬acU a.Code∧f227 a n t=some (t,false)):=by
 unfold f227 yN yL acU
 have one: ∀{o:Option ag} {t1 t2:ag},o=some t2→KS False t1 t2→(o.bind fun z64=>((bO (decide (z64.af.bn.length=t1.af.bn.length))).bind fun _=>((bO (decide (z64.af.aT.Cells.length=t1.af.aT.Cells.length))).bind fun _=>((bO (decide (z64.af.aG.Cells.length=t1.af.aG.Cells.length))).bind fun _=>(some (z64,true))))))=some (t2,true):=by
  intro o t1 t2 h k
  rw [h,bs,wL k.kt]
 by_cases h65:a.Code=65
 ·left;obtain ⟨t',h,k⟩:=Q2 n t
  exact ⟨by omega,t',by rw [b8 (dt h65)];exact one h k,k.w False.elim⟩
 rw [bN (df h65)]
 by_cases h66:a.Code=66
 ·left;obtain ⟨t',h,k⟩:=Q2 (IntKind.i64.wrap (0-n)) t
  exact ⟨by omega,t',by rw [b8 (dt h66)];exact one h k,k.w False.elim⟩
 rw [bN (df h66)]
 by_cases h67:a.Code=67
 ·left;obtain ⟨t',h,k⟩:=iM (IntKind.i64.wrap (t.af.cQ+n)) t
  exact ⟨by omega,t',by rw [b8 (dt h67)];exact one h k,k.w False.elim⟩
 rw [bN (df h67)]
 by_cases h68:a.Code=68
 ·left;obtain ⟨t',h,k⟩:=iM (IntKind.i64.wrap (t.af.cQ-n)) t
  exact ⟨by omega,t',by rw [b8 (dt h68)];exact one h k,k.w False.elim⟩
 rw [bN (df h68)]
 by_cases h69:a.Code=69
 ·left;obtain ⟨t1,h1,k1⟩:=Q2 (IntKind.i64.wrap (0-n)) t
  obtain ⟨t',h,k⟩:=iM 0 t1
  exact ⟨by omega,t',by rw [b8 (dt h69),h1,bs,wL k1.kt];exact one h k,(k1.tr k).w False.elim⟩
 rw [bN (df h69)]
 by_cases h70:a.Code=70
 ·left;obtain ⟨t1,h1,k1⟩:=Q2 n t
  obtain ⟨t',h,k⟩:=iM 0 t1
  exact ⟨by omega,t',by rw [b8 (dt h70),h1,bs,wL k1.kt];exact one h k,(k1.tr k).w False.elim⟩
 rw [bN (df h70),ct,cf]
 by_cases h71:a.Code=71
 ·left;obtain ⟨t',h,k⟩:=iM (IntKind.i64.wrap (n-1)) t
  exact ⟨by omega,t',by rw [b8 (dt h71)];exact one h k,k.w False.elim⟩
 rw [bN (df h71)]
 by_cases h96:a.Code=96
 ·left;obtain ⟨t',h,k⟩:=iM (IntKind.i64.wrap (n-1)) t
  exact ⟨by omega,t',by rw [b8 (dt h96)];exact one h k,k.w False.elim⟩
 rw [bN (df h96)]
 by_cases awY:a.Code=100
 ·left;obtain ⟨t',h,k⟩:=Fq (IntKind.i64.wrap (n-1)) t.af.cQ t
  exact ⟨by omega,t',by rw [b8 (dt awY)];exact one h k,k.w False.elim⟩
 rw [bN (df awY),ct,cf]
 obtain ⟨m,hm⟩:=acO a.Args 1
 by_cases h72:a.Code=72
 ·left;obtain ⟨t',h,k⟩:=Fq (IntKind.i64.wrap (n-1)) (IntKind.i64.wrap (m-1)) t
  exact ⟨by omega,t',by rw [b8 (dt h72),hm,bs];exact one h k,k.w False.elim⟩
 rw [bN (df h72)]
 by_cases awZ:a.Code=102
 ·left;obtain ⟨t',h,k⟩:=Fq (IntKind.i64.wrap (n-1)) (IntKind.i64.wrap (m-1)) t
  exact ⟨by omega,t',by rw [b8 (dt awZ),hm,bs];exact one h k,k.w False.elim⟩
 rw [bN (df awZ)]
 by_cases h73:a.Code=73
 ·left;obtain ⟨r,hr⟩:=KN t.af.gN t.af.cQ n t.af.aG.bR
  obtain ⟨t',h,k⟩:=iM r.1 t
  exact ⟨by omega,t',by rw [b8 (dt h73),hr,bs];exact one h k,k.w False.elim⟩
 rw [bN (df h73)]
 by_cases h90:a.Code=90
 ·left;obtain ⟨r,hr⟩:=UC t.af.gN t.af.cQ n
  obtain ⟨t',h,k⟩:=iM r.1 t
  exact ⟨by omega,t',by rw [b8 (dt h90),hr,bs];exact one h k,k.w False.elim⟩
 rw [bN (df h90)]
 by_cases aw0:a.Code=115
 ·left;obtain ⟨t',h,k⟩:=UE t
  exact ⟨by omega,t',by rw [b8 (dt aw0)];exact one h k,k.w False.elim⟩
 rw [bN (df aw0)]
 by_cases aoy:a.Code=117
 ·left;obtain ⟨t',h,k⟩:=Gt t
  exact ⟨by omega,t',by rw [b8 (dt aoy),h,bs,wL k.kt],k.w fun _=>aoy⟩
 right
 exact ⟨by omega,by rw [bN (df aoy)]⟩

theorem acV(l:List ah)(h:l.length≤1048576):f70 l=some l:=by
 unfold f70
 rw [fj _ _ _ (by simp;omega),bs];rfl
theorem acW(g:bQ)(h:g.Cells.length≤1048576):f69 g=some (g.bR,g.bV,g.Cells):=by
 unfold f69
 rw [acV _ h,bs]
structure SzS (s:aA):Prop where
 g:s.aG.Cells.length≤1048576
 o:s.aT.Cells.length≤1048576
 p:s.bn.length≤1048576
 l: ∀x∈s.bn,x.Cells.length≤1048576
def LL0:bY:=⟨[]⟩
theorem Es(s:aA)(h:SzS s):f38 s=some s:=by
 unfold f38
 rw [acW _ h.g,bs,acW _ h.o,bs]
 have hp:=h.p
 have hl:=lN (body:=zP s) (fun i=>(s,s.bn.take i,(i:Int))) (s,s.bn) s.bn.length ?_ 0 (by omega) ?_
 ·have hl':b9 (zP s) ({s with aG:=bQ.mk s.aG.bR s.aG.bV s.aG.Cells,aT:=bQ.mk s.aT.bR s.aT.bV s.aT.Cells},[],0)=some (s,s.bn):=hl
  dsimp only []
  rw [hl',bs]
 ·unfold zP rR
  try dsimp only []
  rw [bN (df (by omega)),cf,List.take_length]
 ·intro i _ hi
  have hc:(s.bn.getD i LL0).Cells.length≤1048576:=by
   have:s.bn.getD i LL0=s.bn[i]:=by simp [hi]
   rw [this];exact h.l _ (List.getElem_mem hi)
  unfold zP rR B9
  try dsimp only []
  rw [b8 (dt (by omega)),ct,fX s.bn i LL0 hi,bs,acV _ hc,bs,fj 24 _ _ (by rw [List.length_take];simp;omega),bs,nI i (by omega)]
  have e:s.bn.take i++ [bY.mk (s.bn.getD i LL0).Cells]=s.bn.take (i+1):=by
   rw [List.take_add_one]
   have:s.bn[i]?=some (s.bn.getD i LL0):=by simp [hi]
   rw [this];rfl
  rw [e]
theorem aoB{α:Type}{body:Int→Option (Int⊕(Unit⊕Int))}{l:List α}(hl:l.length≤1048576)(q:Nat→Bool)
  (h0:body (l.length:Int)=some (.inr (.inl ()))) (h1: ∀i:Nat,i<l.length→body (i:Int)=if q i=true then some (.inr (.inr (i:Int))) else some (.inl ((i+1:Nat):Int))):
  (∃r,b9 body 0=some r∧((r= .inl ()∧ ∀i:Nat,i<l.length→q i=false)∨ ∃i:Nat,r= .inr (i:Int))):=by
 obtain ⟨r,hr,hp⟩:=gY (body:=body) (fun k x=> ∃i:Nat,x=(i:Int)∧i≤l.length∧k=l.length-i∧ ∀j:Nat,j<i→q j=false) (fun r=>(r= .inl ()∧ ∀i:Nat,i<l.length→q i=false)∨ ∃i:Nat,r= .inr (i:Int)) (by
  rintro k x ⟨i,rfl,hi,rfl,hq⟩
  by_cases hlt:i<l.length
  ·rw [h1 i hlt]
   by_cases hb:q i=true
   ·right;rw [if_pos hb];exact ⟨_,rfl,.inr ⟨i,rfl⟩⟩
   ·left;rw [if_neg hb]
    refine ⟨_,l.length-(i+1),rfl,by omega,i+1,rfl,by omega,rfl,fun j hj=>?_⟩
    by_cases e:j=i
    ·subst e;simpa using hb
    ·exact hq j (by omega)
  ·have:i=l.length:=by omega
   subst this
   right;exact ⟨_,h0,.inl ⟨rfl,hq⟩⟩) (n:=l.length) (x:=0) ⟨0,rfl,by omega,by omega,fun j hj=>by omega⟩
 exact ⟨r,hr,hp⟩
theorem aoC(a lo hi:Int): ∃b,f58 a lo hi=some b:=by
 unfold f58
 simp only [Bool.cond_decide]
 split
 ·split<;>exact ⟨_,rfl⟩
 ·exact ⟨_,rfl⟩
theorem au2(l:List Int)(hl:l.length≤1048576): ∃b,f185 l=some b:=by
 unfold f185 f210
 have hw: ∀z:Int,∃b,f186 z=some b:=fun z=>by
  unfold f186
  obtain ⟨b,hb⟩:=aoC z (-1) 16383
  rw [hb,bs];exact ⟨_,rfl⟩
 obtain ⟨r,hr,hp⟩:=aoB (body:=xW l) hl (fun i=>(f186 (l.getD i 0)).getD false) (by
  unfold xW o7
  rw [bN (df (by omega)),cf]) (fun i hi=>by
  obtain ⟨b,hb⟩:=hw (l.getD i 0)
  unfold xW o7 xU
  rw [b8 (dt (by omega)),ct,fX l i 0 hi,bs,hb,bs,nI i (by omega)]
  cases b with
  | true=>rw [ct,Option.getD_some,if_pos rfl]
  | false=>rw [cf,Option.getD_some,if_neg (by decide)])
 rw [hr,bs]
 cases r with
 | inl u=>rw [Sum.elim_inl,bs];simp only [Bool.cond_decide];split<;>exact ⟨_,rfl⟩
 | inr u=>rw [Sum.elim_inr,bs];simp only [Bool.cond_decide];split<;>exact ⟨_,rfl⟩
def A0:aL:=⟨0,0,0,[],[],[]⟩
theorem Gu(l:List aL)(hl:l.length≤1048576)(h: ∀x∈l,x.Args.length≤1048576): ∃n,f145 l=some n:=by
 unfold f145
 obtain ⟨r,hr,_⟩:=gY (body:=DY l) (fun k x=> ∃i:Nat,x=(i:Int)∧i≤l.length∧k=l.length-i) (fun _=>True) (by
  rintro k x ⟨i,rfl,hi,rfl⟩
  unfold DY
  by_cases hlt:i<l.length
  ·rw [b8 (dt (by omega))]
   unfold o8 xX
   rw [ct,fX l i A0 hlt,bs,nI i (by omega)]
   obtain ⟨b,hb⟩:=au2 (l.getD i A0).Args (by
    have:l.getD i A0=l[i]:=by simp [hlt]
    rw [this];exact h _ (List.getElem_mem hlt))
   rw [hb,bs]
   simp only [Bool.cond_decide]
   split
   ·right;exact ⟨_,rfl,trivial⟩
   split
   ·right;exact ⟨_,rfl,trivial⟩
   cases b with
   | true=>right;rw [ct];exact ⟨_,rfl,trivial⟩
   | false=>left;rw [cf];exact ⟨_,l.length-(i+1),rfl,by omega,i+1,rfl,by omega,rfl⟩
  ·rw [bN (df (by omega))]
   unfold o8
   rw [cf]
   right;exact ⟨_,rfl,trivial⟩) (n:=l.length) (x:=0) ⟨0,rfl,by omega,by omega⟩
 rw [hr,bs]
 cases r<;>exact ⟨_,rfl⟩
def sOf(W H:Nat)(st:bq)(g:List ah)(r c:Int)(late:Bool):aA:=
 ⟨⟨W,H,g⟩,r,c,late,0,H,⟨0,0,0⟩,12,st,(1,1),0,⟨0,0,⟨0,0,0⟩,false,(1,1),0⟩,⟨W,H,gD (W*H) (fun _=>blank P0)⟩,[],[]⟩
theorem Oc: ∃st,f102=some st:=by
 unfold f102
 obtain ⟨r,hr,_⟩:=gY (body:=Ec) (fun k x=> ∃i:Nat,x.2=8*((i:Int)+1)∧i≤31∧k=31-i) (fun _=>True) (by
  rintro k ⟨s,_⟩ ⟨i,rfl,hi,rfl⟩
  unfold Ec
  try dsimp only []
  by_cases hlt:i<31
  ·left
   rw [b8 (dt (by omega))]
   unfold yH
   have e:(8*((i:Int)+1))=((8*(i+1):Nat):Int):=by omega
   have e2:Int.tdiv ((8*(i+1):Nat):Int) 64=((8*(i+1)/64:Nat):Int):=by
    rw [show (64:Int)=((64:Nat):Int) from rfl];exact (Int.ofNat_tdiv _ _).symm
   have e3:0≤Int.tmod ((8*(i+1):Nat):Int) 64:=Int.tmod_nonneg _ (by omega)
   rw [e,e2,gz _ (by omega),iL _ 4 (by omega),bs,fW (dt e3),bs,bs,gz _ (by omega)]
   exact ⟨_,31-(i+1),rfl,by omega,i+1,by show ((8*(i+1):Nat):Int)+8=8*(((i+1:Nat):Int)+1);omega,by omega,rfl⟩
  ·right
   rw [bN (df (by omega))]
   exact ⟨_,rfl,trivial⟩) (n:=31) (x:=(bq.mk (fun _=>0),8)) ⟨0,by rfl,by omega,by omega⟩
 rw [hr,bs]
 exact ⟨_,rfl⟩
theorem aoD(W H:Nat)(g:List ah)(h:g.length≤100000):f69 ⟨(W:Int),(H:Int),g⟩=some ⟨(W:Int),(H:Int),g⟩:=by
 unfold f69
 rw [Eo _ h,bs]
theorem aoE(W H:Nat)(p:bw)(h1:1≤W∧W≤160)(h2:1≤H∧H≤60):f138 (W:Int) (H:Int) p=some ⟨(W:Int),(H:Int),gD (W*H) (fun _=>blank p)⟩:=by
 have h9:=size_le W H h1.2 h2.2
 have h3:=Nat.mul_le_mul h1.1 h2.1
 unfold f138
 rw [show f161 p=some (blank p) from rfl,bs,aoi W H h1.2 h2.2,KV (blank p) (W*H) (by omega) (by omega),bs,UK]
theorem Y8(W H:Nat)(h1:1≤W∧W≤160)(h2:1≤H∧H≤60):f101 (W:Int) (H:Int) (bw.mk 0 0 0)=some ((W:Int),(H:Int),gD (W*H) (fun _=>blank P0),0):=by
 unfold f101 Kp
 rw [KM,bs,zZ,bs,if_pos (by omega),bN (by rfl),bN (by rfl),aoE W H _ h1 h2,bs];rfl
theorem auX(W H:Nat):Rt W H (gD (W*H) (fun _=>blank P0)):=fun n hn i hi=>
 YH P0 (by decide) W i _ (tC _ _ _ (mul_lt n H W i hn hi))
theorem UD(W H:Nat)(h1:1≤W∧W≤160)(h2:1≤H∧H≤60): ∃st,f68 (W:Int) (H:Int)=some (sOf W H st (gD (W*H) (fun _=>blank P0)) 0 0 false,0):=by
 obtain ⟨st,hst⟩:=Oc
 have h9:=size_le W H h1.2 h2.2
 refine ⟨st,?_⟩
 unfold f68
 rw [Y8 W H h1 h2,bs,bN (by rfl)]
 unfold QO
 rw [aoD W H _ (by rw [cR];omega),bs,hst,bs];rfl
end Go.Proofs.YtimbfadnabfabaaGreatDoor.Pm

namespace Go.Proofs.YtimbfadnabfabaaGreatDoor.Pr
open Go.Proofs.YtimbfadnabfabaaGreatDoor.Pm
open Go.Proofs.YtimbfadnabfabaaGreatDoor.Args
open Go.ChangeShapes Go.WideShapes Go.ChangeAt Go.RowKit
set_option linter.unusedVariables false
set_option linter.unusedSimpArgs false
set_option maxRecDepth 100000
set_option maxHeartbeats 4000000
abbrev fE:=List UInt8
def okB(b:UInt8):Bool:=decide (b.toNat=59) || (decide (48≤b.toNat)&&decide (b.toNat≤57))
def Bt(n:Int)(z:UInt8):Int:=if 16383<(if 0>n then 0 else n)*10+((z-48).toNat:Int) then 16383 else (if 0>n then 0 else n)*10+((z-48).toNat:Int)
def num(w:List UInt8):Int:=w.foldl Bt (-1)
def jk(s:List UInt8):List Int×Int:=if s.all okB then (((js 59 s).map num).take 32,0) else ([],4)
theorem HB(n:Int)(z:UInt8)(h: -1≤n∧n≤16383):0≤Bt n z∧Bt n z≤16383:=by
 unfold Bt
 have:=aim (z-48)
 constructor<;>split<;>split at* <;>omega
theorem Oh(a1:List UInt8)(out:List Int)(ps:List (List UInt8))(k j:Int): ∀(wm pre:List UInt8) (n:Int),-1≤n∧n≤16383→(pre++wm).length≤100000000→
  b9 (rI a1) (out,pre++wm,n,ps,k,j,((pre++wm).length:Int),(pre.length:Int))=some (out,wm.foldl Bt n,ps,k,j)
 | [],pre,n,h,hl=>dJ (by
   unfold rI lM
   simp only [vZ,cond_false];rfl)
 | z::t,pre,n,h,hl=>by
  have e1:pre++z::t=(pre++ [z])++t:=by simp
  have hb:=HB n z h
  have ih:=Oh a1 out ps k j t (pre++ [z]) (Bt n z) ⟨by omega,hb.2⟩ (by rw [←e1];exact hl)
  rw [←e1] at ih
  refine fI ?_ ih
  unfold rI lM tJ
  simp only [tA,cond_true,jb,Option.bind_some]
  have hp:pre.length<1000000000:=by simp at hl;omega
  have hz:=aim (z-48)
  have w1:IntKind.i64.wrap ((if 0>n then 0 else n)*10)=(if 0>n then 0 else n)*10:=gz _ (by split<;>omega)
  have w2:IntKind.i64.wrap ((if 0>n then 0 else n)*10+((z-48).toNat:Int))=(if 0>n then 0 else n)*10+((z-48).toNat:Int):=gz _ (by split<;>omega)
  rw [sI pre z hp,w1,w2]
  rfl
theorem Gx(a1:List UInt8)(ps:List (List UInt8))(hps: ∀w∈ps,w.length≤100000000)(hl:ps.length≤100000000): ∀(wm pre:List (List UInt8)) (out:List Int),ps=pre++wm→out.length≤32→
  b9 (zj a1) (out,ps,(ps.length:Int),(pre.length:Int))=some (out++(wm.map num).take (32-out.length))
 | [],pre,out,e,h=>dJ (by
   subst e
   unfold zj og
   simp only [vZ,cond_false]
   simp)
 | w::t,pre,out,e,h=>by
  have hp:pre.length<1000000000:=by rw [e] at hl;simp at hl;omega
  by_cases uQ:out.length=32
  ·refine dJ ?_
   subst e
   unfold zj og vq
   simp only [tA,cond_true,jb,Option.bind_some]
   rw [decide_eq_true (show (out.length:Int)=32 by omega),uQ]
   simp
  ·have ih:=Gx a1 ps hps hl t (pre++ [w]) (out++ [num w]) (by rw [e];simp) (by simp;omega)
   have hw:=Oh a1 out ps (ps.length:Int) (pre.length:Int) w [] (-1) (by omega) (by have:=hps w (by rw [e];simp);simpa using this)
   simp only [List.nil_append,List.length_nil] at hw
   have e3:32-out.length=(32-(out++ [num w]).length)+1:=by simp;omega
   have e2:out++((w::t).map num).take (32-out.length)=out++ [num w]++(t.map num).take (32-(out++ [num w]).length):=by
    rw [e3,List.map_cons,List.take_succ_cons];simp
   rw [e2]
   refine fI ?_ ih
   have hx:idx ps (pre.length:Int)=some w:=by rw [e];exact jb pre w t
   have hlt:decide ((pre.length:Int)<(ps.length:Int))=true:=by rw [e];exact tA pre w t
   unfold zj og vq BW
   simp only [hlt,hx,cond_true,Option.bind_some]
   rw [decide_eq_false (show¬(out.length:Int)=32 by omega)]
   simp only [cond_false]
   have h0:(0:Int)=((0:Nat):Int):=rfl
   rw [h0,hw]
   simp only [Option.bind_some]
   rw [fj 8 _ _ (by simp;omega)]
   simp only [Option.bind_some]
   rw [sI pre w hp];rfl
theorem Gy(a1:List UInt8): ∀(wm pre:List UInt8),a1=pre++wm→a1.length≤100000000→
  b9 (zl a1) (pre.length:Int)=some (if wm.all okB then .inl () else .inr ([],4))
 | [],pre,e,h=>dJ (by
   subst e
   unfold zl mD
   simp only [vZ,cond_false];rfl)
 | z::t,pre,e,h=>by
  have hp:pre.length<1000000000:=by rw [e] at h;simp at h;omega
  have hx:idx a1 (pre.length:Int)=some z:=by rw [e];exact jb pre z t
  have hlt:decide ((pre.length:Int)<(a1.length:Int))=true:=by rw [e];exact tA pre z t
  by_cases hz:okB z=true
  ·have ih:=Gy a1 t (pre++ [z]) (by rw [e];simp) h
   rw [List.all_cons,hz,Bool.true_and]
   refine fI ?_ ih
   unfold zl mD sZ
   simp only [hlt,hx,cond_true,Option.bind_some]
   rw [sI pre z hp]
   by_cases h59:z.toNat=59
   ·rw [decide_eq_true (show (z.toNat:Int)=59 by omega)];rfl
   ·rw [decide_eq_false (show¬(z.toNat:Int)=59 by omega)]
    unfold okB at hz
    simp [h59] at hz
    rw [decide_eq_false (show¬(z.toNat:Int)<48 by omega),decide_eq_false (show¬(57:Int)<(z.toNat:Int) by omega)];rfl
  ·rw [List.all_cons,Bool.eq_false_iff.2 hz,Bool.false_and]
   refine dJ ?_
   unfold zl mD sZ
   simp only [hlt,hx,cond_true,Option.bind_some]
   unfold okB at hz
   simp at hz
   rw [decide_eq_false (show¬(z.toNat:Int)=59 by omega)]
   simp only [Bool.not_false,cond_true]
   by_cases Cs:z.toNat<48
   ·rw [decide_eq_true (show (z.toNat:Int)<48 by omega)];rfl
   ·rw [decide_eq_false (show¬(z.toNat:Int)<48 by omega)]
    simp only [cond_false]
    rw [decide_eq_true (show (57:Int)<(z.toNat:Int) by omega)];rfl
theorem aoG(b:UInt8)(h:okB b=true):b∈([48,49,50,51,52,53,54,55,56,57,59]:List UInt8):=by
 unfold okB at h
 have hb:b=UInt8.ofNat b.toNat:=azN rfl b.toNat_lt
 have:b.toNat=48∨b.toNat=49∨b.toNat=50∨b.toNat=51∨b.toNat=52∨b.toNat=53∨b.toNat=54∨b.toNat=55∨b.toNat=56∨b.toNat=57∨b.toNat=59:=by simp at h;omega
 rcases this with e | e | e | e | e | e | e | e | e | e | e<;>rw [hb,e]<;>decide
theorem UR(s:List UInt8)(h:s.length≤10000000):f54 s=some (jk s):=by
 unfold f54 rj
 rw [if_pos ⟨by omega,by simp,by decide⟩,bs]
 have hc:=Gy s s [] rfl (by omega)
 have h0:(0:Int)=(([]:List UInt8).length:Int):=rfl
 unfold jk
 cases ha:s.all okB with
 | true=>
  rw [ha] at hc
  have ht:Lib.trimS s [48,49,50,51,52,53,54,55,56,57,59]= []:=agI s _ fun b hb=>aoG b (List.all_eq_true.1 ha b hb)
  rw [ht,decide_eq_true rfl,Bool.not_true,cf]
  unfold Hp
  rw [h0,hc,bs,if_pos rfl,Sum.elim_inl]
  unfold PT
  rw [agH s 59 (by omega),bs]
  have hp:=Gx s (js 59 s) (fun w hw=>by have:=(En 59 s w hw).1;omega) (by have:=Gr 59 s;omega) (js 59 s) [] [] rfl (by simp)
  simp only [List.length_nil,List.nil_append] at hp
  rw [h0,show ((([]:List UInt8).length:Int))=((0:Nat):Int) from rfl,hp,bs]
  rfl
 | false=>
  rw [ha] at hc
  by_cases ht:Lib.trimS s [48,49,50,51,52,53,54,55,56,57,59]= []
  ·rw [ht,decide_eq_true rfl,Bool.not_true,cf]
   unfold Hp
   rw [h0,hc,bs,if_neg (by simp),Sum.elim_inr];rfl
  ·rw [decide_eq_false ht,Bool.not_false,ct];rfl
theorem sJ(s:List UInt8):(jk s).1.length≤32:=by
 unfold jk
 split
 ·simp;omega
 ·simp
def j6:aL:=⟨6,0,0,[],[],[]⟩
def cG(s:Int):aR:=⟨s,0,[],[],[]⟩
theorem nD(a:aL)(S M:Int)(I A T:fE)(l:List aL)(h:l.length≤700000000):f179 a S M I A T l=some (S,M,I,A,T,l++ [a]):=by
 unfold f179
 rw [fj 80 _ _ (by simp;omega),bs]
theorem yS(s S M:Int)(I A T:fE)(l:List aL)(h:l.length≤700000000):f181 s S M I A T l=some (s,l++ [j6]):=by
 unfold f181
 rw [show aL.mk 6 0 0 [] [] []=j6 from rfl,nD _ _ _ _ _ _ _ h,bs]
 unfold f180
 rw [bs]
theorem Fs(a:aL)(S M:Int)(I A T:fE)(l:List aL)(h:l.length≤700000000):f207 a S M I A T l=some (0,l++ [if I.length=3 then j6 else a]):=by
 unfold f207
 by_cases h3:I.length=3
 ·rw [decide_eq_true (by omega),ct,if_pos h3,show aL.mk 6 0 0 [] [] []=j6 from rfl,nD _ _ _ _ _ _ _ h,bs]
  unfold f180
  rw [bs]
 ·rw [decide_eq_false (by omega),cf,if_neg h3,nD _ _ _ _ _ _ _ h,bs]
  unfold f180
  rw [bs]
def sg(c:Int):UInt8:=UInt8.ofNat c.toNat
theorem aoH:((List.range 64).all fun n=>decide ((Utf8.encode (IntKind.i32.wrap (n:Int))).data.toList= [UInt8.ofNat n]))=true:=by kernel_rfl
theorem acX(c:Int)(h:0≤c∧c<64):(Utf8.encode (IntKind.i32.wrap c)).data.toList= [sg c]:=by
 obtain ⟨n,rfl⟩:=Int.eq_ofNat_of_zero_le h.1
 exact of_decide_eq_true (List.all_eq_true.1 aoH n (List.mem_range.2 (by omega)))
def sK(I:fE)(c:Int):fE:=if I.length<3 then I++ [sg c] else I
theorem UT(c S M:Int)(I A T:fE)(l:List aL)(hc:0≤c∧c<64):f206 c S M I A T l=some (S,M,sK I c,A,T,l):=by
 unfold f206 sK
 rw [acX c hc]
 by_cases h3:I.length<3
 ·rw [decide_eq_true (by omega),ct,if_pos h3,gL _ _ (by simp;omega),bs]
 ·rw [decide_eq_false (by omega),cf,if_neg h3]
theorem fY(n a b:Int):f55 n a b=some (decide (a≤n)&&decide (n≤b)):=by
 unfold f55
 cases decide (a≤n)<;>cases decide (n≤b)<;>rfl
def fy(r:Int):fE:=
 bif decide (IntKind.u32.wrap r≤127) then [u8 r] else
 bif decide (IntKind.u32.wrap r≤2047) then [(192:UInt8) ||| u8 (Int.fdiv r (2^6)),(128:UInt8) ||| (u8 r&&&(63:UInt8))] else
 bif (bif decide (IntKind.u32.wrap r<55296) then true else (decide (57343<IntKind.u32.wrap r)&&decide (IntKind.u32.wrap r≤65535))) then [(224:UInt8) ||| u8 (Int.fdiv r (2^12)),(128:UInt8) ||| (u8 (Int.fdiv r (2^6))&&&(63:UInt8)),(128:UInt8) ||| (u8 r&&&(63:UInt8))] else
 bif (decide (65535<IntKind.u32.wrap r)&&decide (IntKind.u32.wrap r≤1114111)) then [(240:UInt8) ||| u8 (Int.fdiv r (2^18)),(128:UInt8) ||| (u8 (Int.fdiv r (2^12))&&&(63:UInt8)),(128:UInt8) ||| (u8 (Int.fdiv r (2^6))&&&(63:UInt8)),(128:UInt8) ||| (u8 r&&&(63:UInt8))] else [239,191,189]
theorem ap1(a:UInt8):eN 1 [] [a]=some [a]:=fj 1 [] [a] (by simp)
theorem ap2(a b:UInt8):eN 1 [] [a,b]=some [a,b]:=fj 1 [] [a,b] (by simp)
theorem ap3(a b c:UInt8):eN 1 [] [a,b,c]=some [a,b,c]:=fj 1 [] [a,b,c] (by simp)
theorem ap4(a b c d:UInt8):eN 1 [] [a,b,c,d]=some [a,b,c,d]:=fj 1 [] [a,b,c,d] (by simp)
theorem kI(r:Int):f115 r []=some (fy r):=by
 unfold f115 fy f160 rS
 simp only [ap1,ap2,ap3,ap4,bs]
 generalize decide (IntKind.u32.wrap r≤127)=b1
 generalize decide (IntKind.u32.wrap r≤2047)=b2
 generalize decide (IntKind.u32.wrap r<55296)=b3
 generalize decide (57343<IntKind.u32.wrap r)=b4
 generalize decide (IntKind.u32.wrap r≤65535)=b5
 generalize decide (65535<IntKind.u32.wrap r)=b6
 generalize decide (IntKind.u32.wrap r≤1114111)=b7
 cases b1<;>cases b2<;>cases b3<;>cases b4<;>cases b5<;>cases b6<;>cases b7<;>rfl
theorem mI(r:Int):(fy r).length≤4:=by
 unfold fy
 generalize decide (IntKind.u32.wrap r≤127)=b1
 generalize decide (IntKind.u32.wrap r≤2047)=b2
 generalize (bif decide (IntKind.u32.wrap r<55296) then true else (decide (57343<IntKind.u32.wrap r)&&decide (IntKind.u32.wrap r≤65535)))=b3
 generalize (decide (65535<IntKind.u32.wrap r)&&decide (IntKind.u32.wrap r≤1114111))=b4
 cases b1<;>cases b2<;>cases b3<;>cases b4<;>simp
def Gz(c:Int):fE:=fy (if c<0∨1114111<c∨(55296≤c∧c≤57343) then 65533 else IntKind.i32.wrap c)
theorem aoI(c:Int):f78 [c]=some (Gz c):=by
 unfold f78
 have h1:qo [c] ([],0)=some (.inl (Gz c,1)):=by
  unfold qo mb vL Gz
  simp only
  rw [decide_eq_true (by simp),ct,ct,show idx [c] 0=some c from jb [] c [],bs,show IntKind.i64.wrap (0+1)=1 from rfl]
  by_cases a:c<0
  ·rw [decide_eq_true a,ct,if_pos (.inl a),kI,bs]
  ·rw [decide_eq_false a,cf]
   by_cases b:1114111<c
   ·rw [decide_eq_true b,ct,if_pos (.inr (.inl b)),kI,bs]
   ·rw [decide_eq_false b,cf]
    by_cases d:55296≤c
    ·rw [decide_eq_true d,ct]
     by_cases e:c≤57343
     ·rw [decide_eq_true e,ct,if_pos (.inr (.inr ⟨d,e⟩)),kI,bs]
     ·rw [decide_eq_false e,cf,if_neg (by omega),kI,bs]
    ·rw [decide_eq_false d,cf,if_neg (by omega),kI,bs]
 have h2:qo [c] (Gz c,1)=some (.inr (Gz c)):=by
  unfold qo mb
  simp only
  rw [decide_eq_false (by simp),cf,cf]
 rw [fI h1 (dJ h2),bs]
def Fu(p:aR)(c:Int):aR×List aL:=
 if c=27 then (⟨p.State+1,p.Mark,p.Inter,p.Args,p.Text⟩,[]) else if c=24 then (cG 0,[j6]) else if c=26 then (cG 0,[j6]) else if p.State=9 then (p,[]) else if c=7 then (cG 0,[⟨5,0,0,[],[],p.Text⟩]) else if c<32 then (p,[]) else if 127≤c∧c≤159 then (p,[]) else if (p.Text++Gz c).length≤256 then (⟨p.State,p.Mark,p.Inter,p.Args,p.Text++Gz c⟩,[]) else (p,[])
def Ab(a:aL)(p:aR):aR×List aL:=(cG 0,[if p.Inter.length=3 then j6 else a])
def Br(p:aR)(c:Int):aR×List aL:=
 if c<48 then (⟨2,p.Mark,sK p.Inter c,p.Args,p.Text⟩,[]) else if p.State=2 then Ab ⟨3,c,0,p.Inter,[],[]⟩ p else if c=91 then (⟨3,p.Mark,p.Inter,p.Args,p.Text⟩,[]) else if c=93 then (⟨7,p.Mark,p.Inter,p.Args,p.Text⟩,[]) else if 0≤Lib.indexByte [80,88,94,95] (u8 c) then (⟨9,p.Mark,p.Inter,p.Args,p.Text⟩,[]) else Ab ⟨3,c,0,[],[],[]⟩ p
def wM(p:aR)(c:Int):aR×List aL:=
 if p.State=6 then (if 64≤c then (cG 0,[j6]) else (p,[])) else if c<48 then (⟨5,p.Mark,sK p.Inter c,p.Args,p.Text⟩,[]) else if 64≤c then Ab ⟨4,c,p.Mark,p.Inter,(jk p.Args).1,[]⟩ p else if p.State=5 then (cG 6,[]) else if c=58 then (cG 6,[]) else if c<60 then (⟨4,p.Mark,p.Inter,(if p.Args.length<100 then p.Args++ [sg c] else p.Args),p.Text⟩,[]) else if p.State=3 then (⟨4,c,p.Inter,p.Args,p.Text⟩,[]) else (cG 6,[])
def nB(p:aR)(c:Int):Option (aR×List aL):=
 if c=27 then some (cG 1,if p.State=0 then [] else [j6]) else if c=24 then some (cG 0,if p.State=0 then [] else [j6]) else if c=26 then some (cG 0,if p.State=0 then [] else [j6]) else if c<32 then some (p,[⟨2,c,0,[],[],[]⟩]) else if 127≤c∧c≤159 then some (p,[]) else none
def kS(p:aR)(c:Int):aR×List aL:=match nB p c with
 | some r=>r
 | none=>if p.State=0 then (p,[⟨1,c,0,[],[],[]⟩]) else if 160≤c then (cG 0,[j6]) else if p.State≤2 then Br p c else wM p c
def eU(p:aR)(c:Int):aR×List aL:=
 if c<0 then (p,[]) else if 1114111<c then (p,[]) else if p.State=7∨p.State=9 then Fu p c else if p.State=8∨p.State=10 then (if c=92 then (cG 0,[if p.State=8 then ⟨5,0,0,[],[],p.Text⟩ else j6]) else ((kS (cG 1) c).1,j6::(kS (cG 1) c).2)) else kS p c
def pk(l:List aL)(r:aR×List aL):Int×Int×fE×fE×fE×List aL:=(r.1.State,r.1.Mark,r.1.Inter,r.1.Args,r.1.Text,l++r.2)
theorem iE(l:List aL)(p:aR):pk l (p,[])=(p.State,p.Mark,p.Inter,p.Args,p.Text,l):=by simp [pk]
theorem aoJ(c:Int)(p:aR)(l:List aL)(h:l.length≤700000000)(hS:0≤p.State∧p.State≤10)(hT:p.Text.length≤256):f178 c p.State p.Mark p.Inter p.Args p.Text l=some (pk l (Fu p c)):=by
 unfold f178 Fu
 by_cases GY:c=27
 ·rw [decide_eq_true GY,ct,if_pos GY,iE,gz _ (by omega)]
 rw [decide_eq_false GY,cf,if_neg GY]
 by_cases GZ:c=24
 ·rw [decide_eq_true GZ,ct,if_pos GZ,yS _ _ _ _ _ _ _ h,bs];rfl
 rw [decide_eq_false GZ,cf,if_neg GZ]
 by_cases G0:c=26
 ·rw [decide_eq_true G0,ct,if_pos G0,yS _ _ _ _ _ _ _ h,bs];rfl
 rw [decide_eq_false G0,cf,if_neg G0]
 by_cases h9:p.State=9
 ·rw [decide_eq_true h9,ct,if_pos h9,iE]
 rw [decide_eq_false h9,cf,if_neg h9]
 by_cases h7:c=7
 ·rw [decide_eq_true h7,ct,if_pos h7,nD _ _ _ _ _ _ _ h,bs]
  unfold f180
  rw [bs];rfl
 rw [decide_eq_false h7,cf,if_neg h7]
 by_cases uQ:c<32
 ·rw [decide_eq_true uQ,ct,if_pos uQ,iE]
 rw [decide_eq_false uQ,cf,if_neg uQ,fY,bs]
 by_cases hw:127≤c∧c≤159
 ·rw [decide_eq_true hw.1,decide_eq_true hw.2,Bool.and_self,ct,if_pos hw,iE]
 rw [show (decide ((127:Int)≤c)&&decide (c≤159))=false by rw [←Bool.decide_and];exact decide_eq_false hw,cf,if_neg hw,aoI,bs,gL _ _ (by have:=mI (if c<0∨1114111<c∨(55296≤c∧c≤57343) then 65533 else IntKind.i32.wrap c);show p.Text.length+(fy _).length≤_;omega),bs]
 by_cases hl:(p.Text++Gz c).length≤256
 ·rw [decide_eq_true (by omega),ct,if_pos hl,iE]
 ·rw [decide_eq_false (by omega),cf,if_neg hl,iE]
theorem HE(c:Int)(p:aR)(l:List aL)(h:l.length≤700000000)(hc:0≤c):f183 c p.State p.Mark p.Inter p.Args p.Text l=some (pk l (Br p c)):=by
 unfold f183 Br
 by_cases Cs:c<48
 ·rw [decide_eq_true Cs,ct,if_pos Cs,UT _ _ _ _ _ _ _ (by omega),bs,iE]
 rw [decide_eq_false Cs,cf,if_neg Cs]
 by_cases h2:p.State=2
 ·rw [decide_eq_true h2,ct,if_pos h2,Fs _ _ _ _ _ _ _ h,bs];rfl
 rw [decide_eq_false h2,cf,if_neg h2]
 by_cases h91:c=91
 ·rw [decide_eq_true h91,ct,if_pos h91,iE]
 rw [decide_eq_false h91,cf,if_neg h91]
 by_cases h93:c=93
 ·rw [decide_eq_true h93,ct,if_pos h93,iE]
 rw [decide_eq_false h93,cf,if_neg h93]
 unfold lD
 rw [bs]
 by_cases hi:0≤Lib.indexByte [80,88,94,95] (u8 c)
 ·rw [decide_eq_true hi,ct,if_pos hi,iE]
 rw [decide_eq_false hi,cf,if_neg hi,Fs _ _ _ _ _ _ _ h,bs];rfl
theorem au5(c:Int)(p:aR)(l:List aL)(h:l.length≤700000000)(hc:0≤c)(hA:p.Args.length≤100):f184 c p.State p.Mark p.Inter p.Args p.Text l=some (pk l (wM p c)):=by
 unfold f184 wM
 by_cases h6:p.State=6
 ·rw [decide_eq_true h6,ct,if_pos h6]
  by_cases Mn:64≤c
  ·rw [decide_eq_true Mn,ct,if_pos Mn,yS _ _ _ _ _ _ _ h,bs];rfl
  ·rw [decide_eq_false Mn,cf,if_neg Mn,iE]
 rw [decide_eq_false h6,cf,if_neg h6]
 by_cases Cs:c<48
 ·rw [decide_eq_true Cs,ct,if_pos Cs,UT _ _ _ _ _ _ _ (by omega),bs,iE]
 rw [decide_eq_false Cs,cf,if_neg Cs]
 by_cases Mn:64≤c
 ·rw [decide_eq_true Mn,ct,if_pos Mn,UR _ (by omega),bs]
  unfold JV
  rw [Fs _ _ _ _ _ _ _ h,bs];rfl
 rw [decide_eq_false Mn,cf,if_neg Mn]
 by_cases h5:p.State=5
 ·rw [decide_eq_true h5,ct,if_pos h5,iE]
  unfold f209
  rw [bs];rfl
 rw [decide_eq_false h5,cf,if_neg h5]
 by_cases YI:c=58
 ·rw [decide_eq_true YI,ct,if_pos YI,iE]
  unfold f209
  rw [bs];rfl
 rw [decide_eq_false YI,cf,if_neg YI]
 by_cases UU:c<60
 ·rw [decide_eq_true UU,ct,if_pos UU,iE]
  by_cases ha:p.Args.length<100
  ·rw [decide_eq_true (by omega),ct,if_pos ha,acX c (by omega),gL _ _ (by simp;omega),bs]
  ·rw [decide_eq_false (by omega),cf,if_neg ha]
 rw [decide_eq_false UU,cf,if_neg UU]
 by_cases h3:p.State=3
 ·rw [decide_eq_true h3,ct,if_pos h3,iE]
 ·rw [decide_eq_false h3,cf,if_neg h3,iE]
  unfold f209
  rw [bs];rfl
theorem Q3(c nx:Int)(p:aR)(l:List aL)(h:l.length≤700000000):xM c p.State p.Mark p.Inter p.Args p.Text l nx=some (nx,0,[],[],[],l++(if p.State=0 then [] else [j6]),true):=by
 unfold xM
 by_cases h0:p.State=0
 ·rw [decide_eq_true h0,Bool.not_true,cf,if_pos h0]
  unfold f180
  rw [bs,List.append_nil]
 ·rw [decide_eq_false h0,Bool.not_false,ct,if_neg h0,show aL.mk 6 0 0 [] [] []=j6 from rfl,nD _ _ _ _ _ _ _ h,bs]
  unfold f180
  rw [bs]
theorem aoK(c:Int)(p:aR)(l:List aL)(h:l.length≤700000000):f182 c p.State p.Mark p.Inter p.Args p.Text l=some (match nB p c with
  | some r=>(r.1.State,r.1.Mark,r.1.Inter,r.1.Args,r.1.Text,l++r.2,true)
  | none=>(p.State,p.Mark,p.Inter,p.Args,p.Text,l,false)):=by
 unfold f182 nB
 by_cases GY:c=27
 ·rw [decide_eq_true GY,ct,if_pos GY,Q3 c 1 p l h];rfl
 rw [decide_eq_false GY,cf,if_neg GY]
 by_cases GZ:c=24
 ·rw [decide_eq_true GZ,ct,if_pos GZ]
  unfold xN
  rw [Q3 c 0 p l h];rfl
 rw [decide_eq_false GZ,cf,if_neg GZ]
 by_cases G0:c=26
 ·rw [decide_eq_true G0,ct,if_pos G0]
  unfold xN
  rw [Q3 c 0 p l h];rfl
 rw [decide_eq_false G0,cf,if_neg G0]
 by_cases uQ:c<32
 ·rw [decide_eq_true uQ,ct,if_pos uQ,nD _ _ _ _ _ _ _ h,bs]
 rw [decide_eq_false uQ,cf,if_neg uQ,fY,bs]
 by_cases hw:127≤c∧c≤159
 ·rw [decide_eq_true hw.1,decide_eq_true hw.2,Bool.and_self,if_pos hw]
  simp only [List.append_nil]
 ·rw [show (decide ((127:Int)≤c)&&decide (c≤159))=false by rw [←Bool.decide_and];exact decide_eq_false hw,if_neg hw]
theorem K1{p:aR}{c:Int}(h:nB p c=none):32≤c∧ ¬(127≤c∧c≤159):=by
 unfold nB at h
 by_cases GY:c=27
 ·rw [if_pos GY] at h;cases h
 rw [if_neg GY] at h
 by_cases GZ:c=24
 ·rw [if_pos GZ] at h;cases h
 rw [if_neg GZ] at h
 by_cases G0:c=26
 ·rw [if_pos G0] at h;cases h
 rw [if_neg G0] at h
 by_cases uQ:c<32
 ·rw [if_pos uQ] at h;cases h
 rw [if_neg uQ] at h
 by_cases hw:127≤c∧c≤159
 ·rw [if_pos hw] at h;cases h
 exact ⟨by omega,hw⟩
theorem Oi(c:Int)(x1 x2:Int)(x3 x4 x5:fE)(x6:List aL)(p:aR)(l:List aL)(h:l.length≤700000000)(hA:p.Args.length≤100):xO c x1 x2 x3 x4 x5 x6 p.State p.Mark p.Inter p.Args p.Text l=some (pk l (kS p c)):=by
 unfold xO kS
 rw [aoK c p l h,bs]
 cases hc:nB p c with
 | some r=>simp only [cond_true];rfl
 | none=>
  have uQ:=(K1 hc).1
  simp only [cond_false]
  by_cases h0:p.State=0
  ·rw [decide_eq_true h0,ct,if_pos h0,nD _ _ _ _ _ _ _ h,bs];rfl
  rw [decide_eq_false h0,cf,if_neg h0]
  by_cases acY:160≤c
  ·rw [decide_eq_true acY,ct,if_pos acY,yS _ _ _ _ _ _ _ h,bs];rfl
  rw [decide_eq_false acY,cf,if_neg acY]
  by_cases h2:p.State≤2
  ·rw [decide_eq_true h2,ct,if_pos h2,HE c p l h (by omega),bs]
  ·rw [decide_eq_false h2,cf,if_neg h2,au5 c p l h (by omega) hA,bs]
theorem aoL(c:Int)(p:aR)(l:List aL)(h:l.length≤650000000)(hS:0≤p.State∧p.State≤10)(hA:p.Args.length≤100)(hT:p.Text.length≤256):f144 c p.State p.Mark p.Inter p.Args p.Text l=some (pk l (eU p c)):=by
 unfold f144 eU
 by_cases h0:c<0
 ·rw [decide_eq_true h0,ct,if_pos h0,iE]
 rw [decide_eq_false h0,cf,if_neg h0]
 by_cases h1:1114111<c
 ·rw [decide_eq_true h1,ct,if_pos h1,iE]
 rw [decide_eq_false h1,cf,if_neg h1]
 have ht:rX c p.State p.Mark p.Inter p.Args p.Text l true=some (pk l (Fu p c)):=by
  unfold rX
  rw [ct,aoJ c p l (by omega) hS hT,bs]
 unfold JW
 by_cases h7:p.State=7
 ·rw [decide_eq_true h7,ct,if_pos (.inl h7),ht]
 rw [decide_eq_false h7,cf]
 by_cases h9:p.State=9
 ·rw [decide_eq_true h9,ct,if_pos (.inr h9),ht]
 rw [decide_eq_false h9,cf,if_neg (by omega)]
 have hb:(p.State=8∨p.State=10)→rW c p.State p.Mark p.Inter p.Args p.Text l true=some (pk l (if c=92 then (cG 0,[if p.State=8 then ⟨5,0,0,[],[],p.Text⟩ else j6]) else ((kS (cG 1) c).1,j6::(kS (cG 1) c).2))):=fun _=>by
  unfold rW
  rw [ct]
  by_cases h92:c=92
  ·rw [decide_eq_true h92,ct,if_pos h92]
   by_cases h8:p.State=8
   ·rw [decide_eq_true h8,ct,if_pos h8,nD _ _ _ _ _ _ _ (by omega),bs]
    unfold f180
    rw [bs];rfl
   ·rw [decide_eq_false h8,cf,if_neg h8,show aL.mk 6 0 0 [] [] []=j6 from rfl,nD _ _ _ _ _ _ _ (by omega),bs]
    unfold f180
    rw [bs];rfl
  ·rw [decide_eq_false h92,cf,if_neg h92,yS _ _ _ _ _ _ _ (by omega),bs]
   have:=Oi c p.State p.Mark p.Inter p.Args p.Text l (cG 1) (l++ [j6]) (by simp;omega) (by simp [cG])
   refine this.trans ?_
   simp [pk]
 unfold rX
 by_cases h8:p.State=8
 ·rw [cf,decide_eq_true h8,ct,if_pos (.inl h8),hb (.inl h8)]
 rw [cf,decide_eq_false h8,cf]
 by_cases h10:p.State=10
 ·rw [decide_eq_true h10,ct,if_pos (.inr h10),hb (.inr h10)]
 rw [decide_eq_false h10,cf,if_neg (by omega)]
 unfold rW
 rw [cf,Oi c _ _ _ _ _ _ p l (by omega) hA]

def Ap(b:UInt8):Bool:=decide ((32:Int)≤(b.toNat:Int))&&decide ((b.toNat:Int)≤47)
theorem Ex(a:fE)(k:Int): ∀(wm pre:fE),a=pre++wm→a.length≤100000000→
  b9 (zn a k) (pre.length:Int)=some (if wm.all Ap then .inl () else .inr false)
 | [],pre,e,h=>dJ (by
   subst e
   unfold zn oh
   simp only [vZ,cond_false];rfl)
 | z::t,pre,e,h=>by
  have hp:pre.length<1000000000:=by rw [e] at h;simp at h;omega
  have hx:idx a (pre.length:Int)=some z:=by rw [e];exact jb pre z t
  have hlt:decide ((pre.length:Int)<(a.length:Int))=true:=by rw [e];exact tA pre z t
  have hw:f55 (z.toNat:Int) 32 47=some (Ap z):=fY _ _ _
  rw [List.all_cons]
  cases hz:Ap z with
  | true=>
   have ih:=Ex a k t (pre++ [z]) (by rw [e];simp) h
   rw [Bool.true_and]
   refine fI ?_ ih
   unfold zn oh vt
   simp only [hlt,cond_true]
   rw [hx,bs,hw,bs,hz,Bool.not_true,cf,sI pre z hp]
  | false=>
   rw [Bool.false_and,if_neg (by simp)]
   refine dJ ?_
   unfold zn oh vt
   simp only [hlt,cond_true]
   rw [hx,bs,hw,bs,hz,Bool.not_false,ct]
theorem YJ(a:fE)(k:Int)(h:a.length≤100000000):f56 a k=some (a.all Ap&&decide ((a.length:Int)≤k)):=by
 unfold f56
 have:=Ex a k a [] rfl h
 rw [show ((([]:fE).length:Nat):Int)=0 from rfl] at this
 rw [this,bs]
 cases a.all Ap with
 | true=>
  rw [if_pos rfl,Sum.elim_inl,Bool.true_and]
  cases decide ((a.length:Int)≤k)<;>rfl
 | false=>rw [if_neg (by simp),Sum.elim_inr];rfl
def tB(p:aR):Bool:=decide ((p.Text.length:Int)≤256)&&(decide (p.Text= []) || (decide (p.State=7) || decide (p.State=8)))
def aB(p:aR):Bool:=decide ((p.Args.length:Int)≤100)&&(decide (p.Args= []) || (decide (p.State=4) || decide (p.State=5)))
def iB(p:aR)(q:Bool):Bool:=(p.Inter.all Ap&&decide ((p.Inter.length:Int)≤3))&&((!decide (p.Inter= []))==q)
def mB(p:aR):Bool:=decide (p.Mark=0) || ((decide (60≤p.Mark)&&decide (p.Mark≤63))&&(decide (p.State=4) || decide (p.State=5)))
def okP(p:aR):Bool:=(decide (0≤p.State)&&decide (p.State≤10))&&mB p&&iB p (decide (p.State=2) || decide (p.State=5))&&(decide ((jk p.Args).2=0)&&aB p)&&tB p
theorem wL(p:aR)(b:Bool):oG p b=some (bif b&&tB p then 0 else 4):=by
 unfold oG tB
 generalize decide ((p.Text.length:Int)≤256)=x1
 generalize decide (p.Text= [])=x2
 generalize decide (p.State=7)=x3
 generalize decide (p.State=8)=x4
 cases b<;>cases x1<;>cases x2<;>cases x3<;>cases x4<;>rfl
theorem aCW(p:aR)(e:Int)(b:Bool):qi p e b=some (bif b&&(decide (e=0)&&aB p)&&tB p then 0 else 4):=by
 unfold qi aB
 simp only [wL]
 generalize tB p=t
 generalize decide (e=0)=x0
 generalize decide ((p.Args.length:Int)≤100)=x1
 generalize decide (p.Args= [])=x2
 generalize decide (p.State=4)=x3
 generalize decide (p.State=5)=x4
 cases b<;>cases t<;>cases x0<;>cases x1<;>cases x2<;>cases x3<;>cases x4<;>rfl
theorem aCX(p:aR)(q:Bool)(e:Int)(b:Bool)(h:p.Inter.length≤100000000):qj p q e b=some (bif b&&iB p q&&(decide (e=0)&&aB p)&&tB p then 0 else 4):=by
 unfold qj iB
 simp only [aCW,YJ _ _ h,bs]
 generalize tB p=t
 generalize (decide (e=0)&&aB p)=x0
 generalize (p.Inter.all Ap&&decide ((p.Inter.length:Int)≤3))=x1
 generalize decide (p.Inter= [])=x2
 cases b<;>cases q<;>cases t<;>cases x0<;>cases x1<;>cases x2<;>rfl
theorem aCY(p:aR)(q:Bool)(h:p.Inter.length≤10000000)(hA:p.Args.length≤10000000):zo p q=some (bif (decide (0≤p.State)&&decide (p.State≤10))&&mB p&&iB p q&&(decide ((jk p.Args).2=0)&&aB p)&&tB p then 0 else 4):=by
 unfold zo mB
 have h':p.Inter.length≤100000000:=by omega
 rw [UR _ hA,bs,fY,bs,fY,bs]
 simp only [aCX _ _ _ _ h']
 generalize tB p=t
 generalize (decide ((jk p.Args).2=0)&&aB p)=x0
 generalize iB p q=x1
 generalize (decide (0≤p.State)&&decide (p.State≤10))=x2
 generalize decide (p.Mark=0)=x3
 generalize (decide (60≤p.Mark)&&decide (p.Mark≤63))=x4
 generalize decide (p.State=4)=x5
 generalize decide (p.State=5)=x6
 cases t<;>cases x0<;>cases x1<;>cases x2<;>cases x3<;>cases x4<;>cases x5<;>cases x6<;>rfl
theorem iU(p:aR)(h:p.Inter.length≤10000000)(hA:p.Args.length≤10000000):f21 p=some (bif okP p then 0 else 4):=by
 unfold f21 okP
 simp only [aCY p _ h hA]
 cases decide (p.State=2)<;>cases decide (p.State=5)<;>rfl
structure Ct (p:aR):Prop where
 st:0≤p.State∧p.State≤10
 mA:p.Mark=0∨(60≤p.Mark∧p.Mark≤63∧(p.State=4∨p.State=5))
 ia:p.Inter.all Ap=true
 il:p.Inter.length≤3
 ie:(p.State=2∨p.State=5)↔p.Inter≠ []
 aa:p.Args.all okB=true
 al:p.Args.length≤100
 ae:p.Args= []∨p.State=4∨p.State=5
 tl:p.Text.length≤256
 te:p.Text= []∨p.State=7∨p.State=8
theorem agM(s:fE):(jk s).2=0↔s.all okB=true:=by
 unfold jk
 split
 ·rename_i h;simp [h]
 ·rename_i h;simp [h]
theorem au8(p:aR):okP p=true↔Ct p:=by
 unfold okP mB iB aB tB
 simp only [Bool.and_eq_true,Bool.or_eq_true,decide_eq_true_eq,agM]
 have hie:((!decide (p.Inter= []))==(decide (p.State=2) || decide (p.State=5)))=true↔((p.State=2∨p.State=5)↔p.Inter≠ []):=by
  by_cases a:p.State=2<;>by_cases b:p.State=5<;>by_cases c:p.Inter= []<;>simp [a,b,c]<;>omega
 rw [hie]
 constructor
 ·rintro ⟨⟨⟨⟨h1,h2⟩,⟨h3,h4⟩,h5⟩,h6,h7,h8⟩,h9,h10⟩
  exact ⟨h1,by omega,h3,by omega,h5,h6,by omega,h8,by omega,h10⟩
 ·intro h
  exact ⟨⟨⟨⟨h.st,by have:=h.mA;omega⟩,⟨h.ia,by have:=h.il;omega⟩,h.ie⟩,h.aa,by have:=h.al;omega,h.ae⟩,by have:=h.tl;omega,h.te⟩
def K3(a:aL):Prop:=a.Text.length≤256∧a.Inter.length≤2∧a.Args.length≤32∧1≤a.Kind∧a.Kind≤6
def ctl(c:Int):Nat:=if 0≤c∧c<32 then 1 else 0
def K4(l:List aL):Nat:=(l.filter fun a=>decide (a.Kind=2)).length
structure tD (n k:Nat) (r:aR×List aL):Prop where
 ok:Ct r.1
 len:r.2.length≤n
 good: ∀a∈r.2,K3 a
 ctl:K4 r.2≤k
theorem nA(s:Int)(h:0≤s∧s≤10)(h2:s≠2)(h5:s≠5):Ct (cG s):=
 ⟨h,.inl rfl,rfl,by simp [cG],⟨fun hh=>by simp only [cG] at hh;omega,fun hh=>absurd rfl hh⟩,rfl,by simp [cG],.inl rfl,by simp [cG],.inl rfl⟩
theorem Fv:K3 j6:=by simp [K3,j6]
theorem jN{p:aR}(k:Nat)(h:Ct p):tD 1 k (p,[]):=⟨h,by simp,fun a ha=>by simp at ha,by simp [K4]⟩
theorem K5{p:aR}{a:aL}(k:Nat)(h:Ct p)(ha:K3 a)(h2:a.Kind≠2):tD 1 k (p,[a]):=
 ⟨h,by simp,fun b hb=>by simp at hb;rw [hb];exact ha,by simp [K4,h2]⟩
theorem Fw(s:Int)(k:Nat)(h:0≤s∧s≤10)(h2:s≠2)(h5:s≠5):tD 1 k (cG s,[j6]):=K5 k (nA s h h2 h5) Fv (by simp [j6])
theorem yT(a:aL)(p:aR)(k:Nat)(hI:p.Inter.length≤3)(ha:p.Inter.length≤2→K3 a)(h2:a.Kind≠2):tD 1 k (Ab a p):=by
 unfold Ab
 by_cases h:p.Inter.length=3
 ·rw [if_pos h];exact Fw 0 k (by omega) (by omega) (by omega)
 ·rw [if_neg h];exact K5 k (nA 0 (by omega) (by omega) (by omega)) (ha (by omega)) h2
theorem YK(p:aR)(c:Int)(h:Ct p)(h7:p.State=7∨p.State=9)(k:Nat):tD 1 k (Fu p c):=by
 obtain ⟨st,mA,ia,il,ie,aa,al,ae,tl,te⟩:=h
 have h0:Ct p:=⟨st,mA,ia,il,ie,aa,al,ae,tl,te⟩
 have hI:p.Inter= []:=Classical.byContradiction fun hh=>by have:=ie.2 hh;omega
 unfold Fu
 split
 ·refine jN k ⟨by dsimp only;omega,by dsimp only;omega,ia,il,⟨fun hh=>by dsimp only at hh;omega,fun hh=>absurd hI hh⟩,aa,al,?_,tl,?_⟩
  ·rcases ae with e | e
   ·exact .inl e
   ·omega
  ·rcases te with e | e
   ·exact .inl e
   ·exact .inr (by dsimp only;omega)
 split
 ·exact Fw 0 k (by omega) (by omega) (by omega)
 split
 ·exact Fw 0 k (by omega) (by omega) (by omega)
 split
 ·exact jN k h0
 split
 ·exact K5 k (nA 0 (by omega) (by omega) (by omega)) ⟨tl,by simp,by simp,by simp,by simp⟩ (by simp)
 split
 ·exact jN k h0
 split
 ·exact jN k h0
 split
 ·rename_i h9 _ _ _ hl
  exact jN k ⟨st,mA,ia,il,ie,aa,al,ae,hl,.inr (by dsimp only;omega)⟩
 ·exact jN k h0
theorem azV(c:Int)(h:32≤c∧c<48):Ap (sg c)=true:=by
 unfold Ap sg
 have:(UInt8.ofNat c.toNat).toNat=c.toNat:=by simp;omega
 rw [this,decide_eq_true (by omega),decide_eq_true (by omega)];rfl
theorem azW(c:Int)(h:48≤c∧c<60∧c≠58):okB (sg c)=true:=by
 unfold okB sg
 have:(UInt8.ofNat c.toNat).toNat=c.toNat:=by simp;omega
 rw [this]
 by_cases h59:c.toNat=59
 ·rw [decide_eq_true h59];rfl
 ·rw [decide_eq_true (show 48≤c.toNat by omega),decide_eq_true (show c.toNat≤57 by omega),Bool.and_self,Bool.or_true]
theorem UW(I:fE)(c:Int)(h:32≤c∧c<48)(ia:I.all Ap=true)(il:I.length≤3):(sK I c).all Ap=true∧(sK I c).length≤3∧sK I c≠ []:=by
 unfold sK
 by_cases h3:I.length<3
 ·rw [if_pos h3]
  refine ⟨by rw [List.all_append,ia];simp [azV c h],by simp;omega,by simp⟩
 ·rw [if_neg h3]
  exact ⟨ia,il,fun hh=>by rw [hh] at h3;simp at h3⟩
theorem agN(p:aR)(c:Int)(h:Ct p)(h2:p.State=1∨p.State=2)(hc:32≤c)(k:Nat):tD 1 k (Br p c):=by
 obtain ⟨st,mA,ia,il,ie,aa,al,ae,tl,te⟩:=h
 have hA:p.Args= []:=by rcases ae with e | e;exact e;omega
 have hT:p.Text= []:=by rcases te with e | e;exact e;omega
 have hM:p.Mark=0:=by omega
 unfold Br
 split
 ·rename_i Cs
  obtain ⟨m1,m2,m3⟩:=UW p.Inter c ⟨hc,Cs⟩ ia il
  exact jN k ⟨by dsimp only;omega,.inl hM,m1,m2,⟨fun _=>m3,fun _=> .inl rfl⟩,aa,al,.inl hA,tl,.inl hT⟩
 split
 ·exact yT _ p k il (fun hh=>⟨by simp,hh,by simp,by simp,by simp⟩) (by simp)
 rename_i hs2
 have hI:p.Inter= []:=Classical.byContradiction fun hh=>by have:=ie.2 hh;omega
 have hne: ∀s:Int,s≠2→s≠5→0≤s∧s≤10→Ct ⟨s,p.Mark,p.Inter,p.Args,p.Text⟩:=fun s s2 s5 sb=>
  ⟨sb,.inl hM,ia,il,⟨fun hh=>by dsimp only at hh;omega,fun hh=>absurd hI hh⟩,aa,al,.inl hA,tl,.inl hT⟩
 split
 ·exact jN k (hne 3 (by omega) (by omega) (by omega))
 split
 ·exact jN k (hne 7 (by omega) (by omega) (by omega))
 split
 ·exact jN k (hne 9 (by omega) (by omega) (by omega))
 ·exact yT _ p k il (fun hh=>⟨by simp,by simp,by simp,by simp,by simp⟩) (by simp)
theorem agO(p:aR)(c:Int)(h:Ct p)(h2:3≤p.State∧p.State≤6)(hc:32≤c)(k:Nat):tD 1 k (wM p c):=by
 obtain ⟨st,mA,ia,il,ie,aa,al,ae,tl,te⟩:=h
 have h0:Ct p:=⟨st,mA,ia,il,ie,aa,al,ae,tl,te⟩
 have hT:p.Text= []:=by rcases te with e | e;exact e;omega
 have f6:tD 1 k (cG 6,[]):=jN k (nA 6 (by omega) (by omega) (by omega))
 unfold wM
 split
 ·split
  ·exact Fw 0 k (by omega) (by omega) (by omega)
  ·exact jN k h0
 split
 ·rename_i Cs
  obtain ⟨m1,m2,m3⟩:=UW p.Inter c ⟨hc,Cs⟩ ia il
  exact jN k ⟨by dsimp only;omega,by dsimp only;omega,m1,m2,⟨fun _=>m3,fun _=> .inr rfl⟩,aa,al,.inr (.inr rfl),tl,.inl hT⟩
 split
 ·exact yT _ p k il (fun hh=>⟨by simp,hh,sJ _,by simp,by simp⟩) (by simp)
 split
 ·exact f6
 split
 ·exact f6
 rename_i h6 Cs Mn h5 YI
 have hI:p.Inter= []:=Classical.byContradiction fun hh=>by have:=ie.2 hh;omega
 split
 ·rename_i UU
  refine jN k ⟨by dsimp only;omega,by dsimp only;omega,ia,il,⟨fun hh=>by dsimp only at hh;omega,fun hh=>absurd hI hh⟩,?_,?_,.inr (.inl rfl),tl,.inl hT⟩
  ·dsimp only
   split
   ·rw [List.all_append,aa];simp [azW c (by omega)]
   ·exact aa
  ·dsimp only
   split
   ·simp;omega
   ·exact al
 split
 ·rename_i UU h3
  refine jN k ⟨by dsimp only;omega,.inr ⟨by dsimp only;omega,by dsimp only;omega,.inl rfl⟩,ia,il,⟨fun hh=>by dsimp only at hh;omega,fun hh=>absurd hI hh⟩,aa,al,.inr (.inl rfl),tl,.inl hT⟩
 ·exact f6
theorem GA(p:aR)(c:Int)(h:Ct p)(h6:p.State≤6)(hc:0≤c):tD 1 (ctl c) (kS p c):=by
 have hs:=h.st
 have hd: ∀s:Int,(s=0∨s=1)→tD 1 (ctl c) (cG s,if p.State=0 then [] else [j6]):=fun s hs'=>by
  split
  ·exact jN _ (nA s (by omega) (by omega) (by omega))
  ·exact Fw s _ (by omega) (by omega) (by omega)
 have core: ∀o,o=nB p c→tD 1 (ctl c) (match o with | some r=>r | none=>if p.State=0 then (p,[⟨1,c,0,[],[],[]⟩]) else if 160≤c then (cG 0,[j6]) else if p.State≤2 then Br p c else wM p c):=by
  intro o ho
  cases o with
  | none=>
   have hn:=(K1 ho.symm).1
   simp only
   split
   ·exact K5 _ h ⟨by simp,by simp,by simp,by simp,by simp⟩ (by simp)
   split
   ·exact Fw 0 _ (by omega) (by omega) (by omega)
   split
   ·exact agN p c h (by omega) hn _
   ·exact agO p c h (by omega) hn _
  | some r=>
   simp only
   unfold nB at ho
   split at ho
   ·cases ho;exact hd 1 (.inr rfl)
   split at ho
   ·cases ho;exact hd 0 (.inl rfl)
   split at ho
   ·cases ho;exact hd 0 (.inl rfl)
   split at ho
   ·rename_i uQ
    cases ho
    refine ⟨h,by simp,fun a ha=>?_,?_⟩
    ·simp at ha;subst ha;exact ⟨by simp,by simp,by simp,by simp,by simp⟩
    ·have:ctl c=1:=if_pos ⟨hc,uQ⟩
     rw [this]
     simp [K4]
   split at ho
   ·cases ho;exact jN _ h
   ·cases ho
 exact core _ rfl
theorem YL(p:aR)(c:Int)(h:Ct p):tD 2 (ctl c) (eU p c):=by
 have wide: ∀{r},tD 1 (ctl c) r→tD 2 (ctl c) r:=fun f=>⟨f.ok,by have:=f.len;omega,f.good,f.ctl⟩
 have hs:=h.st
 unfold eU
 split
 ·exact wide (jN _ h)
 split
 ·exact wide (jN _ h)
 split
 ·rename_i h7;exact wide (YK p c h h7 _)
 split
 ·split
  ·refine wide (K5 _ (nA 0 (by omega) (by omega) (by omega)) ?_ ?_)
   ·split
    ·exact ⟨h.tl,by simp,by simp,by simp,by simp⟩
    ·exact Fv
   ·split<;>simp [j6]
  ·have f:=GA (cG 1) c (nA 1 (by omega) (by omega) (by omega)) (by simp [cG]) (by omega)
   refine ⟨f.ok,by have:=f.len;simp only [List.length_cons];omega,fun a ha=>?_,?_⟩
   ·rcases List.mem_cons.1 ha with rfl | ha
    ·exact Fv
    ·exact f.good a ha
   ·have:=f.ctl
    simp only [K4] at this ⊢
    rw [List.filter_cons_of_neg (by simp [j6])]
    exact this
 ·rename_i h7 h8
  exact wide (GA p c h (by omega) (by omega))
def dx:aR→List Int→aR×List aL
 | p,[]=>(p,[])
 | p,c::t=>((dx (eU p c).1 t).1,(eU p c).2++(dx (eU p c).1 t).2)
theorem Og: ∀(a b:List Int) (p:aR),dx p (a++b)=((dx (dx p a).1 b).1,(dx p a).2++(dx (dx p a).1 b).2)
 | [],b,p=>by simp [dx]
 | c::a,b,p=>by
  rw [List.cons_append]
  simp only [dx]
  rw [Og a b]
  simp
theorem wo(a1:aR)(a2:List Int)(hl:a2.length≤273000000): ∀(wm pre:List Int) (p:aR) (l:List aL),a2=pre++wm→Ct p→l.length≤2*pre.length→
  b9 (xT a1 a2) (p.State,p.Mark,p.Inter,p.Args,p.Text,l,(pre.length:Int))=some (pk l (dx p wm))
 | [],pre,p,l,e,h,hk=>dJ (by
   subst e
   unfold xT o6
   simp only [vZ,cond_false]
   simp [dx,pk])
 | c::t,pre,p,l,e,h,hk=>by
  have hp:pre.length<1000000000:=by rw [e] at hl;simp at hl;omega
  have hp2:pre.length≤273000000:=by rw [e] at hl;simp at hl;omega
  have hx:idx a2 (pre.length:Int)=some c:=by rw [e];exact jb pre c t
  have hlt:decide ((pre.length:Int)<(a2.length:Int))=true:=by rw [e];exact tA pre c t
  have f:=YL p c h
  have fl:=f.len
  have ih:=wo a1 a2 hl t (pre++ [c]) (eU p c).1 (l++(eU p c).2) (by rw [e];simp) f.ok (by simp;omega)
  have er:pk l (dx p (c::t))=pk (l++(eU p c).2) (dx (eU p c).1 t):=by simp [pk,dx]
  rw [er]
  refine fI ?_ ih
  unfold xT o6 xR
  simp only [hlt,cond_true]
  rw [hx,bs,aoL c p l (by omega) h.st h.al h.tl,bs,sI pre c hp]
  rfl
theorem Ew(p:aR)(l:List Int)(hl:l.length≤273000000)(h:Ct p):f107 p l=some ((dx p l).1,(dx p l).2,0):=by
 unfold f107
 have hi:=h.il;have ha:=h.al
 rw [iU p (by omega) (by omega),(au8 p).2 h,bs,ct,decide_eq_true rfl,Bool.not_true,cf]
 unfold JZ
 have:=wo p l hl l [] p [] rfl h (by simp)
 rw [show ((([]:List Int).length:Nat):Int)=0 from rfl] at this
 rw [this,bs]
 unfold JX pk
 simp
theorem ji{p q:aR}{c:Int}{t:List Int}(h:eU p c=(q,[])):dx p (c::t)=dx q t:=by
 simp only [dx];rw [h];simp
theorem Cq{p:aR}{c:Int}{a:aL}(h:eU p c=(cG 0,[a])):dx p [c]=(cG 0,[a]):=by
 simp only [dx];rw [h];simp
theorem aoM(p:aR)(c:Int)(h:32≤c∧ ¬(127≤c∧c≤159)):nB p c=none:=by
 unfold nB
 rw [if_neg (by omega),if_neg (by omega),if_neg (by omega),if_neg (by omega),if_neg h.2]
theorem Fx(p:aR)(c:Int)(hs:1≤p.State∧p.State≤6)(hc:32≤c∧c≤126):eU p c=if p.State≤2 then Br p c else wM p c:=by
 unfold eU
 rw [if_neg (by omega),if_neg (by omega),if_neg (by omega),if_neg (by omega)]
 unfold kS
 rw [aoM p c (by omega)]
 simp only
 rw [if_neg (by omega),if_neg (by omega)]
theorem au9:eU (cG 0) 27=(cG 1,[]):=rfl
theorem au_:eU (cG 1) 91=(cG 3,[]):=rfl
theorem UX(b:UInt8):sg (b.toNat:Int)=b:=by
 unfold sg
 apply UInt8.toNat.inj
 simp
def kq(l:List UInt8):List Int:=l.map fun b=>(b.toNat:Int)
theorem aoN(s m:Int)(A:fE)(c:Int)(hs:s=3∨s=4)(hc:48≤c∧c<60∧c≠58)(hA:A.length<100):eU ⟨s,m,[],A,[]⟩ c=(⟨4,m,[],A++ [sg c],[]⟩,[]):=by
 rw [Fx _ _ (by dsimp only;omega) (by omega),if_neg (by dsimp only;omega)]
 unfold wM
 rw [if_neg (by dsimp only;omega),if_neg (by omega),if_neg (by omega),if_neg (by dsimp only;omega),if_neg (by omega),if_pos (by omega)]
 dsimp only
 rw [if_pos hA]
theorem Oj: ∀(B A:fE) (s m:Int) (t:List Int),(s=3∨s=4)→B.all okB=true→(A++B).length≤100→dx ⟨s,m,[],A,[]⟩ (kq B++t)=dx ⟨if B= [] then s else 4,m,[],A++B,[]⟩ t
 | [],A,s,m,t,hs,hj,hl=>by simp [kq]
 | b::B,A,s,m,t,hs,hj,hl=>by
  rw [List.all_cons,Bool.and_eq_true] at hj
  have hb:48≤b.toNat∧b.toNat<60∧b.toNat≠58:=by
   have:=hj.1;unfold okB at this;simp at this;omega
  have e:kq (b::B)++t=(b.toNat:Int)::(kq B++t):=rfl
  rw [e,ji (aoN s m A _ hs (by omega) (by simp at hl;omega)),UX,Oj B (A++ [b]) 4 m t (.inr rfl) hj.2 (by simpa using hl)]
  simp
theorem ava(s m:Int)(A I:fE)(c:Int)(hs:s=3∨s=4∨s=5)(hc:32≤c∧c≤47):eU ⟨s,m,I,A,[]⟩ c=(⟨5,m,sK I c,A,[]⟩,[]):=by
 rw [Fx _ _ (by dsimp only;omega) (by omega),if_neg (by dsimp only;omega)]
 unfold wM
 rw [if_neg (by dsimp only;omega),if_pos (by omega)]
theorem UY: ∀(J I A:fE) (s m:Int) (t:List Int),(s=3∨s=4∨s=5)→J.all Ap=true→(I++J).length≤3→dx ⟨s,m,I,A,[]⟩ (kq J++t)=dx ⟨if J= [] then s else 5,m,I++J,A,[]⟩ t
 | [],I,A,s,m,t,hs,hj,hl=>by simp [kq]
 | b::J,I,A,s,m,t,hs,hj,hl=>by
  rw [List.all_cons,Bool.and_eq_true] at hj
  have hb:(32:Int)≤(b.toNat:Int)∧(b.toNat:Int)≤47:=by
   have:=hj.1;unfold Ap at this;simpa using this
  have e:kq (b::J)++t=(b.toNat:Int)::(kq J++t):=rfl
  have em:sK I (b.toNat:Int)=I++ [b]:=by
   unfold sK
   rw [if_pos (by simp at hl;omega),UX]
  rw [e,ji (ava s m A I _ hs hb),em,UY J (I++ [b]) A 5 m t (.inr (.inr rfl)) hj.2 (by simpa using hl)]
  simp
theorem aoO(s m:Int)(A I:fE)(c:Int)(hs:s=3∨s=4∨s=5)(hI:I.length≤2)(hc:64≤c∧c≤126):eU ⟨s,m,I,A,[]⟩ c=(cG 0,[⟨4,c,m,I,(jk A).1,[]⟩]):=by
 rw [Fx _ _ (by dsimp only;omega) (by omega),if_neg (by dsimp only;omega)]
 unfold wM
 rw [if_neg (by dsimp only;omega),if_neg (by omega),if_pos hc.1]
 unfold Ab
 rw [if_neg (by dsimp only;omega)]
theorem agP(s m:Int)(A I:fE)(c:Int)(hs:s=3∨s=4)(hA:A.all okB=true)(lA:A.length≤100)(hI:I.all Ap=true)(lI:I.length≤2)(hc:64≤c∧c≤126):dx ⟨s,m,[],[],[]⟩ (kq (A++I)++ [c])=(cG 0,[⟨4,c,m,I,(jk A).1,[]⟩]):=by
 have e:kq (A++I)++ [c]=kq A++(kq I++ [c]):=by simp [kq]
 rw [e,Oj A [] s m _ hs hA (by simpa using lA),List.nil_append]
 have h1:(if A= [] then s else 4)=3∨(if A= [] then s else 4)=4:=by split<;>omega
 generalize (if A= [] then s else 4)=s1 at h1
 rw [UY I [] A s1 m _ (by omega) hI (by simp;omega),List.nil_append]
 have h2:(if I= [] then s1 else 5)=3∨(if I= [] then s1 else 5)=4∨(if I= [] then s1 else 5)=5:=by split<;>omega
 generalize (if I= [] then s1 else 5)=s2 at h2
 exact Cq (aoO s2 m A I c h2 lI hc)
theorem wk(A I:fE)(c:Int)(hA:A.all okB=true)(lA:A.length≤100)(hI:I.all Ap=true)(lI:I.length≤2)(hc:64≤c∧c≤126):dx (cG 0) (27::91::(kq (A++I)++ [c]))=(cG 0,[⟨4,c,0,I,(jk A).1,[]⟩]):=by
 rw [ji au9,ji au_]
 exact agP 3 0 A I c (.inl rfl) hA lA hI lI hc
end Go.Proofs.YtimbfadnabfabaaGreatDoor.Pr

namespace Go.Proofs.YtimbfadnabfabaaGreatDoor.Pm.Ut
open Go.Proofs.YtimbfadnabfabaaGreatDoor.Args
open Go.ChangeShapes Go.WideShapes Go.ChangeAt Go.RowKit
set_option linter.unusedVariables false
set_option linter.unusedSimpArgs false
set_option maxRecDepth 100000
abbrev fE:=List UInt8
theorem iL(i n:Nat)(h:i<n):jG (i:Int) n=some i:=by unfold jG;rw [if_pos (by omega)];simp
def need(c:UInt8):Nat×UInt8×UInt8:=
 if 194≤c.toNat∧c.toNat≤223 then (1,128,191) else if c.toNat=224 then (2,160,191) else if c.toNat=237 then (2,128,159) else if 225≤c.toNat∧c.toNat≤239 then (2,128,191) else if c.toNat=240 then (3,144,191) else if c.toNat=244 then (3,128,143) else if 241≤c.toNat∧c.toNat≤243 then (3,128,191) else (0,0,0)
theorem aoP(c:UInt8):f85 c=some (((need c).1:Int),(need c).2.1,(need c).2.2):=by
 unfold f85 need
 by_cases h1:194≤c.toNat∧c.toNat≤223
 ·rw [decide_eq_true (by omega),ct,decide_eq_true (by omega),ct,if_pos h1];rfl
 have e0:Dc c=some (((if c.toNat=224 then (2,160,191) else if c.toNat=237 then (2,128,159) else if 225≤c.toNat∧c.toNat≤239 then (2,128,191) else if c.toNat=240 then (3,144,191) else if c.toNat=244 then (3,128,143) else if 241≤c.toNat∧c.toNat≤243 then (3,128,191) else (0,0,0):Nat×UInt8×UInt8).1:Int),(if c.toNat=224 then (2,160,191) else if c.toNat=237 then (2,128,159) else if 225≤c.toNat∧c.toNat≤239 then (2,128,191) else if c.toNat=240 then (3,144,191) else if c.toNat=244 then (3,128,143) else if 241≤c.toNat∧c.toNat≤243 then (3,128,191) else (0,0,0):Nat×UInt8×UInt8).2):=by
  unfold Dc
  by_cases h2:c.toNat=224
  ·rw [decide_eq_true (by omega),ct,if_pos h2];rfl
  rw [decide_eq_false (by omega),cf,if_neg h2]
  by_cases h3:c.toNat=237
  ·rw [decide_eq_true (by omega),ct,if_pos h3];rfl
  rw [decide_eq_false (by omega),cf,if_neg h3]
  by_cases h4:225≤c.toNat∧c.toNat≤239
  ·rw [decide_eq_true (by omega),ct,decide_eq_true (by omega),ct,if_pos h4];rfl
  rw [if_neg h4]
  have e1:Db c=some (((if c.toNat=240 then (3,144,191) else if c.toNat=244 then (3,128,143) else if 241≤c.toNat∧c.toNat≤243 then (3,128,191) else (0,0,0):Nat×UInt8×UInt8).1:Int),(if c.toNat=240 then (3,144,191) else if c.toNat=244 then (3,128,143) else if 241≤c.toNat∧c.toNat≤243 then (3,128,191) else (0,0,0):Nat×UInt8×UInt8).2):=by
   unfold Db
   by_cases h5:c.toNat=240
   ·rw [decide_eq_true (by omega),ct,if_pos h5];rfl
   rw [decide_eq_false (by omega),cf,if_neg h5]
   by_cases h6:c.toNat=244
   ·rw [decide_eq_true (by omega),ct,if_pos h6];rfl
   rw [decide_eq_false (by omega),cf,if_neg h6]
   by_cases h7:241≤c.toNat
   ·rw [decide_eq_true (by omega),ct]
    by_cases h8:c.toNat≤243
    ·rw [decide_eq_true (by omega),ct,if_pos ⟨h7,h8⟩];rfl
    ·rw [decide_eq_false (by omega),cf,if_neg (by omega)];rfl
   ·rw [decide_eq_false (by omega),cf,if_neg (by omega)];rfl
  by_cases h5:225≤c.toNat
  ·rw [decide_eq_true (by omega),ct,decide_eq_false (by omega),cf,e1]
  ·rw [decide_eq_false (by omega),cf,e1]
 rw [if_neg h1]
 by_cases h2:194≤c.toNat
 ·rw [decide_eq_true (by omega),ct,decide_eq_false (by omega),cf,e0]
 ·rw [decide_eq_false (by omega),cf,e0]
def run:Nat→UInt8→UInt8→fE→Nat
 | n+1,lo,hi,b::t=>if lo.toNat≤b.toNat∧b.toNat≤hi.toNat then 1+run n 128 191 t else 0
 | _,_,_,_=>0
theorem Q4: ∀(n:Nat) (lo hi:UInt8) (t:fE),run n lo hi t≤n∧run n lo hi t≤t.length
 | 0,_,_,t=>by simp [run]
 | n+1,_,_,[]=>by simp [run]
 | n+1,lo,hi,b::t=>by
  have:=Q4 n 128 191 t
  unfold run
  split
  ·simp;omega
  ·simp
def bu:fE→Nat×Bool
 | []=>(0,false)
 | c::t=>if (need c).1=0 then (0,false) else (1+run (need c).1 (need c).2.1 (need c).2.2 t,decide (run (need c).1 (need c).2.1 (need c).2.2 t=(need c).1))
theorem jl(c:UInt8)(t:fE):bu (c::t)=if (need c).1=0 then (0,false) else (1+run (need c).1 (need c).2.1 (need c).2.2 t,decide (run (need c).1 (need c).2.1 (need c).2.2 t=(need c).1)):=rfl
theorem aoQ(c:UInt8):(need c).1≤3:=by
 unfold need
 repeat' split
 all_goals simp
theorem qI(a1:fE)(hl:a1.length≤100000000)(N:Nat)(hN:N≤3): ∀(m:Nat) (t pre:fE) (lo hi:UInt8),a1=pre++t→N+1=pre.length+m→
  b9 (vo a1) ((N:Int),lo,hi,(pre.length:Int))=some ((N:Int),((pre.length+run m lo hi t:Nat):Int))
 | 0,t,pre,lo,hi,e,hm=>dJ (by
   unfold vo
   simp only
   rw [decide_eq_false (by omega),cf]
   simp [run])
 | m+1,[],pre,lo,hi,e,hm=>dJ (by
   unfold vo
   simp only
   rw [decide_eq_true (by omega),ct,e,vZ,cf];rfl)
 | m+1,b::t,pre,lo,hi,e,hm=>by
  have hp:pre.length<1000000000:=by rw [e] at hl;simp at hl;omega
  have hx:idx a1 (pre.length:Int)=some b:=by rw [e];exact jb pre b t
  have hlt:decide ((pre.length:Int)<(a1.length:Int))=true:=by rw [e];exact tA pre b t
  unfold run
  by_cases hb:lo.toNat≤b.toNat∧b.toNat≤hi.toNat
  ·have ih:=qI a1 hl N hN m t (pre++ [b]) 128 191 (by rw [e];simp) (by simp;omega)
   rw [if_pos hb,show pre.length+(1+run m 128 191 t)=(pre++ [b]).length+run m 128 191 t by simp;omega]
   refine fI ?_ ih
   unfold vo
   simp only
   rw [decide_eq_true (by omega),ct,hlt,ct,hx,bs,bs,decide_eq_true (by omega),ct,decide_eq_true (by omega),ct,sI pre b hp]
  ·rw [if_neg hb]
   refine dJ ?_
   unfold vo
   simp only
   rw [decide_eq_true (by omega),ct,hlt,ct,hx,bs,bs]
   by_cases h1:lo.toNat≤b.toNat
   ·rw [decide_eq_true (by omega),ct,decide_eq_false (by omega),cf];rfl
   ·rw [decide_eq_false (by omega),cf];rfl
theorem pE(c:UInt8)(t:fE)(hl:(c::t).length≤100000000):f53 (c::t)=some (((bu (c::t)).1:Int),(bu (c::t)).2):=by
 unfold f53
 rw [show idx (c::t) 0=some c from jb [] c t,bs,aoP,bs]
 rw [jl]
 by_cases h0:(need c).1=0
 ·rw [if_pos h0]
  simp only
  rw [decide_eq_true (by omega),ct];rfl
 ·rw [if_neg h0]
  simp only
  rw [decide_eq_false (by omega),cf]
  unfold PJ
  have h:=qI (c::t) hl (need c).1 (aoQ c) (need c).1 t [c] (need c).2.1 (need c).2.2 rfl (by simp;omega)
  rw [show ((([c]:fE).length:Nat):Int)=1 from rfl] at h
  rw [h,bs]
  simp only
  have hr:=Q4 (need c).1 (need c).2.1 (need c).2.2 t
  generalize run (need c).1 (need c).2.1 (need c).2.2 t=r at*
  by_cases hw:r=(need c).1
  ·rw [decide_eq_true hw,decide_eq_true (by simp;omega),ct];rfl
  ·rw [decide_eq_false hw,decide_eq_false (by simp;omega),cf];rfl
theorem GC(s:fE):(bu s).1≤s.length:=by
 cases s with
 | nil=>simp [bu]
 | cons c t=>
  rw [jl]
  have:=Q4 (need c).1 (need c).2.1 (need c).2.2 t
  split
  ·simp
  ·simp;omega
def pY:fE→Int
 | c::b1::t=>if c.toNat≤223 then ((c.toNat%32*64+b1.toNat%64:Nat):Int) else match t with
  | b2::t2=>if c.toNat≤239 then ((c.toNat%16*4096+b1.toNat%64*64+b2.toNat%64:Nat):Int) else match t2 with
   | b3::_=>((c.toNat%8*262144+b1.toNat%64*4096+b2.toNat%64*64+b3.toNat%64:Nat):Int)
   | []=>0
  | []=>0
 | _=>0
theorem wq(s:fE)(h:(bu s).2=true):
  (∃c b1 t,s=c::b1::t∧(bu s).1=2∧194≤c.toNat∧c.toNat≤223∧128≤b1.toNat∧b1.toNat≤191)∨
  (∃c b1 b2 t,s=c::b1::b2::t∧(bu s).1=3∧224≤c.toNat∧c.toNat≤239∧128≤b1.toNat∧b1.toNat≤191∧(c.toNat=224→160≤b1.toNat)∧(c.toNat=237→b1.toNat≤159)∧128≤b2.toNat∧b2.toNat≤191)∨
  (∃c b1 b2 b3 t,s=c::b1::b2::b3::t∧(bu s).1=4∧240≤c.toNat∧c.toNat≤244∧128≤b1.toNat∧b1.toNat≤191∧(c.toNat=240→144≤b1.toNat)∧(c.toNat=244→b1.toNat≤143)∧128≤b2.toNat∧b2.toNat≤191∧128≤b3.toNat∧b3.toNat≤191):=by
 cases s with
 | nil=>simp [bu] at h
 | cons c t=>
  have key: ∀(n:Nat) (lo hi:UInt8),need c=(n,lo,hi)→n≠0→run n lo hi t=n∧(bu (c::t)).1=1+n:=by
   intro n lo hi e hn
   rw [jl] at h ⊢
   rw [e] at h ⊢
   simp only at h ⊢
   rw [if_neg hn] at h ⊢
   have:=of_decide_eq_true h
   exact ⟨this,by rw [this]⟩
  have one: ∀(n:Nat) (lo hi:UInt8) (t:fE),run (n+1) lo hi t=n+1→ ∃b u,t=b::u∧lo.toNat≤b.toNat∧b.toNat≤hi.toNat∧run n 128 191 u=n:=by
   intro n lo hi t ht
   cases t with
   | nil=>simp [run] at ht
   | cons b u=>
    unfold run at ht
    by_cases hb:lo.toNat≤b.toNat∧b.toNat≤hi.toNat
    ·rw [if_pos hb] at ht;exact ⟨b,u,rfl,hb.1,hb.2,by omega⟩
    ·rw [if_neg hb] at ht;omega
  have aoR:(191:UInt8).toNat=191:=rfl
  have aoS:(128:UInt8).toNat=128:=rfl
  have aC2:(160:UInt8).toNat=160:=rfl
  have aC3:(159:UInt8).toNat=159:=rfl
  have aC4:(144:UInt8).toNat=144:=rfl
  have aC5:(143:UInt8).toNat=143:=rfl
  have e3: ∀lo hi,need c=(2,lo,hi)→ ∃b1 b2 u,t=b1::b2::u∧(bu (c::t)).1=3∧lo.toNat≤b1.toNat∧b1.toNat≤hi.toNat∧128≤b2.toNat∧b2.toNat≤191:=by
   intro lo hi e
   obtain ⟨q1,q2⟩:=key 2 lo hi e (by omega)
   obtain ⟨b,u,rfl,g1,g2,g3⟩:=one 1 lo hi t q1
   obtain ⟨b2,u2,rfl,g4,g5,_⟩:=one 0 128 191 u g3
   exact ⟨b,b2,u2,rfl,q2,g1,g2,g4,g5⟩
  have e4: ∀lo hi,need c=(3,lo,hi)→ ∃b1 b2 b3 u,t=b1::b2::b3::u∧(bu (c::t)).1=4∧lo.toNat≤b1.toNat∧b1.toNat≤hi.toNat∧128≤b2.toNat∧b2.toNat≤191∧128≤b3.toNat∧b3.toNat≤191:=by
   intro lo hi e
   obtain ⟨q1,q2⟩:=key 3 lo hi e (by omega)
   obtain ⟨b,u,rfl,g1,g2,g3⟩:=one 2 lo hi t q1
   obtain ⟨b2,u2,rfl,g4,g5,g6⟩:=one 1 128 191 u g3
   obtain ⟨b3,u3,rfl,g7,g8,_⟩:=one 0 128 191 u2 g6
   exact ⟨b,b2,b3,u3,rfl,q2,g1,g2,g4,g5,g7,g8⟩
  by_cases h1:194≤c.toNat∧c.toNat≤223
  ·obtain ⟨q1,q2⟩:=key 1 128 191 (by unfold need;rw [if_pos h1]) (by omega)
   obtain ⟨b,u,rfl,g1,g2,_⟩:=one 0 128 191 t q1
   exact .inl ⟨c,b,u,rfl,q2,h1.1,h1.2,g1,g2⟩
  by_cases h2:c.toNat=224
  ·obtain ⟨b1,b2,u,rfl,q,g⟩:=e3 160 191 (by unfold need;rw [if_neg h1,if_pos h2])
   exact .inr (.inl ⟨c,b1,b2,u,rfl,q,by omega,by omega,by omega,by omega,by omega,by omega,by omega,by omega⟩)
  by_cases h3:c.toNat=237
  ·obtain ⟨b1,b2,u,rfl,q,g⟩:=e3 128 159 (by unfold need;rw [if_neg h1,if_neg h2,if_pos h3])
   exact .inr (.inl ⟨c,b1,b2,u,rfl,q,by omega,by omega,by omega,by omega,by omega,by omega,by omega,by omega⟩)
  by_cases h4:225≤c.toNat∧c.toNat≤239
  ·obtain ⟨b1,b2,u,rfl,q,g⟩:=e3 128 191 (by unfold need;rw [if_neg h1,if_neg h2,if_neg h3,if_pos h4])
   exact .inr (.inl ⟨c,b1,b2,u,rfl,q,by omega,by omega,by omega,by omega,by omega,by omega,by omega,by omega⟩)
  by_cases h5:c.toNat=240
  ·obtain ⟨b1,b2,b3,u,rfl,q,g⟩:=e4 144 191 (by unfold need;rw [if_neg h1,if_neg h2,if_neg h3,if_neg h4,if_pos h5])
   exact .inr (.inr ⟨c,b1,b2,b3,u,rfl,q,by omega,by omega,by omega,by omega,by omega,by omega,by omega,by omega,by omega,by omega⟩)
  by_cases h6:c.toNat=244
  ·obtain ⟨b1,b2,b3,u,rfl,q,g⟩:=e4 128 143 (by unfold need;rw [if_neg h1,if_neg h2,if_neg h3,if_neg h4,if_neg h5,if_pos h6])
   exact .inr (.inr ⟨c,b1,b2,b3,u,rfl,q,by omega,by omega,by omega,by omega,by omega,by omega,by omega,by omega,by omega,by omega⟩)
  by_cases h7:241≤c.toNat∧c.toNat≤243
  ·obtain ⟨b1,b2,b3,u,rfl,q,g⟩:=e4 128 191 (by unfold need;rw [if_neg h1,if_neg h2,if_neg h3,if_neg h4,if_neg h5,if_neg h6,if_pos h7])
   exact .inr (.inr ⟨c,b1,b2,b3,u,rfl,q,by omega,by omega,by omega,by omega,by omega,by omega,by omega,by omega,by omega,by omega⟩)
  have:need c=(0,0,0):=by unfold need;rw [if_neg h1,if_neg h2,if_neg h3,if_neg h4,if_neg h5,if_neg h6,if_neg h7]
  rw [jl] at h
  rw [this] at h
  simp at h
abbrev dH(c:Int):Prop:=(0≤c∧c≤55295)∨(57344≤c∧c≤1114111)
theorem agQ(s:fE)(h:(bu s).2=true):dH (pY s):=by
 unfold dH
 rcases wq s h with ⟨c,b1,t,rfl,_,h1,h2,_⟩ | ⟨c,b1,b2,t,rfl,_,h1,h2,_⟩ | ⟨c,b1,b2,b3,t,rfl,_,h1,h2,_⟩
 ·simp only [pY]
  rw [if_pos h2]
  omega
 ·simp only [pY]
  rw [if_neg (by omega),if_pos h2]
  omega
 ·simp only [pY]
  rw [if_neg (by omega),if_neg (by omega)]
  omega
theorem avb(s:fE)(h:(bu s).2=true): ∃k,iK s=some (pY s,k):=by
 unfold iK
 rw [Lib.decode_at]
 rcases wq s h with ⟨c,b1,t,rfl,_,h1,h2,h3,h4⟩ | ⟨c,b1,b2,t,rfl,_,h1,h2,h3,h4,h5,h6,h7,h8⟩ | ⟨c,b1,b2,b3,t,rfl,_,h1,h2,h3,h4,h5,h6,h7,h8,h9,h10⟩
 ·refine ⟨2,?_⟩
  rw [if_neg (by simp)]
  have g0:(⟨(c::b1::t).toArray⟩:ByteArray).get! 0=c:=rfl
  have g1:(⟨(c::b1::t).toArray⟩:ByteArray).get! (0+1)=b1:=rfl
  have gs:(⟨(c::b1::t).toArray⟩:ByteArray).size=t.length+2:=by show (c::b1::t).toArray.size=_;simp
  rw [g0,g1,gs]
  generalize ((⟨(c::b1::t).toArray⟩:ByteArray).get! (0+2)).toNat=x2
  generalize ((⟨(c::b1::t).toArray⟩:ByteArray).get! (0+3)).toNat=x3
  unfold Lib.decodeN
  rw [if_neg (by omega),if_pos ⟨by omega,by omega,by omega⟩,if_pos (by omega)]
  simp only [pY]
  rw [if_pos h2];rfl
 ·refine ⟨3,?_⟩
  rw [if_neg (by simp)]
  have g0:(⟨(c::b1::b2::t).toArray⟩:ByteArray).get! 0=c:=rfl
  have g1:(⟨(c::b1::b2::t).toArray⟩:ByteArray).get! (0+1)=b1:=rfl
  have g2:(⟨(c::b1::b2::t).toArray⟩:ByteArray).get! (0+2)=b2:=rfl
  have gs:(⟨(c::b1::b2::t).toArray⟩:ByteArray).size=t.length+3:=by show (c::b1::b2::t).toArray.size=_;simp
  rw [g0,g1,g2,gs]
  generalize ((⟨(c::b1::b2::t).toArray⟩:ByteArray).get! (0+3)).toNat=x3
  unfold Lib.decodeN
  rw [if_neg (by omega),if_neg (by omega),if_pos ⟨by omega,⟨by omega,by omega⟩,by omega,by omega⟩,if_pos (by omega)]
  simp only [pY]
  rw [if_neg (by omega),if_pos h2];rfl
 ·refine ⟨4,?_⟩
  rw [if_neg (by simp)]
  have g0:(⟨(c::b1::b2::b3::t).toArray⟩:ByteArray).get! 0=c:=rfl
  have g1:(⟨(c::b1::b2::b3::t).toArray⟩:ByteArray).get! (0+1)=b1:=rfl
  have g2:(⟨(c::b1::b2::b3::t).toArray⟩:ByteArray).get! (0+2)=b2:=rfl
  have g3:(⟨(c::b1::b2::b3::t).toArray⟩:ByteArray).get! (0+3)=b3:=rfl
  have gs:(⟨(c::b1::b2::b3::t).toArray⟩:ByteArray).size=t.length+4:=by show (c::b1::b2::b3::t).toArray.size=_;simp
  rw [g0,g1,g2,g3,gs]
  unfold Lib.decodeN
  rw [if_neg (by omega),if_neg (by omega),if_neg (by omega),if_pos ⟨by omega,⟨by omega,by omega⟩,⟨by omega,by omega⟩,by omega,by omega⟩,if_pos (by omega)]
  simp only [pY]
  rw [if_neg (by omega),if_neg (by omega)];rfl
def lp:Nat→fE→List Int×fE
 | n+1,c::t=>if c.toNat<128 then ((c.toNat:Int)::(lp n t).1,(lp n t).2)
  else if (bu (c::t)).2=true then (pY (c::t)::(lp n ((c::t).drop (bu (c::t)).1)).1,(lp n ((c::t).drop (bu (c::t)).1)).2)
  else if 0<(bu (c::t)).1∧(bu (c::t)).1=(c::t).length then ([],c::t)
  else (65533::(lp n ((c::t).drop (max (bu (c::t)).1 1))).1,(lp n ((c::t).drop (max (bu (c::t)).1 1))).2)
 | _,s=>([],s)
theorem wu(s:fE)(h:(bu s).2=true):2≤(bu s).1:=by
 rcases wq s h with ⟨c,b1,t,_,e,_⟩ | ⟨c,b1,b2,t,_,e,_⟩ | ⟨c,b1,b2,b3,t,_,e,_⟩<;>omega
theorem wz: ∀(n m:Nat) (s:fE),s.length≤n→s.length≤m→lp n s=lp m s
 | n,m,[],hn,hm=>by cases n<;>cases m<;>rfl
 | 0,m,c::t,hn,hm=>by simp at hn
 | n,0,c::t,hn,hm=>by simp at hm
 | n+1,m+1,c::t,hn,hm=>by
  simp only [List.length_cons] at hn hm
  have h1:=wz n m t (by omega) (by omega)
  have hd: ∀k,1≤k→lp n ((c::t).drop k)=lp m ((c::t).drop k):=fun k hk=>wz n m _ (by simp;omega) (by simp;omega)
  unfold lp
  rw [h1,hd (max (bu (c::t)).1 1) (by omega)]
  by_cases hw:(bu (c::t)).2=true
  ·rw [hd (bu (c::t)).1 (by have:=wu _ hw;omega)]
  ·rw [if_neg hw,if_neg hw]
def ey(s:fE):List Int×fE:=lp s.length s
theorem YM:ey []=([],[]):=rfl
theorem K6(c:UInt8)(t:fE)(h:c.toNat<128):ey (c::t)=((c.toNat:Int)::(ey t).1,(ey t).2):=by
 unfold ey
 rw [List.length_cons]
 conv=>lhs;unfold lp
 rw [if_pos h]
theorem qu(c:UInt8)(t:fE)(h: ¬c.toNat<128)(hw:(bu (c::t)).2=true):ey (c::t)=(pY (c::t)::(ey ((c::t).drop (bu (c::t)).1)).1,(ey ((c::t).drop (bu (c::t)).1)).2):=by
 have h2:=wu _ hw
 unfold ey
 rw [List.length_cons]
 conv=>lhs;unfold lp
 rw [if_neg h,if_pos hw,wz t.length ((c::t).drop (bu (c::t)).1).length _ (by simp;omega) (Nat.le_refl _)]
theorem UZ(c:UInt8)(t:fE)(h: ¬c.toNat<128)(hw:(bu (c::t)).2=false)(hs:0<(bu (c::t)).1∧(bu (c::t)).1=(c::t).length):ey (c::t)=([],c::t):=by
 unfold ey
 rw [List.length_cons]
 unfold lp
 rw [if_neg h,if_neg (by rw [hw];simp),if_pos hs]
theorem YN(c:UInt8)(t:fE)(h: ¬c.toNat<128)(hw:(bu (c::t)).2=false)(hs: ¬(0<(bu (c::t)).1∧(bu (c::t)).1=(c::t).length)):ey (c::t)=(65533::(ey ((c::t).drop (max (bu (c::t)).1 1))).1,(ey ((c::t).drop (max (bu (c::t)).1 1))).2):=by
 unfold ey
 rw [List.length_cons]
 conv=>lhs;unfold lp
 rw [if_neg h,if_neg (by rw [hw];simp),if_neg hs,wz t.length ((c::t).drop (max (bu (c::t)).1 1)).length _ (by simp;omega) (Nat.le_refl _)]
theorem Ac{P:fE→Prop}(h0:P [])(acZ: ∀c t,c.toNat<128→P t→P (c::t))
  (hw: ∀c t,¬c.toNat<128→(bu (c::t)).2=true→P ((c::t).drop (bu (c::t)).1)→P (c::t))
  (hs: ∀c t,¬c.toNat<128→(bu (c::t)).2=false→(0<(bu (c::t)).1∧(bu (c::t)).1=(c::t).length)→P (c::t))
  (hb: ∀c t,¬c.toNat<128→(bu (c::t)).2=false→ ¬(0<(bu (c::t)).1∧(bu (c::t)).1=(c::t).length)→P ((c::t).drop (max (bu (c::t)).1 1))→P (c::t)): ∀(n:Nat) (s:fE),s.length≤n→P s
 | _,[],_=>h0
 | 0,c::t,hn=>by simp at hn
 | n+1,c::t,hn=>by
  simp only [List.length_cons] at hn
  by_cases h:c.toNat<128
  ·exact acZ c t h (Ac h0 acZ hw hs hb n t (by omega))
  by_cases hwh:(bu (c::t)).2=true
  ·have:=wu _ hwh
   exact hw c t h hwh (Ac h0 acZ hw hs hb n _ (by simp;omega))
  rw [Bool.not_eq_true] at hwh
  by_cases hst:0<(bu (c::t)).1∧(bu (c::t)).1=(c::t).length
  ·exact hs c t h hwh hst
  ·exact hb c t h hwh hst (Ac h0 acZ hw hs hb n _ (by simp;omega))
theorem Fy(s:fE)(k:Nat)(h:k≤s.length):pW s (k:Int) (s.length:Int)=some (s.drop k):=by
 unfold pW
 rw [if_pos (by omega)]
 simp
theorem wo(a1 a2:fE): ∀(n:Nat) (s:fE),s.length≤n→s.length≤10000000→ ∀out:List Int,out.length+s.length≤10000000→
  b9 (nk a1 a2) (s,out)=some (if (ey s).2= [] then .inl (out++(ey s).1) else .inr ((ey s).2,out++(ey s).1,0)):=by
 intro n s hn
 refine Ac (P:=fun s=>s.length≤10000000→ ∀out:List Int,out.length+s.length≤10000000→b9 (nk a1 a2) (s,out)=some (if (ey s).2= [] then .inl (out++(ey s).1) else .inr ((ey s).2,out++(ey s).1,0))) ?_ ?_ ?_ ?_ ?_ n s hn
 ·intro _ out ho
  refine dJ ?_
  unfold nk
  simp only [decide_true,Bool.not_true,cond_false]
  rw [YM,if_pos rfl,List.append_nil]
 ·intro c t h ih hl out ho
  simp only [List.length_cons] at hl ho
  have ih:=ih (by omega) (out++ [(c.toNat:Int)]) (by simp;omega)
  rw [K6 c t h]
  rw [show out++ [(c.toNat:Int)]++(ey t).1=out++((c.toNat:Int)::(ey t).1) by simp] at ih
  refine fI ?_ ih
  unfold nk mF
  simp only
  have hd:=Fy (c::t) 1 (by simp)
  rw [decide_eq_false (by simp),Bool.not_false,ct,show idx (c::t) 0=some c from jb [] c t,bs,decide_eq_true (by omega),ct,bs,fj 8 _ _ (by simp;omega),bs,show (1:Int)=((1:Nat):Int) from rfl,hd,bs];rfl
 ·intro c t h hw ih hl out ho
  have hle:=GC (c::t)
  have h2:=wu _ hw
  obtain ⟨k,hk⟩:=avb (c::t) hw
  have hr:=agQ _ hw
  have ih:=ih (by simp only [List.length_drop];omega) (out++ [pY (c::t)]) (by simp only [List.length_drop,List.length_append,List.length_cons,List.length_nil] at ho hl ⊢;omega)
  rw [qu c t h hw]
  rw [show out++ [pY (c::t)]++(ey ((c::t).drop (bu (c::t)).1)).1=out++(pY (c::t)::(ey ((c::t).drop (bu (c::t)).1)).1) by simp] at ih
  refine fI ?_ ih
  unfold nk mF oY
  simp only
  have hd:=Fy (c::t) (bu (c::t)).1 hle
  unfold dH at hr
  rw [decide_eq_false (by simp),Bool.not_false,ct,show idx (c::t) 0=some c from jb [] c t,bs,decide_eq_false (by omega),cf,pE c t (by omega),bs]
  simp only
  rw [hw,ct,hk,bs]
  simp only
  rw [gz _ (by omega),fj 8 _ _ (by simp;omega),bs,if_neg (by omega),hd,bs]
 ·intro c t h hw hs hl out ho
  rw [UZ c t h hw hs,if_neg (by simp)]
  refine dJ ?_
  unfold nk mF oY
  simp only
  rw [decide_eq_false (by simp),Bool.not_false,ct,show idx (c::t) 0=some c from jb [] c t,bs,decide_eq_false (by omega),cf,pE c t (by omega),bs]
  simp only
  rw [hw,cf,decide_eq_true (by omega),ct,decide_eq_true (by rw [hs.2]),ct,List.append_nil]
 ·intro c t h hw hs ih hl out ho
  have hle:=GC (c::t)
  have ih:=ih (by simp only [List.length_drop];omega) (out++ [65533]) (by simp only [List.length_drop,List.length_append,List.length_cons,List.length_nil] at ho hl ⊢;omega)
  rw [YN c t h hw hs]
  rw [show out++ [65533]++(ey ((c::t).drop (max (bu (c::t)).1 1))).1=out++(65533::(ey ((c::t).drop (max (bu (c::t)).1 1))).1) by simp] at ih
  refine fI ?_ ih
  have hd:=Fy (c::t) (max (bu (c::t)).1 1) (by simp only [List.length_cons] at hle ⊢;omega)
  have hmx:(if 1>((bu (c::t)).1:Int) then (1:Int) else ((bu (c::t)).1:Int))=((max (bu (c::t)).1 1:Nat):Int):=by
   by_cases h1:1>((bu (c::t)).1:Int)
   ·rw [if_pos h1];omega
   ·rw [if_neg h1];omega
  have hap:eN 8 out [65533]=some (out++ [65533]):=fj 8 _ _ (by simp;omega)
  unfold nk mF oY
  simp only
  rw [decide_eq_false (by simp),Bool.not_false,ct,show idx (c::t) 0=some c from jb [] c t,bs,decide_eq_false (by omega),cf,pE c t (by omega),bs]
  simp only
  rw [hw,cf]
  unfold s8
  rw [hap,bs,hmx,hd,bs]
  by_cases h0:0<(bu (c::t)).1
  ·rw [decide_eq_true (by omega),ct,decide_eq_false (fun hh=>hs ⟨h0,by omega⟩),cf]
  ·rw [decide_eq_false (by omega),cf]
def Bv(s:fE):Prop:=s= []∨((bu s).2=false∧(bu s).1=s.length)
theorem iU(s:fE)(hl:s.length≤10000000)(h:Bv s):f20 s=some 0:=by
 unfold f20
 rcases h with rfl | ⟨h1,h2⟩
 ·rw [decide_eq_true rfl,ct]
 ·cases s with
  | nil=>rw [decide_eq_true rfl,ct]
  | cons c t=>
   rw [decide_eq_false (by simp),cf]
   unfold Ho
   rw [pE c t (by omega),bs,h1,cf]
   simp only
   rw [decide_eq_true (by rw [h2]),Bool.not_true,cf]
theorem YO(s:fE)(hl:s.length≤10000000)(h: ¬Bv s):f20 s=some 4:=by
 unfold f20
 cases s with
 | nil=>exact absurd (.inl rfl) h
 | cons c t=>
  rw [decide_eq_false (by simp),cf]
  unfold Ho
  rw [pE c t (by omega),bs]
  simp only
  cases hw:(bu (c::t)).2 with
  | true=>rw [ct]
  | false=>
   rw [cf,decide_eq_false (fun hh=>h (.inr ⟨hw,by omega⟩)),Bool.not_false,ct]
theorem Ew(p s:fE)(hl:p.length+s.length≤10000000)(h:Bv p):f106 p s=some ((ey (p++s)).2,(ey (p++s)).1,0):=by
 unfold f106
 rw [iU p (by omega) h,bs,decide_eq_true rfl,Bool.not_true,cf]
 unfold JS
 rw [gL p s (by omega),bs,wo p s (p++s).length (p++s) (Nat.le_refl _) (by simp;omega) [] (by simp;omega),bs]
 by_cases h0:(ey (p++s)).2= []
 ·rw [if_pos h0,Sum.elim_inl,h0];rfl
 ·rw [if_neg h0,Sum.elim_inr];rfl
def fy(r:Int):fE:=
 bif decide (IntKind.u32.wrap r≤127) then [u8 r] else
 bif decide (IntKind.u32.wrap r≤2047) then [(192:UInt8) ||| u8 (Int.fdiv r (2^6)),(128:UInt8) ||| (u8 r&&&(63:UInt8))] else
 bif (bif decide (IntKind.u32.wrap r<55296) then true else (decide (57343<IntKind.u32.wrap r)&&decide (IntKind.u32.wrap r≤65535))) then [(224:UInt8) ||| u8 (Int.fdiv r (2^12)),(128:UInt8) ||| (u8 (Int.fdiv r (2^6))&&&(63:UInt8)),(128:UInt8) ||| (u8 r&&&(63:UInt8))] else
 bif (decide (65535<IntKind.u32.wrap r)&&decide (IntKind.u32.wrap r≤1114111)) then [(240:UInt8) ||| u8 (Int.fdiv r (2^18)),(128:UInt8) ||| (u8 (Int.fdiv r (2^12))&&&(63:UInt8)),(128:UInt8) ||| (u8 (Int.fdiv r (2^6))&&&(63:UInt8)),(128:UInt8) ||| (u8 r&&&(63:UInt8))] else [239,191,189]
theorem mI(r:Int):(fy r).length≤4:=by
 unfold fy
 generalize decide (IntKind.u32.wrap r≤127)=b1
 generalize decide (IntKind.u32.wrap r≤2047)=b2
 generalize (bif decide (IntKind.u32.wrap r<55296) then true else (decide (57343<IntKind.u32.wrap r)&&decide (IntKind.u32.wrap r≤65535)))=b3
 generalize (decide (65535<IntKind.u32.wrap r)&&decide (IntKind.u32.wrap r≤1114111))=b4
 cases b1<;>cases b2<;>cases b3<;>cases b4<;>simp
theorem kI(r:Int)(o:fE)(h:o.length≤100000000):f115 r o=some (o++fy r):=by
 have ap1: ∀a:UInt8,eN 1 o [a]=some (o++ [a]):=fun a=>fj 1 _ _ (by simp;omega)
 have ap2: ∀a b:UInt8,eN 1 o [a,b]=some (o++ [a,b]):=fun a b=>fj 1 _ _ (by simp;omega)
 have ap3: ∀a b c:UInt8,eN 1 o [a,b,c]=some (o++ [a,b,c]):=fun a b c=>fj 1 _ _ (by simp;omega)
 have ap4: ∀a b c d:UInt8,eN 1 o [a,b,c,d]=some (o++ [a,b,c,d]):=fun a b c d=>fj 1 _ _ (by simp;omega)
 unfold f115 fy f160 rS
 simp only [ap1,ap2,ap3,ap4,bs]
 generalize decide (IntKind.u32.wrap r≤127)=b1
 generalize decide (IntKind.u32.wrap r≤2047)=b2
 generalize decide (IntKind.u32.wrap r<55296)=b3
 generalize decide (57343<IntKind.u32.wrap r)=b4
 generalize decide (IntKind.u32.wrap r≤65535)=b5
 generalize decide (65535<IntKind.u32.wrap r)=b6
 generalize decide (IntKind.u32.wrap r≤1114111)=b7
 cases b1<;>cases b2<;>cases b3<;>cases b4<;>cases b5<;>cases b6<;>cases b7<;>rfl
def GD(c:Int):Int:=if c<0∨1114111<c∨(55296≤c∧c≤57343) then 65533 else c
theorem Ok(a1:List Int)(hl:a1.length≤2000000): ∀(wm pre:List Int) (o:fE),a1=pre++wm→o.length≤4*pre.length→
  b9 (qo a1) (o,(pre.length:Int))=some (o++wm.flatMap fun c=>fy (GD c))
 | [],pre,o,e,ho=>dJ (by
   subst e
   unfold qo mb
   simp only [vZ,cond_false]
   simp)
 | c::t,pre,o,e,ho=>by
  have hp:pre.length<1000000000:=by rw [e] at hl;simp at hl;omega
  have hp2:pre.length≤2000000:=by rw [e] at hl;simp at hl;omega
  have hx:idx a1 (pre.length:Int)=some c:=by rw [e];exact jb pre c t
  have hlt:decide ((pre.length:Int)<(a1.length:Int))=true:=by rw [e];exact tA pre c t
  have hel:=mI (GD c)
  have ih:=Ok a1 hl t (pre++ [c]) (o++fy (GD c)) (by rw [e];simp) (by simp;omega)
  rw [List.flatMap_cons,←List.append_assoc]
  refine fI ?_ ih
  have hw:=sI pre c hp
  have uQ: ∀x:Int,0≤x∧x≤1114111→IntKind.i32.wrap x=x:=fun x hx=>IntWalk.i32_in x (by omega)
  unfold qo mb vL
  simp only [hlt,cond_true]
  rw [hx,bs]
  unfold GD
  by_cases a:c<0
  ·rw [decide_eq_true a,ct,if_pos (.inl a),kI _ _ (by omega),bs,hw]
  ·rw [decide_eq_false a,cf]
   by_cases b:1114111<c
   ·rw [decide_eq_true b,ct,if_pos (.inr (.inl b)),kI _ _ (by omega),bs,hw]
   ·rw [decide_eq_false b,cf]
    by_cases d:55296≤c
    ·rw [decide_eq_true d,ct]
     by_cases f:c≤57343
     ·rw [decide_eq_true f,ct,if_pos (.inr (.inr ⟨d,f⟩)),kI _ _ (by omega),bs,hw]
     ·rw [decide_eq_false f,cf,if_neg (by omega),uQ c (by omega),kI _ _ (by omega),bs,hw]
    ·rw [decide_eq_false d,cf,if_neg (by omega),uQ c (by omega),kI _ _ (by omega),bs,hw]
theorem ac0(l:List Int)(hl:l.length≤2000000):f78 l=some (l.flatMap fun c=>fy (GD c)):=by
 unfold f78
 have:=Ok l hl l [] [] rfl (by simp)
 rw [show ((([]:List Int).length:Nat):Int)=0 from rfl] at this
 rw [this,bs];rfl
theorem aC6: ∀x:UInt8,x.toNat<32→((192:UInt8) ||| x).toNat=192+x.toNat:=by
 have h: ∀n:Fin 32,((192:UInt8) ||| UInt8.ofNat n.val).toNat=192+n.val:=by decide
 intro x hx
 have:=h ⟨x.toNat,hx⟩
 rwa [show UInt8.ofNat x.toNat=x by simp] at this
theorem aC7: ∀x:UInt8,x.toNat<16→((224:UInt8) ||| x).toNat=224+x.toNat:=by
 have h: ∀n:Fin 16,((224:UInt8) ||| UInt8.ofNat n.val).toNat=224+n.val:=by decide
 intro x hx
 have:=h ⟨x.toNat,hx⟩
 rwa [show UInt8.ofNat x.toNat=x by simp] at this
theorem aC8: ∀x:UInt8,x.toNat<8→((240:UInt8) ||| x).toNat=240+x.toNat:=by
 have h: ∀n:Fin 8,((240:UInt8) ||| UInt8.ofNat n.val).toNat=240+n.val:=by decide
 intro x hx
 have:=h ⟨x.toNat,hx⟩
 rwa [show UInt8.ofNat x.toNat=x by simp] at this
theorem Ol: ∀x:UInt8,((128:UInt8) ||| (x&&&63)).toNat=128+x.toNat%64:=by
 have h: ∀n:Fin 256,((128:UInt8) ||| (UInt8.ofNat n.val&&&63)).toNat=128+n.val%64:=by decide
 intro x
 have:=h ⟨x.toNat,x.toNat_lt⟩
 rwa [show UInt8.ofNat x.toNat=x by simp] at this
theorem HF(r:Nat):(u8 (r:Int)).toNat=r%256:=by
 unfold u8
 have:((r:Int)%256).toNat=r%256:=by omega
 rw [this];simp
theorem fd(r k:Nat):Int.fdiv (r:Int) (2^k)=((r/2^k:Nat):Int):=by
 rw [Int.fdiv_eq_ediv_of_nonneg _ (by have:=Int.pow_pos (n:=2) (m:=k) (by omega);omega)]
 norm_cast
theorem Om(r:Nat)(h:dH (r:Int))(t:fE):ey (fy (r:Int)++t)=((r:Int)::(ey t).1,(ey t).2):=by
 unfold dH at h
 have hw:IntKind.u32.wrap (r:Int)=(r:Int):=IntWalk.u32_in _ (by omega)
 unfold fy
 rw [hw,fd,fd,fd]
 have k0:=HF r
 have k6:=HF (r/2^6)
 have k12:=HF (r/2^12)
 have k18:=HF (r/2^18)
 simp only [Nat.reducePow] at k6 k12 k18 ⊢
 by_cases h1:r≤127
 ·rw [decide_eq_true (by omega),ct,List.cons_append,List.nil_append,K6 _ _ (by rw [k0];omega),k0]
  rw [show r%256=r by omega]
 rw [decide_eq_false (by omega),cf]
 by_cases h2:r≤2047
 ·rw [decide_eq_true (by omega),ct]
  have c0:=aC6 (u8 ((r/64:Nat):Int)) (by rw [k6];omega)
  have c1:=Ol (u8 (r:Int))
  rw [k6] at c0
  rw [k0] at c1
  generalize (192:UInt8) ||| u8 ((r/64:Nat):Int)=x0 at*
  generalize (128:UInt8) ||| (u8 (r:Int)&&&(63:UInt8))=x1 at*
  have hn:need x0=(1,128,191):=by unfold need;rw [if_pos (by omega)]
  have aoR:(191:UInt8).toNat=191:=rfl
  have aoS:(128:UInt8).toNat=128:=rfl
  have hl:bu (x0::x1::t)=(2,true):=by
   rw [jl]
   rw [hn]
   simp only
   rw [if_neg (by omega)]
   unfold run
   rw [if_pos (by omega)]
   simp [run]
  rw [List.cons_append,List.cons_append,List.nil_append,qu _ _ (by omega) (by rw [hl]),hl]
  simp only [pY,List.drop_succ_cons,List.drop_zero]
  rw [if_pos (by omega),show x0.toNat%32*64+x1.toNat%64=r by omega]
 rw [decide_eq_false (by omega),cf]
 by_cases h3:r≤65535
 ·have hb:(bif decide ((r:Int)<55296) then true else (decide (57343<(r:Int))&&decide ((r:Int)≤65535)))=true:=by
   by_cases g:r<55296
   ·rw [decide_eq_true (by omega),ct]
   ·rw [decide_eq_false (by omega),cf,decide_eq_true (by omega),decide_eq_true (by omega)];rfl
  rw [hb,ct]
  have c0:=aC7 (u8 ((r/4096:Nat):Int)) (by rw [k12];omega)
  have c1:=Ol (u8 ((r/64:Nat):Int))
  have c2:=Ol (u8 (r:Int))
  rw [k12] at c0
  rw [k6] at c1
  rw [k0] at c2
  generalize (224:UInt8) ||| u8 ((r/4096:Nat):Int)=x0 at*
  generalize (128:UInt8) ||| (u8 ((r/64:Nat):Int)&&&(63:UInt8))=x1 at*
  generalize (128:UInt8) ||| (u8 (r:Int)&&&(63:UInt8))=x2 at*
  have aoR:(191:UInt8).toNat=191:=rfl
  have aoS:(128:UInt8).toNat=128:=rfl
  have aC2:(160:UInt8).toNat=160:=rfl
  have aC3:(159:UInt8).toNat=159:=rfl
  have hl:bu (x0::x1::x2::t)=(3,true):=by
   have hr: ∃lo hi,need x0=(2,lo,hi)∧lo.toNat≤x1.toNat∧x1.toNat≤hi.toNat:=by
    unfold need
    rw [if_neg (by omega)]
    by_cases g1:x0.toNat=224
    ·rw [if_pos g1];exact ⟨_,_,rfl,by omega,by omega⟩
    rw [if_neg g1]
    by_cases g2:x0.toNat=237
    ·rw [if_pos g2];exact ⟨_,_,rfl,by omega,by omega⟩
    rw [if_neg g2,if_pos (by omega)];exact ⟨_,_,rfl,by omega,by omega⟩
   obtain ⟨lo,hi,hn,g1,g2⟩:=hr
   rw [jl]
   rw [hn]
   simp only
   rw [if_neg (by omega)]
   unfold run
   rw [if_pos ⟨g1,g2⟩]
   unfold run
   rw [if_pos (by omega)]
   simp [run]
  rw [List.cons_append,List.cons_append,List.cons_append,List.nil_append,qu _ _ (by omega) (by rw [hl]),hl]
  simp only [pY,List.drop_succ_cons,List.drop_zero]
  rw [if_neg (by omega),if_pos (by omega),show x0.toNat%16*4096+x1.toNat%64*64+x2.toNat%64=r by omega]
 ·have hb:(bif decide ((r:Int)<55296) then true else (decide (57343<(r:Int))&&decide ((r:Int)≤65535)))=false:=by
   rw [decide_eq_false (by omega),cf,decide_eq_true (by omega),decide_eq_false (by omega)];rfl
  rw [hb,cf,decide_eq_true (by omega),decide_eq_true (by omega),Bool.and_self,ct]
  have c0:=aC8 (u8 ((r/262144:Nat):Int)) (by rw [k18];omega)
  have c1:=Ol (u8 ((r/4096:Nat):Int))
  have c2:=Ol (u8 ((r/64:Nat):Int))
  have c3:=Ol (u8 (r:Int))
  rw [k18] at c0
  rw [k12] at c1
  rw [k6] at c2
  rw [k0] at c3
  generalize (240:UInt8) ||| u8 ((r/262144:Nat):Int)=x0 at*
  generalize (128:UInt8) ||| (u8 ((r/4096:Nat):Int)&&&(63:UInt8))=x1 at*
  generalize (128:UInt8) ||| (u8 ((r/64:Nat):Int)&&&(63:UInt8))=x2 at*
  generalize (128:UInt8) ||| (u8 (r:Int)&&&(63:UInt8))=x3 at*
  have aoR:(191:UInt8).toNat=191:=rfl
  have aoS:(128:UInt8).toNat=128:=rfl
  have aC4:(144:UInt8).toNat=144:=rfl
  have aC5:(143:UInt8).toNat=143:=rfl
  have hl:bu (x0::x1::x2::x3::t)=(4,true):=by
   have hr: ∃lo hi,need x0=(3,lo,hi)∧lo.toNat≤x1.toNat∧x1.toNat≤hi.toNat:=by
    unfold need
    rw [if_neg (by omega),if_neg (by omega),if_neg (by omega),if_neg (by omega)]
    by_cases g1:x0.toNat=240
    ·rw [if_pos g1];exact ⟨_,_,rfl,by omega,by omega⟩
    rw [if_neg g1]
    by_cases g2:x0.toNat=244
    ·rw [if_pos g2];exact ⟨_,_,rfl,by omega,by omega⟩
    rw [if_neg g2,if_pos (by omega)];exact ⟨_,_,rfl,by omega,by omega⟩
   obtain ⟨lo,hi,hn,g1,g2⟩:=hr
   rw [jl]
   rw [hn]
   simp only
   rw [if_neg (by omega)]
   unfold run
   rw [if_pos ⟨g1,g2⟩]
   unfold run
   rw [if_pos (by omega)]
   unfold run
   rw [if_pos (by omega)]
   simp [run]
  rw [List.cons_append,List.cons_append,List.cons_append,List.cons_append,List.nil_append,qu _ _ (by omega) (by rw [hl]),hl]
  simp only [pY,List.drop_succ_cons,List.drop_zero]
  rw [if_neg (by omega),if_neg (by omega),show x0.toNat%8*262144+x1.toNat%64*4096+x2.toNat%64*64+x3.toNat%64=r by omega]
end Go.Proofs.YtimbfadnabfabaaGreatDoor.Pm.Ut

namespace Go.Proofs.YtimbfadnabfabaaGreatDoor.Pm
open Go.Proofs.YtimbfadnabfabaaGreatDoor.Args
open Go.ChangeShapes Go.WideShapes Go.ChangeAt Go.RowKit
open Go.Proofs.YtimbfadnabfabaaGreatDoor.Pm.Ut (dH ey Om)
open Go.Proofs.YtimbfadnabfabaaGreatDoor.Pr (cG j6 dx eU Br wM nB kS ji Cq wk kq num Bt HB jk sJ)
set_option linter.unusedVariables false
set_option linter.unusedSimpArgs false
set_option maxRecDepth 100000
def LB(b:Int):Prop:=b=65∨b=66∨b=67∨b=68∨b=70∨b=72∨b=80∨b=81∨b=82∨b=83
inductive Aq:List Int→Prop where
 | one (c:Int) (h:dH c):Aq [c]
 | alt (c:Int) (h:dH c):Aq [27,c]
 | Cu:Aq [27,27,91,90]
 | YP (b:Int) (hb:LB b):Aq [27,79,b]
 | DW (A:List UInt8) (c:Int) (hA:A.all Pr.okB=true) (hl:A.length≤100) (hc:LB c∨c=90∨c=126):Aq (27::91::(kq A++ [c]))
def dS(R:List Int):List UInt8:=R.flatMap Ut.fy
theorem U0{A:List UInt8}(h:A.all Pr.okB=true): ∀b∈A,48≤b.toNat∧b.toNat≤59:=fun b hb=>by
 have:=List.all_eq_true.1 h b hb
 unfold Pr.okB at this
 rw [Bool.or_eq_true,Bool.and_eq_true,decide_eq_true_eq,decide_eq_true_eq,decide_eq_true_eq] at this
 omega
theorem U1{A:List UInt8}(h:A.all Pr.okB=true): ∀c∈kq A,48≤c∧c≤59:=fun c hc=>by
 unfold kq at hc
 obtain ⟨b,hb,rfl⟩:=List.mem_map.1 hc
 have:=U0 h b hb
 omega
theorem aoU{R:List Int}(h:Aq R): ∀c∈R,dH c:=by
 intro x hx
 cases h with
 | one c h=>rw [List.mem_singleton.1 hx];exact h
 | alt c h=>simp at hx;rcases hx with rfl | rfl;exact .inl (by omega);exact h
 | Cu=>simp at hx;rcases hx with rfl | rfl | rfl<;>exact .inl (by omega)
 | YP b hb=>unfold LB at hb;simp at hx;rcases hx with rfl | rfl | rfl<;>exact .inl (by omega)
 | DW A c hA hl hc=>
  unfold LB at hc
  simp only [List.mem_cons,List.mem_append,List.mem_singleton,List.not_mem_nil,or_false] at hx
  rcases hx with rfl | rfl | hx | rfl
  ·exact .inl (by omega)
  ·exact .inl (by omega)
  ·have:=U1 hA x hx;exact .inl (by omega)
  ·exact .inl (by omega)
theorem K7: ∀R:List Int,(∀c∈R,dH c)→ey (dS R)=(R,[])
 | [],_=>rfl
 | c::R,h=>by
  have hc:=h c (List.mem_cons_self ..)
  obtain ⟨r,rfl⟩: ∃r:Nat,c=r:=⟨c.toNat,by unfold dH at hc;omega⟩
  have e:dS ((r:Int)::R)=Ut.fy (r:Int)++dS R:=by unfold dS;rw [List.flatMap_cons]
  rw [e,Om r hc,K7 R fun x hx=>h x (List.mem_cons_of_mem _ hx)]
def tM(c:Int):List Int:=if c=13 then [13,10] else [c]
inductive uR:aL→Prop where
 | drop:uR j6
 | ac1 (c:Int) (h:0≤c∧c<32):uR ⟨2,c,0,[],[],[]⟩
 | print (c:Int) (h:32≤c∧c≤1114111):uR ⟨1,c,0,[],[],[]⟩
 | esc (c:Int) (h:48≤c∧c≤126):uR ⟨3,c,0,[],[],[]⟩
 | DW (c:Int) (l:List Int) (h:LB c∨c=90∨c=126) (hl:l.length≤32∧ ∀x∈l,-1≤x∧x≤16383):uR ⟨4,c,0,[],l,[]⟩
inductive wA:List aL→Prop where
 | none:wA []
 | one (a:aL) (h:uR a):wA [a]
 | line:wA [⟨2,13,0,[],[],[]⟩,⟨2,10,0,[],[],[]⟩]
 | YP (b:Int) (hb:LB b):wA [⟨3,79,0,[],[],[]⟩,⟨1,b,0,[],[],[]⟩]
 | Cu (l:List Int) (hl:l.length≤32) (h: ∀x∈l,-1≤x∧x≤16383):wA [j6,⟨4,90,0,[],l,[]⟩]
theorem avd(c:Int)(h:dH c): ∃p,eU (cG 0) c=(p,[])∨ ∃a,uR a∧eU (cG 0) c=(p,[a]):=by
 unfold dH at h
 unfold eU
 rw [if_neg (by omega),if_neg (by omega),if_neg (by simp [cG]),if_neg (by simp [cG])]
 unfold kS nB
 by_cases h1:c=27
 ·rw [if_pos h1];exact ⟨_,.inl rfl⟩
 by_cases h2:c=24
 ·rw [if_neg h1,if_pos h2];exact ⟨_,.inl rfl⟩
 by_cases h3:c=26
 ·rw [if_neg h1,if_neg h2,if_pos h3];exact ⟨_,.inl rfl⟩
 by_cases h4:c<32
 ·rw [if_neg h1,if_neg h2,if_neg h3,if_pos h4];exact ⟨_,.inr ⟨_,.ac1 c (by omega),rfl⟩⟩
 by_cases h5:127≤c∧c≤159
 ·rw [if_neg h1,if_neg h2,if_neg h3,if_neg h4,if_pos h5];exact ⟨_,.inl rfl⟩
 ·rw [if_neg h1,if_neg h2,if_neg h3,if_neg h4,if_neg h5]
  exact ⟨_,.inr ⟨_,.print c (by omega),rfl⟩⟩
theorem ave(c:Int)(h:dH c): ∃p,eU (cG 1) c=(p,[])∨ ∃a,uR a∧eU (cG 1) c=(p,[a]):=by
 unfold dH at h
 unfold eU
 rw [if_neg (by omega),if_neg (by omega),if_neg (by simp [cG]),if_neg (by simp [cG])]
 unfold kS nB
 by_cases h1:c=27
 ·rw [if_pos h1];exact ⟨_,.inr ⟨_,.drop,rfl⟩⟩
 by_cases h2:c=24
 ·rw [if_neg h1,if_pos h2];exact ⟨_,.inr ⟨_,.drop,rfl⟩⟩
 by_cases h3:c=26
 ·rw [if_neg h1,if_neg h2,if_pos h3];exact ⟨_,.inr ⟨_,.drop,rfl⟩⟩
 by_cases h4:c<32
 ·rw [if_neg h1,if_neg h2,if_neg h3,if_pos h4];exact ⟨_,.inr ⟨_,.ac1 c (by omega),rfl⟩⟩
 by_cases h5:127≤c∧c≤159
 ·rw [if_neg h1,if_neg h2,if_neg h3,if_neg h4,if_pos h5];exact ⟨_,.inl rfl⟩
 rw [if_neg h1,if_neg h2,if_neg h3,if_neg h4,if_neg h5]
 simp only
 rw [if_neg (show¬(cG 1).State=0 by decide)]
 by_cases h6:160≤c
 ·rw [if_pos h6];exact ⟨_,.inr ⟨_,.drop,rfl⟩⟩
 rw [if_neg h6,if_pos (show (cG 1).State≤2 by decide)]
 unfold Br
 by_cases h7:c<48
 ·rw [if_pos h7];exact ⟨_,.inl rfl⟩
 rw [if_neg h7,if_neg (show¬(cG 1).State=2 by decide)]
 by_cases h8:c=91
 ·rw [if_pos h8];exact ⟨_,.inl rfl⟩
 by_cases h9:c=93
 ·rw [if_neg h8,if_pos h9];exact ⟨_,.inl rfl⟩
 rw [if_neg h8,if_neg h9]
 by_cases h10:0≤Lib.indexByte [80,88,94,95] (u8 c)
 ·rw [if_pos h10];exact ⟨_,.inl rfl⟩
 ·rw [if_neg h10];exact ⟨_,.inr ⟨_,.esc c (by omega),rfl⟩⟩
theorem Oo(p:aR)(c:Int):(dx p [c]).2=(eU p c).2:=by simp [dx]
theorem Q5: ∀R:List Int,(∀c∈R,c≠13)→R.flatMap tM=R
 | [],_=>rfl
 | c::R,h=>by
  rw [List.flatMap_cons,Q5 R fun x hx=>h x (List.mem_cons_of_mem _ hx)]
  unfold tM;rw [if_neg (h c (List.mem_cons_self ..))];rfl
theorem azY(w:List UInt8): -1≤num w∧num w≤16383:=by
 have: ∀(w:List UInt8) (n:Int),-1≤n∧n≤16383→ -1≤w.foldl Bt n∧w.foldl Bt n≤16383:=by
  intro w
  induction w with
  | nil=>intro n h;exact h
  | cons z w ih=>
   intro n h
   have:=HB n z h
   exact ih _ (by omega)
 exact this w (-1) (by omega)
theorem K8(A:List UInt8): ∀x∈(jk A).1,-1≤x∧x≤16383:=fun x hx=>by
 unfold jk at hx
 split at hx
 ·obtain ⟨w,_,rfl⟩:=List.mem_map.1 (List.mem_of_mem_take hx)
  exact azY w
 ·cases hx
theorem aoV{R:List Int}(h:Aq R):wA (dx (cG 0) (R.flatMap tM)).2:=by
 cases h with
 | one c h=>
  by_cases q:c=13
  ·subst q;exact .line
  ·have e: [c].flatMap tM= [c]:=by simp [tM,q]
   rw [e,Oo]
   obtain ⟨p,hp | ⟨a,ha,hp⟩⟩:=avd c h
   ·rw [hp];exact .none
   ·rw [hp];exact .one a ha
 | alt c h=>
  by_cases q:c=13
  ·subst q;exact .line
  ·have e: [27,c].flatMap tM= [27,c]:=by simp [tM,q]
   have e2:(dx (cG 0) [27,c]).2=(dx (cG 1) [c]).2:=by rw [ji (show eU (cG 0) 27=(cG 1,[]) from rfl)]
   rw [e,e2,Oo]
   obtain ⟨p,hp | ⟨a,ha,hp⟩⟩:=ave c h
   ·rw [hp];exact .none
   ·rw [hp];exact .one a ha
 | Cu=>
  have e1: [27,27,91,90].flatMap tM= [27,27,91,90]:=by decide
  have e2:dx (cG 0) (27::91::(kq ([]++ [])++ [90]))=(cG 0,[⟨4,90,0,[],(jk []).1,[]⟩]):=wk [] [] 90 rfl (by decide) rfl (by decide) (by decide)
  have e3:dx (cG 0) [27,27,91,90]=(cG 0,[j6,⟨4,90,0,[],(jk []).1,[]⟩]):=by
   have h1:dx (cG 0) [27,27,91,90]=dx (cG 1) [27,91,90]:=ji (show eU (cG 0) 27=(cG 1,[]) from rfl)
   have h2:dx (cG 0) [27,91,90]=dx (cG 1) [91,90]:=ji (show eU (cG 0) 27=(cG 1,[]) from rfl)
   have h3:dx (cG 0) [27,91,90]=(cG 0,[⟨4,90,0,[],(jk []).1,[]⟩]):=e2
   rw [h2] at h3
   rw [h1]
   rw [show dx (cG 1) [27,91,90]=((dx (cG 1) [91,90]).1,[j6]++(dx (cG 1) [91,90]).2) from rfl,h3];rfl
  rw [e1,e3];exact .Cu _ (by exact sJ _) (K8 _)
 | YP b hb=>
  have hb':=hb
  unfold LB at hb'
  have e1: [27,79,b].flatMap tM= [27,79,b]:=Q5 _ (fun c hc=>by simp at hc;omega)
  have e:(dx (cG 0) [27,79,b]).2= [⟨3,79,0,[],[],[]⟩,⟨1,b,0,[],[],[]⟩]:=by
   have h1:dx (cG 0) [27,79,b]=dx (cG 1) [79,b]:=ji (show eU (cG 0) 27=(cG 1,[]) from rfl)
   rw [h1]
   simp only [dx]
   rw [show eU (cG 1) 79=(cG 0,[⟨3,79,0,[],[],[]⟩]) from by kernel_rfl]
   rcases hb' with rfl | rfl | rfl | rfl | rfl | rfl | rfl | rfl | rfl | rfl<;>rfl
  rw [e1,e];exact .YP b hb
 | DW A c hA hl hc=>
  have hc':=hc
  unfold LB at hc'
  have e1:(27::91::(kq A++ [c])).flatMap tM=27::91::(kq A++ [c]):=Q5 _ (fun x hx=>by
   simp only [List.mem_cons,List.mem_append,List.mem_singleton,List.not_mem_nil,or_false] at hx
   rcases hx with rfl | rfl | hx | rfl
   ·omega
   ·omega
   ·have:=U1 hA x hx;omega
   ·omega)
  have e2:dx (cG 0) (27::91::(kq (A++ [])++ [c]))=(cG 0,[⟨4,c,0,[],(jk A).1,[]⟩]):=wk A [] c hA hl rfl (by decide) (by omega)
  rw [List.append_nil] at e2
  rw [e1,e2];exact .one _ (.DW c _ hc ⟨sJ A,K8 A⟩)
end Go.Proofs.YtimbfadnabfabaaGreatDoor.Pm

namespace Go.Proofs.YtimbfadnabfabaaGreatDoor.Pm
open Go.Proofs.YtimbfadnabfabaaGreatDoor.Args
open Go.ChangeShapes Go.WideShapes Go.ChangeAt Go.RowKit
open Go.Proofs.YtimbfadnabfabaaGreatDoor.Pm.Ut (dH fy GD ac0)
open Go.Proofs.YtimbfadnabfabaaGreatDoor.Pr (kq)
set_option linter.unusedVariables false
set_option linter.unusedSimpArgs false
set_option maxRecDepth 100000
theorem aw1(n:Nat)(h:n<10):Lib.decDigits n= [UInt8.ofNat (48+n)]:=by rw [Lib.decDigits,dif_pos h]
theorem aC9(n:Nat)(h:10≤n∧n<100):Lib.decDigits n= [UInt8.ofNat (48+n/10),UInt8.ofNat (48+n%10)]:=by
 rw [Lib.decDigits,dif_neg (by omega),aw1 (n/10) (by omega)];rfl
theorem Fz(n:Nat)(h:n<10):dm (n:Int)=some [UInt8.ofNat (48+n)]:=by
 unfold dm Lib.itoa
 rw [if_pos (by omega),if_neg (by omega),Int.toNat_natCast,aw1 n h]
theorem yU(n:Nat)(h:10≤n∧n<100):dm (n:Int)=some [UInt8.ofNat (48+n/10),UInt8.ofNat (48+n%10)]:=by
 unfold dm Lib.itoa
 rw [if_pos (by omega),if_neg (by omega),Int.toNat_natCast,aC9 n h]
def nE(a:List UInt8)(c:UInt8)(m:Nat):List UInt8:=if m=0 then 27::(a++ [c]) else [27,91,49,59,UInt8.ofNat (49+m),c]
def kJ(d:List UInt8)(m:Nat):List UInt8:=27::91::(d++(if m=0 then [126] else [59,UInt8.ofNat (49+m),126]))
def tab(n m:Nat)(b:Bool):List UInt8:=
 match n with
 | 1=>nE (if b then [79] else [91]) 65 m
 | 2=>nE (if b then [79] else [91]) 66 m
 | 3=>nE (if b then [79] else [91]) 67 m
 | 4=>nE (if b then [79] else [91]) 68 m
 | 5=>nE (if b then [79] else [91]) 72 m
 | 6=>nE (if b then [79] else [91]) 70 m
 | 7=>kJ [50] m
 | 8=>kJ [51] m
 | 9=>kJ [53] m
 | 10=>kJ [54] m
 | 11=>nE [79] 80 m
 | 12=>nE [79] 81 m
 | 13=>nE [79] 82 m
 | 14=>nE [79] 83 m
 | 15=>kJ [49,53] m
 | 16=>kJ [49,55] m
 | 17=>kJ [49,56] m
 | 18=>kJ [49,57] m
 | 19=>kJ [50,48] m
 | 20=>kJ [50,49] m
 | 21=>kJ [50,51] m
 | _=>kJ [50,52] m
theorem g50(a:List UInt8)(c:UInt8)(m:Int)(e:List UInt8)(he:(Utf8.encode (c.toNat:Int)).data.toList=e):
  f28 a c m=bif decide (m=0) then ((ep ([27]:List UInt8) a).bind fun cS=>((ep cS e).bind fun z12=>(some z12))) else ((dm (IntKind.i64.wrap (m+1))).bind fun z8=>((ep ([27,91,49,59]:List UInt8) z8).bind fun z9=>((ep z9 e).bind fun dG=>(some dG)))):=by
 subst he;rfl
theorem h50(a e:List UInt8)(m:Nat)(ha:a.length≤10)(he:e.length≤10)(hm:m≤7):
  (bif decide ((m:Int)=0) then ((ep ([27]:List UInt8) a).bind fun cS=>((ep cS e).bind fun z12=>(some z12))) else ((dm (IntKind.i64.wrap ((m:Int)+1))).bind fun z8=>((ep ([27,91,49,59]:List UInt8) z8).bind fun z9=>((ep z9 e).bind fun dG=>(some dG)))))=
  some (if m=0 then 27::(a++e) else [27,91,49,59,UInt8.ofNat (49+m)]++e):=by
 by_cases h:m=0
 ·subst h
  rw [decide_eq_true (by rfl),if_pos rfl]
  simp only [cond_true]
  rw [gL _ _ (by simp only [List.length_append,List.length_cons,List.length_nil];omega)]
  simp only [Option.bind_some]
  rw [gL _ _ (by simp only [List.length_append,List.length_cons,List.length_nil];omega)]
  rfl
 ·rw [decide_eq_false (by omega),if_neg h]
  simp only [cond_false]
  rw [gz _ (by omega)]
  have e1:dm ((m:Int)+1)=some [UInt8.ofNat (49+m)]:=by
   have:=Fz (m+1) (by omega)
   rw [show 48+(m+1)=49+m by omega] at this
   exact this
  rw [e1]
  simp only [Option.bind_some]
  rw [gL _ _ (by simp only [List.length_append,List.length_cons,List.length_nil];omega)]
  simp only [Option.bind_some]
  rw [gL _ _ (by simp only [List.length_append,List.length_cons,List.length_nil];omega)]
  rfl
theorem Mo(a:List UInt8)(c:UInt8)(m:Nat)(ha:a.length≤10)(hm:m≤7)(hc:(Utf8.encode (c.toNat:Int)).data.toList= [c]):f28 a c (m:Int)=some (nE a c m):=
 (g50 a c m [c] hc).trans (h50 a [c] m ha (by simp) hm)
theorem aC_(p q r d x:List UInt8)(b:Bool)(y:Int)(hp:p.length≤10)(hq:q.length≤10)(hr:r.length≤10)(hd:d.length≤10)(hx:x.length≤10)(hy:b=true→dm y=some x):
  ((ep p d).bind fun dG=>(bif b then ((dm y).bind fun cS=>((ep q cS).bind fun z12=>((ep dG z12).bind fun dP=>((ep dP r).bind fun dU=>(some dU))))) else ((ep dG r).bind fun fk=>(some fk))))=some (p++d++(if b then q++x else [])++r):=by
 rw [gL p d (by omega)]
 simp only [Option.bind_some]
 cases b with
 | false=>
  have e:=gL (p++d) r (by rw [List.length_append];omega)
  simp only [cond_false,e,Option.bind_some,Bool.false_eq_true,if_false,List.append_nil]
 | true=>
  have e1:=gL q x (by omega)
  have e2:=gL (p++d) (q++x) (by rw [List.length_append,List.length_append];omega)
  have e3:=gL (p++d++(q++x)) r (by rw [List.length_append,List.length_append,List.length_append];omega)
  simp only [cond_true,hy rfl,Option.bind_some,e1,e2,e3,if_true]
theorem agR(n m:Int)(d:List UInt8)(hd:dm n=some d)(p q r:List UInt8)(hp:([27,91]:List UInt8)=p)(hq:([59]:List UInt8)=q)(hr:([126]:List UInt8)=r):
  f29 n m=((ep p d).bind fun dG=>(bif (!decide (m=0)) then ((dm (IntKind.i64.wrap (m+1))).bind fun cS=>((ep q cS).bind fun z12=>((ep dG z12).bind fun dP=>((ep dP r).bind fun dU=>(some dU))))) else ((ep dG r).bind fun fk=>(some fk)))):=by
 subst hp;subst hq;subst hr
 have e:f29 n m=((dm n).bind fun z9=>((ep ([27,91]:List UInt8) z9).bind fun dG=>(bif (!decide (m=0)) then ((dm (IntKind.i64.wrap (m+1))).bind fun cS=>((ep ([59]:List UInt8) cS).bind fun z12=>((ep dG z12).bind fun dP=>((ep dP ([126]:List UInt8)).bind fun dU=>(some dU))))) else ((ep dG ([126]:List UInt8)).bind fun fk=>(some fk))))):=rfl
 exact e.trans (congrArg (fun o:Option (List UInt8)=>o.bind fun z9=>((ep ([27,91]:List UInt8) z9).bind fun dG=>(bif (!decide (m=0)) then ((dm (IntKind.i64.wrap (m+1))).bind fun cS=>((ep ([59]:List UInt8) cS).bind fun z12=>((ep dG z12).bind fun dP=>((ep dP ([126]:List UInt8)).bind fun dU=>(some dU))))) else ((ep dG ([126]:List UInt8)).bind fun fk=>(some fk))))) hd)
theorem h51(n:Int)(d:List UInt8)(m:Nat)(hd:dm n=some d)(hl:d.length≤2)(hm:m≤7):f29 n (m:Int)=some (kJ d m):=by
 rw [agR n m d hd [27,91] [59] [126] rfl rfl rfl]
 have e1:dm (IntKind.i64.wrap ((m:Int)+1))=some [UInt8.ofNat (49+m)]:=by
  have:=Fz (m+1) (by omega)
  rw [show 48+(m+1)=49+m by omega] at this
  rw [gz _ (by omega)]
  exact this
 refine (aC_ [27,91] [59] [126] d [UInt8.ofNat (49+m)] (!decide ((m:Int)=0)) _ (by decide) (by decide) (by decide) (by omega) (by simp) (fun _=>e1)).trans (congrArg some ?_)
 unfold kJ
 by_cases h:m=0
 ·subst h;simp
 ·rw [decide_eq_false (show¬((m:Int)=0) by omega),if_neg h];simp
theorem G1(n:Nat)(d:List UInt8)(m:Nat)(hd:dm (n:Int)=some d)(hl:d.length≤2)(hm:m≤7):f29 (n:Int) (m:Int)=some (kJ d m):=h51 n d m hd hl hm
theorem named(n m:Nat)(a2:Int)(hn:1≤n∧n≤22)(hm:m≤7):f8 ⟨(n:Int),0,(m:Int)⟩ a2=some (tab n m (!decide (cO .and .i64 a2 16=0)),0):=by
 have h0:f8 ⟨(n:Int),0,(m:Int)⟩ a2=mg ⟨(n:Int),0,(m:Int)⟩ a2:=by
  unfold f8
  simp only
  rw [decide_eq_false (by omega),decide_eq_false (by omega),decide_eq_false (by omega),decide_eq_false (by omega),decide_eq_false (show¬(n:Int)=0 by omega)]
  rfl
 rw [h0]
 have hd:n=1∨n=2∨n=3∨n=4∨n=5∨n=6∨n=7∨n=8∨n=9∨n=10∨n=11∨n=12∨n=13∨n=14∨n=15∨n=16∨n=17∨n=18∨n=19∨n=20∨n=21∨n=22:=by omega
 rcases hd with rfl | rfl | rfl | rfl | rfl | rfl | rfl | rfl | rfl | rfl | rfl | rfl | rfl | rfl | rfl | rfl | rfl | rfl | rfl | rfl | rfl | rfl
 case _=>unfold mg vN;cases (!decide (cO .and .i64 a2 16=0))<;>exact congrArg (Option.bind · fun z=>some (z,0)) (Mo _ 65 m (by simp) hm (by decide))
 case _=>unfold mg vN;cases (!decide (cO .and .i64 a2 16=0))<;>exact congrArg (Option.bind · fun z=>some (z,0)) (Mo _ 66 m (by simp) hm (by decide))
 case _=>unfold mg vN;cases (!decide (cO .and .i64 a2 16=0))<;>exact congrArg (Option.bind · fun z=>some (z,0)) (Mo _ 67 m (by simp) hm (by decide))
 case _=>unfold mg vN;cases (!decide (cO .and .i64 a2 16=0))<;>exact congrArg (Option.bind · fun z=>some (z,0)) (Mo _ 68 m (by simp) hm (by decide))
 case _=>unfold mg vN;cases (!decide (cO .and .i64 a2 16=0))<;>exact congrArg (Option.bind · fun z=>some (z,0)) (Mo _ 72 m (by simp) hm (by decide))
 case _=>unfold mg vN;cases (!decide (cO .and .i64 a2 16=0))<;>exact congrArg (Option.bind · fun z=>some (z,0)) (Mo _ 70 m (by simp) hm (by decide))
 case _=>exact congrArg (Option.bind · fun z=>some (z,0)) (G1 2 [50] m (Fz 2 (by decide)) (by simp) hm)
 case _=>exact congrArg (Option.bind · fun z=>some (z,0)) (G1 3 [51] m (Fz 3 (by decide)) (by simp) hm)
 case _=>exact congrArg (Option.bind · fun z=>some (z,0)) (G1 5 [53] m (Fz 5 (by decide)) (by simp) hm)
 case _=>exact congrArg (Option.bind · fun z=>some (z,0)) (G1 6 [54] m (Fz 6 (by decide)) (by simp) hm)
 case _=>exact congrArg (Option.bind · fun z=>some (z,0)) (Mo [79] 80 m (by simp) hm (by decide))
 case _=>exact congrArg (Option.bind · fun z=>some (z,0)) (Mo [79] 81 m (by simp) hm (by decide))
 case _=>exact congrArg (Option.bind · fun z=>some (z,0)) (Mo [79] 82 m (by simp) hm (by decide))
 case _=>exact congrArg (Option.bind · fun z=>some (z,0)) (Mo [79] 83 m (by simp) hm (by decide))
 case _=>exact congrArg (Option.bind · fun z=>some (z,0)) (G1 15 [49,53] m (yU 15 (by decide)) (by simp) hm)
 case _=>exact congrArg (Option.bind · fun z=>some (z,0)) (G1 17 [49,55] m (yU 17 (by decide)) (by simp) hm)
 case _=>exact congrArg (Option.bind · fun z=>some (z,0)) (G1 18 [49,56] m (yU 18 (by decide)) (by simp) hm)
 case _=>exact congrArg (Option.bind · fun z=>some (z,0)) (G1 19 [49,57] m (yU 19 (by decide)) (by simp) hm)
 case _=>exact congrArg (Option.bind · fun z=>some (z,0)) (G1 20 [50,48] m (yU 20 (by decide)) (by simp) hm)
 case _=>exact congrArg (Option.bind · fun z=>some (z,0)) (G1 21 [50,49] m (yU 21 (by decide)) (by simp) hm)
 case _=>exact congrArg (Option.bind · fun z=>some (z,0)) (G1 23 [50,51] m (yU 23 (by decide)) (by simp) hm)
 case _=>exact congrArg (Option.bind · fun z=>some (z,0)) (G1 24 [50,52] m (yU 24 (by decide)) (by simp) hm)
theorem other(k:dW)(a2:Int)(hn:k.Name=0∨23≤k.Name):mg k a2=QC k a2:=by
 unfold mg
 rcases hn with h | h
 ·rw [decide_eq_false (show¬1≤k.Name by omega)]
  unfold JP
  rw [decide_eq_false (show¬7≤k.Name by omega)]
  unfold JO
  rw [decide_eq_false (show¬11≤k.Name by omega)]
  unfold JN
  rw [decide_eq_false (show¬14<k.Name by omega)];rfl
 ·rw [decide_eq_true (show 1≤k.Name by omega),decide_eq_false (show¬k.Name≤6 by omega)]
  unfold JP
  rw [decide_eq_true (show 7≤k.Name by omega),decide_eq_false (show¬k.Name≤10 by omega)]
  unfold JO
  rw [decide_eq_true (show 11≤k.Name by omega),decide_eq_false (show¬k.Name≤14 by omega)]
  unfold JN
  rw [decide_eq_true (show 14<k.Name by omega),decide_eq_false (show¬k.Name<23 by omega)];rfl
def okK(k:dW):Prop:=(0≤k.Name∧k.Name≤26)∧(k.Name=0→(0≤k.eC∧k.eC≤1114111)∧(k.eC<55296∨57343<k.eC))∧(k.Name≠0→k.eC=0)
theorem valid(k:dW)(a2:Int)(hm:0≤k.eG∧k.eG≤7):(okK k∧f8 k a2=mg k a2)∨(¬okK k∧f8 k a2=some ([],1)):=by
 unfold okK f8 f27
 simp only [Bool.cond_decide]
 rw [if_neg (show¬k.eG<0 by omega),if_neg (show¬7<k.eG by omega)]
 by_cases h1:k.Name<0
 ·rw [if_pos h1];exact .inr ⟨fun h=>by omega,rfl⟩
 rw [if_neg h1]
 by_cases h2:26<k.Name
 ·rw [if_pos h2];exact .inr ⟨fun h=>by omega,rfl⟩
 rw [if_neg h2]
 by_cases h3:k.Name=0
 ·rw [if_pos h3]
  have nb:(!decide (k.Name=0))=false:=by rw [decide_eq_true h3];rfl
  simp only [nb,cond_false]
  repeat' split
  all_goals first
   | exact .inl ⟨⟨by omega,fun _=>⟨by omega,by omega⟩,fun h=>absurd h3 h⟩,rfl⟩
   | exact .inr ⟨fun h=>by have:=h.2.1 h3;omega,rfl⟩
 ·rw [if_neg h3]
  have nb:(!decide (k.Name=0))=true:=by rw [decide_eq_false h3];rfl
  simp only [nb,cond_true]
  by_cases h4:k.eC=0
  ·rw [decide_eq_true h4];exact .inl ⟨⟨by omega,fun h=>absurd h h3,fun _=>h4⟩,rfl⟩
  ·rw [decide_eq_false h4];exact .inr ⟨fun h=>h4 (h.2.2 h3),rfl⟩
theorem Bu(n:Nat)(h:n<128):fy (n:Int)= [UInt8.ofNat n]:=by
 have ht:((List.range 128).all fun n=>decide (fy (n:Int)= [UInt8.ofNat n]))=true:=by kernel_rfl
 exact of_decide_eq_true (List.all_eq_true.1 ht n (List.mem_range.2 h))
theorem aDa(c:Int)(h:dH c):f78 [c]=some (dS [c]):=by
 rw [ac0 [c] (by simp)]
 have:GD c=c:=by unfold GD;unfold dH at h;rw [if_neg (by omega)]
 unfold dS
 simp [this]
theorem az0(c:Int)(h:64≤c∧c≤122):dH (cO .and .i64 c 31):=by
 have ht:((List.range 128).all fun n=>decide (0≤cO .and .i64 (n:Int) 31)&&decide (cO .and .i64 (n:Int) 31≤31))=true:=by kernel_rfl
 obtain ⟨n,rfl⟩: ∃n:Nat,c=n:=⟨c.toNat,by omega⟩
 have:=List.all_eq_true.1 ht n (List.mem_range.2 (by omega))
 rw [Bool.and_eq_true,decide_eq_true_eq,decide_eq_true_eq] at this
 exact .inl (by omega)
theorem avf(c m:Int)(h:dH c): ∃r,dH r∧f65 c m=some (dS [r]):=by
 have t: ∀x,dH x→ ∃r,dH r∧((f78 [x]).bind fun z6=>(some z6))=some (dS [r]):=fun x hx=>⟨x,hx,by rw [aDa x hx];rfl⟩
 unfold f65 zU DO
 cases (!decide (cO .and .i64 m 4=0))
 ·simp only [cond_false];exact t _ h
 ·simp only [cond_true,Bool.cond_decide]
  repeat' split
  all_goals first
   | exact t _ (az0 c (by omega))
   | exact t _ (.inl (by omega))
   | exact t _ h
theorem YQ(k:dW)(h:dH k.eC): ∃R,f30 k=some (dS R)∧((∃c,dH c∧R= [c])∨R= [27,91,90]):=by
 obtain ⟨r,hr,e⟩:=avf k.eC k.eG h
 have one: ∀n:Nat,n<128→ ∃R,some [UInt8.ofNat n]=some (dS R)∧((∃c,dH c∧R= [c])∨R= [27,91,90]):=fun n hn=>⟨[(n:Int)],by unfold dS;simp [Bu n hn],.inl ⟨n,.inl (by omega),rfl⟩⟩
 have t3:dS [27,91,90]= [27,91,90]:=by kernel_rfl
 unfold f30 Hu Ht
 rw [e]
 simp only [Bool.cond_decide,Option.bind_some]
 cases (!decide (cO .and .i64 k.eG 1=0))<;>cases (!decide (cO .and .i64 k.eG 4=0))<;>simp only [cond_true,cond_false]<;>repeat' split
 all_goals first
  | exact one 13 (by decide)
  | exact one 9 (by decide)
  | exact one 8 (by decide)
  | exact one 127 (by decide)
  | exact one 27 (by decide)
  | exact ⟨[27,91,90],congrArg some t3.symm,.inr rfl⟩
  | exact ⟨_,rfl,.inl ⟨r,hr,rfl⟩⟩
theorem U2: ∀A:List UInt8,(∀b∈A,b.toNat<128)→dS (kq A)=A
 | [],_=>rfl
 | b::A,h=>by
  have e:dS (kq (b::A))=fy (b.toNat:Int)++dS (kq A):=by unfold dS kq;rw [List.map_cons,List.flatMap_cons]
  rw [e,Bu b.toNat (h b (List.mem_cons_self ..)),U2 A fun x hx=>h x (List.mem_cons_of_mem _ hx)]
  simp
theorem Ey(A:List UInt8)(c:Nat)(hA:A.all Pr.okB=true)(hc:c<128):dS (27::91::(kq A++ [(c:Int)]))=27::91::(A++ [UInt8.ofNat c]):=by
 have e:dS (27::91::(kq A++ [(c:Int)]))=fy 27++(fy 91++(dS (kq A)++fy (c:Int))):=by unfold dS;simp
 rw [e,U2 A (fun b hb=>by have:=U0 hA b hb;omega),Bu c hc,show fy 27= [27] from Bu 27 (by decide),show fy 91= [91] from Bu 91 (by decide)];rfl
theorem aw2(m:Nat)(hm:m≤7):Pr.okB (UInt8.ofNat (49+m))=true:=by
 have ht:((List.range 8).all fun m=>Pr.okB (UInt8.ofNat (49+m)))=true:=by kernel_rfl
 exact List.all_eq_true.1 ht m (List.mem_range.2 (by omega))
theorem YR(b:Bool)(c m:Nat)(hm:m≤7)(hc:LB (c:Int))(U3:c<128): ∃R,Aq R∧dS R=nE (if b then [79] else [91]) (UInt8.ofNat c) m:=by
 unfold nE
 by_cases h:m=0
 ·rw [if_pos h]
  cases b
  ·exact ⟨27::91::(kq []++ [(c:Int)]),.DW [] _ rfl (by decide) (.inl hc),Ey [] c rfl U3⟩
  ·refine ⟨[27,79,(c:Int)],.YP _ hc,?_⟩
   have e:dS [27,79,(c:Int)]=fy 27++(fy 79++fy (c:Int)):=by unfold dS;simp
   rw [e,Bu c U3,show fy 27= [27] from Bu 27 (by decide),show fy 79= [79] from Bu 79 (by decide)];rfl
 ·rw [if_neg h]
  have hA: [49,59,UInt8.ofNat (49+m)].all Pr.okB=true:=by
   rw [List.all_cons,List.all_cons,List.all_cons,aw2 m hm];rfl
  exact ⟨27::91::(kq [49,59,UInt8.ofNat (49+m)]++ [(c:Int)]),.DW _ _ hA (by simp) (.inl hc),Ey _ c hA U3⟩
theorem ac2(c m:Nat)(hm:m≤7)(hc:LB (c:Int))(U3:c<128): ∃R,Aq R∧dS R=nE [79] (UInt8.ofNat c) m:=YR true c m hm hc U3
theorem G2(d:List UInt8)(m:Nat)(hm:m≤7)(hd:d.all Pr.okB=true)(hl:d.length≤10): ∃R,Aq R∧dS R=kJ d m:=by
 unfold kJ
 by_cases h:m=0
 ·rw [if_pos h]
  exact ⟨27::91::(kq d++ [((126:Nat):Int)]),.DW d _ hd (by omega) (.inr (.inr rfl)),Ey d 126 hd (by decide)⟩
 ·rw [if_neg h]
  have hA:(d++ [59,UInt8.ofNat (49+m)]).all Pr.okB=true:=by
   rw [List.all_append,hd,List.all_cons,List.all_cons,aw2 m hm];rfl
  refine ⟨27::91::(kq (d++ [59,UInt8.ofNat (49+m)])++ [((126:Nat):Int)]),.DW _ _ hA (by simp;omega) (.inr (.inr rfl)),(Ey _ 126 hA (by decide)).trans ?_⟩
  simp
theorem avg(n m:Nat)(b:Bool)(hn:1≤n∧n≤22)(hm:m≤7): ∃R,Aq R∧dS R=tab n m b:=by
 have hd:n=1∨n=2∨n=3∨n=4∨n=5∨n=6∨n=7∨n=8∨n=9∨n=10∨n=11∨n=12∨n=13∨n=14∨n=15∨n=16∨n=17∨n=18∨n=19∨n=20∨n=21∨n=22:=by omega
 rcases hd with rfl | rfl | rfl | rfl | rfl | rfl | rfl | rfl | rfl | rfl | rfl | rfl | rfl | rfl | rfl | rfl | rfl | rfl | rfl | rfl | rfl | rfl
 ·exact YR b 65 m hm (by unfold LB;omega) (by decide)
 ·exact YR b 66 m hm (by unfold LB;omega) (by decide)
 ·exact YR b 67 m hm (by unfold LB;omega) (by decide)
 ·exact YR b 68 m hm (by unfold LB;omega) (by decide)
 ·exact YR b 72 m hm (by unfold LB;omega) (by decide)
 ·exact YR b 70 m hm (by unfold LB;omega) (by decide)
 ·exact G2 [50] m hm (by decide) (by decide)
 ·exact G2 [51] m hm (by decide) (by decide)
 ·exact G2 [53] m hm (by decide) (by decide)
 ·exact G2 [54] m hm (by decide) (by decide)
 ·exact ac2 80 m hm (by unfold LB;omega) (by decide)
 ·exact ac2 81 m hm (by unfold LB;omega) (by decide)
 ·exact ac2 82 m hm (by unfold LB;omega) (by decide)
 ·exact ac2 83 m hm (by unfold LB;omega) (by decide)
 ·exact G2 [49,53] m hm (by decide) (by decide)
 ·exact G2 [49,55] m hm (by decide) (by decide)
 ·exact G2 [49,56] m hm (by decide) (by decide)
 ·exact G2 [49,57] m hm (by decide) (by decide)
 ·exact G2 [50,48] m hm (by decide) (by decide)
 ·exact G2 [50,49] m hm (by decide) (by decide)
 ·exact G2 [50,51] m hm (by decide) (by decide)
 ·exact G2 [50,52] m hm (by decide) (by decide)
theorem avh(k:dW)(a2:Int):(∃R,Aq R∧f8 k a2=some (dS R,0))∨f8 k a2=some ([],1):=by
 by_cases hm:0≤k.eG∧k.eG≤7
 ·rcases valid k a2 hm with ⟨hk,e⟩ | ⟨_,e⟩
  ·refine .inl ?_
   obtain ⟨n,r,m⟩:=k
   obtain ⟨m,rfl⟩:=Int.eq_ofNat_of_zero_le hm.1
   by_cases hn:n=0∨23≤n
   ·have hr:dH r:=by
     by_cases h0:n=0
     ·have:=hk.2.1 h0
      simp only at this
      unfold dH;omega
     ·have:=hk.2.2 h0
      simp only at this
      subst this;exact .inl (by omega)
    obtain ⟨R,e1,hR⟩:=YQ ⟨n,r,(m:Int)⟩ hr
    rw [e,other _ _ hn]
    unfold QC
    rw [e1,bs]
    have hl:(dS R).length≤100:=by
     unfold dS
     rcases hR with ⟨c,_,rfl⟩ | rfl
     ·have:=Ut.mI c;simp;omega
     ·have h1:=Ut.mI 27;have h2:=Ut.mI 91;have h3:=Ut.mI 90;simp;omega
    by_cases h2:cO .and .i64 (m:Int) 2=0
    ·rw [bN (by show (!decide (cO .and .i64 (m:Int) 2=0))=false;rw [decide_eq_true h2];rfl)]
     refine ⟨R,?_,rfl⟩
     rcases hR with ⟨c,hc,rfl⟩ | rfl
     ·exact .one c hc
     ·exact .DW [] 90 rfl (by decide) (.inr (.inl rfl))
    ·rw [b8 (by show (!decide (cO .and .i64 (m:Int) 2=0))=true;rw [decide_eq_false h2];rfl),gL _ _ (by simp;omega),bs]
     refine ⟨27::R,?_,?_⟩
     ·rcases hR with ⟨c,hc,rfl⟩ | rfl
      ·exact .alt c hc
      ·exact .Cu
     ·unfold dS;rw [List.flatMap_cons,show fy 27= [27] from Bu 27 (by decide)]
   ·have h1:=hk.1
    simp only at h1 hm
    have hr:r=0:=hk.2.2 (by simp only;omega)
    obtain ⟨n,rfl⟩:=Int.eq_ofNat_of_zero_le h1.1
    subst hr
    obtain ⟨R,hR,eR⟩:=avg n m (!decide (cO .and .i64 a2 16=0)) (by omega) (by omega)
    exact ⟨R,hR,by rw [named n m a2 (by omega) (by omega),eR]⟩
  ·exact .inr e
 ·refine .inr ?_
  unfold f8
  simp only [Bool.cond_decide]
  by_cases h:k.eG<0
  ·rw [if_pos h]
  ·rw [if_neg h,if_pos (by omega)]
end Go.Proofs.YtimbfadnabfabaaGreatDoor.Pm

namespace Go.Proofs.YtimbfadnabfabaaGreatDoor.Pm
open Go.Proofs.YtimbfadnabfabaaGreatDoor.Args
open Go.ChangeShapes Go.WideShapes Go.ChangeAt Go.RowKit
set_option linter.unusedVariables false
set_option linter.unusedSimpArgs false
set_option maxRecDepth 100000
structure VS (W H:Nat) (t:ag):Prop where
 hW:1≤W∧W≤160
 hH:1≤H∧H≤60
 gw:t.af.aG.bR=W
 gh:t.af.aG.bV=H
 gl:t.af.aG.Cells.length=W*H
 row:0≤t.af.Row∧t.af.Row≤(H:Int)-1
 lg:0≤t.af.cQ∧t.af.cQ≤(W:Int)-1
 ai:0≤t.af.jx∧((t.af.jx<t.af.cZ∧t.af.cZ≤H)∨t.af.cZ≤ -1)
 sh:0≤t.af.cN∧t.af.cN≤1
 past:t.af.bn.length≤40
theorem az1(s:aA)(f:SF s): ∃W H:Nat,VS W H ⟨s,[]⟩:=by
 obtain ⟨W,H,w1,w2,h1,h2,e,hc,hR⟩:=QY s.aG f.g
 have eW:s.aG.bR=(W:Int):=by rw [e]
 have eH:s.aG.bV=(H:Int):=by rw [e]
 have hr:=f.row
 have p_:=f.lg
 have ht:=f.top
 have hb:=f.bot
 rw [eH] at hr hb
 rw [eW] at p_
 refine ⟨W,H,⟨w1,w2⟩,⟨h1,h2⟩,eW,eH,hc,hr,p_,⟨ht.1,?_⟩,f.sh,f.past.2⟩
 by_cases q: -9223372036854775807≤s.cZ
 ·rw [gz (s.cZ-1) (by omega)] at ht
  exact .inl ⟨by show s.jx<s.cZ;omega,hb⟩
 ·exact .inr (by show s.cZ≤ -1;omega)
theorem avi(a hi:Int)(h:0≤hi): ∃r,f237 a 0 hi=some r∧0≤r∧r≤hi:=by
 unfold f237
 refine ⟨_,rfl,?_⟩
 constructor<;>split<;>split<;>omega
theorem aoW{W H:Nat}{t:ag}(v:VS W H t)(c:Int): ∃r,0≤r∧r≤(W:Int)-1∧f212 c t=some ⟨{t.af with cQ:=r,eV:=false},t.sent⟩:=by
 have hW:=v.hW
 obtain ⟨r,e,h1,h2⟩:=avi c ((W:Int)-1) (by omega)
 unfold f212
 rw [v.gw,gz _ (by omega),e,bs]
 exact ⟨r,h1,h2,rfl⟩
theorem VS.Ez{W H:Nat}{t:ag}(v:VS W H t){r:Int}(h0:0≤r)(h1:r≤(W:Int)-1):VS W H ⟨{t.af with cQ:=r,eV:=false},t.sent⟩:=
 ⟨v.hW,v.hH,v.gw,v.gh,v.gl,v.row,⟨h0,h1⟩,v.ai,v.sh,v.past⟩
theorem Ad(t:ag)(l:List PD)(m:Int): ∃b,f214 t l m=some b:=by
 unfold f214
 cases (!decide (cO .and .i64 t.af.dO m=0))
 ·exact ⟨_,rfl⟩
 ·exact ⟨_,rfl⟩
theorem FA{W H:Nat}(hW:1≤W∧W≤160)(hH:1≤H∧H≤60)(c:List ah)(hc:c.length=W*H)(tp bt n:Int)(p:bw)(ht:0≤tp)(hr:(tp<bt∧bt≤H)∨bt≤ -1)(hn: -100000≤n∧n≤100000):
  ∃d,f239 (W:Int) (H:Int) tp bt n p c=some d∧d.length=c.length:=by
 rcases hr with hr | hr
 ·obtain ⟨a,rfl⟩:=Int.eq_ofNat_of_zero_le ht
  obtain ⟨b,rfl⟩:=Int.eq_ofNat_of_zero_le (show 0≤bt by omega)
  exact ⟨_,Er W H a b n p c hc hW.1 hW.2 hH.2 (by omega) (by omega) hn,by unfold KW;rw [cR]⟩
 ·refine ⟨c,?_,rfl⟩
  unfold f239
  rw [dJ (r:=(c,[])) (by
   unfold sw
   rw [bN (df (by show¬tp<bt;omega))]),bs]
  unfold D6 f250
  rw [dJ (r:= []) (by
   unfold sr mG
   rw [bN (df (by show¬(0:Int)<(([]:List (List ah)).length:Int);simp)),cf]),bs,bs]
  dsimp only []
  rw [fW (dt rfl),bs,fW (dt rfl),bs]
  rw [dJ (r:=c) (by
   unfold uM mH
   rw [bN (df (by show¬(0:Int)<(([]:List (List ah)).length:Int);simp)),cf]),bs]
theorem HJ{W H:Nat}{t:ag}(v:VS W H t)(t0:ag): ∃t',sx t0 t=some t'∧VS W H t'∧t'.af.cQ=t.af.cQ:=by
 obtain ⟨d,e,hd⟩:=FA v.hW v.hH t.af.aG.Cells v.gl t.af.jx t.af.cZ 1 (bw.mk 0 0 t.af.cz.dV) v.ai.1 v.ai.2 (by omega)
 unfold sx f216
 rw [bs,v.gw,v.gh,e,bs,fW (dt hd),bs]
 exact ⟨_,rfl,⟨v.hW,v.hH,rfl,rfl,hd.trans v.gl,v.row,v.lg,v.ai,v.sh,v.past⟩,rfl⟩
theorem aoX{α:Type}(l:List α)(h:1<l.length):IW l 1 (l.length:Int)=some (l.drop 1):=by
 unfold IW
 rw [if_pos (by omega),show (1:Int)=((1:Nat):Int) from rfl,KP l 1 l.length (by omega) (Nat.le_refl _),List.take_length]
theorem K9{W H:Nat}{t:ag}(v:VS W H t): ∃t',f213 t=some t'∧VS W H t'∧t'.af.cQ=t.af.cQ:=by
 have hH:=v.hH
 have hW:=v.hW
 have h9:=size_le W H hW.2 hH.2
 have hp:=v.past
 have lt: ∀pa:List bY,pa.length≤40→VS W H ⟨{t.af with eV:=false,bn:=pa},t.sent⟩:=fun pa h=>⟨v.hW,v.hH,v.gw,v.gh,v.gl,v.row,v.lg,v.ai,v.sh,h⟩
 unfold f213
 by_cases q1:t.af.Row=IntKind.i64.wrap (t.af.cZ-1)
 ·rw [b8 (dt q1)]
  by_cases q2:t.af.jx=0
  ·rw [b8 (dt q2)]
   obtain ⟨b,e⟩:=Ad (ag.mk ({t.af with eV:=false}) t.sent) [] 256
   rw [e,bs]
   cases b
   ·rw [Bool.not_false,ct]
    have er:f238 t.af.aG 0=some (jT W t.af.aG.Cells 0):=by
     have hg:t.af.aG=⟨W,H,t.af.aG.Cells⟩:=by
      have h1:=v.gw
      have h2:=v.gh
      cases hq:t.af.aG with
      | mk a b c=>
       rw [hq] at h1 h2
       dsimp only [] at h1 h2
       rw [h1,h2]
     unfold f238
     rw [hg]
     have:=Hy W H t.af.aG.Cells 0 v.gl (by omega) hW.2 hH.2
     rw [show f89 ⟨(W:Int),(H:Int),t.af.aG.Cells⟩ 0=_ from this,bs,Eo _ (by rw [uO W H _ 0 v.gl (by omega)];omega),bs]
    rw [er,bs,fj _ _ _ (by rw [List.length_singleton];omega),bs]
    have hn:(t.af.bn++ [bY.mk (jT W t.af.aG.Cells 0)]).length=t.af.bn.length+1:=by rw [List.length_append,List.length_singleton]
    by_cases q4:40<t.af.bn.length+1
    ·rw [b8 (dt (by rw [hn];omega)),aoX _ (by rw [hn];omega),bs]
     exact HJ (lt _ (by rw [List.length_drop,hn];omega)) _
    ·rw [bN (df (by rw [hn];omega))]
     exact HJ (lt _ (by rw [hn];omega)) _
   ·rw [Bool.not_true,cf]
    exact HJ (lt t.af.bn hp) _
  ·rw [bN (df q2)]
   exact HJ (lt t.af.bn hp) _
 ·rw [bN (df q1),v.gh,gz ((H:Int)-1) (by omega)]
  have hr:=v.row
  by_cases q3:t.af.Row<(H:Int)-1
  ·rw [b8 (dt q3),gz (t.af.Row+1) (by omega)]
   exact ⟨_,rfl,⟨v.hW,v.hH,v.gw,v.gh,v.gl,⟨by show 0≤t.af.Row+1;omega,by show t.af.Row+1≤_;omega⟩,v.lg,v.ai,v.sh,v.past⟩,rfl⟩
  ·rw [bN (df q3)]
   exact ⟨_,rfl,lt t.af.bn hp,rfl⟩
theorem az2{W H:Nat}{t:ag}(v:VS W H t): ∃t',f219 t=some t':=by
 obtain ⟨d,e,hd⟩:=FA v.hW v.hH t.af.aG.Cells v.gl t.af.jx t.af.cZ (-1) (bw.mk 0 0 t.af.cz.dV) v.ai.1 v.ai.2 (by omega)
 unfold f219 f216
 by_cases q:t.af.Row=t.af.jx
 ·rw [b8 (dt q),bs,v.gw,v.gh]
  dsimp only []
  rw [e,bs,fW (dt hd),bs]
  exact ⟨_,rfl⟩
 ·rw [bN (df q)]
  cases decide (0<t.af.Row)
  ·exact ⟨_,rfl⟩
  ·exact ⟨_,rfl⟩
theorem lq{a b:Nat}(h:a=b):bO (decide (a=b))=some ():=fW (dt h)
theorem aDb{W H:Nat}{t:ag}(v:VS W H t): ∃t',f188 13 t=some t'∧VS W H t':=by
 obtain ⟨r,h0,h1,e⟩:=aoW v 0
 unfold f188 nu
 rw [bN (by rfl),bN (by rfl),bN (by rfl),bN (by rfl),bN (by rfl),cf,b8 (by rfl),e,bs,lq rfl,bs,lq rfl,bs,lq rfl,bs]
 exact ⟨_,rfl,v.Ez h0 h1⟩
theorem az3{W H:Nat}{t:ag}(v:VS W H t)(c:Int): ∃t',f188 c t=some t':=by
 have ac3: ∀{u:ag} (vu:VS W H u) (k:Int),∃t',((f212 k u).bind fun z20=>((bO (decide (z20.af.bn.length=u.af.bn.length))).bind fun z21=>((bO (decide (z20.af.aT.Cells.length=u.af.aT.Cells.length))).bind fun z22=>((bO (decide (z20.af.aG.Cells.length=u.af.aG.Cells.length))).bind fun z23=>(some z20)))))=some t':=fun {u} vu k=>by
  obtain ⟨r,h0,h1,e⟩:=aoW vu k
  rw [e,bs,lq rfl,bs,lq rfl,bs,lq rfl,bs]
  exact ⟨_,rfl⟩
 have lf: ∃t',nu c t true=some t':=by
  unfold nu
  obtain ⟨t1,e1,v1,_⟩:=K9 v
  obtain ⟨b,e2⟩:=Ad t1 [] 128
  rw [ct,e1,bs,e2,bs]
  cases b
  ·exact ⟨_,rfl⟩
  ·rw [ct];exact ac3 v1 0
 unfold f188
 by_cases q1:c=8
 ·rw [b8 (dt q1)];exact ac3 v _
 rw [bN (df q1)]
 by_cases q2:c=9
 ·obtain ⟨r,e⟩:=KN t.af.gN t.af.cQ 1 t.af.aG.bR
  rw [b8 (dt q2),e,bs];exact ac3 v _
 rw [bN (df q2)]
 by_cases q3:c=10
 ·rw [b8 (dt q3)];exact lf
 rw [bN (df q3)]
 by_cases q4:c=11
 ·rw [b8 (dt q4)];exact lf
 rw [bN (df q4)]
 by_cases q5:c=12
 ·rw [b8 (dt q5)];exact lf
 rw [bN (df q5)]
 unfold nu
 rw [cf]
 by_cases q6:c=13
 ·rw [b8 (dt q6)];exact ac3 v 0
 rw [bN (df q6)]
 cases decide (c=14)
 ·cases decide (c=15)
  ·exact ⟨_,rfl⟩
  ·exact ⟨_,rfl⟩
 ·exact ⟨_,rfl⟩
end Go.Proofs.YtimbfadnabfabaaGreatDoor.Pm

namespace Go.Proofs.YtimbfadnabfabaaGreatDoor.Pm
open Go.Proofs.YtimbfadnabfabaaGreatDoor.Args
open Go.ChangeShapes Go.WideShapes Go.ChangeAt Go.RowKit
open Go.Proofs.YtimbfadnabfabaaGreatDoor.Pr (j6)
set_option linter.unusedVariables false
set_option linter.unusedSimpArgs false
set_option maxRecDepth 100000
theorem VS.YS{W H:Nat}{t:ag}(v:VS W H t){d:List ah}(hd:d.length=t.af.aG.Cells.length):VS W H ⟨{t.af with aG:=bQ.mk t.af.aG.bR t.af.aG.bV d},t.sent⟩:=
 ⟨v.hW,v.hH,v.gw,v.gh,hd.trans v.gl,v.row,v.lg,v.ai,v.sh,v.past⟩
theorem az5{W H:Nat}{t:ag}(v:VS W H t)(r:Int)(p:bw)(hr:0<wd r)(hc:t.af.cQ+wd r≤W): ∃d,f217 t.af.aG.bR t.af.aG.bV t.af.Row t.af.cQ r p t.af.aG.Cells=some d∧d.length=t.af.aG.Cells.length:=by
 have hrow:=v.row
 have Gw:=v.lg
 obtain ⟨n,hn⟩:=Int.eq_ofNat_of_zero_le hrow.1
 obtain ⟨k,hk⟩:=Int.eq_ofNat_of_zero_le Gw.1
 rw [v.gw,v.gh,hn,hk]
 exact ⟨_,Od W H n k r p _ v.gl (by omega) v.hW.2 v.hH.2 hr (by omega),by rw [qH];unfold Gv;rw [cR]⟩
theorem U4{W H:Nat}{t:ag}(v:VS W H t)(n:Int)(p:bw)(hn: -100000≤n∧n≤100000): ∃d,f215 t.af.aG.bR t.af.aG.bV t.af.Row t.af.cQ t.af.aG.bR n p t.af.aG.Cells=some d∧d.length=t.af.aG.Cells.length:=by
 have hrow:=v.row
 have Gw:=v.lg
 obtain ⟨r,hr⟩:=Int.eq_ofNat_of_zero_le hrow.1
 obtain ⟨k,hk⟩:=Int.eq_ofNat_of_zero_le Gw.1
 rw [v.gw,v.gh,hr,hk]
 exact ⟨_,Gs W H r k W n p _ v.gl (by omega) v.hW.2 v.hH.2 (by omega) (Nat.le_refl _) hn,by rw [qH];unfold Ev;rw [cR]⟩
theorem aw3{W H:Nat}{t:ag}(v:VS W H t)(c:Int)(t0:ag)(r:Int)(hr:0<wd r)(hc:t.af.cQ+wd r≤W): ∃t',yA c t0 t r (wd r)=some t':=by
 obtain ⟨d,e,hd⟩:=az5 v r t.af.cz hr hc
 unfold yA
 rw [e,bs,fW (dt hd),bs]
 cases decide ((IntKind.i64.wrap (t0.af.aG.bR-1))<(IntKind.i64.wrap (t.af.cQ+wd r)))
 ·exact ⟨_,rfl⟩
 ·rw [ct]
  obtain ⟨b,eb⟩:=Ad (ag.mk ({t.af with aG:=(bQ.mk t.af.aG.bR t.af.aG.bV d),cQ:=(IntKind.i64.wrap (t.af.cQ+wd r))}) t.sent) [] 4
  rw [eb,bs]
  exact ⟨_,rfl⟩
theorem aw4{W H:Nat}{t:ag}(v:VS W H t)(c:Int)(t0:ag)(r:Int)(hr:0<wd r)(hc:t.af.cQ+wd r≤W): ∃t',yB c t0 t r (wd r)=some t':=by
 unfold yB f216
 obtain ⟨b,eb⟩:=Ad t [] 1
 rw [eb,bs]
 cases b
 ·exact aw3 v c t0 r hr hc
 ·have hw:=z_ r
  obtain ⟨d,e,hd⟩:=U4 v (wd r) (bw.mk 0 0 t.af.cz.dV) (by omega)
  rw [ct,bs,e,bs,fW (dt hd),bs]
  exact aw3 (v.YS hd) c t0 r hr hc
theorem aw5{W H:Nat}{t:ag}(v:VS W H t)(c:Int)(t0:ag)(h0:t0.af.aG.bR=W)(r:Int)(hr:0<wd r)(hw:wd r≤W): ∃t',yD c t0 t r (wd r)=some t':=by
 have hW:=v.hW
 have hc:=v.lg
 have h5: ¬(wd r=2∧t.af.cQ=(W:Int)-1)→ ∃t',yC c t0 t r (wd r)=some t':=fun h=>by
  unfold yC
  have:=z_ r
  exact aw4 v c t0 r hr (by omega)
 unfold yD
 by_cases q1:wd r=2
 ·rw [b8 (dt q1),h0,gz ((W:Int)-1) (by omega)]
  by_cases q2:t.af.cQ=(W:Int)-1
  ·rw [b8 (dt q2)]
   obtain ⟨b,eb⟩:=Ad t [] 4
   rw [eb,bs]
   cases b
   ·exact ⟨_,rfl⟩
   ·rw [Bool.not_true,cf]
    have h00:(0:Int)≤(W:Int)-1:=by omega
    unfold f212
    rw [v.gw,gz ((W:Int)-1) (by omega)]
    have el:f237 0 0 ((W:Int)-1)=some 0:=by
     unfold f237
     by_cases q:(W:Int)-1<0
     ·omega
     ·rw [if_neg q,if_neg (by omega)]
    rw [el,bs,bs,lq rfl,bs,lq rfl,bs,lq rfl,bs]
    obtain ⟨t1,e1,v1,Gw⟩:=K9 (v.Ez (Int.le_refl 0) h00)
    have Gw:t1.af.cQ=0:=Gw
    rw [e1,bs]
    exact aw4 v1 c t0 r hr (by rw [Gw];omega)
  ·rw [bN (df q2)];exact h5 fun h=>q2 h.2
 ·rw [bN (df q1)];exact h5 fun h=>q1 h.1
theorem aDd(W:Nat)(h:1≤W):f237 0 0 ((W:Int)-1)=some 0:=by
 unfold f237
 by_cases q:(W:Int)-1<0
 ·omega
 ·rw [if_neg q,if_neg (by omega)]
theorem ac4{W H:Nat}{t:ag}(v:VS W H t):f212 0 t=some ⟨{t.af with cQ:=0,eV:=false},t.sent⟩:=by
 have hW:=v.hW
 unfold f212
 rw [v.gw,gz ((W:Int)-1) (by omega),aDd W hW.1,bs]
theorem aDe{W H:Nat}{t:ag}(v:VS W H t)(c r:Int)(hr:0<wd r)(hw:wd r≤W): ∃t',D9 c t r (wd r)=some t':=by
 have hW:=v.hW
 unfold D9
 by_cases hl:t.af.eV=true
 ·obtain ⟨t1,e1,v1,_⟩:=K9 (v.Ez (Int.le_refl 0) (show (0:Int)≤(W:Int)-1 by omega))
  rw [b8 hl,ac4 v,bs,lq rfl,bs,lq rfl,bs,lq rfl,bs,e1,bs]
  exact aw5 v1 c t v.gw r hr hw
 ·rw [bN (by cases hq:t.af.eV;rfl;exact absurd hq hl)]
  exact aw5 v c t v.gw r hr hw
theorem Oq(a:Int)(b:UInt8): ∃z,f211 a b=some z:=by
 have h0: ∃z,xZ a b=some z:=by
  unfold xZ
  cases decide (a=3)
  ·exact ⟨_,rfl⟩
  ·by_cases q1:95≤(b.toNat:Int)
   ·by_cases q2:(b.toNat:Int)≤126
    ·have:(((b-(95:UInt8)).toNat:Nat):Int)=((b.toNat-95:Nat):Int):=by
      have:(95:UInt8).toNat=95:=rfl
      rw [UInt8.toNat_sub_of_le _ _ (UInt8.le_iff_toNat_le.2 (by omega)),this]
     rw [ct,b8 (dt q1),b8 (dt q2),this,iL _ 32 (by omega),bs]
     exact ⟨_,rfl⟩
    ·rw [ct,b8 (dt q1),bN (df q2)];exact ⟨_,rfl⟩
   ·rw [ct,bN (df q1)];exact ⟨_,rfl⟩
 obtain ⟨z,e⟩:=h0
 unfold f211 f236
 rw [qG,bs,e]
 cases (!(decide (1≤a)&&decide (a≤4)))
 ·rw [cf]
  cases decide (a=2)
  ·cases decide (127<(b.toNat:Int))
   ·cases decide (a=4)
    ·exact ⟨_,rfl⟩
    ·cases decide ((b.toNat:Int)=35)
     ·exact ⟨_,rfl⟩
     ·exact ⟨_,rfl⟩
   ·exact ⟨_,rfl⟩
  ·exact ⟨_,rfl⟩
 ·exact ⟨_,rfl⟩
theorem aoY{W H:Nat}{t:ag}(v:VS W H t)(c:Int): ∃t',f187 c t=some t':=by
 have h0: ∀r,∃t',uN c t r=some t':=fun r=>by
  unfold uN
  rw [oB,bs]
  by_cases q1:wd r=0
  ·rw [b8 (dt q1)];exact ⟨_,rfl⟩
  rw [bN (df q1),v.gw]
  by_cases q2:(W:Int)<wd r
  ·rw [b8 (dt q2)];exact ⟨_,rfl⟩
  rw [bN (df q2)]
  have:=z_ r
  exact aDe v c r (by omega) (by omega)
 unfold f187 D_
 have hs:=v.sh
 by_cases q1:0≤c
 ·by_cases q2:c≤127
  ·rw [b8 (dt q1),b8 (dt q2)]
   obtain ⟨k,hk⟩:=Int.eq_ofNat_of_zero_le hs.1
   rw [hk,iL k 2 (by omega),bs]
   obtain ⟨z1,e1⟩:=Oq t.af.bF.1 (u8 c)
   obtain ⟨z2,e2⟩:=Oq t.af.bF.2 (u8 c)
   rw [e1,e2,bs,bs]
   cases decide (k=0)
   ·exact h0 _
   ·exact h0 _
  ·rw [b8 (dt q1),bN (df q2)];exact h0 c
 ·rw [bN (df q1)];exact h0 c
theorem U5(m:Int)(b:Bool)(t:ag): ∃k,f223 m b t=some ⟨{t.af with dO:=k},t.sent⟩:=by
 unfold f223
 cases b
 ·exact ⟨_,rfl⟩
 ·exact ⟨_,rfl⟩
theorem aoZ{W H:Nat}{t:ag}(v:VS W H t): ∃r,f224 t=some r:=by
 obtain ⟨st,e⟩:=UD W H v.hW v.hH
 unfold f224
 rw [v.gw,v.gh,e,bs]
 exact ⟨_,rfl⟩
theorem az6(s:bq)(c:Int): ∃r,f220 s c true=some r:=by
 unfold f220
 by_cases q1:c<0
 ·rw [b8 (dt q1)];exact ⟨_,rfl⟩
 rw [bN (df q1)]
 by_cases q2:255<c
 ·rw [b8 (dt q2)];exact ⟨_,rfl⟩
 rw [bN (df q2)]
 obtain ⟨⟨m,hm⟩,h0⟩:=acN c (by omega) (by omega)
 unfold Eb
 rw [hm,bs,fW (dt h0),bs,bs,ct,bs,bs,bs]
 exact ⟨_,rfl⟩
theorem az7{W H:Nat}{t:ag}(v:VS W H t)(c:Int): ∃t',f189 c t=some t':=by
 have hW:=v.hW
 have aw6: ∀(m:Int) (b:Bool),∃t',((f223 m b t).bind fun pP=>((bO (decide (pP.af.bn.length=t.af.bn.length))).bind fun Th=>((bO (decide (pP.af.aT.Cells.length=t.af.aT.Cells.length))).bind fun z44=>((bO (decide (pP.af.aG.Cells.length=t.af.aG.Cells.length))).bind fun P9=>(some pP)))))=some t':=fun m b=>by
  obtain ⟨k,e⟩:=U5 m b t
  rw [e,bs,lq rfl,bs,lq rfl,bs,lq rfl,bs]
  exact ⟨_,rfl⟩
 have h0: ∀b,∃t',sF c t b=some t':=fun b=>by
  unfold sF
  cases b
  ·rw [cf]
   by_cases q:c=99
   ·obtain ⟨r,e⟩:=aoZ v
    rw [b8 (dt q),e,bs];exact ⟨_,rfl⟩
   ·rw [bN (df q)];exact ⟨_,rfl⟩
  ·rw [ct]
   cases decide (c=61)
   ·exact aw6 32 false
   ·exact aw6 32 true
 unfold f189
 obtain ⟨ti,ei,vi,_⟩:=K9 v
 obtain ⟨tz,ez,vz,_⟩:=K9 (v.Ez (Int.le_refl 0) (show (0:Int)≤(W:Int)-1 by omega))
 by_cases q1:c=68
 ·rw [b8 (dt q1),ei,bs];exact ⟨_,rfl⟩
 rw [bN (df q1)]
 by_cases q2:c=69
 ·rw [b8 (dt q2),ac4 v,bs,lq rfl,bs,lq rfl,bs,lq rfl,bs,ez,bs];exact ⟨_,rfl⟩
 rw [bN (df q2)]
 by_cases q3:c=77
 ·obtain ⟨r,e⟩:=az2 v
  rw [b8 (dt q3),e,bs];exact ⟨_,rfl⟩
 rw [bN (df q3)]
 by_cases q4:c=72
 ·obtain ⟨r,e⟩:=az6 t.af.gN t.af.cQ
  rw [b8 (dt q4),e,bs];exact ⟨_,rfl⟩
 rw [bN (df q4)]
 by_cases q5:c=55
 ·obtain ⟨b,e⟩:=Ad t [] 2
  rw [b8 (dt q5)]
  unfold f221
  rw [e,bs,bs,lq rfl,bs,lq rfl,bs,lq rfl,bs];exact ⟨_,rfl⟩
 rw [bN (df q5)]
 by_cases q6:c=56
 ·rw [b8 (dt q6)]
  unfold f222
  obtain ⟨k,e⟩:=U5 2 t.af.aS.Origin (ag.mk ({t.af with Row:=(if (IntKind.i64.wrap (t.af.aG.bV-1))<t.af.aS.Row then (IntKind.i64.wrap (t.af.aG.bV-1)) else t.af.aS.Row),cz:=t.af.aS.cz,bF:=t.af.aS.bF,cN:=t.af.aS.cN}) t.sent)
  rw [e,bs,lq rfl,bs,lq rfl,bs,lq rfl,bs]
  unfold f212
  obtain ⟨r,er⟩:=Hz t.af.aS.cQ 0 (IntKind.i64.wrap (t.af.aG.bR-1))
  dsimp only []
  rw [er,bs,bs,lq rfl,bs,lq rfl,bs,lq rfl,bs,bs,lq rfl,bs,lq rfl,bs,lq rfl,bs];exact ⟨_,rfl⟩
 rw [bN (df q6)]
 cases decide (c=61)
 ·cases decide (c=62)
  ·exact h0 false
  ·exact h0 true
 ·exact h0 true
theorem ao0{W H:Nat}{t:ag}(v:VS W H t)(c n k:Int)(hn:0≤n∧n≤16383)(hc:c=80∨c=83∨c=81∨c=82∨c=126):(∃t',f228 c n k t=some (t',true))∨((c=81∨c=82∨c=126)∧f228 c n k t=some (t,false)):=by
 unfold f228 El
 rcases hc with rfl | rfl | hc
 ·left
  unfold Kv f216
  obtain ⟨d,e,hd⟩:=U4 v (IntKind.i64.wrap (0-n)) (bw.mk 0 0 t.af.cz.dV) (by rw [gz _ (by omega)];omega)
  rw [bN (by rfl),b8 (by rfl),ct,b8 (by rfl),bs]
  dsimp only []
  rw [e,bs,fW (dt hd),bs]
  exact ⟨_,rfl⟩
 ·left
  unfold Ek yP Ky f216
  obtain ⟨d,e,hd⟩:=FA v.hW v.hH t.af.aG.Cells v.gl t.af.jx t.af.cZ n (bw.mk 0 0 t.af.cz.dV) v.ai.1 v.ai.2 (by omega)
  rw [bN (by rfl),bN (by rfl),cf,bN (by rfl),bN (by rfl),bN (by rfl),bN (by rfl),bN (by rfl),b8 (by rfl),ct,bN (by rfl),bs,v.gw,v.gh]
  dsimp only []
  rw [e,bs,fW (dt hd),bs]
  exact ⟨_,rfl⟩
 ·right
  refine ⟨hc,?_⟩
  unfold Ek yP
  rcases hc with rfl | rfl | rfl<;>rfl
theorem ao1(l:List Int)(hl: ∀x∈l,-1≤x∧x≤16383)(i:Int)(z:Int)(hz:0≤z∧z≤1): ∃r,f226 l i z=some r∧ -1≤r∧r≤16383:=by
 unfold f226
 by_cases q1:i<0
 ·rw [b8 (dt q1)];exact ⟨_,rfl,by omega,by omega⟩
 rw [bN (df q1)]
 by_cases q2:(l.length:Int)≤i
 ·rw [b8 (dt q2)];exact ⟨_,rfl,by omega,by omega⟩
 rw [bN (df q2)]
 obtain ⟨k,rfl⟩:=Int.eq_ofNat_of_zero_le (show 0≤i by omega)
 have hk:k<l.length:=by omega
 have e:idx l (k:Int)=some l[k]:=by unfold idx;rw [if_pos (by omega)];simp [hk]
 have hx:=hl _ (List.getElem_mem hk)
 rw [e,bs,bs]
 by_cases q3:l[k]= -1
 ·rw [b8 (dt q3)];exact ⟨_,rfl,by omega,by omega⟩
 ·rw [bN (df q3)];exact ⟨_,rfl,by omega,by omega⟩
end Go.Proofs.YtimbfadnabfabaaGreatDoor.Pm

namespace Go.Proofs.YtimbfadnabfabaaGreatDoor.Pm
open Go.Proofs.YtimbfadnabfabaaGreatDoor.Args
open Go.ChangeShapes Go.WideShapes Go.ChangeAt Go.RowKit
open Go.Proofs.YtimbfadnabfabaaGreatDoor.Pr (j6)
set_option linter.unusedVariables false
set_option linter.unusedSimpArgs false
set_option maxRecDepth 100000
theorem ao2(l:List Int)(hl: ∀x∈l,-1≤x∧x≤16383)(i:Int): ∃r,f225 l i=some r∧0≤r∧r≤16383:=by
 unfold f225
 obtain ⟨r,hr,h1,h2⟩:=ao1 l hl i 1 (by omega)
 rw [hr,bs]
 refine ⟨_,rfl,?_⟩
 split<;>omega
theorem az8{W H:Nat}{t:ag}(v:VS W H t)(c:Int)(l:List Int)(hl: ∀x∈l,-1≤x∧x≤16383)(h:LB c∨c=90∨c=126): ∃t',f191 ⟨4,c,0,[],l,[]⟩ t=some t':=by
 unfold f191
 obtain ⟨n,hn,n1,n2⟩:=ao2 l hl 0
 obtain ⟨k,hk⟩:=QZ l 0 0
 dsimp only []
 rw [hn,bs,hk,bs,b8 (dt rfl)]
 rcases KO ⟨4,c,0,[],l,[]⟩ n t with ⟨_,t',e,k'⟩ | ⟨hne,e⟩
 ·rw [e,bs]
  dsimp only []
  rw [wL k'.kt]
  exact ⟨_,rfl⟩
 ·rw [e,bs]
  dsimp only []
  rw [lq rfl,bs,lq rfl,bs,lq rfl,bs]
  have hc:c=80∨c=83∨c=81∨c=82∨c=126:=by
   unfold acU at hne
   dsimp only [] at hne
   unfold LB at h
   omega
  rcases ao0 v c n k ⟨n1,n2⟩ hc with ⟨t',e⟩ | ⟨hc',e⟩
  ·rw [Bool.not_false,ct,e,bs]
   exact ⟨_,rfl⟩
  ·rw [Bool.not_false,ct,e,bs]
   dsimp only []
   rw [Bool.not_false,ct]
   unfold f229 Kz
   rcases hc' with rfl | rfl | rfl<;>exact ⟨_,rfl⟩
theorem Q6{W H:Nat}{t:ag}(v:VS W H t)(a:aL)(h:uR a): ∃t',f146 a t=some t':=by
 unfold f146
 cases h with
 | drop=>exact ⟨_,rfl⟩
 | ac1 c h=>
  obtain ⟨t',e⟩:=az3 v c
  exact ⟨t',by dsimp only [];rw [bN (by rfl),b8 (by rfl),e,bs]⟩
 | print c h=>
  obtain ⟨t',e⟩:=aoY v c
  exact ⟨t',by dsimp only [];rw [b8 (by rfl),e,bs]⟩
 | esc c h=>
  obtain ⟨t',e⟩:=az7 v c
  exact ⟨t',by dsimp only [];rw [bN (by rfl),bN (by rfl),b8 (by rfl),b8 (by rfl),e,bs]⟩
 | DW c l h hl=>
  obtain ⟨t',e⟩:=az8 v c l hl.2 h
  exact ⟨t',by dsimp only [];rw [bN (by rfl),bN (by rfl),bN (by rfl),bN (by rfl),bN (by rfl),b8 (by rfl),b8 (by rfl),e,bs]⟩
theorem avj{W H:Nat}{t:ag}(v:VS W H t): ∃t',f146 ⟨2,13,0,[],[],[]⟩ t=some t'∧VS W H t':=by
 obtain ⟨t',e,v'⟩:=aDb v
 refine ⟨t',?_,v'⟩
 unfold f146
 dsimp only []
 rw [bN (by rfl),b8 (by rfl),e,bs]
theorem avk(t:ag):f146 ⟨3,79,0,[],[],[]⟩ t=some t:=by
 unfold f146 f189 sF
 rfl
theorem ao3(t:ag):f146 j6 t=some t:=rfl
def DA:aL:=⟨0,0,0,[],[],[]⟩
theorem qI(s:aA)(l:List aL)(hl:l.length≤2)(f:Nat→ag)(h: ∀i,i<l.length→f146 (l.getD i DA) (f i)=some (f (i+1))):b9 (pz s l) (f 0,0)=some (f l.length):=by
 refine lN (body:=pz s l) (fun i=>(f i,(i:Int))) (f l.length) l.length ?_ 0 (by omega) ?_
 ·unfold pz pq
  dsimp only []
  rw [bN (df (by omega)),cf]
 ·intro i _ hi
  unfold pz pq yQ
  dsimp only []
  rw [b8 (dt (by omega)),ct,fX l i DA hi,bs,h i hi,bs,nI i (by omega)]
theorem avl(s:aA)(f:SF s)(l:List aL)(h:wA l): ∃t',b9 (pz s l) (⟨s,[]⟩,0)=some t':=by
 obtain ⟨W,H,v⟩:=az1 s f
 have two: ∀(a b:aL) (t1 t2:ag),f146 a ⟨s,[]⟩=some t1→f146 b t1=some t2→ ∃t',b9 (pz s [a,b]) (⟨s,[]⟩,0)=some t':=fun a b t1 t2 h1 h2=>
  ⟨t2,qI s [a,b] (by simp) (fun i=>if i=0 then ⟨s,[]⟩ else if i=1 then t1 else t2) (fun i hi=>by
   have hi':i<2:=hi
   obtain rfl | rfl:i=0∨i=1:=by omega
   ·exact h1
   ·exact h2)⟩
 cases h with
 | none=>exact ⟨⟨s,[]⟩,qI s [] (by simp) (fun _=>⟨s,[]⟩) (fun i hi=>absurd hi (by simp))⟩
 | one a h=>
  obtain ⟨t',e⟩:=Q6 v a h
  exact ⟨t',qI s [a] (by simp) (fun i=>if i=0 then ⟨s,[]⟩ else t') (fun i hi=>by
   have hi':i<1:=hi
   obtain rfl:i=0:=by omega
   exact e)⟩
 | line=>
  obtain ⟨t1,e1,v1⟩:=avj v
  obtain ⟨t2,e2⟩:=Q6 v1 _ (uR.ac1 10 (by omega))
  exact two _ _ t1 t2 e1 e2
 | YP b hb=>
  obtain ⟨t2,e2⟩:=Q6 v _ (uR.print b (by unfold LB at hb;omega))
  exact two _ _ _ t2 (avk _) e2
 | Cu l hl h=>
  obtain ⟨t2,e2⟩:=Q6 v _ (uR.DW 90 l (by omega) ⟨hl,h⟩)
  exact two _ _ _ t2 (ao3 _) e2
theorem K_{l:List aL}(h:wA l):l.length≤2∧ ∀x∈l,x.Args.length≤32:=by
 have one: ∀a,uR a→a.Args.length≤32:=fun a h=>by
  cases h with
  | DW c l h hl=>exact hl.1
  | _=>exact Nat.zero_le _
 cases h with
 | none=>exact ⟨by simp,fun x hx=>absurd hx (by simp)⟩
 | one a h=>exact ⟨by simp,fun x hx=>by rw [List.mem_singleton.1 hx];exact one a h⟩
 | line=>exact ⟨by simp,fun x hx=>by simp at hx;rcases hx with rfl | rfl<;>exact Nat.zero_le _⟩
 | YP b hb=>exact ⟨by simp,fun x hx=>by simp at hx;rcases hx with rfl | rfl<;>exact Nat.zero_le _⟩
 | Cu l hl h=>exact ⟨by simp,fun x hx=>by simp at hx;rcases hx with rfl | rfl;exact Nat.zero_le _;exact hl⟩
theorem az9(s:aA)(hz:SzS s)(l:List aL)(h:wA l): ∃s' o n,f108 s l=some (s',o,n):=by
 unfold f108
 rcases Cm s hz.p with e | ⟨e,f⟩
 ·rw [e,bs,df (by decide),Bool.not_false,ct,Es s hz,bs]
  exact ⟨_,_,_,rfl⟩
 rw [e,bs,dt rfl,Bool.not_true,cf]
 unfold KC
 obtain ⟨n,hn⟩:=Gu l (by have:=(K_ h).1;omega) (fun x hx=>by have:=(K_ h).2 x hx;omega)
 rw [hn,bs]
 by_cases n0:n=0
 case neg=>
  rw [df n0,Bool.not_false,ct,Es s hz,bs]
  exact ⟨_,_,_,rfl⟩
 rw [dt n0,Bool.not_true,cf]
 unfold KB
 obtain ⟨t',ht⟩:=avl s f l h
 rw [Es s hz,bs,ht,bs]
 exact ⟨_,_,_,rfl⟩
end Go.Proofs.YtimbfadnabfabaaGreatDoor.Pm

namespace Go.Proofs.YtimbfadnabfabaaGreatDoor.Pm
open Go.Proofs.YtimbfadnabfabaaGreatDoor.Args
open Go.ChangeShapes Go.WideShapes Go.ChangeAt Go.RowKit
open Go.Proofs.YtimbfadnabfabaaGreatDoor.Pm.Ut (dH fy ey)
set_option linter.unusedVariables false
set_option linter.unusedSimpArgs false
set_option maxRecDepth 100000
theorem ao4(b c:UInt8)(new:List UInt8)(h:b≠c)(t:List UInt8)(k:Nat):Lib.replaceK [c] new k (b::t)=b::Lib.replaceK [c] new k t:=by
 cases k with
 | zero=>rfl
 | succ k=>
  have GK:=Lib.indexByte_ge t c
  have hi:Lib.index (b::t) [c]=if Lib.index t [c]= -1 then-1 else Lib.index t [c]+1:=by
   rw [Lib.index_one,Lib.index_one,Lib.indexByte,if_neg (by simpa using h)]
   by_cases hm:Lib.indexByte t c= -1
   ·rw [if_pos (by simpa using hm),if_pos hm]
   ·rw [if_neg (by simpa using hm),if_neg hm]
  unfold Lib.replaceK
  rw [hi]
  by_cases hm:Lib.index t [c]= -1
  ·rw [if_pos hm,if_pos (by rfl),if_pos (by rw [hm];rfl)]
  ·have hnn:0≤Lib.index t [c]:=by rw [Lib.index_one] at hm ⊢;omega
   rw [if_neg hm,if_neg (by simp;omega),if_neg (by simpa using hm)]
   obtain ⟨i,Ic⟩:=Int.eq_ofNat_of_zero_le hnn
   rw [Ic,show ((i:Int)+1).toNat=i+1 by omega,show (i:Int).toNat=i by omega]
   simp
theorem avm(c:UInt8)(new:List UInt8)(t:List UInt8)(k:Nat):Lib.replaceK [c] new (k+1) (c::t)=new++Lib.replaceK [c] new k t:=by
 have hi:Lib.index (c::t) [c]=0:=by rw [Lib.index_one,Lib.indexByte,if_pos (by simp)]
 rw [Lib.replaceK,hi,if_neg (by decide)]
 simp
def rb(c:UInt8)(nw:List UInt8)(b:UInt8):List UInt8:=if b=c then nw else [b]
theorem ao5(c:UInt8)(nw:List UInt8): ∀s:List UInt8,Lib.replaceK [c] nw (Lib.count s [c]) s=s.flatMap (rb c nw)
 | []=>by
  rw [Lib.count_one];rfl
 | b::t=>by
  have ih:=ao5 c nw t
  rw [List.flatMap_cons]
  by_cases h:b=c
  ·subst h
   rw [Lib.count_cons_eq,Nat.add_comm 1,avm,ih]
   unfold rb;rw [if_pos rfl]
  ·rw [Lib.count_cons_ne b c t h,ao4 b c _ h,ih]
   unfold rb;rw [if_neg h];rfl
theorem az_(s:List UInt8)(h:s.length≤10000000):eO s [13] [13,10]=some (s.flatMap (rb 13 [13,10])):=by
 unfold eO
 have p_:Lib.countB ⟨s.toArray⟩ ⟨([13]:List UInt8).toArray⟩≤s.length+1:=Lib.count_le s [13]
 have hb:Lib.countB ⟨s.toArray⟩ ⟨([13]:List UInt8).toArray⟩*([13,10]:List UInt8).length≤(s.length+1)*2:=Nat.mul_le_mul_right 2 p_
 rw [if_pos ⟨by omega,by decide,by omega⟩]
 simp only [Option.some.injEq]
 unfold Lib.replaceAll Lib.replace
 rw [if_neg (by decide)]
 unfold Lib.replaceNum
 rw [if_pos (by left;decide)]
 exact ao5 13 [13,10] s
theorem avn(s:List UInt8)(h:s.length≤10000000):eO s [255] [255,255]=some (s.flatMap (rb 255 [255,255])):=by
 unfold eO
 have p_:Lib.countB ⟨s.toArray⟩ ⟨([255]:List UInt8).toArray⟩≤s.length+1:=Lib.count_le s [255]
 have hb:Lib.countB ⟨s.toArray⟩ ⟨([255]:List UInt8).toArray⟩*([255,255]:List UInt8).length≤(s.length+1)*2:=Nat.mul_le_mul_right 2 p_
 rw [if_pos ⟨by omega,by decide,by omega⟩]
 simp only [Option.some.injEq]
 unfold Lib.replaceAll Lib.replace
 rw [if_neg (by decide)]
 unfold Lib.replaceNum
 rw [if_pos (by left;decide)]
 exact ao5 255 [255,255] s
theorem aAa(k:UInt8)(hk:((List.range 256).all fun n=>(k ||| UInt8.ofNat n) !=13)=true)(x:UInt8):((k ||| x) !=13)=true:=by
 have:=List.all_eq_true.1 hk x.toNat (List.mem_range.2 (UInt8.toNat_lt x))
 rwa [UInt8.ofNat_toNat] at this
def G3(l:List UInt8):Prop:=(l.all fun b=>b !=13)=true
theorem aDf{p q s:Bool}{A B C D:List UInt8}(a:G3 A)(b:G3 B)(c:G3 C)(d:G3 D):G3 (bif p then A else bif q then B else bif s then C else D):=by
 cases p<;>cases q<;>cases s<;>assumption
theorem kT{k x:UInt8}{l:List UInt8}(hk:((List.range 256).all fun n=>(k ||| UInt8.ofNat n) !=13)=true)(h:G3 l):G3 ((k ||| x)::l):=by
 unfold G3 at h ⊢
 rw [List.all_cons,aAa k hk x,h];rfl
theorem La:G3 []:=rfl
theorem ao6(r:Nat)(h:dH (r:Int))(h13:r≠13):G3 (fy (r:Int)):=by
 by_cases h1:r<128
 ·rw [Bu r h1]
  have ht:((List.range 128).all fun n=>decide (n=13) || [UInt8.ofNat n].all fun b=>b !=13)=true:=by kernel_rfl
  have:=List.all_eq_true.1 ht r (List.mem_range.2 h1)
  rw [decide_eq_false h13,Bool.false_or] at this
  exact this
 ·unfold dH at h
  have hw:IntKind.u32.wrap (r:Int)=(r:Int):=IntWalk.u32_in _ (by omega)
  unfold fy
  rw [hw,decide_eq_false (show¬(r:Int)≤127 by omega),cond_false]
  exact aDf (kT (by kernel_rfl) (kT (by kernel_rfl) La)) (kT (by kernel_rfl) (kT (by kernel_rfl) (kT (by kernel_rfl) La))) (kT (by kernel_rfl) (kT (by kernel_rfl) (kT (by kernel_rfl) (kT (by kernel_rfl) La)))) rfl
theorem ao7: ∀l:List UInt8,G3 l→l.flatMap (rb 13 [13,10])=l
 | [],_=>rfl
 | b::l,h=>by
  unfold G3 at h
  rw [List.all_cons,Bool.and_eq_true] at h
  have hb:b≠13:=by simpa using h.1
  rw [List.flatMap_cons,ao7 l h.2]
  unfold rb
  rw [if_neg hb];rfl
theorem Ot(a b:List Int):dS (a++b)=dS a++dS b:=by unfold dS;rw [List.flatMap_append]
theorem U6: ∀R:List Int,(∀c∈R,dH c)→(dS R).flatMap (rb 13 [13,10])=dS (R.flatMap tM)
 | [],_=>rfl
 | c::R,h=>by
  have ih:=U6 R fun x hx=>h x (List.mem_cons_of_mem _ hx)
  have hc:=h c (List.mem_cons_self ..)
  rw [List.flatMap_cons,Ot,←ih]
  have e:dS (c::R)=dS [c]++dS R:=Ot [c] R
  rw [e,List.flatMap_append]
  have e1:dS [c]=fy c:=by unfold dS;simp
  have e2:(dS [c]).flatMap (rb 13 [13,10])=dS (tM c):=by
   by_cases q:c=13
   ·subst q;kernel_rfl
   ·obtain ⟨r,rfl⟩: ∃r:Nat,c=r:=⟨c.toNat,by unfold dH at hc;omega⟩
    rw [e1,ao7 _ (ao6 r hc (by omega))]
    unfold tM
    rw [if_neg q,e1]
  rw [e2]
theorem Q7{R:List Int}(h:Aq R):R.length≤103∧R≠ []:=by
 cases h with
 | DW A c hA hl hc=>exact ⟨by simp [Pr.kq];omega,by simp⟩
 | _=>exact ⟨by simp,by simp⟩
theorem Ae: ∀R:List Int,(dS R).length≤4*R.length
 | []=>Nat.zero_le _
 | c::R=>by
  have ih:=Ae R
  have e:dS (c::R)=fy c++dS R:=by unfold dS;rw [List.flatMap_cons]
  have:=Ut.mI c
  rw [e,List.length_append,List.length_cons];omega
theorem ao8{R:List Int}(h: ∀c∈R,dH c): ∀c∈R.flatMap tM,dH c:=fun c hc=>by
 obtain ⟨x,hx,hc⟩:=List.mem_flatMap.1 hc
 unfold tM at hc
 split at hc
 ·simp at hc;rcases hc with rfl | rfl<;>exact .inl (by omega)
 ·rw [List.mem_singleton.1 hc];exact h x hx
theorem ac5: ∀R:List Int,(R.flatMap tM).length≤2*R.length
 | []=>Nat.zero_le _
 | c::R=>by
  have ih:=ac5 R
  have:(tM c).length≤2:=by unfold tM;split<;>simp
  rw [List.flatMap_cons,List.length_append,List.length_cons];omega
theorem YT(w:bf)(hz:SzS w.Client.af){R:List Int}(h:Aq R): ∃w',f77 (dS R) w=some w'∧w'.sent=w.sent:=by
 have hr:=aoU h
 have hl:=(Q7 h).1
 have hel:=Ae R
 have p_:=ac5 R
 have aFK:=Ae (R.flatMap tM)
 unfold f77
 rw [az_ _ (by omega),bs,U6 R hr,Ut.Ew [] _ (by simp;omega) (.inl rfl),bs,List.nil_append,K7 _ (ao8 hr)]
 unfold QT f114 KD
 dsimp only []
 rw [show f107 (aR.mk 0 0 [] [] []) (R.flatMap tM)=_ from Pr.Ew (Pr.cG 0) (R.flatMap tM) (by omega) (Pr.nA 0 (by omega) (by omega) (by omega)),bs]
 dsimp only []
 obtain ⟨s',o,n,e⟩:=az9 w.Client.af hz _ (aoV h)
 rw [e,bs,bs]
 exact ⟨_,rfl,rfl⟩
end Go.Proofs.YtimbfadnabfabaaGreatDoor.Pm

namespace Go.Proofs.YtimbfadnabfabaaGreatDoor.Pm
open Go.Proofs.YtimbfadnabfabaaGreatDoor.Args
open Go.ChangeShapes Go.WideShapes Go.ChangeAt Go.RowKit
open Go.Proofs.YtimbfadnabfabaaGreatDoor.Pm.Ut (dH fy ey)
set_option linter.unusedVariables false
set_option linter.unusedSimpArgs false
set_option maxRecDepth 100000
theorem U7(s:List UInt8)(b:Bool)(h:s.length≤100000): ∃o,f11 s b=some o∧o.length≤2*s.length∧(s≠ []→o≠ []):=by
 unfold f11
 cases b with
 | true=>rw [ct];exact ⟨s,rfl,by omega,id⟩
 | false=>
  rw [cf]
  unfold QF
  obtain ⟨r,hr,hp⟩:=gY (body:=Hv s false) (fun k x=> ∃i:Nat,x.2=(i:Int)∧i≤s.length∧k=s.length-i∧x.1.length≤2*i∧(0<i→x.1≠ [])) (fun r=>r.length≤2*s.length∧(s≠ []→r≠ [])) (by
   rintro k ⟨out,_⟩ ⟨i,rfl,hi,rfl,ho,hn⟩
   dsimp only [] at ho hn
   unfold Hv
   dsimp only []
   by_cases hlt:i<s.length
   ·left
    rw [b8 (dt (by omega))]
    unfold rT Cb
    rw [ct,fX s i 0 hlt,bs,nI i (by omega)]
    by_cases q:((s.getD i 0).toNat:Int)=10
    ·rw [b8 (dt q),fj 1 _ _ (by simp;omega),bs]
     exact ⟨_,s.length-(i+1),rfl,by omega,i+1,rfl,by omega,rfl,by simp;omega,fun _=>by simp⟩
    rw [bN (df q)]
    by_cases q2:((s.getD i 0).toNat:Int)=13
    ·rw [b8 (dt q2),fj 1 _ _ (by simp;omega),bs]
     exact ⟨_,s.length-(i+1),rfl,by omega,i+1,rfl,by omega,rfl,by simp;omega,fun _=>by simp⟩
    rw [bN (df q2),bs,fj 1 _ _ (by simp;omega),bs]
    exact ⟨_,s.length-(i+1),rfl,by omega,i+1,rfl,by omega,rfl,by simp;omega,fun _=>by simp⟩
   ·right
    have e:i=s.length:=by omega
    subst e
    rw [bN (df (by omega))]
    unfold rT
    rw [cf]
    exact ⟨_,rfl,ho,fun h0=>hn (List.length_pos_iff.2 h0)⟩) (n:=s.length) (x:=([],0)) ⟨0,rfl,by omega,by omega,by simp,fun h0=>absurd h0 (by omega)⟩
  rw [hr,bs]
  exact ⟨r,rfl,hp⟩
theorem aAb(y:List UInt8)(h:y≠ []):y.flatMap (rb 255 [255,255])≠ []:=by
 cases y with
 | nil=>exact absurd rfl h
 | cons b y=>
  rw [List.flatMap_cons]
  unfold rb
  split<;>simp
theorem ac6: ∀y:List UInt8,(y.flatMap (rb 255 [255,255])).length≤2*y.length
 | []=>Nat.zero_le _
 | b::y=>by
  have ih:=ac6 y
  have:(rb 255 [255,255] b).length≤2:=by unfold rb;split<;>simp
  rw [List.flatMap_cons,List.length_append,List.length_cons];omega
theorem HE(y:List UInt8)(h:y.length≤10000000):f10 y=some (y.flatMap (rb 255 [255,255])):=by
 unfold f10
 rw [avn y h,bs]
theorem avo(w:bf):f46 w [] 0=some (decide (((w.Client.Neg.Us 0).toNat:Int)=1)):=by
 unfold f46
 rw [show jG (0:Int) 256=some 0 from by kernel_rfl,bs]
 cases decide (((w.Client.Neg.Us 0).toNat:Int)=1)<;>rfl
theorem ao9(w:bf):f76 w [] 1=some (decide (((w.Client.Neg.mK 1).toNat:Int)=1)):=by
 unfold f76
 rw [show jG (1:Int) 256=some 1 from by kernel_rfl,bs]
 cases decide (((w.Client.Neg.mK 1).toNat:Int)=1)<;>rfl
theorem ac7(w:bf)(x:List UInt8)(hx:x.length≤100000)(hw:w.sent= []): ∃y o,f11 x (decide (((w.Client.Neg.Us 0).toNat:Int)=1))=some y∧f10 y=some o∧(x≠ []→o≠ [])∧f44 x w=some ⟨w.Client,o⟩:=by
 obtain ⟨y,hy,hl,hn⟩:=U7 x (decide (((w.Client.Neg.Us 0).toNat:Int)=1)) hx
 have he:=HE y (by omega)
 have hel:=ac6 y
 refine ⟨y,_,hy,he,fun h=>aAb y (hn h),?_⟩
 unfold f44
 rw [avo,bs,hy,bs,he,bs,hw,gL _ _ (by rw [List.length_nil];omega),bs,List.nil_append]
theorem ao_(w:bf)(hz:SzS w.Client.af)(hw:w.sent= [])(hE:w.Client.lF=false){R:List Int}(h:Aq R): ∃y o w',f11 (dS R) (decide (((w.Client.Neg.Us 0).toNat:Int)=1))=some y∧f10 y=some o∧(dS R≠ []→o≠ [])∧f42 (dS R) 0 w=some (w',0)∧w'.sent=o∧((w.Client.Neg.mK 1).toNat=1→w'.Client=w.Client):=by
 have hl:=(Q7 h).1
 have hel:=Ae R
 obtain ⟨y,o,hy,ho,hn,e⟩:=ac7 w (dS R) (by omega) hw
 unfold f42 QU Hx
 rw [dt rfl,Bool.not_true,cf,hE,cf,e,bs,ao9,bs]
 by_cases q:((w.Client.Neg.mK 1).toNat:Int)=1
 ·rw [dt q,Bool.not_true,cf]
  exact ⟨y,o,_,hy,ho,hn,rfl,rfl,fun _=>rfl⟩
 ·rw [df q,Bool.not_false,ct]
  obtain ⟨w',e',hs⟩:=YT ⟨w.Client,o⟩ hz h
  rw [e',bs]
  exact ⟨y,o,w',hy,ho,hn,rfl,hs,fun h1=>absurd (by omega) q⟩
end Go.Proofs.YtimbfadnabfabaaGreatDoor.Pm

namespace Go.Proofs.YtimbfadnabfabaaGreatDoor.Pm
open Go.Proofs.YtimbfadnabfabaaGreatDoor.Args
open Go.ChangeShapes Go.WideShapes Go.ChangeAt Go.RowKit
open Go.Proofs.YtimbfadnabfabaaGreatDoor.Pm.Ut (dH fy ey)
set_option linter.unusedVariables false
set_option linter.unusedSimpArgs false
set_option maxRecDepth 100000
structure U8 (c:bg):Prop where
 s:SzS c.af
 n:c.bL.Names.length≤1048576
 v:c.Vars.length≤1048576
theorem avp(l:List (List UInt8))(h:l.length≤1048576):f39 l=some l:=by
 unfold f39
 rw [fj _ _ _ (by simp;omega),bs];rfl
theorem avq(l:List dD)(h:l.length≤1048576):f40 l=some l:=by
 unfold f40
 rw [fj _ _ _ (by simp;omega),bs];rfl
theorem wB(c:bg)(h:U8 c):f14 c=some c:=by
 unfold f14
 rw [Es _ h.s,bs,avp _ h.n,bs,avq _ h.v,bs]
theorem apa{R:List Int}(h:R≠ []):dS R≠ []:=by
 cases R with
 | nil=>exact absurd rfl h
 | cons c R=>
  intro e
  have e1:dS (c::R)=fy c++dS R:=by unfold dS;rw [List.flatMap_cons]
  rw [e1] at e
  have e2:=(List.append_eq_nil_iff.1 e).1
  revert e2
  unfold fy
  cases decide (IntKind.u32.wrap c≤127)<;>cases decide (IntKind.u32.wrap c≤2047)<;>cases (bif decide (IntKind.u32.wrap c<55296) then true else (decide (57343<IntKind.u32.wrap c)&&decide (IntKind.u32.wrap c≤65535)))<;>cases (decide (65535<IntKind.u32.wrap c)&&decide (IntKind.u32.wrap c≤1114111))<;>simp
theorem ac8(c:bg)(x:fT)(hs:U8 c)(n:Int)(hc:f7 c=some n)(hn:n≠0):f5 c x=some (c,[],n):=by
 unfold f5
 rw [hc,bs,df hn,Bool.not_false,ct,wB c hs,bs]
theorem agS(c:bg)(x:fT)(hs:U8 c)(hc:f7 c=some 0)(hx:x.Kind=2)(hk:f8 x.Key c.af.dO=some ([],1)):f5 c x=some (c,[],1):=by
 unfold f5
 rw [hc,bs,dt rfl,Bool.not_true,cf]
 unfold KI
 rw [wB c hs,bs]
 unfold f15
 rw [bN (df (by omega)),b8 (dt hx)]
 dsimp only []
 rw [hk,bs]
 unfold f42
 rw [df (by decide),Bool.not_false,ct,bs,bs]
 dsimp only []
 rw [df (show¬(1:Int)=0 by decide),Bool.not_false,ct,bs]
theorem avr(c:bg)(x:fT)(hs:U8 c)(hE:c.lF=false)(hc:f7 c=some 0)(hx:x.Kind=2){R:List Int}(h:Aq R)(hk:f8 x.Key c.af.dO=some (dS R,0)): ∃y o c',f11 (dS R) (decide (((c.Neg.Us 0).toNat:Int)=1))=some y∧f10 y=some o∧o≠ []∧f5 c x=some (c',o,0)∧((c.Neg.mK 1).toNat=1→c'=c):=by
 obtain ⟨y,o,w',hy,ho,hn,e,hso,hh⟩:=ao_ ⟨c,[]⟩ hs.s rfl hE h
 refine ⟨y,o,w'.Client,hy,ho,hn (apa (Q7 h).2),?_,hh⟩
 unfold f5
 rw [hc,bs,dt rfl,Bool.not_true,cf]
 unfold KI
 rw [wB c hs,bs]
 unfold f15
 rw [bN (df (by omega)),b8 (dt hx)]
 dsimp only []
 rw [hk,bs]
 dsimp only []
 rw [e,bs,bs]
 dsimp only []
 rw [dt rfl,Bool.not_true,cf]
 unfold QV
 rw [hso]
end Go.Proofs.YtimbfadnabfabaaGreatDoor.Pm

namespace Go.Proofs.YtimbfadnabfabaaGreatDoor.Pm
open Go.Proofs.YtimbfadnabfabaaGreatDoor.Args
open Go.ChangeShapes Go.WideShapes Go.ChangeAt Go.RowKit
set_option linter.unusedVariables false
set_option linter.unusedSimpArgs false
set_option maxRecDepth 100000
theorem Af{ρ:Type}{body:Int→Option (Int⊕ρ)}(n:Nat)(h0: ∃r,body (n:Int)=some (.inr r))(h1: ∀i:Nat,i<n→body (i:Int)=some (.inl ((i+1:Nat):Int))∨ ∃r,body (i:Int)=some (.inr r)): ∃r,b9 body 0=some r:=by
 obtain ⟨r,hr,_⟩:=gY (body:=body) (fun k x=> ∃i:Nat,x=(i:Int)∧i≤n∧k=n-i) (fun _=>True) (by
  rintro k x ⟨i,rfl,hi,rfl⟩
  by_cases hlt:i<n
  ·rcases h1 i hlt with e | ⟨r,e⟩
   ·exact .inl ⟨_,n-(i+1),e,by omega,i+1,rfl,by omega,rfl⟩
   ·exact .inr ⟨r,e,trivial⟩
  ·have:i=n:=by omega
   subst this
   obtain ⟨r,e⟩:=h0
   exact .inr ⟨r,e,trivial⟩) (n:=n) (x:=0) ⟨0,rfl,by omega,by omega⟩
 exact ⟨r,hr⟩
theorem agT(w:jY): ∃n,f19 w=some n:=by
 have h2: ∀p q,∃n,oF w p q=some n:=fun p q=>by
  unfold oF
  simp only [Bool.cond_eq_ite]
  repeat' split
  all_goals exact ⟨_,rfl⟩
 have h1: ∀p q,∃n,zg w p q=some n:=fun p q=>by
  unfold zg
  simp only [Bool.cond_eq_ite]
  repeat' split
  all_goals exact h2 _ _
 have h0: ∀p,∃n,zh w p=some n:=fun p=>by
  unfold zh
  simp only [Bool.cond_eq_ite]
  repeat' split
  all_goals exact h1 _ _
 unfold f19
 simp only [Bool.cond_eq_ite]
 repeat' split
 all_goals exact h0 _
theorem agU(e:ru): ∃n,f26 e=some n:=by
 unfold f26
 simp only [Bool.cond_eq_ite]
 split<;>exact ⟨_,rfl⟩
theorem agV(k:g_): ∃n,f25 k=some n:=by
 unfold f25
 obtain ⟨r,hr⟩:=Af (body:=DI k) 19 (by
  unfold DI rP
  rw [bN (df (by omega)),cf]
  exact ⟨_,rfl⟩) (fun i hi=>by
  unfold DI rP B8
  rw [b8 (dt (by omega)),ct,iL i 19 hi,bs,nI i (by omega)]
  simp only [Bool.cond_eq_ite]
  split
  ·exact .inr ⟨_,rfl⟩
  ·exact .inl rfl)
 rw [hr,bs]
 cases r with
 | inl u=>
  rw [Sum.elim_inl]
  unfold Qq
  simp only [Bool.cond_eq_ite]
  repeat' split
  all_goals exact ⟨_,rfl⟩
 | inr u=>exact ⟨_,rfl⟩
theorem agW(a:eT): ∃n,f23 a=some n:=by
 rcases UB a with ⟨_,e⟩ | ⟨_,e⟩
 ·exact ⟨_,e⟩
 ·exact ⟨_,e⟩
theorem agX(s:aA)(h:s.bn.length≤1048576): ∃n,f22 s=some n:=by
 rcases Cm s h with e | ⟨e,_⟩
 ·exact ⟨_,e⟩
 ·exact ⟨_,e⟩
theorem agY(s:List UInt8)(h:s.length≤10000000): ∃n,f20 s=some n:=by
 by_cases q:Ut.Bv s
 ·exact ⟨_,Ut.iU s h q⟩
 ·exact ⟨_,Ut.YO s h q⟩
theorem agZ(p:aR)(h:p.Inter.length≤10000000)(hA:p.Args.length≤10000000): ∃n,f21 p=some n:=⟨_,Pr.iU p h hA⟩
theorem ag0(s:List UInt8)(h:s.length≤1048576): ∃b,f63 s=some b:=by
 unfold f63
 obtain ⟨r,hr⟩:=Af (body:=Dz s) s.length (by
  unfold Dz rM
  rw [bN (df (by omega)),cf]
  exact ⟨_,rfl⟩) (fun i hi=>by
  unfold Dz rM B5
  rw [b8 (dt (by omega)),ct,fX s i 0 hi,bs,bs,nI i (by omega)]
  simp only [Bool.cond_eq_ite]
  repeat' split
  ·exact .inr ⟨_,rfl⟩
  ·exact .inr ⟨_,rfl⟩
  ·exact .inl rfl)
 rw [hr,bs]
 cases r with
 | inl u=>
  rw [Sum.elim_inl]
  unfold Qi
  simp only [Bool.cond_eq_ite]
  repeat' split
  all_goals exact ⟨_,rfl⟩
 | inr u=>exact ⟨_,rfl⟩
theorem apb(l:List (List UInt8))(x:List UInt8)(h:l.length≤1048576): ∃b,f64 l x=some b:=by
 unfold f64 f93
 obtain ⟨r,hr⟩:=Af (body:=DC l x) l.length (by
  unfold DC rN
  rw [bN (df (by omega)),cf]
  exact ⟨_,rfl⟩) (fun i hi=>by
  unfold DC rN B6
  rw [b8 (dt (by omega)),ct,fX l i [] hi,bs,nI i (by omega)]
  simp only [Bool.cond_eq_ite]
  split
  ·exact .inr ⟨_,rfl⟩
  ·exact .inl rfl)
 rw [hr,bs]
 cases r with
 | inl u=>rw [Sum.elim_inl,bs];simp only [Bool.cond_eq_ite];split<;>exact ⟨_,rfl⟩
 | inr u=>rw [Sum.elim_inr,bs];simp only [Bool.cond_eq_ite];split<;>exact ⟨_,rfl⟩
theorem apc{α:Type}(l:List α)(i:Nat)(h:i≤l.length):pW l 0 (i:Int)=some (l.take i):=by
 unfold pW
 rw [if_pos ⟨by omega,by omega,by omega⟩]
 rfl
theorem ag1(a:cu)(h:a.Names.length≤1048576)(hn: ∀x∈a.Names,x.length≤1048576): ∃n,f24 a=some n:=by
 unfold f24
 obtain ⟨r,hr⟩:=Af (body:=DF a) a.Names.length (by
  unfold DF rO
  rw [bN (df (by omega)),cf]
  exact ⟨_,rfl⟩) (fun i hi=>by
  unfold DF rO B7
  have e:a.Names.getD i []=a.Names[i]:=by simp [hi]
  obtain ⟨b,hb⟩:=ag0 (a.Names.getD i []) (by rw [e];exact hn _ (List.getElem_mem hi))
  obtain ⟨d,hd⟩:=apb (a.Names.take i) (a.Names.getD i []) (by rw [List.length_take];omega)
  rw [b8 (dt (by omega)),ct,fX a.Names i [] hi,bs,hb,bs,nI i (by omega),apc a.Names i (by omega)]
  cases b with
  | false=>exact .inr ⟨_,rfl⟩
  | true=>
   rw [Bool.not_true,cf,bs,hd,bs]
   cases d with
   | true=>exact .inr ⟨_,rfl⟩
   | false=>exact .inl rfl)
 have hj: ∃n,Hr a=some n:=by
  unfold Hr
  rw [hr,bs]
  cases r with
  | inl u=>
   rw [Sum.elim_inl]
   unfold Qn
   simp only [Bool.cond_eq_ite]
   repeat' split
   all_goals exact ⟨_,rfl⟩
  | inr u=>exact ⟨_,rfl⟩
 simp only [Bool.cond_eq_ite]
 repeat' split
 ·exact ⟨_,rfl⟩
 ·exact ⟨_,rfl⟩
 ·exact hj
end Go.Proofs.YtimbfadnabfabaaGreatDoor.Pm

namespace Go.Proofs.YtimbfadnabfabaaGreatDoor.Pm
open Go.Proofs.YtimbfadnabfabaaGreatDoor.Args
open Go.ChangeShapes Go.WideShapes Go.ChangeAt Go.RowKit
set_option linter.unusedVariables false
set_option linter.unusedSimpArgs false
set_option maxRecDepth 100000
def V0:dD:=⟨[],[],false,false⟩
theorem apd(l:List dD)(h:l.length≤1048576):f50 l=some true∨(f50 l=some false∧ ∀i,i<l.length→(l.getD i V0).Name.length≤200∧(l.getD i V0).Value.length≤200):=by
 unfold f50 f84
 have hv: ∀v:dD,f51 v=some (decide (200<v.Name.length) || decide (200<v.Value.length)):=fun v=>by
  unfold f51
  by_cases q1:200<v.Name.length
  ·rw [b8 (dt (by omega)),dt q1];rfl
  ·rw [bN (df (by omega)),df q1,Bool.false_or]
   by_cases q2:200<v.Value.length
   ·rw [b8 (dt (by omega)),dt q2]
   ·rw [bN (df (by omega)),df q2]
 obtain ⟨r,hr,hp⟩:=aoB (body:=C8 l) h (fun i=>decide (200<(l.getD i V0).Name.length) || decide (200<(l.getD i V0).Value.length)) (by
  unfold C8 rz
  rw [bN (df (by omega)),cf]) (fun i hi=>by
  unfold C8 rz BR
  rw [b8 (dt (by omega)),ct,fX l i V0 hi,bs,hv,bs,nI i (by omega)]
  cases (decide (200<(l.getD i V0).Name.length) || decide (200<(l.getD i V0).Value.length)) with
  | true=>rw [ct,if_pos rfl]
  | false=>rw [cf,if_neg (by decide)])
 rw [hr,bs]
 rcases hp with ⟨rfl,hq⟩ | ⟨i,rfl⟩
 ·right
  refine ⟨rfl,fun i hi=>?_⟩
  have:=hq i hi
  rw [Bool.or_eq_false_iff,decide_eq_false_iff_not,decide_eq_false_iff_not] at this
  omega
 ·left
  rw [Sum.elim_inr,bs,b8 (dt (by omega))]
theorem Ou(n out:List UInt8)(hn:n.length≤1000)(ho:out.length≤1000000): ∃r,f52 n out=some r∧r.length≤out.length+2*n.length:=by
 unfold f52
 obtain ⟨r,hr,hp⟩:=gY (body:=Hh n out) (fun k x=> ∃i:Nat,x.2=(i:Int)∧i≤n.length∧k=n.length-i∧x.1.length≤out.length+2*i) (fun r=>r.length≤out.length+2*n.length) (by
  rintro k ⟨o,_⟩ ⟨i,rfl,hi,rfl,hl⟩
  dsimp only [] at hl
  unfold Hh
  dsimp only []
  by_cases hlt:i<n.length
  ·left
   have j3: ∀p:List UInt8,p.length≤o.length+1→rA n out p (i:Int) (i:Int)=some (.inl (p++ [n.getD i 0],((i+1:Nat):Int))):=fun p hp=>by
    unfold rA
    rw [fX n i 0 hlt,bs,fj 1 _ _ (by simp;omega),bs,nI i (by omega)]
   rw [b8 (dt (by omega))]
   unfold rC BS
   rw [ct,fX n i 0 hlt,bs]
   by_cases q:((n.getD i 0).toNat:Int)≤3
   ·rw [b8 (dt q),fj 1 _ _ (by simp;omega),bs,j3 _ (by simp)]
    exact ⟨_,n.length-(i+1),rfl,by omega,i+1,rfl,by omega,rfl,by simp;omega⟩
   ·rw [bN (df q),j3 _ (by omega)]
    exact ⟨_,n.length-(i+1),rfl,by omega,i+1,rfl,by omega,rfl,by simp;omega⟩
  ·right
   have e:i=n.length:=by omega
   subst e
   rw [bN (df (by omega))]
   unfold rC
   rw [cf]
   exact ⟨_,rfl,hl⟩) (n:=n.length) (x:=(out,0)) ⟨0,rfl,by omega,by omega,by simp⟩
 rw [hr,bs]
 exact ⟨r,rfl,hp⟩
theorem ape(l:List dD): ∃r,f18 l=some r:=by
 unfold f18
 by_cases q:20<l.length
 ·rw [b8 (dt (by omega))];exact ⟨_,rfl⟩
 rw [bN (df (by omega))]
 rcases apd l (by omega) with e | ⟨e,hb⟩
 ·rw [e,bs,ct];exact ⟨_,rfl⟩
 rw [e,bs,cf]
 unfold PI
 obtain ⟨r,hr,_⟩:=gY (body:=Hl l) (fun k x=> ∃i:Nat,x.2=(i:Int)∧i≤l.length∧k=l.length-i∧x.1.length≤802*i) (fun _=>True) (by
  rintro k ⟨o,_⟩ ⟨i,rfl,hi,rfl,hl⟩
  dsimp only [] at hl
  unfold Hl
  dsimp only []
  by_cases hlt:i<l.length
  ·obtain ⟨b1,b2⟩:=hb i hlt
   have j5: ∀c:UInt8,∃y m,rD l o (l.getD i V0) c (i:Int)=some (.inl y)∧m<l.length-i∧ ∃j:Nat,y.2=(j:Int)∧j≤l.length∧m=l.length-j∧y.1.length≤802*j:=fun c=>by
    unfold rD
    obtain ⟨r1,e1,l1⟩:=Ou (l.getD i V0).Name (o++ [c]) (by omega) (by simp;omega)
    rw [List.length_append,List.length_singleton] at l1
    rw [fj 1 _ _ (by simp;omega),bs,e1,bs,nI i (by omega)]
    cases (l.getD i V0).Set with
    | false=>
     rw [cf]
     exact ⟨_,l.length-(i+1),rfl,by omega,i+1,rfl,by omega,rfl,by dsimp only [];omega⟩
    | true=>
     obtain ⟨r2,e2,l2⟩:=Ou (l.getD i V0).Value (r1++ [1]) (by omega) (by simp;omega)
     rw [List.length_append,List.length_singleton] at l2
     rw [ct,fj 1 _ _ (by simp;omega),bs,e2,bs]
     exact ⟨_,l.length-(i+1),rfl,by omega,i+1,rfl,by omega,rfl,by dsimp only [];omega⟩
   have j4: ∃y m,rE l o (l.getD i V0) (i:Int)=some (.inl y)∧m<l.length-i∧ ∃j:Nat,y.2=(j:Int)∧j≤l.length∧m=l.length-j∧y.1.length≤802*j:=by
    unfold rE
    cases (l.getD i V0).Zx
    ·exact j5 0
    ·exact j5 3
   rw [b8 (dt (by omega))]
   unfold rF BU
   rw [ct,fX l i V0 hlt,bs]
   cases (l.getD i V0).Set with
   | true=>rw [Bool.not_true,cf];exact .inl j4
   | false=>
    rw [Bool.not_false,ct]
    by_cases q3:(l.getD i V0).Value= []
    ·rw [dt q3,Bool.not_true,cf];exact .inl j4
    ·rw [df q3,Bool.not_false,ct];exact .inr ⟨_,rfl,trivial⟩
  ·right
   rw [bN (df (by omega))]
   unfold rF
   rw [cf]
   exact ⟨_,rfl,trivial⟩) (n:=l.length) (x:=([],0)) ⟨0,rfl,by omega,by omega,by simp⟩
 rw [hr,bs]
 cases r<;>exact ⟨_,rfl⟩
structure SzK (c:bg):Prop where
 z:U8 c
 n: ∀x∈c.bL.Names,x.length≤1048576
 p:c.Part.length≤10000000
 i:c.dX.Inter.length≤10000000
 a:c.dX.Args.length≤10000000
theorem ag2(c:bg)(h:SzK c): ∃n,f7 c=some n∧(n=0∨n=4):=by
 unfold f7
 obtain ⟨z1,e1⟩:=ape c.Vars
 obtain ⟨z2,e2⟩:=agT c.iF
 obtain ⟨z3,e3⟩:=agY c.Part h.p
 obtain ⟨z4,e4⟩:=agZ c.dX h.i h.a
 obtain ⟨z5,e5⟩:=agX c.af h.z.s.p
 obtain ⟨z6,e6⟩:=agW c.Neg
 obtain ⟨z7,e7⟩:=ag1 c.bL h.z.n h.n
 obtain ⟨z8,e8⟩:=agV c.Keys
 obtain ⟨z9,e9⟩:=agU c.gS
 rw [e1,bs,e2,bs,e3,bs,e4,bs,e5,bs,e6,bs,e7,bs,e8,bs,e9,bs]
 obtain ⟨r,hr,hp⟩:=gY (body:=Qu c) (fun k x=> ∃i:Nat,x.2=(i:Int)∧i≤9∧k=9-i) (fun r=>r= .inl ()∨r= .inr 4) (by
  rintro k ⟨f,_⟩ ⟨i,rfl,hi,rfl⟩
  unfold Qu
  dsimp only []
  by_cases hlt:i<9
  ·rw [b8 (dt (by omega))]
   unfold uI E_
   rw [ct,iL i 9 hlt,bs,nI i (by omega)]
   by_cases q:f i=0
   ·rw [dt q,Bool.not_true,cf]
    exact .inl ⟨_,9-(i+1),rfl,by omega,i+1,rfl,by omega,rfl⟩
   ·rw [df q,Bool.not_false,ct]
    exact .inr ⟨_,rfl,.inr rfl⟩
  ·right
   rw [bN (df (by omega))]
   unfold uI
   rw [cf]
   exact ⟨_,rfl,.inl rfl⟩) (n:=9) (x:=((fun i=>([z2,z3,z4,z5,z6,z7,z1.2,z8,z9]:List Int).getD i 0),0)) ⟨0,rfl,by omega,by omega⟩
 rw [hr,bs]
 rcases hp with rfl | rfl
 ·exact ⟨0,rfl,.inl rfl⟩
 ·exact ⟨4,rfl,.inr rfl⟩
end Go.Proofs.YtimbfadnabfabaaGreatDoor.Pm

namespace Go.Proofs.YtimbfadnabfabaaGreatDoor.Pm
open Go.Proofs.YtimbfadnabfabaaGreatDoor.Args
open Go.ChangeShapes Go.WideShapes Go.ChangeAt Go.RowKit
set_option linter.unusedVariables false
set_option linter.unusedSimpArgs false
set_option maxRecDepth 100000
theorem aDg(x:Int): -9223372036854775808≤IntKind.i64.wrap x∧IntKind.i64.wrap x≤9223372036854775807:=by
 rw [IntKind.wrap_i64];omega
theorem YU(x:Int): ∃s,dm (IntKind.i64.wrap x)=some s∧s.length≤21:=by
 have h:=aDg x
 exact ⟨_,by unfold dm;rw [if_pos h],Lib.itoa_length_le _ h.1 h.2⟩
def GF(o:Option (List UInt8×Int)):Prop:= ∃y g,o=some (y,g)∧y.length≤1000∧(g≠0→y= [])
theorem ac9(m:cK)(k p:Int)(e:UInt8):GF (KF m k (IntKind.i64.wrap p) [e]):=by
 obtain ⟨s1,e1,l1⟩:=YU p
 obtain ⟨s2,e2,l2⟩:=YU (m.cQ+1)
 obtain ⟨s3,e3,l3⟩:=YU (m.Row+1)
 unfold KF
 rw [e1,bs,gL _ _ (by simp;omega),bs,gL _ _ (by simp;omega),bs,e2,bs,gL _ _ (by simp;omega),bs,gL _ _ (by simp;omega),bs,e3,bs,gL _ _ (by simp;omega),bs,gL _ _ (by simp;omega),bs]
 exact ⟨_,_,rfl,by simp;omega,fun h=>absurd rfl h⟩
theorem avs(m:cK)(k:Int)(b:Bool)(p:Int):GF (Fi m k b p):=by
 unfold Fi YA
 cases b
 ·exact ⟨_,_,rfl,by simp,fun h=>absurd rfl h⟩
 ·cases m.Up
  ·exact ac9 m k _ 77
  ·exact ac9 m k _ 109
theorem avt(m:cK)(k:Int)(b:Bool):GF (KG m k b):=by
 unfold KG
 simp only [Bool.cond_eq_ite]
 repeat' split
 all_goals exact avs m k b _
theorem avu(m:cK)(k:Int)(a b:Bool):GF (jh m k a b):=by
 unfold jh
 have nn: ∀g:Int,GF (some ([],g)):=fun g=>⟨[],g,rfl,by simp,fun _=>rfl⟩
 simp only [Bool.cond_eq_ite]
 repeat' split
 all_goals first
  | exact nn _
  | exact avt m k _
theorem avv(m:cK)(k:Int)(a b:Bool):GF (KH m k a b):=by
 unfold KH
 simp only [Bool.cond_eq_ite]
 repeat' split
 all_goals exact avu m k _ _
theorem YV(m:cK)(k:Int):GF (f9 m k):=by
 have h0: ∀b,GF (Fk m k b):=fun b=>by
  unfold Fk
  simp only [Bool.cond_eq_ite]
  split<;>exact avv m k _ _
 unfold f9
 simp only [Bool.cond_eq_ite]
 repeat' split
 all_goals exact h0 _
theorem ag3(c:bg)(x:fT)(hs:U8 c)(hc:f7 c=some 0)(hx:x.Kind=3): ∃y g,f9 x.kE c.af.dO=some (y,g)∧((g=0∧ ∃z o,f11 y (decide (((c.Neg.Us 0).toNat:Int)=1))=some z∧f10 z=some o∧f5 c x=some (c,o,0))∨(g≠0∧y= []∧f5 c x=some (c,[],g))):=by
 obtain ⟨y,g,hm,hl,hn⟩:=YV x.kE c.af.dO
 refine ⟨y,g,hm,?_⟩
 unfold f5
 rw [hc,bs,dt rfl,Bool.not_true,cf]
 unfold KI
 rw [wB c hs,bs]
 unfold f15
 rw [bN (df (by omega)),bN (df (by omega)),bN (df (by omega)),b8 (dt hx)]
 dsimp only []
 rw [hm,bs]
 by_cases q:g=0
 ·left
  refine ⟨q,?_⟩
  obtain ⟨z,o,hz,ho,_,e⟩:=ac7 ⟨c,[]⟩ y (by omega) rfl
  refine ⟨z,o,hz,ho,?_⟩
  subst q
  dsimp only []
  rw [b8 (dt rfl),e,bs,bs]
  dsimp only []
  rw [dt rfl,Bool.not_true,cf]
  unfold QV
  rfl
 ·right
  refine ⟨q,hn q,?_⟩
  dsimp only []
  rw [bN (df q),bs]
  dsimp only []
  rw [df q,Bool.not_false,ct,bs]
end Go.Proofs.YtimbfadnabfabaaGreatDoor.Pm

namespace Go.Proofs.YtimbfadnabfabaaGreatDoor.Pm
open Go.Proofs.YtimbfadnabfabaaGreatDoor.Args
open Go.ChangeShapes Go.WideShapes Go.ChangeAt Go.RowKit
set_option linter.unusedVariables false
set_option linter.unusedSimpArgs false
set_option maxRecDepth 100000
end Go.Proofs.YtimbfadnabfabaaGreatDoor.Pm

namespace Go.Proofs.YtimbfadnabfabaaGreatDoor.Pm
open Go.Proofs.YtimbfadnabfabaaGreatDoor.Args
open Go.ChangeShapes Go.WideShapes Go.ChangeAt Go.RowKit
set_option linter.unusedVariables false
set_option linter.unusedSimpArgs false
set_option maxRecDepth 100000
theorem U9(b:Bool):f11 [] b=some []:=by
 obtain ⟨o,e,l,_⟩:=U7 [] b (by simp)
 have h0:o= []:=List.eq_nil_of_length_eq_zero (by rw [List.length_nil] at l;omega)
 rw [e,h0]
theorem U_:f10 []=some []:=by
 rw [HE [] (by simp)];rfl
def bin(c:bg):Bool:=decide (((c.Neg.Us 0).toNat:Int)=1)
theorem avw(c:bg)(x:fT)(h:U8 c)(hE:c.lF=false)(hx:x.Kind=2)(hc:f7 c=some 0): ∃X e y s a,f8 x.Key c.af.dO=some (X,e)∧f11 X (bin c)=some y∧f10 y=some s∧f5 c x=some (a,s,e):=by
 rcases avh x.Key c.af.dO with ⟨R,hR,hk⟩ | hk
 ·obtain ⟨y,o,c1,hy,ho,_,e1,_⟩:=avr c x h hE hc hx hR hk
  exact ⟨_,_,y,o,c1,hk,hy,ho,e1⟩
 ·exact ⟨_,_,[],[],c,hk,U9 _,U_,agS c x h hc hx hk⟩
theorem ag4(c:bg)(x:fT)(h:U8 c)(hx:x.Kind=3)(hc:f7 c=some 0): ∃X e y s a,f9 x.kE c.af.dO=some (X,e)∧f11 X (bin c)=some y∧f10 y=some s∧f5 c x=some (a,s,e):=by
 obtain ⟨X,g,hm,⟨rfl,z,o,hz,ho,e⟩ | ⟨hg,rfl,e⟩⟩:=ag3 c x h hc hx
 ·exact ⟨X,0,z,o,c,hm,hz,ho,e⟩
 ·exact ⟨[],g,[],[],c,hm,U9 _,U_,e⟩
theorem ag5(c:bg)(x z:fT)(h:SzK c)(hE:c.lF=false)(hx:x.Kind=2)(hz:z.Kind=3):
  (f7 c=some 4∧(∃a s,f5 c x=some (a,s,4))∧ ∃b t,f5 c z=some (b,t,4))∨
  (f7 c=some 0∧(∃X e y s a,f8 x.Key c.af.dO=some (X,e)∧f11 X (bin c)=some y∧f10 y=some s∧f5 c x=some (a,s,e))∧ ∃Y f y t b,f9 z.kE c.af.dO=some (Y,f)∧f11 Y (bin c)=some y∧f10 y=some t∧f5 c z=some (b,t,f)):=by
 obtain ⟨n,hn,rfl | rfl⟩:=ag2 c h
 ·exact .inr ⟨hn,avw c x h.z hE hx hn,ag4 c z h.z hz hn⟩
 ·exact .inl ⟨hn,⟨_,_,ac8 c x h.z 4 hn (by decide)⟩,⟨_,_,ac8 c z h.z 4 hn (by decide)⟩⟩
end Go.Proofs.YtimbfadnabfabaaGreatDoor.Pm

namespace Go.Proofs.YtimbfadnabfabaaGreatDoor.Pm
open Go.Proofs.YtimbfadnabfabaaGreatDoor.Args
open Go.ChangeShapes Go.WideShapes Go.ChangeAt Go.RowKit
set_option linter.unusedVariables false
set_option linter.unusedSimpArgs false
set_option maxRecDepth 100000
theorem topModes(a1:bg)(a2:dW)(a3:cK)(h:SzK a1):f3 a1 a2 a3=some true:=by
 have lv:oc=some true:=rfl
 have hc:SzK ({a1 with lF:=false}:bg):=⟨⟨h.z.s,h.z.n,h.z.v⟩,h.n,h.p,h.i,h.a⟩
 unfold f3
 rcases ag5 {a1 with lF:=false} (fT.mk 2 [] a2 (cK.mk 0 0 0 0 false) [] 0 0 false 0 false) (fT.mk 3 [] (dW.mk 0 0 0) a3 [] 0 0 false 0 false) hc rfl rfl rfl with ⟨hk,⟨a,s,e1⟩,b,t,e2⟩ | ⟨hk,⟨X,e,y,s,a,p1,p2,p3,e1⟩,Y,f,z,t,b,q1,q2,q3,e2⟩
 ·rw [e1,bs,e2,bs,lv,bs,Bool.not_true,cf,hk,bs,df (show¬(4:Int)=0 by decide),Bool.not_false,ct]
  unfold QX
  dsimp only []
  rw [lv,bs,ct,dt rfl,ct,ct]
 ·rw [e1,bs,e2,bs,lv,bs,Bool.not_true,cf,hk,bs,dt rfl,Bool.not_true,cf]
  dsimp only []
  have hj:QW a1 a2 a3 s e t f=KJ a1 a2 a3 s e t f (bin a1):=by
   unfold QW bin
   cases decide (((a1.Neg.Us 0).toNat:Int)=1)
   ·rw [cf]
   ·rw [ct]
  rw [hj]
  unfold KJ
  rw [show f8 a2 a1.af.dO=some (X,e) from p1,bs,show f9 a3 a1.af.dO=some (Y,f) from q1,bs,dt rfl,ct,dt rfl,ct]
  dsimp only []
  rw [show f11 X (bin a1)=some y from p2,bs,p3,bs,dt rfl,ct,show f11 Y (bin a1)=some z from q2,bs,q3,bs,dt rfl,ct]
end Go.Proofs.YtimbfadnabfabaaGreatDoor.Pm

namespace Go.Proofs.YtimbfadnabfabaaGreatDoor.Pm
open Go.Proofs.YtimbfadnabfabaaGreatDoor.Args
open Go.ChangeShapes Go.WideShapes Go.ChangeAt Go.RowKit
set_option maxRecDepth 100000
theorem apv{w:World}(hsh:w.ShapedOpen Go.Proofs.Tryz.prog): ∃m,w.cell? ⟨1,0,none⟩=some (.int .i64 m):=
 cell_of_shapedOpen_int (t:=3) (zero:= #[.int .i64 0]) hsh (of_decide_eq_true (by kernel_rfl)) (by kernel_rfl) rfl (by kernel_rfl) (by kernel_rfl) (by kernel_rfl)
theorem aAH{w:World}(hL:laidMetH Go.Proofs.Tryz.prog Rows.topModesUptoRow.laid w):Lib.TabIs Go.Proofs.Tryz.prog w "internal/strconv.uint64pow10" .u64 Lib.pow10Tab:=by
 have h:=hL.filter (fun x=>x.1== "internal/strconv.uint64pow10")
 have e:(Rows.topModesUptoRow.laid.filter fun x=>x.1== "internal/strconv.uint64pow10")= [("internal/strconv.uint64pow10",Lib.tabData .u64 Lib.pow10Tab)]:=by kernel_rfl
 rw [e] at h
 have h2:=(laidMetH_iff.1 h).1
 have e2:(([("internal/strconv.uint64pow10",Lib.tabData .u64 Lib.pow10Tab)]:List (String×DataW Unit)).filter fun x=>x.2.handleName?.isNone)= [("internal/strconv.uint64pow10",Lib.tabData .u64 Lib.pow10Tab)]:=by kernel_rfl
 rw [e2] at h2
 exact Lib.tabIs_of_head rfl rfl rfl rfl rfl rfl h2
theorem avG{w:World}(hL:laidMetH Go.Proofs.Tryz.prog Rows.topModesUptoRow.laid w):Lib.Utf8Tabs 2 3 w:=by
 have h:=hL.filter (fun x=>x.1== "unicode/utf8.acceptRanges" || x.1== "unicode/utf8.first")
 have e:(Rows.topModesUptoRow.laid.filter fun x=>x.1== "unicode/utf8.acceptRanges" || x.1== "unicode/utf8.first")= [("unicode/utf8.acceptRanges",Lib.acceptData),("unicode/utf8.first",Lib.firstData)]:=by kernel_rfl
 rw [e] at h
 have h2:=(laidMetH_iff.1 h).1
 have e2:(([("unicode/utf8.acceptRanges",Lib.acceptData),("unicode/utf8.first",Lib.firstData)]:List (String×DataW Unit)).filter fun x=>x.2.handleName?.isNone)= [("unicode/utf8.acceptRanges",Lib.acceptData),("unicode/utf8.first",Lib.firstData)]:=by kernel_rfl
 rw [e2] at h2
 exact utf8Tabs_of_readsT (ρ:=Go.Proofs.Tryz.EE) {Go.Proofs.Tryz.Ve with} ⟨by kernel_rfl,by kernel_rfl,by kernel_rfl,by kernel_rfl,by kernel_rfl,by kernel_rfl,by kernel_rfl⟩ (Lib.laidMet.reads h2 (.tail _ (.head _))) (Lib.laidMet.reads h2 (.head _))
theorem avH{a:bg}(hv:V55 (some 1048576) a):SzK a:=by
 have hs:=hv.2.2.2.2.1
 have hn:=hv.2.2.2.2.2.2.1.1
 have hp:=hv.2.2.2.1
 refine ⟨⟨⟨?_,?_,?_,fun x hx=>?_⟩,?_,?_⟩,fun x hx=>?_,?_,?_,?_⟩
 ·have:=hs.1.2.2.1;unfold gR at this;omega
 ·have:=hs.2.2.2.2.2.2.2.2.2.2.2.2.1.2.2.1;unfold gR at this;omega
 ·have:=hs.2.2.2.2.2.2.2.2.2.2.2.2.2.2.1;unfold gR at this;omega
 ·have:=(hs.2.2.2.2.2.2.2.2.2.2.2.2.2.2.2 x hx).1;unfold gR at this;omega
 ·have:=hn.1;unfold gR at this;omega
 ·have:=hv.2.2.2.2.2.2.2.1.1;unfold gR at this;omega
 ·have:=(hn.2 x hx).2;unfold gR at this;omega
 ·have:=hv.2.2.1.2;unfold gR at this;omega
 ·have:=hp.2.2.1.2;unfold gR at this;omega
 ·have:=hp.2.2.2.1.2;unfold gR at this;omega
theorem TopModes_walk(v0 v1 v2:Value)(w:World)(h0:Arg (some 1048576) Go.Proofs.Tryz.prog w 55 v0)(h1:Arg (some 1048576) Go.Proofs.Tryz.prog w 57 v1)(h2:Arg (some 1048576) Go.Proofs.Tryz.prog w 59 v2)(hsh:w.ShapedOpen Go.Proofs.Tryz.prog)(hL:laidMetH Go.Proofs.Tryz.prog Rows.topModesUptoRow.laid w):Calls Go.Proofs.Tryz.prog 3 #[v0,v1,v2] w fun e w'=>e= .returned (.bool true)∧Below w.heap.size w w':=
 G4 (some 1048576) (fun a b c ha _ _=>topModes a b c (avH ha)) v0 v1 v2 w h0 h1 h2 (apv hsh) (aAH hL) (avG hL)
end Go.Proofs.YtimbfadnabfabaaGreatDoor.Pm

