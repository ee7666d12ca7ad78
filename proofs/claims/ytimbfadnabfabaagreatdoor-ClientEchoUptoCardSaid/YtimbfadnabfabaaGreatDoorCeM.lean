/- sOf usual_ok blk_rt size_ok cloneR check_ok gcode_ok gcode0 known_ok pen_ok width_ok wd_cases inR_nat qchk_eq lone_ok scr_check putin_ok shiftin_ok scrollin_ok row_ok rowL rowL_len next_ok back_ok cursor_ok lim_ok tcol snew_ok tset_ok get_ok pos_ok save_ok restore_ok mkL_len repL_len sub_nat size_le cloneS actions_ok loop_to idx_nat wr1 chk3 KS.kt KS.w KS.tr KT.w same_grid same_cells: what the typed functions compute, and the laws. -/
import Derived.Test.YtimbfadnabfabaaGreatDoorDMoO
import Derived.Test.YtimbfadnabfabaaGreatDoorBas
import Derived.Lib.LaidU8T
import Derived.MakeChecks
import Derived.LaidSub
import Derived.Test.YtimbfadnabfabaaGreatDoorRows
import Derived.Lib.ItoaLen
import Derived.Test.YtimbfadnabfabaaGreatDoorDMoZ
namespace Go.Proofs.YtimbfadnabfabaaGreatDoor.Pm
open Go.Proofs.YtimbfadnabfabaaGreatDoor.Args
open Go.ChangeShapes Go.WideShapes Go.ChangeAt Go.RowKit
set_option linter.unusedVariables false
set_option linter.unusedSimpArgs false
set_option maxRecDepth 100000
theorem iN(i n:Nat)(h:i<n):jO (i:Int) n=some i:=by unfold jO;rw [if_pos (by omega)];simp
theorem j7{σ ρ:Type}{body:σ→Option (σ⊕ρ)}(f:Nat→σ)(r:ρ)(n:Nat)(hn:body (f n)=some (.inr r)): ∀k,k≤n→(∀i,k≤i→i<n→body (f i)=some (.inl (f (i+1))))→b9 body (f k)=some r:=by
 intro k hk h
 induction hd:n-k generalizing k with
 | zero=>
  have:k=n:=by omega
  subst this;exact dK hn
 | succ d ih=>exact fM (h k (by omega) (by omega)) (ih (k+1) (by omega) (fun i h1 h2=>h i (by omega) h2) (by omega))
theorem C8(P:Nat→Bool): ∀n,(∀i,i<n→P i=true)∨ ∃k,k<n∧P k=false∧ ∀i,i<k→P i=true
 | 0=> .inl fun i h=>absurd h (by omega)
 | n+1=>by
  rcases C8 P n with h | ⟨k,h1,h2,h3⟩
  ·cases hp:P n with
   | true=>exact .inl fun i hi=>by rcases Nat.lt_succ_iff_lt_or_eq.1 hi with h' | rfl;exact h i h';exact hp
   | false=>exact .inr ⟨n,by omega,hp,h⟩
  ·exact .inr ⟨k,by omega,h2,h3⟩
theorem xM{σ ρ:Type}{body:σ→Option (σ⊕ρ)}(f:Nat→σ)(r0 r1:ρ)(n:Nat)(P:Nat→Bool)(h1: ∀i,i<n→P i=true→body (f i)=some (.inl (f (i+1))))(h2: ∀i,i<n→P i=false→body (f i)=some (.inr r1))
  (h0:body (f n)=some (.inr r0)):b9 body (f 0)=some (if∀i,i<n→P i=true then r0 else r1):=by
 rcases C8 P n with h | ⟨k,hk,hb,hg⟩
 ·rw [if_pos h];exact j7 f r0 n h0 0 (by omega) fun i _ hi=>h1 i hi (h i hi)
 ·rw [if_neg (fun h=>by rw [h k hk] at hb;cases hb)]
  exact j7 f r1 k (h2 k hk hb) 0 (by omega) fun i _ hi=>h1 i (by omega) (hg i hi)
theorem nX(i:Nat)(h:i<1000000000):IntKind.i64.wrap ((i:Int)+1)=((i+1:Nat):Int):=by rw [gu _ (by omega)];omega
theorem dt{p:Prop} [Decidable p](h:p):decide p=true:=decide_eq_true h
theorem df{p:Prop} [Decidable p](h: ¬p):decide p=false:=decide_eq_false h
theorem bT{α:Type}{b:Bool}{x y:α}(h:b=true):(bif b then x else y)=x:=by rw [h,ct]
theorem bV{α:Type}{b:Bool}{x y:α}(h:b=false):(bif b then x else y)=y:=by rw [h,cf]
theorem fO{α:Type}(l:List α)(i:Nat)(z:α)(h:i<l.length):idx l (i:Int)=some (l.getD i z):=by
 unfold idx;rw [if_pos (by omega)];simp [h]
def hit(a:Int)(x:Int×Int):Bool:=decide (x.1≤a)&&decide (a≤x.2)
theorem aq6(a:Int)(l:List (Int×Int))(hl:l.length≤1000):f126 a l=some (l.any (hit a)):=by
 unfold f126
 have h:=xM (body:=sG a l) (fun i=>(i:Int)) (.inl ()) (.inr true) l.length (fun i=> !(hit a (l.getD i (0,0)))) ?_ ?_ ?_
 ·rw [show ((0:Nat):Int)=0 from rfl] at h
  rw [h,bs]
  by_cases hp: ∀i,i<l.length→(!(hit a (l.getD i (0,0))))=true
  ·rw [if_pos hp]
   show some false=_
   have:l.any (hit a)=false:=by
    rw [List.any_eq_false]
    intro x hx
    obtain ⟨i,hi,rfl⟩:=List.getElem_of_mem hx
    have:=hp i hi
    simp [hi] at this
    simp [this]
   rw [this]
  ·rw [if_neg hp]
   show some true=_
   have:l.any (hit a)=true:=by
    rw [List.any_eq_true]
    rcases C8 (fun i=> !(hit a (l.getD i (0,0)))) l.length with h | ⟨k,hk,hb,_⟩
    ·exact absurd h hp
    ·refine ⟨l[k],List.getElem_mem hk,?_⟩
     simp [hk] at hb
     exact hb
   rw [this]
 ·intro i hi hp
  unfold sG kQ qb
  simp only [hit,Bool.not_eq_true',Bool.and_eq_false_imp,decide_eq_true_eq,decide_eq_false_iff_not] at hp
  rw [bT (dt (by omega)),ct,fO l i (0,0) hi,bs]
  by_cases h1:(l.getD i (0,0)).1≤a
  ·rw [bT (dt h1),bV (df (hp h1)),nX i (by omega)]
  ·rw [bV (df h1),nX i (by omega)]
 ·intro i hi hp
  unfold sG kQ qb
  simp only [hit,Bool.not_eq_false',Bool.and_eq_true,decide_eq_true_eq] at hp
  rw [bT (dt (by omega)),ct,fO l i (0,0) hi,bs,bT (dt hp.1),bT (dt hp.2)]
 ·unfold sG kQ
  rw [bV (df (by omega)),cf]
def Zd:List (Int×Int):= [(0,31),(127,159),(768,879),(8203,8207),(55296,57343),(65024,65039)]
def aq7:List (Int×Int):= [(4352,4447),(11904,12350),(12353,19903),(19968,42191),(44032,55203),(63744,64255),(65072,65135),(65280,65376),(65504,65510),(127744,128591),(129280,129535),(131072,262141)]
def wd(a:Int):Int:=if a<0∨1114111<a∨Zd.any (hit a)=true then 0 else if aq7.any (hit a)=true then 2 else 1
theorem pH(a:Int):f90 a=some (wd a):=by
 unfold f90 AG wd
 rw [aq6 a _ (by decide),aq6 a _ (by decide)]
 simp only [bs]
 rw [show ([(0,31),(127,159),(768,879),(8203,8207),(55296,57343),(65024,65039)]:List (Int×Int))=Zd from rfl,
  show ([(4352,4447),(11904,12350),(12353,19903),(19968,42191),(44032,55203),(63744,64255),(65072,65135),(65280,65376),(65504,65510),(127744,128591),(129280,129535),(131072,262141)]:List (Int×Int))=aq7 from rfl]
 by_cases h1:a<0
 ·rw [bT (dt h1),ct,if_pos (.inl h1)]
 ·rw [bV (df h1)]
  by_cases h2:1114111<a
  ·rw [bT (dt h2),ct,if_pos (.inr (.inl h2))]
  ·rw [bV (df h2)]
   cases h3:Zd.any (hit a) with
   | true=>rw [ct,if_pos (.inr (.inr rfl))]
   | false=>
    rw [cf,if_neg (by simp [h1,h2])]
    cases h4:aq7.any (hit a) with
    | true=>rw [ct,if_pos rfl]
    | false=>rw [cf,if_neg (by simp)]
theorem Bc(a:Int):wd a=0∨wd a=1∨wd a=2:=by
 unfold wd;split
 ·exact .inl rfl
 ·split
  ·exact .inr (.inr rfl)
  ·exact .inr (.inl rfl)
theorem ayT:wd 32=1:=by decide
def O4(n:Int):Bool:=(decide (0≤n)&&decide (n≤256)) || (decide (16777216≤n)&&decide (n<33554432))
def Fb(p:bA):Bool:=(decide (0≤p.Flags)&&decide (p.Flags≤255))&&(O4 p.dP&&O4 p.dm)
def pcI(p:bA):Int:=if Fb p=true then 0 else 4
theorem aex(n:Int):f92 n=some (O4 n):=by
 unfold f92 O4
 cases decide (0≤n)<;>cases decide (n≤256)<;>cases decide (16777216≤n)<;>cases decide (n<33554432)<;>rfl
theorem Bb(p:bA):f59 p=some (pcI p):=by
 unfold f59 pcI Fb
 rw [aex,aex]
 simp only [bs]
 by_cases h1:p.Flags<0
 ·rw [bT (dt h1),df (p:=0≤p.Flags) (by omega)];rfl
 ·rw [bV (df h1),dt (p:=0≤p.Flags) (by omega)]
  by_cases h2:255<p.Flags
  ·rw [bT (dt h2),df (p:=p.Flags≤255) (by omega)];rfl
  ·rw [bV (df h2),dt (p:=p.Flags≤255) (by omega)]
   cases O4 p.dP<;>cases O4 p.dm<;>rfl
def P0:bA:=⟨0,0,0⟩
def Z0:ah:=⟨0,P0⟩
abbrev cx(l:List ah)(i:Nat):ah:=l.getD i Z0
def blank(p:bA):ah:=⟨32,p⟩
def peq(p q:bA):Bool:=decide (p.Flags=q.Flags)&&(decide (p.dP=q.dP)&&(decide (p.dm=q.dm)&&true))
def tlF(f:Nat→ah)(W k:Nat):Bool:=decide (k<W)&&(decide ((f k).eB=0)&&peq (f k).bP (f (k-1)).bP)
def qH(f:Nat→ah)(W i:Nat):Bool:=
 if (f i).eB=0 then (decide (i=0) || (!decide (wd (f (i-1)).eB=2) || !tlF f W i)) else (decide (wd (f i).eB=2)&& !tlF f W (i+1))
theorem xN(l:List ah)(i:Nat)(h:i<l.length):idx l (i:Int)=some (cx l i):=fO l i Z0 h
theorem wrm(k:Nat)(h1:1≤k)(h:k<1000000000):IntKind.i64.wrap ((k:Int)-1)=((k-1:Nat):Int):=by rw [gu _ (by omega)];omega
theorem Ve(l:List ah)(k:Nat)(h1:1≤k)(hk:k≤l.length)(hl:l.length≤1000000)(r:List PD):f127 (k:Int) l r=some (tlF (cx l) l.length k):=by
 unfold f127 tlF
 by_cases h:k<l.length
 ·rw [bT (dt (by omega)),dt h,Bool.true_and,xN l k h,bs]
  by_cases h0:(cx l k).eB=0
  ·rw [bT (dt h0),dt h0,Bool.true_and,bs,wrm k h1 (by omega),xN l (k-1) (by omega),bs]
   show (bif peq (cx l k).bP (cx l (k-1)).bP then some true else some false)=_
   cases peq (cx l k).bP (cx l (k-1)).bP<;>rfl
  ·rw [bV (df h0),df h0,Bool.false_and]
 ·rw [bV (df (by omega)),df h,Bool.false_and]
theorem E9(l:List ah)(i:Nat)(h:i<l.length)(hl:l.length≤1000000):f91 l (i:Int)=some (qH (cx l) l.length i):=by
 unfold f91 Iu qH
 rw [xN l i h,bs]
 by_cases h0:(cx l i).eB=0
 ·rw [bT (dt h0),if_pos h0]
  by_cases hi:i=0
  ·rw [bT (dt (by omega)),dt hi,Bool.true_or]
  ·rw [bV (df (by omega)),df hi,Bool.false_or,wrm i (by omega) (by omega),xN l (i-1) (by omega),bs,pH,bs,Ve l i (by omega) (by omega) hl,bs]
   cases decide (wd (cx l (i-1)).eB=2)<;>rfl
 ·rw [bV (df h0),if_neg h0,bs,pH,bs,nX i (by omega),Ve l (i+1) (by omega) (by omega) hl,bs]
  cases decide (wd (cx l i).eB=2)<;>rfl
theorem xO(f g:Nat→ah)(W i:Nat)(hi:i<W)(h: ∀k,k<W→f k=g k):qH f W i=qH g W i:=by
 unfold qH tlF
 rw [h i hi,h (i-1) (by omega),show i+1-1=i from rfl,h i hi]
 by_cases h1:i+1<W
 ·rw [h (i+1) h1]
 ·rw [df h1];rfl
def okB(f:Nat→ah)(W i:Nat):Bool:=Fb (f i).bP&&((decide ((f i).eB=0) || !decide (wd (f i).eB=0))&& !qH f W i)
def Cs(W:Nat)(c:List ah)(n:Nat):Nat→ah:=fun i=>cx c (n*W+i)
def Rt(W H:Nat)(c:List ah):Prop:= ∀n,n<H→(∀i,i<W→okB (Cs W c n) W i=true)
instance(W H:Nat)(c:List ah):Decidable (Rt W H c):=by unfold Rt;infer_instance
def j6(W:Nat)(c:List ah)(n:Nat):List ah:=(c.take ((n+1)*W)).drop (n*W)
theorem ri(n H W:Nat)(h:n<H):(n+1)*W≤W*H:=by rw [Nat.mul_comm W H];exact Nat.mul_le_mul_right W h
theorem mul_lt(n H W i:Nat)(h:n<H)(hi:i<W):n*W+i<W*H:=by
 have:=ri n H W h
 rw [Nat.succ_mul] at this;omega
theorem vX(W H:Nat)(c:List ah)(n:Nat)(hc:c.length=W*H)(hn:n<H):(j6 W c n).length=W:=by
 have:=ri n H W hn
 unfold j6
 rw [List.length_drop,List.length_take,Nat.min_eq_left (by omega),Nat.succ_mul];omega
theorem Vf(W H:Nat)(c:List ah)(n i:Nat)(hc:c.length=W*H)(hn:n<H)(hi:i<W):cx (j6 W c n) i=Cs W c n i:=by
 have:=ri n H W hn
 unfold j6 Cs cx
 rw [List.getD_eq_getElem?_getD,List.getD_eq_getElem?_getD,List.getElem?_drop,List.getElem?_take,if_pos (by rw [Nat.succ_mul];omega)]
theorem size_le(W H:Nat)(hW:W≤160)(hH:H≤60):W*H≤9600:=by
 have:=Nat.mul_le_mul hW hH;omega
theorem wrW(W H n:Nat)(hW:W≤160)(hH:H≤60)(hn:n≤H):IntKind.i64.wrap ((n:Int)*(W:Int))=((n*W:Nat):Int):=by
 have h1:=Nat.mul_le_mul hn hW
 have h2:n*W≤9600:=by omega
 rw [show (n:Int)*(W:Int)=((n*W:Nat):Int) from (Int.natCast_mul n W).symm,gu _ (by omega)]
theorem aq_(W H:Nat)(hW:W≤160)(hH:H≤60):IntKind.i64.wrap ((W:Int)*(H:Int))=((W*H:Nat):Int):=by
 have h2:=size_le W H hW hH
 rw [show (W:Int)*(H:Int)=((W*H:Nat):Int) from (Int.natCast_mul W H).symm,gu _ (by omega)]
theorem LA{α:Type}(xs:List α)(a b:Nat)(h1:a≤b)(h2:b≤xs.length):qL xs (a:Int) (b:Int)=some ((xs.take b).drop a):=by
 unfold qL
 rw [if_pos (by omega)];simp
theorem IU(W H:Nat)(c:List ah)(n:Nat)(hc:c.length=W*H)(hn:n<H)(hW:W≤160)(hH:H≤60):f89 ⟨W,H,c⟩ (n:Int)=some (j6 W c n):=by
 have:=ri n H W hn
 unfold f89
 dsimp only []
 rw [nX n (by omega),wrW W H n hW hH (by omega),wrW W H (n+1) hW hH (by omega),LA _ _ _ (Nat.mul_le_mul_right W (by omega)) (by omega),bs]
 rfl
def mO(g:bS):Int:=
 if 1≤g.bR∧g.bR≤160∧1≤g.bW∧g.bW≤60 then (if (g.Cells.length:Int)=g.bR*g.bW then (if Rt g.bR.toNat g.bW.toNat g.Cells then 0 else 4) else 4) else 1
theorem Lv(w h:Int):f88 w h=some (if 1≤w∧w≤160∧1≤h∧h≤60 then 0 else 1):=by
 unfold f88
 by_cases h1:w<1
 ·rw [bT (dt h1),if_neg (by omega)]
 rw [bV (df h1)]
 by_cases h2:160<w
 ·rw [bT (dt h2),if_neg (by omega)]
 rw [bV (df h2)]
 by_cases h3:h<1
 ·rw [bT (dt h3),if_neg (by omega)]
 rw [bV (df h3)]
 by_cases h4:60<h
 ·rw [bT (dt h4),if_neg (by omega)]
 rw [bV (df h4),if_pos (by omega)]
theorem ara(p:bA):decide (pcI p=0)=Fb p:=by unfold pcI;cases Fb p<;>rfl
theorem arb{ρ:Type}(P:Prop) [Decidable P](a b:ρ)(c:Prop) [Decidable c](h:P↔c):(if P then a else b)=if c then a else b:=by
 by_cases hp:P
 ·rw [if_pos hp,if_pos (h.1 hp)]
 ·rw [if_neg hp,if_neg (fun q=>hp (h.2 q))]
theorem LC(a1:bS)(W H:Nat)(c:List ah)(n:Nat)(z:Int)(hc:c.length=W*H)(hn:n<H)(hW:W≤160)(hH:H≤60):
  b9 (kR a1) (j6 W c n,z,j6 W c n,((j6 W c n).length:Int),0)=some (if∀i,i<W→okB (Cs W c n) W i=true then .inl z else .inr 4):=by
 have hl:=vX W H c n hc hn
 have hx: ∀k,k<W→cx (j6 W c n) k=Cs W c n k:=fun k hk=>Vf W H c n k hc hn hk
 generalize j6 W c n=l at hl hx ⊢
 have h:=xM (body:=kR a1) (fun i=>(l,z,l,(l.length:Int),(i:Int))) (.inl z) (.inr 4) W (fun i=>okB (Cs W c n) W i) ?_ ?_ ?_
 ·exact h
 ·intro i hi hp
  have lJ:i<l.length:=by omega
  unfold okB at hp
  simp only [Bool.and_eq_true,Bool.or_eq_true,decide_eq_true_eq,Bool.not_eq_true'] at hp
  obtain ⟨h1,h2,h3⟩:=hp
  rw [←hx i hi] at h1 h2
  rw [←xO (cx l) _ W i hi hx] at h3
  unfold kR jo l_
  dsimp only []
  rw [bT (dt (by omega)),ct,xN l i lJ,bs,Bb,bs,ara,h1,Bool.not_true,cf,pH,bs,E9 l i lJ (by omega),hl,h3]
  simp only [bs,cf]
  rw [nX i (by omega)]
  rcases h2 with h2 | h2
  ·rw [dt h2];rfl
  ·rw [h2]
   cases decide ((cx l i).eB=0)<;>rfl
 ·intro i hi hp
  have lJ:i<l.length:=by omega
  unfold okB at hp
  rw [←hx i hi,←xO (cx l) _ W i hi hx] at hp
  unfold kR jo l_
  dsimp only []
  rw [bT (dt (by omega)),ct,xN l i lJ,bs,Bb,bs,ara,pH,bs,E9 l i lJ (by omega),hl]
  simp only [bs]
  cases h1:Fb (cx l i).bP with
  | false=>rfl
  | true=>
   rw [h1,Bool.true_and] at hp
   rw [Bool.not_true,cf]
   cases h2:decide ((cx l i).eB=0) with
   | true=>
    rw [h2,Bool.true_or,Bool.true_and] at hp
    have h3:qH (cx l) W i=true:=by simpa using hp
    rw [h3];rfl
   | false=>
    rw [h2,Bool.false_or] at hp
    rw [Bool.not_false,ct]
    cases h3:decide (wd (cx l i).eB=0) with
    | true=>rfl
    | false=>
     rw [h3,Bool.not_false,Bool.true_and] at hp
     have h3:qH (cx l) W i=true:=by simpa using hp
     rw [h3];rfl
 ·unfold kR jo
  dsimp only []
  rw [bV (df (by omega)),cf]
theorem awY(W H:Nat)(c:List ah):(∀n,n<H→decide (∀i,i<W→okB (Cs W c n) W i=true)=true)↔Rt W H c:=by
 unfold Rt
 constructor
 ·intro h n hn;exact of_decide_eq_true (h n hn)
 ·intro h n hn;exact dt (h n hn)
theorem aip(W H:Nat)(c:List ah)(hc:c.length=W*H)(hW:W≤160)(hH:H≤60):
  b9 (tQ ⟨W,H,c⟩) 0=some (if Rt W H c then .inl () else .inr 4):=by
 have h:=xM (body:=tQ ⟨W,H,c⟩) (fun i=>(i:Int)) (.inl ()) (.inr 4) H (fun n=>decide (∀i,i<W→okB (Cs W c n) W i=true)) ?_ ?_ ?_
 ·rw [arb _ _ _ _ (awY W H c)] at h;exact h
 ·intro n hn hp
  unfold tQ mM sH
  rw [bT (dt (by show (n:Int)<(H:Int);omega)),ct,IU W H c n hc hn hW hH,bs,LC _ W H c n n hc hn hW hH,bs,if_pos (of_decide_eq_true hp)]
  simp only [Sum.elim_inl]
  rw [nX n (by omega)]
 ·intro n hn hp
  unfold tQ mM sH
  rw [bT (dt (by show (n:Int)<(H:Int);omega)),ct,IU W H c n hc hn hW hH,bs,LC _ W H c n n hc hn hW hH,bs,if_neg (of_decide_eq_false hp)]
  rfl
 ·unfold tQ mM
  rw [bV (df (by show¬(H:Int)<(H:Int);omega)),cf]
theorem jb(g:bS):f57 g=some (mO g):=by
 obtain ⟨w,h,c⟩:=g
 unfold f57 Ix Iw mO
 rw [Lv,bs]
 dsimp only []
 by_cases hs:1≤w∧w≤160∧1≤h∧h≤60
 ·rw [if_pos hs,if_pos hs,bV (by rfl)]
  obtain ⟨W,rfl⟩:=Int.eq_ofNat_of_zero_le (show 0≤w by omega)
  obtain ⟨H,rfl⟩:=Int.eq_ofNat_of_zero_le (show 0≤h by omega)
  rw [aq_ W H (by omega) (by omega)]
  by_cases hc:c.length=W*H
  ·rw [if_pos (by rw [hc];exact Int.natCast_mul W H),bV (by rw [dt (by omega)];rfl),aip W H c hc (by omega) (by omega),bs,Int.toNat_natCast,Int.toNat_natCast]
   by_cases hr:Rt W H c
   ·rw [if_pos hr,if_pos hr];rfl
   ·rw [if_neg hr,if_neg hr];rfl
  ·rw [if_neg (by rw [←Int.natCast_mul];omega),bT (by rw [df (by omega)];rfl)]
 ·rw [if_neg hs,if_neg hs,bT (by rfl)]
theorem vY{α:Type}(b:Nat)(xs ys:List α)(h:(xs.length+ys.length)*b≤1000000000):eP b xs ys=some (xs++ys):=fy b xs ys (by omega)
theorem E7(l:List ah)(hl:l.length≤100000):f70 l=some l:=by
 unfold f70;rw [vY 32 [] l (by simp;omega),bs];rfl
def gK(n:Nat)(f:Nat→ah):List ah:=(List.range n).map f
theorem cR(n:Nat)(f:Nat→ah):(gK n f).length=n:=by unfold gK;simp
theorem nY(n:Nat)(f:Nat→ah)(i:Nat)(h:i<n):(gK n f)[i]?=some (f i):=by unfold gK;simp [h]
theorem ux(n:Nat)(f:Nat→ah)(i:Nat)(h:i<n):cx (gK n f) i=f i:=by unfold cx;rw [List.getD_eq_getElem?_getD,nY n f i h];rfl
theorem IW(l:List ah)(i:Nat)(h:i<l.length):l[i]?=some (cx l i):=by unfold cx;simp [h]
theorem Ry(l m:List ah)(h:l.length=m.length)(hx: ∀i,i<l.length→cx l i=cx m i):l=m:=by
 refine List.ext_getElem? fun i=>?_
 by_cases hi:i<l.length
 ·rw [IW l i hi,IW m i (by omega),hx i hi]
 ·rw [List.getElem?_eq_none (by omega),List.getElem?_eq_none (by omega)]
theorem jT{n:Nat}{f g:Nat→ah}(h: ∀i,i<n→f i=g i):gK n f=gK n g:=by
 unfold gK
 exact List.map_congr_left fun i hi=>h i (List.mem_range.1 hi)
theorem Bd(l:List ah)(f:Nat→ah)(h: ∀i,i<l.length→f i=cx l i):gK l.length f=l:=
 Ry _ _ (cR _ _) fun i hi=>by rw [cR] at hi;rw [ux _ _ _ hi,h i hi]
theorem LD(n:Nat)(f:Nat→ah)(k:Nat)(x:ah):(gK n f).set k x=gK n (fun j=>if j=k then x else f j):=by
 refine List.ext_getElem? fun i=>?_
 by_cases hi:i<n
 ·rw [nY n _ i hi,List.getElem?_set,cR,nY n f i hi]
  by_cases h:k=i
  ·subst h;rw [if_pos rfl,if_pos hi,if_pos rfl]
  ·rw [if_neg h,if_neg (fun q=>h q.symm)]
 ·rw [List.getElem?_eq_none (by rw [List.length_set,cR];omega),List.getElem?_eq_none (by rw [cR];omega)]
theorem LF(n:Nat)(f:Nat→ah):gK n f++ [f n]=gK (n+1) f:=by unfold gK;rw [List.range_succ,List.map_append];rfl
theorem Vg(n:Nat)(f:Nat→ah)(o m:Nat)(ys:List ah)(h:o+m≤n):
  mR (gK n f) o m ys=gK n (fun j=>if o≤j∧j<o+min ys.length m then cx ys (j-o) else f j):=by
 refine List.ext_getElem? fun i=>?_
 unfold mR
 by_cases hi:i<n
 ·rw [nY n _ i hi]
  by_cases h1:i<o
  ·rw [if_neg (by omega),List.append_assoc,List.getElem?_append_left (by rw [List.length_take,cR];omega),List.getElem?_take,if_pos h1,nY n f i hi]
  ·rw [List.append_assoc,List.getElem?_append_right (by rw [List.length_take,cR];omega),List.length_take,cR,Nat.min_eq_left (show o≤n by omega)]
   by_cases h2:i<o+min ys.length m
   ·rw [if_pos ⟨by omega,h2⟩,List.getElem?_append_left (by rw [List.length_take];omega),List.getElem?_take,if_pos (by omega),IW ys (i-o) (by omega)]
   ·rw [if_neg (by omega),List.getElem?_append_right (by rw [List.length_take];omega),List.length_take,List.getElem?_drop,show o+min ys.length m+(i-o-min (min ys.length m) ys.length)=i by omega,nY n f i hi]
 ·rw [List.getElem?_eq_none (by rw [List.length_append,List.length_append,List.length_take,List.length_take,List.length_drop,cR];omega),List.getElem?_eq_none (by rw [cR];omega)]
theorem Gg(c:List ah)(o m:Nat)(h:o+m≤c.length):qA c o m=some (gK m (fun i=>cx c (o+i))):=by
 unfold qA
 rw [if_pos h]
 refine congrArg some (Ry _ _ (by rw [cR,List.length_take,List.length_drop];omega) fun i hi=>?_)
 rw [List.length_take,List.length_drop] at hi
 rw [ux _ _ _ (by omega)]
 unfold cx
 rw [List.getD_eq_getElem?_getD,List.getD_eq_getElem?_getD,List.getElem?_take,if_pos (by omega),List.getElem?_drop]
def aey(f:Nat→ah)(W i:Nat):ah:=if qH f W i=true then blank (f i).bP else f i
def DK(c:List ah)(o W:Nat):List ah:=gK c.length (fun j=>if o≤j∧j<o+W then aey (fun i=>cx c (o+i)) W (j-o) else cx c j)
theorem rI(c:List ah)(o W:Nat):(DK c o W).length=c.length:=cR _ _
theorem Rz(c:List ah)(o W:Nat)(h:o+W≤c.length)(hl:c.length≤100000):f116 o W c=some (DK c o W):=by
 unfold f116
 rw [Gg c o W h,bs,E7 _ (by rw [cR];omega),bs]
 have Vh:=j7 (body:=vN o W c) (fun i=>(gK c.length (fun j=>if o≤j∧j<o+i then aey (fun i=>cx c (o+i)) W (j-o) else cx c j),gK W (fun i=>cx c (o+i)),(i:Int))) (DK c o W) W ?_ 0 (by omega) ?_
 ·try dsimp only [] at Vh
  rw [Bd c _ (fun j hj=>if_neg (by omega))] at Vh
  rw [show ((0:Nat):Int)=0 from rfl] at Vh
  rw [Vh,bs]
 ·unfold vN nh
  try dsimp only []
  rw [bV (df (by omega)),cf]
  rfl
 ·intro i _ hi
  unfold vN nh ug
  try dsimp only []
  rw [bT (dt (by omega)),ct,E9 _ i (by rw [cR];exact hi) (by rw [cR];omega),bs,cR,xO (cx (gK W fun i=>cx c (o+i))) (fun i=>cx c (o+i)) W i hi (fun k hk=>ux W _ k hk),nX i (by omega)]
  cases arc:qH (fun i=>cx c (o+i)) W i with
  | true=>
   rw [ct,iN i W hi,bs,nY W _ i hi,bs,show f161 (cx c (o+i)).bP=some (blank (cx c (o+i)).bP) from rfl,bs,bs,nY _ _ _ (by omega),bs,bs,LD]
   refine congrArg some (congrArg Sum.inl (Prod.ext (jT fun j hj=>?_) rfl))
   try dsimp only []
   by_cases Gh:j=o+i
   ·subst Gh
    rw [if_pos rfl,if_pos (by omega),Nat.add_sub_cancel_left]
    unfold aey
    rw [if_pos arc]
   ·rw [if_neg Gh]
    by_cases Vi:o≤j∧j<o+i
    ·rw [if_pos Vi,if_pos (by omega)]
    ·rw [if_neg Vi,if_neg (by omega)]
  | false=>
   rw [cf]
   refine congrArg some (congrArg Sum.inl (Prod.ext (jT fun j hj=>?_) rfl))
   by_cases Vi:o≤j∧j<o+i
   ·rw [if_pos Vi,if_pos (by omega)]
   ·rw [if_neg Vi]
    by_cases Gh:j=o+i
    ·subst Gh
     rw [if_pos (by omega),Nat.add_sub_cancel_left]
     unfold aey
     rw [if_neg (by rw [arc];intro q;cases q)]
    ·rw [if_neg (by omega)]
theorem nZ(a b:Nat)(h:a=b):bU (decide (a=b))=some ():=gi (dt h)
theorem Fc(W H n:Nat)(c:List ah)(hc:c.length=W*H)(hn:n<H)(hW:W≤160)(hH:H≤60):zo (W:Int) (H:Int) (n:Int) c=some (c,n*W,W):=by
 have:=ri n H W hn
 have hm:=Nat.mul_le_mul_right W (show n≤n+1 by omega)
 unfold zo
 rw [nX n (by omega),wrW W H n hW hH (by omega),wrW W H (n+1) hW hH (by omega),gi,bs]
 ·simp only [Int.toNat_natCast]
  rw [Nat.succ_mul,Nat.add_sub_cancel_left]
 ·rw [dt (by omega),dt (by omega),dt (by omega)];rfl
def Ht(c:List ah)(o lW:Nat)(r:Int)(p:bA):List ah:=gK c.length (fun j=>if j=o+(lW+1)∧wd r=2 then ⟨0,p⟩ else if j=o+lW then ⟨r,p⟩ else cx c j)
theorem O3(W H n lW:Nat)(r:Int)(p:bA)(c:List ah)(hc:c.length=W*H)(hn:n<H)(hW:W≤160)(hH:H≤60)(hr:0<wd r)(Hu:(lW:Int)+wd r≤W):
  f217 (W:Int) (H:Int) (n:Int) (lW:Int) r p c=some (DK (Ht c (n*W) lW r p) (n*W) W):=by
 have h9:=size_le W H hW hH
 have hm:=ri n H W hn
 rw [Nat.succ_mul] at hm
 have hs: ∀k x,c.set k x=gK c.length (fun j=>if j=k then x else cx c j):=fun k x=>by
  conv=>lhs;rw [←Bd c (cx c) (fun _ _=>rfl)]
  exact LD _ _ _ _
 unfold f217
 rw [Fc W H n c hc hn hW hH,bs,nZ _ _ rfl,bs,iN lW W (by omega),bs,IW c _ (by show n*W+lW<_;omega),bs,bs,pH,bs]
 try dsimp only []
 by_cases h2:wd r=2
 ·rw [bT (dt h2),nX lW (by omega),iN (lW+1) W (by omega),bs,hs,nY _ _ _ (by omega),bs,bs,LD]
  have e:gK c.length (fun j=>if j=n*W+(lW+1) then (⟨0,p⟩:ah) else if j=n*W+lW then ⟨r,p⟩ else cx c j)=Ht c (n*W) lW r p:=jT fun j hj=>by
   by_cases hj:j=n*W+(lW+1)
   ·rw [if_pos hj,if_pos ⟨hj,h2⟩]
   ·rw [if_neg hj,if_neg (show¬(j=n*W+(lW+1)∧wd r=2) from fun q=>hj q.1)]
  rw [e,Rz _ _ _ (by unfold Ht;rw [cR];omega) (by unfold Ht;rw [cR];omega),bs,nZ _ _ (rI _ _ _),bs]
 ·rw [bV (df h2),hs]
  have e:gK c.length (fun j=>if j=n*W+lW then (⟨r,p⟩:ah) else cx c j)=Ht c (n*W) lW r p:=jT fun j hj=>by
   rw [if_neg (show¬(j=n*W+(lW+1)∧wd r=2) from fun q=>h2 q.2)]
  rw [e,Rz _ _ _ (by unfold Ht;rw [cR];omega) (by unfold Ht;rw [cR];omega),bs,nZ _ _ (rI _ _ _),bs]
def C9(f:Nat→ah)(m:Nat)(by_:Int)(p:bA)(i:Nat):ah:=if 0≤(i:Int)-by_∧(i:Int)-by_<m then f ((i:Int)-by_).toNat else blank p
theorem ard(l:List ah)(b:Int)(p:bA)(rs:List PD)(hl:l.length≤100000)(hb: -100000≤b∧b≤100000):f240 l b p rs=some (gK l.length (C9 (cx l) l.length b p)):=by
 unfold f240
 have Vh:=j7 (body:=nV l b p rs) (fun i=>(gK i (C9 (cx l) l.length b p),(i:Int))) (gK l.length (C9 (cx l) l.length b p)) l.length ?_ 0 (by omega) ?_
 ·rw [show nV l b p rs=nV l b p rs from rfl]
  have arf:b9 (nV l b p rs) ([],0)=some (gK l.length (C9 (cx l) l.length b p)):=Vh
  rw [arf,bs]
 ·unfold nV nc
  try dsimp only []
  rw [bV (df (by omega)),cf]
 ·intro i _ hi
  unfold nV nc uf qp
  try dsimp only []
  rw [bT (dt (by omega)),ct,gu ((i:Int)-b) (by omega),nX i (by omega)]
  by_cases h1:0≤(i:Int)-b
  ·rw [bT (dt h1)]
   by_cases h2:(i:Int)-b<l.length
   ·rw [bT (dt h2)]
    have hx:idx l ((i:Int)-b)=some (cx l ((i:Int)-b).toNat):=by
     have:=xN l ((i:Int)-b).toNat (by omega)
     rw [Int.toNat_of_nonneg h1] at this;exact this
    have e:C9 (cx l) l.length b p i=cx l ((i:Int)-b).toNat:=by unfold C9;rw [if_pos ⟨h1,h2⟩]
    rw [hx,bs,vY 32 _ _ (by rw [cR];simp;omega),bs,←LF,e]
   ·have e:C9 (cx l) l.length b p i=blank p:=by unfold C9;rw [if_neg (fun q=>h2 q.2)]
    rw [bV (df h2)]
    show ((f241 p rs).bind _)=_
    rw [show f241 p rs=some (blank p) from rfl,bs,vY 32 _ _ (by rw [cR];simp;omega),bs,←LF,e]
  ·have e:C9 (cx l) l.length b p i=blank p:=by unfold C9;rw [if_neg (fun q=>h1 q.1)]
   rw [bV (df h1)]
   show ((f241 p rs).bind _)=_
   rw [show f241 p rs=some (blank p) from rfl,bs,vY 32 _ _ (by rw [cR];simp;omega),bs,←LF,e]
def Fe(c:List ah)(o a b:Nat)(k:Int)(p:bA):List ah:=gK c.length (fun j=>if o+a≤j∧j<o+b then C9 (fun i=>cx c (o+a+i)) (b-a) k p (j-(o+a)) else cx c j)
theorem Ze{f g:Nat→ah}{m:Nat}{b:Int}{p:bA}{i:Nat}(h: ∀k,k<m→f k=g k):C9 f m b p i=C9 g m b p i:=by
 unfold C9
 by_cases hc:0≤(i:Int)-b∧(i:Int)-b<m
 ·rw [if_pos hc,if_pos hc,h _ (by omega)]
 ·rw [if_neg hc,if_neg hc]
theorem Hq(W H n a b:Nat)(k:Int)(p:bA)(c:List ah)(hc:c.length=W*H)(hn:n<H)(hW:W≤160)(hH:H≤60)(hab:a≤b)(hb:b≤W)(hk: -100000≤k∧k≤100000):
  f215 (W:Int) (H:Int) (n:Int) (a:Int) (b:Int) k p c=some (DK (Fe c (n*W) a b k p) (n*W) W):=by
 have h9:=size_le W H hW hH
 have hm:=ri n H W hn
 rw [Nat.succ_mul] at hm
 have hck:(decide ((0:Int)≤(a:Int))&&decide ((a:Int)≤(b:Int))&&decide ((b:Int)≤(W:Int)))=true:=by
  rw [dt (by omega),dt (by omega),dt (by omega)];rfl
 unfold f215
 rw [Fc W H n c hc hn hW hH,bs,nZ _ _ rfl,bs]
 try dsimp only []
 rw [gi hck,bs,bs,Int.toNat_natCast,Int.toNat_natCast,Gg c _ _ (by omega),bs,ard _ k p _ (by rw [cR];omega) hk,bs,gi (dt (by omega)),bs,bs,cR]
 have e:mR c (n*W+a) (b-a) (gK (b-a) (C9 (cx (gK (b-a) fun i=>cx c (n*W+a+i))) (b-a) k p))=Fe c (n*W) a b k p:=by
  conv=>lhs;arg 1;rw [←Bd c (cx c) (fun _ _=>rfl)]
  rw [Vg _ _ _ _ _ (by omega),cR,Nat.min_self]
  refine jT fun j hj=>?_
  by_cases Gh:n*W+a≤j∧j<n*W+b
  ·rw [if_pos (by omega),if_pos Gh,ux _ _ _ (by omega)]
   exact Ze fun q hq=>ux _ _ _ hq
  ·rw [if_neg (by omega),if_neg Gh]
 rw [e,Rz _ _ _ (by unfold Fe;rw [cR];omega) (by unfold Fe;rw [cR];omega),bs,nZ _ _ (rI _ _ _),bs]

theorem aez(n:Nat)(h:n≤1000000):IntKind.u64.wrap (n:Int)=n:=by
 simp [IntKind.wrap,IntKind.signed,IntKind.bits];omega
theorem Gi(n:Nat)(h:n≤1000000):cQ .and .u64 (n:Int) 4294967295=n:=by
 have e:cQ .and .u64 (n:Int) 4294967295=IntKind.u64.wrap (((BitVec.ofInt 64 (n:Int)&&&BitVec.ofInt 64 4294967295).toNat:Nat):Int):=rfl
 have e2:(BitVec.ofInt 64 (n:Int)&&&BitVec.ofInt 64 4294967295).toNat=n:=by
  rw [BitVec.toNat_and,BitVec.toNat_ofInt,show (BitVec.ofInt 64 4294967295).toNat=2^32-1 from rfl,Nat.and_two_pow_sub_one_eq_mod]
  have:(((n:Int)%((2^64:Nat):Int)).toNat)=n:=by
   rw [Int.emod_eq_of_lt (by omega) (by have:((2^64:Nat):Int)=18446744073709551616:=rfl;omega)];simp
  rw [this]
  exact Nat.mod_eq_of_lt (by have:(2:Nat)^32=4294967296:=rfl;omega)
 rw [e,e2,aez n h]
theorem Zf(n:Nat)(h:n≤1000000):Int.fdiv (n:Int) (2^32)=0:=by
 have e:(2:Int)^32=4294967296:=rfl
 rw [e,Int.fdiv_eq_ediv_of_nonneg _ (by omega)]
 omega
theorem aDT(n:Nat)(h:n≤1000000):f205 (IntKind.u64.wrap 1) (IntKind.u64.wrap (n:Int))=some (0,(n:Int)):=by
 have a1:=Gi 1 (by omega)
 have a0:=Gi 0 (by omega)
 have an:=Gi n h
 have d1:=Zf 1 (by omega)
 have d0:=Zf 0 (by omega)
 have dn:=Zf n h
 have w0:=aez 0 (by omega)
 have w1:=aez 1 (by omega)
 have wn:=aez n h
 simp only [Int.natCast_zero,Int.natCast_one] at a1 a0 d1 d0 w0 w1
 unfold f205 EJ f235
 rw [bs,w1,wn]
 simp only [d1,d0,dn,a1,a0,an,Int.zero_mul,Int.mul_zero,Int.one_mul,Int.add_zero,Int.zero_add,w0,w1,wn]
theorem grow_step(z:ah)(n k:Nat)(hk:1≤k)(hn:k<n):
  mR (List.replicate k z++List.replicate (n-k) Z0) k (n-k) (((List.replicate k z++List.replicate (n-k) Z0).drop 0).take k)=List.replicate (k+min k (n-k)) z++List.replicate (n-(k+min k (n-k))) Z0:=by
 unfold mR
 rw [List.drop_zero,List.take_left' (by simp),List.length_replicate,List.take_replicate,List.drop_append,List.drop_replicate,List.drop_replicate,List.length_replicate,←List.replicate_append_replicate,List.append_assoc]
 rw [show k-(k+min k (n-k))=0 by omega,show n-k-(k+min k (n-k)-k)=n-(k+min k (n-k)) by omega,show min (min k (n-k)) k=min k (n-k) by omega]
 simp [←List.append_assoc,List.replicate_append_replicate]
theorem LG(z:ah)(n:Nat)(h1:1≤n)(h:n≤100000):f177 [z] (n:Int)=some (List.replicate n z):=by
 unfold f177 zu
 rw [bV (df (by omega))]
 show ((f205 (IntKind.u64.wrap 1) (IntKind.u64.wrap (n:Int))).bind _)=_
 rw [aDT n (by omega),bs]
 try dsimp only []
 rw [bV (df (by omega)),bV (df (by omega))]
 unfold vM
 rw [gu _ (by omega)]
 have hm:mk? 32 (n:Int) (n:Int) (ah.mk 0 (bA.mk 0 0 0))=some (List.replicate n Z0):=by
  unfold mk?
  rw [if_pos ⟨by omega,by omega,by rw [Int.toNat_natCast];omega⟩,Int.toNat_natCast];rfl
 rw [hm,bs,gi (dt (by omega)),bs,bs,List.length_replicate]
 have hc:mR (List.replicate n Z0) 0 n [z]=List.replicate 1 z++List.replicate (n-1) Z0:=by
  unfold mR
  rw [show min [z].length n=1 by show min 1 n=1;omega]
  simp
 rw [hc]
 obtain ⟨r,hr,hp⟩:=h_ (body:=vL [z] (n:Int)) (fun m (x:List ah×Int)=> ∃k:Nat,1≤k∧k+m=n∧x=(List.replicate k z++List.replicate (n-k) Z0,(k:Int))) (fun r=>r=List.replicate n z) (fun m x hx=>by
  obtain ⟨k,Bl,hk2,rfl⟩:=hx
  have hl:(List.replicate k z++List.replicate (n-k) Z0).length=n:=by simp;omega
  by_cases hk:k<n
  ·refine .inl ⟨(List.replicate (k+min k (n-k)) z++List.replicate (n-(k+min k (n-k))) Z0,((k+min k (n-k):Nat):Int)),n-(k+min k (n-k)),?_,by omega,k+min k (n-k),by omega,by omega,rfl⟩
   unfold vL tZ
   try dsimp only []
   rw [hl,bT (dt (by omega)),gi (by rw [dt (by omega),dt (by omega),dt (by omega)];rfl),bs,gi (by rw [dt (by omega),dt (by omega),dt (by omega)];rfl),bs]
   have hp:qA (List.replicate k z++List.replicate (n-k) Z0) 0 ((k:Int).toNat-(0:Int).toNat)=some (((List.replicate k z++List.replicate (n-k) Z0).drop 0).take k):=by
    unfold qA
    rw [if_pos (by rw [hl];simp;omega)];simp
   rw [hp,bs,gi (dt (by rw [Int.toNat_natCast,Int.toNat_natCast];omega)),bs,bs,Int.toNat_natCast,Int.toNat_natCast,grow_step z n k Bl hk]
   have e:(List.take k (List.drop 0 (List.replicate k z++List.replicate (n-k) Z0))).length=k:=by simp
   have e2:(List.replicate (k+min k (n-k)) z++List.replicate (n-(k+min k (n-k))) Z0).length=n:=by simp;omega
   rw [e,e2,Int.toNat_natCast,gu _ (by omega)]
   refine congrArg some (congrArg Sum.inl (Prod.ext rfl ?_))
   show (k:Int)+((min k (n-k):Nat):Int)=((k+min k (n-k):Nat):Int)
   omega
  ·have:k=n:=by omega
   subst this
   refine .inr ⟨List.replicate k z,?_,rfl⟩
   unfold vL
   try dsimp only []
   rw [hl,bV (df (by omega))]
   simp) (n:=n-1) (x:=(List.replicate 1 z++List.replicate (n-1) Z0,((1:Nat):Int))) ⟨1,by omega,by omega,rfl⟩
 have e1:(((min [z].length (List.replicate 1 z++List.replicate (n-1) Z0).length:Nat)):Int)=((1:Nat):Int):=by
  rw [List.length_append,List.length_replicate,List.length_replicate];show ((min 1 (1+(n-1)):Nat):Int)=_;omega
 rw [e1,hr,bs,hp]
theorem Vj(n:Nat)(z:ah):List.replicate n z=gK n (fun _=>z):=by
 unfold gK;rw [List.map_const'];simp
theorem Zg(w h:Nat)(p:bA)(h1:1≤w∧w≤160)(h2:1≤h∧h≤60):f138 (w:Int) (h:Int) p=some ((w:Int),(h:Int),gK (w*h) (fun _=>blank p)):=by
 have h9:=size_le w h h1.2 h2.2
 have h3:=Nat.mul_le_mul h1.1 h2.1
 unfold f138
 rw [show f161 p=some (blank p) from rfl,bs,aq_ w h h1.2 h2.2,LG (blank p) (w*h) (by omega) (by omega),bs,Vj]
theorem Rw(g:bS)(h:mO g=0): ∃W H:Nat,1≤W∧W≤160∧1≤H∧H≤60∧g=⟨W,H,g.Cells⟩∧g.Cells.length=W*H∧Rt W H g.Cells:=by
 obtain ⟨w,hh,c⟩:=g
 unfold mO at h
 dsimp only [] at h
 split at h
 ·rename_i hs
  split at h
  ·rename_i hc
   split at h
   ·rename_i hr
    obtain ⟨W,rfl⟩:=Int.eq_ofNat_of_zero_le (show 0≤w by omega)
    obtain ⟨H,rfl⟩:=Int.eq_ofNat_of_zero_le (show 0≤hh by omega)
    rw [Int.toNat_natCast,Int.toNat_natCast] at hr
    rw [←Int.natCast_mul] at hc
    exact ⟨W,H,by omega,by omega,by omega,by omega,rfl,by dsimp only [];omega,hr⟩
   ·exact absurd h (by decide)
  ·exact absurd h (by decide)
 ·exact absurd h (by decide)
theorem aio(W H:Nat)(c:List ah)(h1:1≤W∧W≤160)(h2:1≤H∧H≤60)(hc:c.length=W*H)(hr:Rt W H c):mO ⟨W,H,c⟩=0:=by
 unfold mO
 try dsimp only []
 rw [if_pos (by omega),if_pos (by rw [hc];exact Int.natCast_mul W H),Int.toNat_natCast,Int.toNat_natCast,if_pos hr]
theorem arh(j n W:Nat)(hW:0<W):j/W=n↔n*W≤j∧j<n*W+W:=by
 have h1:=Nat.div_add_mod j W
 have h2:=Nat.mod_lt j hW
 constructor
 ·intro h;subst h;rw [Nat.mul_comm];omega
 ·rintro ⟨ha,hb⟩
  exact Nat.div_eq_of_lt_le ha (by rw [Nat.succ_mul];exact hb)
theorem awZ(j n W:Nat)(hW:0<W)(h:j/W=n):j-n*W=j%W:=by
 have h1:=Nat.div_add_mod j W
 subst h;rw [Nat.mul_comm];omega
theorem aeA(W H:Nat)(c:List ah)(n:Nat)(hc:c.length=W*H)(hn:n<H):j6 W c n=gK W (Cs W c n):=
 Ry _ _ (by rw [vX W H c n hc hn,cR]) fun i hi=>by
  rw [vX W H c n hc hn] at hi
  rw [Vf W H c n i hc hn hi,ux _ _ _ hi]
def C_(W:Nat)(c:List ah)(t m:Nat)(n:Int)(p:bA)(i k:Nat):ah:=if 0≤(i:Int)+n∧(i:Int)+n<m then Cs W c (t+((i:Int)+n).toNat) k else blank p
theorem Zh(W H:Nat)(c c2:List ah)(t m:Nat)(n a4:Int)(p:bA)(hc:c.length=W*H)(hW1:1≤W)(hW:W≤160)(hH:H≤60)(htm:t+m≤H)(hn: -100000≤n∧n≤100000):
  f250 (-n) ((List.range m).map fun r=>j6 W c (t+r)) (W:Int) a4 p c2=some ((W:Int),a4,c2,p,(List.range m).map (fun r=>j6 W c (t+r)),(List.range m).map (fun r=>gK W (C_ W c t m n p r))):=by
 unfold f250
 have hlen:((List.range m).map fun r=>j6 W c (t+r)).length=m:=by simp
 have Vh:=j7 (body:=ql (-n) ((List.range m).map fun r=>j6 W c (t+r)) (W:Int) a4 p c2) (fun i=>((List.range i).map (fun r=>gK W (C_ W c t m n p r)),(i:Int))) ((List.range m).map (fun r=>gK W (C_ W c t m n p r))) m ?_ 0 (by omega) ?_
 ·have arf:b9 (ql (-n) ((List.range m).map fun r=>j6 W c (t+r)) (W:Int) a4 p c2) ([],0)=_:=Vh
  rw [arf,bs]
 ·unfold ql kV
  try dsimp only []
  rw [hlen,bV (df (by omega)),cf]
 ·intro i _ hi
  unfold ql kV t_ qj
  try dsimp only []
  have hbl:f251 (W:Int) a4 p []=some (gK W (fun _=>blank p)):=by
   unfold f251
   have:=Zg W 1 p ⟨hW1,hW⟩ (by omega)
   rw [Nat.mul_one] at this
   rw [show (1:Int)=((1:Nat):Int) from rfl,this,bs]
  rw [hlen,bT (dt (by omega)),ct,gu ((i:Int)- -n) (by omega),nX i (by omega),hbl,bs]
  have hap: ∀x,x=gK W (C_ W c t m n p i)→eP 24 ((List.range i).map (fun r=>gK W (C_ W c t m n p r))) [x]=some ((List.range (i+1)).map (fun r=>gK W (C_ W c t m n p r))):=fun x hx=>by
   rw [vY 24 _ _ (by simp;omega),hx,List.range_succ,List.map_append];rfl
  have e:(i:Int)- -n=(i:Int)+n:=by omega
  rw [e]
  by_cases h1:0≤(i:Int)+n
  ·rw [bT (dt h1)]
   by_cases h2:(i:Int)+n<m
   ·obtain ⟨k,hk⟩:=Int.eq_ofNat_of_zero_le h1
    rw [bT (dt h2),hk,iN k m (by omega),bs]
    have hg:((List.range m).map fun r=>j6 W c (t+r))[k]?=some (j6 W c (t+k)):=by
     have:k<m:=by omega
     simp [this]
    rw [hg,bs,hap,bs]
    rw [aeA W H c (t+k) hc (by omega)]
    refine jT fun j hj=>?_
    unfold C_
    rw [if_pos ⟨h1,h2⟩,hk,Int.toNat_natCast]
   ·rw [bV (df h2),hap,bs]
    refine jT fun j hj=>?_
    unfold C_
    rw [if_neg (fun q=>h2 q.2)]
  ·rw [bV (df h1),hap,bs]
   refine jT fun j hj=>?_
   unfold C_
   rw [if_neg (fun q=>h1 q.1)]
def LH(W:Nat)(c:List ah)(t m:Nat)(n:Int)(p:bA):List ah:=gK c.length (fun j=>if t≤j/W∧j/W<t+m then C_ W c t m n p (j/W-t) (j%W) else cx c j)
theorem E_(W H t b:Nat)(n:Int)(p:bA)(c:List ah)(hc:c.length=W*H)(hW1:1≤W)(hW:W≤160)(hH:H≤60)(htb:t≤b)(hb:b≤H)(hn: -100000≤n∧n≤100000):
  f239 (W:Int) (H:Int) (t:Int) (b:Int) n p c=some (LH W c t (b-t) n p):=by
 have h9:=size_le W H hW hH
 unfold f239
 have hl1:=j7 (body:=qm W H t b n p c) (fun i=>(c,(List.range (i-t)).map (fun r=>j6 W c (t+r)),(i:Int))) (c,(List.range (b-t)).map (fun r=>j6 W c (t+r))) b ?_ t htb ?_
 ·have aDU:b9 (qm W H t b n p c) (c,[],(t:Int))=some (c,(List.range (b-t)).map (fun r=>j6 W c (t+r))):=by
   have:=hl1
   rw [Nat.sub_self] at this
   exact this
  rw [aDU,bs]
  unfold zy
  try dsimp only []
  have hw:IntKind.i64.wrap (0-n)= -n:=by rw [gu _ (by omega)];omega
  rw [hw,Zh W H c c t (b-t) n _ p hc hW1 hW hH (by omega) hn,bs]
  try dsimp only []
  rw [nZ _ _ rfl,bs,nZ _ _ rfl,bs]
  have hlen:((List.range (b-t)).map (fun r=>gK W (C_ W c t (b-t) n p r))).length=b-t:=by simp
  rw [hlen]
  have hl2:=j7 (body:=s3 W H t b n p c) (fun i=>(gK c.length (fun j=>if t≤j/W∧j/W<t+i then C_ W c t (b-t) n p (j/W-t) (j%W) else cx c j),(W:Int),(H:Int),(List.range (b-t)).map (fun r=>gK W (C_ W c t (b-t) n p r)),((b-t:Nat):Int),(i:Int))) (LH W c t (b-t) n p) (b-t) ?_ 0 (by omega) ?_
  ·try dsimp only [] at hl2
   rw [Bd c _ (fun j hj=>if_neg (by omega))] at hl2
   rw [show ((0:Nat):Int)=0 from rfl] at hl2
   rw [hl2,bs]
  ·unfold s3 kW
   try dsimp only []
   rw [bV (df (by omega)),cf]
   rfl
  ·intro i _ hi
   have hm:=ri (t+i) H W (by omega)
   rw [Nat.succ_mul] at hm
   unfold s3 kW ua
   try dsimp only []
   have hg:((List.range (b-t)).map fun r=>gK W (C_ W c t (b-t) n p r))[i]?=some (gK W (C_ W c t (b-t) n p i)):=by simp [hi]
   rw [bT (dt (by omega)),ct,hlen,iN i _ hi,bs,hg,bs,gu ((t:Int)+(i:Int)) (by omega),show (t:Int)+(i:Int)=((t+i:Nat):Int) by omega,Fc W H (t+i) _ (by rw [cR];exact hc) (by omega) hW hH,bs]
   try dsimp only []
   rw [nZ _ _ rfl,bs,gi (dt (by rw [cR];omega)),bs,bs,Vg _ _ _ _ _ (by omega),cR,Nat.min_self,nX i (by omega)]
   refine congrArg some (congrArg Sum.inl (Prod.ext (jT fun j hj=>?_) rfl))
   have hd:=arh j (t+i) W hW1
   by_cases Gh:j/W=t+i
   ·rw [if_pos (hd.1 Gh),if_pos (by omega),ux _ _ _ (by have:=hd.1 Gh;omega),awZ j (t+i) W hW1 Gh,Gh,Nat.add_sub_cancel_left]
   ·rw [if_neg (fun q=>Gh (hd.2 q))]
    by_cases Vi:t≤j/W∧j/W<t+i
    ·rw [if_pos Vi,if_pos (by omega)]
    ·rw [if_neg Vi,if_neg (by omega)]
 ·unfold qm
  try dsimp only []
  rw [bV (df (by omega))]
 ·intro i hi1 hi
  have hm:=ri i H W (by omega)
  rw [Nat.succ_mul] at hm
  unfold qm ud
  try dsimp only []
  have hrow:gK W (fun k=>cx c (i*W+k))=j6 W c i:=(aeA W H c i hc (by omega)).symm
  rw [bT (dt (by omega)),Fc W H i c hc (by omega) hW hH,bs]
  try dsimp only []
  rw [nZ _ _ rfl,bs,Gg c _ _ (by omega),bs,E7 _ (by rw [cR];omega),bs,vY 24 _ _ (by simp;omega),bs,nX i (by omega),hrow]
  refine congrArg some (congrArg Sum.inl (Prod.ext rfl (Prod.ext ?_ rfl)))
  try dsimp only []
  rw [show i+1-t=(i-t)+1 by omega,List.range_succ,List.map_append,List.map_singleton,show t+(i-t)=i by omega]
def Zi(c:ah):Bool:=Fb c.bP&&(decide (c.eB=0) || !decide (wd c.eB=0))
theorem Vk(p:bA)(hp:Fb p=true):Zi (blank p)=true:=by
 unfold Zi;rw [show (blank p).bP=p from rfl,hp,show (blank p).eB=32 from rfl,ayT];rfl
theorem Vl(f:Nat→ah)(W i:Nat)(h:(f i).eB=32):qH f W i=false:=by
 unfold qH;rw [h,if_neg (by decide),ayT];rfl
theorem Zj(p:bA)(hp:Fb p=true)(W i:Nat)(f:Nat→ah)(h:f i=blank p):okB f W i=true:=by
 have hl:=Vl f W i (by rw [h];rfl)
 have hc:=Vk p hp
 unfold Zi at hc
 unfold okB
 rw [hl,h]
 rw [Bool.and_eq_true] at hc
 rw [hc.1,hc.2];rfl
theorem gj(a lo hi:Int):f58 a lo hi=some (decide (lo≤a)&&decide (a≤hi)):=by
 unfold f58
 cases decide (lo≤a)<;>cases decide (a≤hi)<;>rfl
theorem rH(a:Int):f60 a=some (decide (1≤a)&&decide (a≤4)):=by
 unfold f60
 cases decide (1≤a)<;>cases decide (a≤4)<;>rfl
def LJ(x:bF):bS:=⟨(x.Cells.length:Int),1,x.Cells⟩
def L0:bF:=⟨[]⟩
def LL(l:List bF)(i:Nat):Bool:=decide (mO (LJ (l.getD i L0))=0)
theorem ari(l:List bF)(hl:l.length≤1048576):f61 l=some (decide ((∀i,i<l.length→LL l i=true)∧l.length≤40)):=by
 unfold f61
 have h:=xM (body:=wX l) (fun i=>(i:Int)) (.inl ()) (.inr false) l.length (LL l) ?_ ?_ ?_
 ·rw [show ((0:Nat):Int)=0 from rfl] at h
  rw [h,bs]
  by_cases hp: ∀i,i<l.length→LL l i=true
  ·rw [if_pos hp,Sum.elim_inl]
   by_cases h4:l.length≤40
   ·rw [bT (dt (by omega)),dt ⟨hp,h4⟩]
   ·rw [bV (df (by omega)),df (fun q=>h4 q.2)]
  ·rw [if_neg hp,Sum.elim_inr,df (fun q=>hp q.1)]
 ·intro i hi hp
  unfold wX mN sI
  rw [bT (dt (by omega)),ct,fO l i L0 hi,bs,jb,bs,nX i (by omega)]
  have:mO (LJ (l.getD i L0))=0:=of_decide_eq_true hp
  show (bif !decide (mO (LJ (l.getD i L0))=0) then _ else _)=_
  rw [dt this,Bool.not_true,cf]
 ·intro i hi hp
  unfold wX mN sI
  rw [bT (dt (by omega)),ct,fO l i L0 hi,bs,jb,bs]
  have: ¬mO (LJ (l.getD i L0))=0:=of_decide_eq_false hp
  show (bif !decide (mO (LJ (l.getD i L0))=0) then _ else _)=_
  rw [df this,Bool.not_false,ct]
 ·unfold wX mN
  rw [bV (df (by omega)),cf]
structure SF (s:aA):Prop where
 g:mO s.aG=0
 o:mO s.aT=0
 w:s.aG.bR=s.aT.bR
 h:s.aG.bW=s.aT.bW
 row:0≤s.Row∧s.Row≤s.aG.bW-1
 lW:0≤s.cP∧s.cP≤s.aG.bR-1
 pen:Fb s.bP=true
 Vm:Fb s.aI.bP=true
 LM:0≤s.eE∧s.eE≤2047
 pg1:1≤s.bp.1∧s.bp.1≤4
 sp1:1≤s.aI.bp.1∧s.aI.bp.1≤4
 pg2:1≤s.bp.2∧s.bp.2≤4
 sp2:1≤s.aI.bp.2∧s.aI.bp.2≤4
 sh:0≤s.cC∧s.cC≤1
 ssh:0≤s.aI.cC∧s.aI.cC≤1
 Vn:0≤s.aI.Row∧s.aI.Row≤59
 Vo:0≤s.aI.cP∧s.aI.cP≤159
 title:s.gz.length≤256
 past:(∀i,i<s.bn.length→LL s.bn i=true)∧s.bn.length≤40
 top:0≤s.ji∧s.ji≤IntKind.i64.wrap (s.cT-1)
 bot:s.cT≤s.aG.bW
theorem bc(b:Bool):b=true∨b=false:=by cases b<;>simp
theorem j8{p q:Prop} [Decidable p] [Decidable q](h:(decide p&&decide q)=true):p∧q:=by simpa using h
theorem ayU(p:bA):decide (pcI p=0)=Fb p:=ara p
theorem C6(s:aA)(hl:s.bn.length≤1048576):f22 s=some 4∨(f22 s=some 0∧SF s):=by
 unfold f22
 rw [jb,bs]
 by_cases g:mO s.aG=0
 case neg=>left;rw [bV (df g)];rfl
 rw [bT (dt g),jb,bs]
 by_cases o:mO s.aT=0
 case neg=>left;rw [bV (df o)];rfl
 rw [bT (dt o)]
 by_cases w:s.aG.bR=s.aT.bR
 case neg=>left;rw [bV (df w)];rfl
 rw [bT (dt w)]
 by_cases h:s.aG.bW=s.aT.bW
 case neg=>left;rw [bV (df h)];rfl
 rw [bT (dt h)]
 obtain ⟨W,H,w1,w2,h1,h2,e,hc,hR⟩:=Rw s.aG g
 have eW:s.aG.bR=(W:Int):=by rw [e]
 have eH:s.aG.bW=(H:Int):=by rw [e]
 unfold tS
 rw [ct,gj,bs,gu (s.aG.bW-1) (by omega),gu (s.aG.bR-1) (by omega)]
 rcases bc (decide (0≤s.Row)&&decide (s.Row≤s.aG.bW-1)) with row | row
 case inr=>left;rw [bV row];rfl
 rw [bT row,gj,bs]
 rcases bc (decide (0≤s.cP)&&decide (s.cP≤s.aG.bR-1)) with lW | lW
 case inr=>left;rw [bV lW];rfl
 rw [bT lW]
 have late: ∀P:Option Int→Prop,P (lg s true)→P (some 4)→P (bif (!s.eK) then (lg s true) else (bif (decide (s.cP=s.aG.bR-1)) then (lg s true) else (lg s false))):=fun P p1 p2=>by
  cases s.eK with
  | false=>exact p1
  | true=>
   show P (bif decide _ then _ else _)
   cases decide (s.cP=s.aG.bR-1)
   ·exact p2
   ·exact p1
 refine late (fun x=>x=some 4∨(x=some 0∧SF s)) ?_ (.inl rfl)
 unfold lg
 rw [ct,gj,bs]
 rcases bc (decide (0≤s.ji)&&decide (s.ji≤IntKind.i64.wrap (s.cT-1))) with top | top
 case inr=>left;rw [bV top];rfl
 rw [bT top]
 rcases bc (decide (s.cT≤s.aG.bW)) with bot | bot
 case inr=>left;rw [bV bot];rfl
 rw [bT bot]
 unfold w9
 rw [ct,Bb,bs,ayU]
 rcases bc (Fb s.bP) with pen | pen
 case inr=>left;rw [bV pen];rfl
 rw [bT pen,Bb,bs,ayU]
 rcases bc (Fb s.aI.bP) with Vm | Vm
 case inr=>left;rw [bV Vm];rfl
 rw [bT Vm,gj,bs]
 unfold wZ Iz
 rcases bc (decide (0≤s.eE)&&decide (s.eE≤2047)) with LM | LM
 case inr=>left;rw [bV LM];rfl
 rw [bT LM,rH,bs]
 rcases bc (decide (1≤s.bp.1)&&decide (s.bp.1≤4)) with pg1 | pg1
 case inr=>left;rw [bV pg1];rfl
 rw [bT pg1,rH,bs]
 unfold Iy
 rcases bc (decide (1≤s.aI.bp.1)&&decide (s.aI.bp.1≤4)) with sp1 | sp1
 case inr=>left;rw [bV sp1];rfl
 rw [bT sp1,rH,bs]
 rcases bc (decide (1≤s.bp.2)&&decide (s.bp.2≤4)) with pg2 | pg2
 case inr=>left;rw [bV pg2];rfl
 rw [bT pg2,rH,bs]
 unfold tR
 rcases bc (decide (1≤s.aI.bp.2)&&decide (s.aI.bp.2≤4)) with sp2 | sp2
 case inr=>left;rw [bV sp2];rfl
 rw [bT sp2,gj,bs]
 rcases bc (decide (0≤s.cC)&&decide (s.cC≤1)) with sh | sh
 case inr=>left;rw [bV sh];rfl
 rw [bT sh,gj,bs]
 unfold AL
 rcases bc (decide (0≤s.aI.cC)&&decide (s.aI.cC≤1)) with ssh | ssh
 case inr=>left;rw [bV ssh];rfl
 rw [bT ssh,gj,bs]
 rcases bc (decide (0≤s.aI.Row)&&decide (s.aI.Row≤59)) with Vn | Vn
 case inr=>left;rw [bV Vn];rfl
 rw [bT Vn,gj,bs]
 unfold AK
 rcases bc (decide (0≤s.aI.cP)&&decide (s.aI.cP≤159)) with Vo | Vo
 case inr=>left;rw [bV Vo]
 rw [bT Vo]
 rcases bc (decide ((s.gz.length:Int)≤256)) with title | title
 case inr=>left;rw [bV title]
 rw [bT title,ari s.bn hl,bs]
 by_cases past:(∀i,i<s.bn.length→LL s.bn i=true)∧s.bn.length≤40
 case neg=>left;rw [df past];rfl
 right
 rw [dt past]
 have:=of_decide_eq_true title
 exact ⟨rfl,⟨g,o,w,h,j8 row,j8 lW,pen,Vm,j8 LM,j8 pg1,j8 sp1,j8 pg2,j8 sp2,j8 sh,j8 ssh,j8 Vn,j8 Vo,by omega,past,j8 top,of_decide_eq_true bot⟩⟩
def okN(n:eL):Prop:= ∀i,i<256→(n.Us i).toNat≤5∧(n.fX i).toNat≤5
theorem scan{body:Int→Option (Int⊕(Unit⊕Int))}{q:Nat→Prop}(hb: ∀i:Nat,i<256→(q i∧body i=some (.inl ((i+1:Nat):Int)))∨(¬q i∧body i=some (.inr (.inr 4))))(he:body 256=some (.inr (.inl ()))):
  ((∀i,i<256→q i)∧b9 body 0=some (.inl ()))∨(¬(∀i,i<256→q i)∧b9 body 0=some (.inr 4)):=by
 obtain ⟨r,h1,h2⟩:=h_ (body:=body) (fun n x=> ∃i:Nat,x=(i:Int)∧i≤256∧n=256-i∧ ∀j,j<i→q j) (fun r=>((∀i,i<256→q i)∧r= .inl ())∨(¬(∀i,i<256→q i)∧r= .inr 4)) (by
  rintro n x ⟨i,rfl,hi,rfl,ha⟩
  by_cases h:i<256
  ·rcases hb i h with ⟨hq,e⟩ | ⟨hq,e⟩
   ·exact .inl ⟨_,256-(i+1),e,by omega,i+1,rfl,by omega,rfl,fun j hj=>by
     by_cases V8:j=i
     ·subst V8;exact hq
     ·exact ha j (by omega)⟩
   ·exact .inr ⟨_,e,.inr ⟨fun hh=>hq (hh i h),rfl⟩⟩
  ·have:i=256:=by omega
   subst this
   exact .inr ⟨_,he,.inl ⟨ha,rfl⟩⟩) (n:=256) (x:=0) ⟨0,rfl,by omega,rfl,fun j hj=>by omega⟩
 rw [h1]
 rcases h2 with ⟨a,rfl⟩ | ⟨a,rfl⟩
 ·exact .inl ⟨a,rfl⟩
 ·exact .inr ⟨a,rfl⟩
theorem LN(n:Int):f62 n=some (decide (0≤n∧n≤5)):=by
 unfold f62
 simp only [Bool.cond_decide]
 repeat' split
 all_goals first | exact congrArg some (decide_eq_true (by omega)).symm | exact congrArg some (decide_eq_false (by omega)).symm
theorem arp(a:eL):((∀i,i<256→(a.Us i).toNat≤5)∧b9 (xd a) 0=some (.inl ()))∨(¬(∀i,i<256→(a.Us i).toNat≤5)∧b9 (xd a) 0=some (.inr 4)):=
 scan (body:=xd a) (q:=fun i=>(a.Us i).toNat≤5) (fun i h=>by
  unfold xd sM xb
  rw [decide_eq_true (p:=(i:Int)<256) (by omega)]
  simp only [cond_true,iN i 256 h,Option.bind_some,LN]
  by_cases hq:(a.Us i).toNat≤5
  ·left
   rw [decide_eq_true (by omega),gu _ (by omega)]
   exact ⟨hq,rfl⟩
  ·right
   rw [decide_eq_false (by omega)]
   exact ⟨hq,rfl⟩) rfl
theorem aiq(a:eL):((∀i,i<256→(a.fX i).toNat≤5)∧b9 (xg a) 0=some (.inl ()))∨(¬(∀i,i<256→(a.fX i).toNat≤5)∧b9 (xg a) 0=some (.inr 4)):=
 scan (body:=xg a) (q:=fun i=>(a.fX i).toNat≤5) (fun i h=>by
  unfold xg sN xe
  rw [decide_eq_true (p:=(i:Int)<256) (by omega)]
  simp only [cond_true,iN i 256 h,Option.bind_some,LN]
  by_cases hq:(a.fX i).toNat≤5
  ·left
   rw [decide_eq_true (by omega),gu _ (by omega)]
   exact ⟨hq,rfl⟩
  ·right
   rw [decide_eq_false (by omega)]
   exact ⟨hq,rfl⟩) rfl
theorem E8(a:eL):(okN a∧f23 a=some 0)∨(¬okN a∧f23 a=some 4):=by
 unfold f23 IB
 rcases arp a with ⟨h1,e1⟩ | ⟨h1,e1⟩
 ·rw [e1]
  simp only [Option.bind_some,Sum.elim_inl]
  unfold IA
  rcases aiq a with ⟨h2,e2⟩ | ⟨h2,e2⟩
  ·rw [e2];exact .inl ⟨fun i hi=>⟨h1 i hi,h2 i hi⟩,rfl⟩
  ·rw [e2];exact .inr ⟨fun h=>h2 fun i hi=>(h i hi).2,rfl⟩
 ·rw [e1];exact .inr ⟨fun h=>h1 fun i hi=>(h i hi).1,rfl⟩
structure KT (u:Prop) (t t':ag):Prop where
 g:t'.af.aG=t.af.aG
 o:t'.af.aT=t.af.aT
 p:t'.af.bn=t.af.bn
 ti:t'.af.gz=t.af.gz
 pg:u∨t'.af.bp=t.af.bp
 sh:u∨t'.af.cC=t.af.cC
 se:t'.sent.length≤t.sent.length+60
theorem KT.w{u v:Prop}{t t':ag}(h:KT u t t')(huv:u→v):KT v t t':=⟨h.g,h.o,h.p,h.ti,h.pg.imp huv id,h.sh.imp huv id,h.se⟩
structure KS (u:Prop) (t t':ag):Prop where
 g:t'.af.aG=t.af.aG
 o:t'.af.aT=t.af.aT
 p:t'.af.bn=t.af.bn
 ti:t'.af.gz=t.af.gz
 pg:u∨t'.af.bp=t.af.bp
 sh:u∨t'.af.cC=t.af.cC
 se:t'.sent=t.sent
theorem KS.kt{u:Prop}{t t':ag}(h:KS u t t'):KT u t t':=⟨h.g,h.o,h.p,h.ti,h.pg,h.sh,by rw [h.se];omega⟩
theorem KS.tr{u:Prop}{t t' t'':ag}(h:KS u t t')(k:KS u t' t''):KS u t t'':=
 ⟨k.g.trans h.g,k.o.trans h.o,k.p.trans h.p,k.ti.trans h.ti,by
  rcases h.pg with a | a
  ·exact .inl a
  ·exact k.pg.imp id fun b=>b.trans a,by
  rcases h.sh with a | a
  ·exact .inl a
  ·exact k.sh.imp id fun b=>b.trans a,k.se.trans h.se⟩
theorem KS.w{u v:Prop}{t t':ag}(h:KS u t t')(huv:u→v):KS v t t':=⟨h.g,h.o,h.p,h.ti,h.pg.imp huv id,h.sh.imp huv id,h.se⟩
theorem yf{u:Prop}{t t':ag}(h:KT u t t'){α:Type}(k:Option α):((bU (decide (t'.af.bn.length=t.af.bn.length))).bind fun _=>((bU (decide (t'.af.aT.Cells.length=t.af.aT.Cells.length))).bind fun _=>((bU (decide (t'.af.aG.Cells.length=t.af.aG.Cells.length))).bind fun _=>k)))=k:=by
 rw [h.p,h.o,h.g,dt rfl,dt rfl,dt rfl,gi rfl,bs,bs,bs]
theorem IV(a lo hi:Int): ∃r,f237 a lo hi=some r:=⟨_,rfl⟩
theorem RA(n:Int)(t:ag): ∃t',f243 n t=some t'∧KS False t t':=by
 unfold f243 zX zW zV zU f237
 simp only [bs,Bool.cond_decide]
 split<;>(try split)<;>(try split)<;>(try split)<;>exact ⟨_,rfl,rfl,rfl,rfl,rfl,.inr rfl,.inr rfl,rfl⟩
theorem iO(c:Int)(t:ag): ∃t',f212 c t=some t'∧KS False t t':=by
 unfold f212 f237
 rw [bs]
 exact ⟨_,rfl,rfl,rfl,rfl,rfl,.inr rfl,.inr rfl,rfl⟩
theorem ars(t:ag)(x:List PD)(m:Int): ∃b,f214 t x m=some b:=by
 unfold f214
 cases (!decide (cQ .and .i64 t.af.eE m=0))<;>exact ⟨_,rfl⟩
theorem Gj(r c:Int)(t:ag): ∃t',f244 r c t=some t'∧KS False t t':=by
 unfold f244
 obtain ⟨b,hb⟩:=ars t [] 2
 rw [hb,bs]
 cases b with
 | true=>
  rw [ct]
  obtain ⟨r',hr⟩:=IV (IntKind.i64.wrap (r+t.af.ji)) t.af.ji (IntKind.i64.wrap (t.af.cT-1))
  rw [hr,bs]
  obtain ⟨t',h1,h2⟩:=iO c (ag.mk ({t.af with Row:=r'}) t.sent)
  have h3:KS False t t':=⟨h2.g,h2.o,h2.p,h2.ti,h2.pg,h2.sh,h2.se⟩
  rw [h1,bs,yf h3.kt]
  exact ⟨t',rfl,h3⟩
 | false=>
  rw [cf]
  obtain ⟨r',hr⟩:=IV r 0 (IntKind.i64.wrap (t.af.aG.bW-1))
  rw [hr,bs]
  obtain ⟨t',h1,h2⟩:=iO c (ag.mk ({t.af with Row:=r'}) t.sent)
  have h3:KS False t t':=⟨h2.g,h2.o,h2.p,h2.ti,h2.pg,h2.sh,h2.se⟩
  rw [h1,bs,yf h3.kt]
  exact ⟨t',rfl,h3⟩
theorem Vd(t:ag): ∃t',f221 t=some t'∧KS False t t':=by
 unfold f221
 obtain ⟨b,hb⟩:=ars t [] 2
 rw [hb,bs]
 exact ⟨_,rfl,rfl,rfl,rfl,rfl,.inr rfl,.inr rfl,rfl⟩
theorem aw1(m:Int)(b:Bool)(t:ag): ∃t',f223 m b t=some t'∧KS False t t':=by
 unfold f223
 cases b
 ·rw [cf];exact ⟨_,rfl,rfl,rfl,rfl,rfl,.inr rfl,.inr rfl,rfl⟩
 ·rw [ct];exact ⟨_,rfl,rfl,rfl,rfl,rfl,.inr rfl,.inr rfl,rfl⟩
theorem Hr(t:ag): ∃t',f222 t=some t'∧KS True t t':=by
 unfold f222
 obtain ⟨t1,h1,k1⟩:=aw1 2 t.af.aI.Origin (ag.mk ({t.af with Row:=(if (IntKind.i64.wrap (t.af.aG.bW-1))<t.af.aI.Row then (IntKind.i64.wrap (t.af.aG.bW-1)) else t.af.aI.Row),bP:=t.af.aI.bP,bp:=t.af.aI.bp,cC:=t.af.aI.cC}) t.sent)
 have k1':KS True t t1:=⟨k1.g,k1.o,k1.p,k1.ti,.inl trivial,.inl trivial,k1.se⟩
 rw [h1,bs,yf k1'.kt]
 obtain ⟨t2,h2,k2⟩:=iO t.af.aI.cP t1
 rw [h2,bs,yf k2.kt]
 exact ⟨t2,rfl,k1'.tr (k2.w fun h=>h.elim)⟩

theorem aev(c:Int)(h0:0≤c)(h1:c<256):(∃m,jO (IntKind.i64.wrap (Int.tdiv c 64)) 4=some m)∧0≤Int.tmod c 64:=by
 obtain ⟨n,rfl⟩:=Int.eq_ofNat_of_zero_le h0
 have e1:Int.tdiv (n:Int) 64=((n/64:Nat):Int):=by simp [Int.tdiv]
 have e2:Int.tmod (n:Int) 64=((n%64:Nat):Int):=by simp [Int.tmod]
 rw [e1,e2,gu _ (by omega),iN _ 4 (by omega)]
 exact ⟨⟨_,rfl⟩,by omega⟩
theorem aeB(s:bu)(c:Int)(h0:0≤c)(h1:c<256): ∃b,f242 s c=some b:=by
 obtain ⟨⟨m,hm⟩,hc⟩:=aev c h0 h1
 unfold f242
 rw [hm,bs,gi (dt hc),bs]
 simp only [Bool.cond_decide]
 split<;>exact ⟨_,rfl⟩
theorem Lx(s:bu)(c n w:Int): ∃r,f218 s c n w=some r:=by
 unfold f218
 simp only [Bool.cond_decide]
 split
 ·exact ⟨_,rfl⟩
 split
 ·exact ⟨_,rfl⟩
 split
 ·exact ⟨_,rfl⟩
 split
 ·exact ⟨_,rfl⟩
 split
 ·exact ⟨_,rfl⟩
 split
 ·exact ⟨_,rfl⟩
 unfold EP
 obtain ⟨r,hr,_⟩:=h_ (body:=zN s c n w) (fun k x=>k=(w-x.2).toNat∧0≤x.2∧x.2<w∧x.1≤16383) (fun _=>True) (n:=(w-c).toNat) (x:=(n,c)) (fun k x hx=>by
  obtain ⟨e,q0,q1,q2⟩:=hx
  unfold zN
  by_cases hp:0<x.1
  case neg=>right;rw [bV (df hp)];exact ⟨_,rfl,trivial⟩
  rw [bT (dt hp)]
  unfold uk
  rw [gu (x.2+1) (by omega),gu (w-1) (by omega)]
  by_cases hw:w≤x.2+1
  ·right;rw [bT (dt hw)];exact ⟨_,rfl,trivial⟩
  rw [bV (df hw)]
  unfold uj
  obtain ⟨b,hb⟩:=aeB s (x.2+1) (by omega) (by omega)
  rw [hb,bs,gu (x.1-1) (by omega)]
  cases b with
  | false=>left;rw [cf];exact ⟨_,(w-(x.2+1)).toNat,rfl,by omega,rfl,by show 0≤x.2+1;omega,by show x.2+1<w;omega,q2⟩
  | true=>
   rw [ct]
   by_cases h1:x.1-1=0
   ·right;rw [bT (dt h1)];exact ⟨_,rfl,trivial⟩
   ·left;rw [bV (df h1)];exact ⟨_,(w-(x.2+1)).toNat,rfl,by omega,rfl,by show 0≤x.2+1;omega,by show x.2+1<w;omega,by show x.1-1≤16383;omega⟩) ⟨rfl,by show 0≤c;omega,by show c<w;omega,by show n≤16383;omega⟩
 rw [hr,bs]
 cases r<;>exact ⟨_,rfl⟩
theorem Vb(s:bu)(c n:Int): ∃r,f245 s c n=some r:=by
 unfold f245
 simp only [Bool.cond_decide]
 split
 ·exact ⟨_,rfl⟩
 split
 ·exact ⟨_,rfl⟩
 split
 ·exact ⟨_,rfl⟩
 split
 ·exact ⟨_,rfl⟩
 unfold EU
 obtain ⟨r,hr,_⟩:=h_ (body:=zY s c n) (fun k x=>k=x.2.toNat∧0≤x.2∧x.2<256∧x.1≤16383) (fun _=>True) (n:=c.toNat) (x:=(n,c)) (fun k x hx=>by
  obtain ⟨e,q0,q1,q2⟩:=hx
  unfold zY
  by_cases hp:0<x.1
  case neg=>right;rw [bV (df hp)];exact ⟨_,rfl,trivial⟩
  rw [bT (dt hp)]
  unfold uu
  rw [gu (x.2-1) (by omega)]
  by_cases hw:x.2-1<0
  ·right;rw [bT (dt hw)];exact ⟨_,rfl,trivial⟩
  rw [bV (df hw)]
  unfold uq
  obtain ⟨b,hb⟩:=aeB s (x.2-1) (by omega) (by omega)
  rw [hb,bs,gu (x.1-1) (by omega)]
  cases b with
  | false=>left;rw [cf];exact ⟨_,(x.2-1).toNat,rfl,by omega,rfl,by show 0≤x.2-1;omega,by show x.2-1<256;omega,q2⟩
  | true=>
   rw [ct]
   by_cases h1:x.1-1=0
   ·right;rw [bT (dt h1)];exact ⟨_,rfl,trivial⟩
   ·left;rw [bV (df h1)];exact ⟨_,(x.2-1).toNat,rfl,by omega,rfl,by show 0≤x.2-1;omega,by show x.2-1<256;omega,by show x.1-1≤16383;omega⟩) ⟨rfl,by show 0≤c;omega,by show c<256;omega,by show n≤16383;omega⟩
 rw [hr,bs]
 cases r<;>exact ⟨_,rfl⟩
theorem aq5(s:bu)(c:Int): ∃r,f220 s c false=some r:=by
 unfold f220
 simp only [Bool.cond_decide]
 split
 ·exact ⟨_,rfl⟩
 split
 ·exact ⟨_,rfl⟩
 unfold zP
 obtain ⟨⟨m,hm⟩,hc⟩:=aev c (by omega) (by omega)
 rw [hm,bs,gi (dt hc),bs,bs,cf]
 exact ⟨_,rfl⟩
theorem Rx(l:List Int)(i z:Int): ∃r,f226 l i z=some r:=by
 unfold f226
 simp only [Bool.cond_decide]
 split
 ·exact ⟨_,rfl⟩
 split
 ·exact ⟨_,rfl⟩
 obtain ⟨n,rfl⟩:=Int.eq_ofNat_of_zero_le (show 0≤i by omega)
 rw [fO l n 0 (by omega),bs]
 split
 ·exact ⟨_,rfl⟩
 ·exact ⟨_,rfl⟩
theorem aew(l:List Int)(i:Int): ∃r,f225 l i=some r:=by
 unfold f225
 obtain ⟨r,hr⟩:=Rx l i 1
 rw [hr,bs]
 exact ⟨_,rfl⟩
def aeC(c:Int):Prop:=c=65∨c=66∨c=67∨c=68∨c=69∨c=70∨c=71∨c=96∨c=100∨c=72∨c=102∨c=73∨c=90∨c=115∨c=117
theorem Lz(a:aM)(n:Int)(t:ag):(aeC a.Code∧ ∃t',f227 a n t=some (t',true)∧KS (a.Code=117) t t')∨(¬aeC a.Code∧f227 a n t=some (t,false)):=by
 unfold f227 vT vS aeC
 have one: ∀{o:Option ag} {t1 t2:ag},o=some t2→KS False t1 t2→(o.bind fun z64=>((bU (decide (z64.af.bn.length=t1.af.bn.length))).bind fun _=>((bU (decide (z64.af.aT.Cells.length=t1.af.aT.Cells.length))).bind fun _=>((bU (decide (z64.af.aG.Cells.length=t1.af.aG.Cells.length))).bind fun _=>(some (z64,true))))))=some (t2,true):=by
  intro o t1 t2 h k
  rw [h,bs,yf k.kt]
 by_cases h65:a.Code=65
 ·left;obtain ⟨t',h,k⟩:=RA n t
  exact ⟨by omega,t',by rw [bT (dt h65)];exact one h k,k.w False.elim⟩
 rw [bV (df h65)]
 by_cases h66:a.Code=66
 ·left;obtain ⟨t',h,k⟩:=RA (IntKind.i64.wrap (0-n)) t
  exact ⟨by omega,t',by rw [bT (dt h66)];exact one h k,k.w False.elim⟩
 rw [bV (df h66)]
 by_cases h67:a.Code=67
 ·left;obtain ⟨t',h,k⟩:=iO (IntKind.i64.wrap (t.af.cP+n)) t
  exact ⟨by omega,t',by rw [bT (dt h67)];exact one h k,k.w False.elim⟩
 rw [bV (df h67)]
 by_cases h68:a.Code=68
 ·left;obtain ⟨t',h,k⟩:=iO (IntKind.i64.wrap (t.af.cP-n)) t
  exact ⟨by omega,t',by rw [bT (dt h68)];exact one h k,k.w False.elim⟩
 rw [bV (df h68)]
 by_cases h69:a.Code=69
 ·left;obtain ⟨t1,h1,k1⟩:=RA (IntKind.i64.wrap (0-n)) t
  obtain ⟨t',h,k⟩:=iO 0 t1
  exact ⟨by omega,t',by rw [bT (dt h69),h1,bs,yf k1.kt];exact one h k,(k1.tr k).w False.elim⟩
 rw [bV (df h69)]
 by_cases h70:a.Code=70
 ·left;obtain ⟨t1,h1,k1⟩:=RA n t
  obtain ⟨t',h,k⟩:=iO 0 t1
  exact ⟨by omega,t',by rw [bT (dt h70),h1,bs,yf k1.kt];exact one h k,(k1.tr k).w False.elim⟩
 rw [bV (df h70),ct,cf]
 by_cases h71:a.Code=71
 ·left;obtain ⟨t',h,k⟩:=iO (IntKind.i64.wrap (n-1)) t
  exact ⟨by omega,t',by rw [bT (dt h71)];exact one h k,k.w False.elim⟩
 rw [bV (df h71)]
 by_cases h96:a.Code=96
 ·left;obtain ⟨t',h,k⟩:=iO (IntKind.i64.wrap (n-1)) t
  exact ⟨by omega,t',by rw [bT (dt h96)];exact one h k,k.w False.elim⟩
 rw [bV (df h96)]
 by_cases ayV:a.Code=100
 ·left;obtain ⟨t',h,k⟩:=Gj (IntKind.i64.wrap (n-1)) t.af.cP t
  exact ⟨by omega,t',by rw [bT (dt ayV)];exact one h k,k.w False.elim⟩
 rw [bV (df ayV),ct,cf]
 obtain ⟨m,hm⟩:=aew a.Args 1
 by_cases h72:a.Code=72
 ·left;obtain ⟨t',h,k⟩:=Gj (IntKind.i64.wrap (n-1)) (IntKind.i64.wrap (m-1)) t
  exact ⟨by omega,t',by rw [bT (dt h72),hm,bs];exact one h k,k.w False.elim⟩
 rw [bV (df h72)]
 by_cases ayW:a.Code=102
 ·left;obtain ⟨t',h,k⟩:=Gj (IntKind.i64.wrap (n-1)) (IntKind.i64.wrap (m-1)) t
  exact ⟨by omega,t',by rw [bT (dt ayW),hm,bs];exact one h k,k.w False.elim⟩
 rw [bV (df ayW)]
 by_cases h73:a.Code=73
 ·left;obtain ⟨r,hr⟩:=Lx t.af.eU t.af.cP n t.af.aG.bR
  obtain ⟨t',h,k⟩:=iO r.1 t
  exact ⟨by omega,t',by rw [bT (dt h73),hr,bs];exact one h k,k.w False.elim⟩
 rw [bV (df h73)]
 by_cases h90:a.Code=90
 ·left;obtain ⟨r,hr⟩:=Vb t.af.eU t.af.cP n
  obtain ⟨t',h,k⟩:=iO r.1 t
  exact ⟨by omega,t',by rw [bT (dt h90),hr,bs];exact one h k,k.w False.elim⟩
 rw [bV (df h90)]
 by_cases ayX:a.Code=115
 ·left;obtain ⟨t',h,k⟩:=Vd t
  exact ⟨by omega,t',by rw [bT (dt ayX)];exact one h k,k.w False.elim⟩
 rw [bV (df ayX)]
 by_cases art:a.Code=117
 ·left;obtain ⟨t',h,k⟩:=Hr t
  exact ⟨by omega,t',by rw [bT (dt art),h,bs,yf k.kt],k.w fun _=>art⟩
 right
 exact ⟨by omega,by rw [bV (df art)]⟩

theorem aeD(l:List ah)(h:l.length≤1048576):f70 l=some l:=by
 unfold f70
 rw [fy _ _ _ (by simp;omega),bs];rfl
theorem aeE(g:bS)(h:g.Cells.length≤1048576):f69 g=some (g.bR,g.bW,g.Cells):=by
 unfold f69
 rw [aeD _ h,bs]
structure SzS (s:aA):Prop where
 g:s.aG.Cells.length≤1048576
 o:s.aT.Cells.length≤1048576
 p:s.bn.length≤1048576
 l: ∀x∈s.bn,x.Cells.length≤1048576
def LL0:bF:=⟨[]⟩
theorem Fa(s:aA)(h:SzS s):f38 s=some s:=by
 unfold f38
 rw [aeE _ h.g,bs,aeE _ h.o,bs]
 have hp:=h.p
 have hl:=j7 (body:=xo s) (fun i=>(s,s.bn.take i,(i:Int))) (s,s.bn) s.bn.length ?_ 0 (by omega) ?_
 ·have hl':b9 (xo s) ({s with aG:=bS.mk s.aG.bR s.aG.bW s.aG.Cells,aT:=bS.mk s.aT.bR s.aT.bW s.aT.Cells},[],0)=some (s,s.bn):=hl
  dsimp only []
  rw [hl',bs]
 ·unfold xo o_
  try dsimp only []
  rw [bV (df (by omega)),cf,List.take_length]
 ·intro i _ hi
  have hc:(s.bn.getD i LL0).Cells.length≤1048576:=by
   have:s.bn.getD i LL0=s.bn[i]:=by simp [hi]
   rw [this];exact h.l _ (List.getElem_mem hi)
  unfold xo o_ xm
  try dsimp only []
  rw [bT (dt (by omega)),ct,fO s.bn i LL0 hi,bs,aeD _ hc,bs,fy 24 _ _ (by rw [List.length_take];simp;omega),bs,nX i (by omega)]
  have e:s.bn.take i++ [bF.mk (s.bn.getD i LL0).Cells]=s.bn.take (i+1):=by
   rw [List.take_add_one]
   have:s.bn[i]?=some (s.bn.getD i LL0):=by simp [hi]
   rw [this];rfl
  rw [e]
theorem arw{α:Type}{body:Int→Option (Int⊕(Unit⊕Int))}{l:List α}(hl:l.length≤1048576)(q:Nat→Bool)
  (h0:body (l.length:Int)=some (.inr (.inl ()))) (h1: ∀i:Nat,i<l.length→body (i:Int)=if q i=true then some (.inr (.inr (i:Int))) else some (.inl ((i+1:Nat):Int))):
  (∃r,b9 body 0=some r∧((r= .inl ()∧ ∀i:Nat,i<l.length→q i=false)∨ ∃i:Nat,r= .inr (i:Int))):=by
 obtain ⟨r,hr,hp⟩:=h_ (body:=body) (fun k x=> ∃i:Nat,x=(i:Int)∧i≤l.length∧k=l.length-i∧ ∀j:Nat,j<i→q j=false) (fun r=>(r= .inl ()∧ ∀i:Nat,i<l.length→q i=false)∨ ∃i:Nat,r= .inr (i:Int)) (by
  rintro k x ⟨i,rfl,hi,rfl,hq⟩
  by_cases hlt:i<l.length
  ·rw [h1 i hlt]
   by_cases hb:q i=true
   ·right;rw [if_pos hb];exact ⟨_,rfl,.inr ⟨i,rfl⟩⟩
   ·left;rw [if_neg hb]
    refine ⟨_,l.length-(i+1),rfl,by omega,i+1,rfl,by omega,rfl,fun j hj=>?_⟩
    by_cases e:j=i
    ·subst e;simpa using hb
    ·exact hq j (by omega)
  ·have:i=l.length:=by omega
   subst this
   right;exact ⟨_,h0,.inl ⟨rfl,hq⟩⟩) (n:=l.length) (x:=0) ⟨0,rfl,by omega,by omega,fun j hj=>by omega⟩
 exact ⟨r,hr,hp⟩
theorem arx(a lo hi:Int): ∃b,f58 a lo hi=some b:=by
 unfold f58
 simp only [Bool.cond_decide]
 split
 ·split<;>exact ⟨_,rfl⟩
 ·exact ⟨_,rfl⟩
theorem aw2(l:List Int)(hl:l.length≤1048576): ∃b,f185 l=some b:=by
 unfold f185 f210
 have hw: ∀z:Int,∃b,f186 z=some b:=fun z=>by
  unfold f186
  obtain ⟨b,hb⟩:=arx z (-1) 16383
  rw [hb,bs];exact ⟨_,rfl⟩
 obtain ⟨r,hr,hp⟩:=arw (body:=vJ l) hl (fun i=>(f186 (l.getD i 0)).getD false) (by
  unfold vJ mY
  rw [bV (df (by omega)),cf]) (fun i hi=>by
  obtain ⟨b,hb⟩:=hw (l.getD i 0)
  unfold vJ mY tX
  rw [bT (dt (by omega)),ct,fO l i 0 hi,bs,hb,bs,nX i (by omega)]
  cases b with
  | true=>rw [ct,Option.getD_some,if_pos rfl]
  | false=>rw [cf,Option.getD_some,if_neg (by decide)])
 rw [hr,bs]
 cases r with
 | inl u=>rw [Sum.elim_inl,bs];simp only [Bool.cond_decide];split<;>exact ⟨_,rfl⟩
 | inr u=>rw [Sum.elim_inr,bs];simp only [Bool.cond_decide];split<;>exact ⟨_,rfl⟩
def A0:aM:=⟨0,0,0,[],[],[]⟩
theorem Hs(l:List aM)(hl:l.length≤1048576)(h: ∀x∈l,x.Args.length≤1048576): ∃n,f145 l=some n:=by
 unfold f145
 obtain ⟨r,hr,_⟩:=h_ (body:=zm l) (fun k x=> ∃i:Nat,x=(i:Int)∧i≤l.length∧k=l.length-i) (fun _=>True) (by
  rintro k x ⟨i,rfl,hi,rfl⟩
  unfold zm
  by_cases hlt:i<l.length
  ·rw [bT (dt (by omega))]
   unfold mZ tY
   rw [ct,fO l i A0 hlt,bs,nX i (by omega)]
   obtain ⟨b,hb⟩:=aw2 (l.getD i A0).Args (by
    have:l.getD i A0=l[i]:=by simp [hlt]
    rw [this];exact h _ (List.getElem_mem hlt))
   rw [hb,bs]
   simp only [Bool.cond_decide]
   split
   ·right;exact ⟨_,rfl,trivial⟩
   split
   ·right;exact ⟨_,rfl,trivial⟩
   cases b with
   | true=>right;rw [ct];exact ⟨_,rfl,trivial⟩
   | false=>left;rw [cf];exact ⟨_,l.length-(i+1),rfl,by omega,i+1,rfl,by omega,rfl⟩
  ·rw [bV (df (by omega))]
   unfold mZ
   rw [cf]
   right;exact ⟨_,rfl,trivial⟩) (n:=l.length) (x:=0) ⟨0,rfl,by omega,by omega⟩
 rw [hr,bs]
 cases r<;>exact ⟨_,rfl⟩
theorem Ad(l:List ah)(hl:l.length≤1048576):f37 l l=some true:=by
 unfold f37
 rw [dt rfl,Bool.not_true,cf]
 unfold IP
 have h:=j7 (body:=xI l l) (fun i=>(i:Int)) (.inl ()) l.length ?_ 0 (by omega) ?_
 ·have h':b9 (xI l l) 0=some (.inl ()):=h
  rw [h',bs];rfl
 ·unfold xI pF
  rw [bV (df (by omega)),cf]
 ·intro i _ hi
  unfold xI pF xH
  rw [bT (dt (by omega)),ct,fO l i ⟨0,⟨0,0,0⟩⟩ hi,bs,bs,dt rfl,dt rfl,dt rfl,dt rfl,nX i (by omega)]
  rfl
theorem C7(g:bS)(hl:g.Cells.length≤1048576):f34 g g=some true:=by
 unfold f34
 rw [bT (dt rfl),bT (dt rfl),Ad _ hl,bs]
def sOf(W H:Nat)(st:bu)(g:List ah)(r c:Int)(late:Bool):aA:=
 ⟨⟨W,H,g⟩,r,c,late,0,H,⟨0,0,0⟩,12,st,(1,1),0,⟨0,0,⟨0,0,0⟩,false,(1,1),0⟩,⟨W,H,gK (W*H) (fun _=>blank P0)⟩,[],[]⟩
theorem O2: ∃st,f102=some st:=by
 unfold f102
 obtain ⟨r,hr,_⟩:=h_ (body:=zQ) (fun k x=> ∃i:Nat,x.2=8*((i:Int)+1)∧i≤31∧k=31-i) (fun _=>True) (by
  rintro k ⟨s,_⟩ ⟨i,rfl,hi,rfl⟩
  unfold zQ
  try dsimp only []
  by_cases hlt:i<31
  ·left
   rw [bT (dt (by omega))]
   unfold uo
   have e:(8*((i:Int)+1))=((8*(i+1):Nat):Int):=by omega
   have e2:Int.tdiv ((8*(i+1):Nat):Int) 64=((8*(i+1)/64:Nat):Int):=by
    rw [show (64:Int)=((64:Nat):Int) from rfl];exact (Int.ofNat_tdiv _ _).symm
   have e3:0≤Int.tmod ((8*(i+1):Nat):Int) 64:=Int.tmod_nonneg _ (by omega)
   rw [e,e2,gu _ (by omega),iN _ 4 (by omega),bs,gi (dt e3),bs,bs,gu _ (by omega)]
   exact ⟨_,31-(i+1),rfl,by omega,i+1,by show ((8*(i+1):Nat):Int)+8=8*(((i+1:Nat):Int)+1);omega,by omega,rfl⟩
  ·right
   rw [bV (df (by omega))]
   exact ⟨_,rfl,trivial⟩) (n:=31) (x:=(bu.mk (fun _=>0),8)) ⟨0,by rfl,by omega,by omega⟩
 rw [hr,bs]
 exact ⟨_,rfl⟩
theorem ary(W H:Nat)(g:List ah)(h:g.length≤100000):f69 ⟨(W:Int),(H:Int),g⟩=some ⟨(W:Int),(H:Int),g⟩:=by
 unfold f69
 rw [E7 _ h,bs]
theorem arz(W H:Nat)(p:bA)(h1:1≤W∧W≤160)(h2:1≤H∧H≤60):f138 (W:Int) (H:Int) p=some ⟨(W:Int),(H:Int),gK (W*H) (fun _=>blank p)⟩:=by
 have h9:=size_le W H h1.2 h2.2
 have h3:=Nat.mul_le_mul h1.1 h2.1
 unfold f138
 rw [show f161 p=some (blank p) from rfl,bs,aq_ W H h1.2 h2.2,LG (blank p) (W*H) (by omega) (by omega),bs,Vj]
theorem ZM(W H:Nat)(h1:1≤W∧W≤160)(h2:1≤H∧H≤60):f101 (W:Int) (H:Int) (bA.mk 0 0 0)=some ((W:Int),(H:Int),gK (W*H) (fun _=>blank P0),0):=by
 unfold f101 ER
 rw [Lv,bs,Bb,bs,if_pos (by omega),bV (by rfl),bV (by rfl),arz W H _ h1 h2,bs];rfl
theorem awW(W H:Nat):Rt W H (gK (W*H) (fun _=>blank P0)):=fun n hn i hi=>
 Zj P0 (by decide) W i _ (ux _ _ _ (mul_lt n H W i hn hi))
theorem Vc(W H:Nat)(h1:1≤W∧W≤160)(h2:1≤H∧H≤60): ∃st,f68 (W:Int) (H:Int)=some (sOf W H st (gK (W*H) (fun _=>blank P0)) 0 0 false,0):=by
 obtain ⟨st,hst⟩:=O2
 have h9:=size_le W H h1.2 h2.2
 refine ⟨st,?_⟩
 unfold f68
 rw [ZM W H h1 h2,bs,bV (by rfl)]
 unfold IJ
 rw [ary W H _ (by rw [cR];omega),bs,hst,bs];rfl
end Go.Proofs.YtimbfadnabfabaaGreatDoor.Pm

namespace Go.Proofs.YtimbfadnabfabaaGreatDoor.Pr
open Go.Proofs.YtimbfadnabfabaaGreatDoor.Pm
open Go.Proofs.YtimbfadnabfabaaGreatDoor.Args
open Go.ChangeShapes Go.WideShapes Go.ChangeAt Go.RowKit
set_option linter.unusedVariables false
set_option linter.unusedSimpArgs false
set_option maxRecDepth 100000
set_option maxHeartbeats 4000000
abbrev fJ:=List UInt8
def okB(b:UInt8):Bool:=decide (b.toNat=59) || (decide (48≤b.toNat)&&decide (b.toNat≤57))
def Cu(n:Int)(z:UInt8):Int:=if 16383<(if 0>n then 0 else n)*10+((z-48).toNat:Int) then 16383 else (if 0>n then 0 else n)*10+((z-48).toNat:Int)
def num(w:List UInt8):Int:=w.foldl Cu (-1)
def js(s:List UInt8):List Int×Int:=if s.all okB then (((jA 59 s).map num).take 32,0) else ([],4)
theorem IX(n:Int)(z:UInt8)(h: -1≤n∧n≤16383):0≤Cu n z∧Cu n z≤16383:=by
 unfold Cu
 have:=ajZ (z-48)
 constructor<;>split<;>split at* <;>omega
theorem O6(a1:List UInt8)(out:List Int)(ps:List (List UInt8))(k j:Int): ∀(xQ pre:List UInt8) (n:Int),-1≤n∧n≤16383→(pre++xQ).length≤100000000→
  b9 (oU a1) (out,pre++xQ,n,ps,k,j,((pre++xQ).length:Int),(pre.length:Int))=some (out,xQ.foldl Cu n,ps,k,j)
 | [],pre,n,h,hl=>dK (by
   unfold oU j9
   simp only [xL,cond_false];rfl)
 | z::t,pre,n,h,hl=>by
  have e1:pre++z::t=(pre++ [z])++t:=by simp
  have hb:=IX n z h
  have ih:=O6 a1 out ps k j t (pre++ [z]) (Cu n z) ⟨by omega,hb.2⟩ (by rw [←e1];exact hl)
  rw [←e1] at ih
  refine fM ?_ ih
  unfold oU j9 pM
  simp only [uw,cond_true,jl,Option.bind_some]
  have hp:pre.length<1000000000:=by simp at hl;omega
  have hz:=ajZ (z-48)
  have w1:IntKind.i64.wrap ((if 0>n then 0 else n)*10)=(if 0>n then 0 else n)*10:=gu _ (by split<;>omega)
  have w2:IntKind.i64.wrap ((if 0>n then 0 else n)*10+((z-48).toNat:Int))=(if 0>n then 0 else n)*10+((z-48).toNat:Int):=gu _ (by split<;>omega)
  rw [tj pre z hp,w1,w2]
  rfl
theorem Hv(a1:List UInt8)(ps:List (List UInt8))(hps: ∀w∈ps,w.length≤100000000)(hl:ps.length≤100000000): ∀(xQ pre:List (List UInt8)) (out:List Int),ps=pre++xQ→out.length≤32→
  b9 (wS a1) (out,ps,(ps.length:Int),(pre.length:Int))=some (out++(xQ.map num).take (32-out.length))
 | [],pre,out,e,h=>dK (by
   subst e
   unfold wS mJ
   simp only [xL,cond_false]
   simp)
 | w::t,pre,out,e,h=>by
  have hp:pre.length<1000000000:=by rw [e] at hl;simp at hl;omega
  by_cases vZ:out.length=32
  ·refine dK ?_
   subst e
   unfold wS mJ sA
   simp only [uw,cond_true,jl,Option.bind_some]
   rw [decide_eq_true (show (out.length:Int)=32 by omega),vZ]
   simp
  ·have ih:=Hv a1 ps hps hl t (pre++ [w]) (out++ [num w]) (by rw [e];simp) (by simp;omega)
   have hw:=O6 a1 out ps (ps.length:Int) (pre.length:Int) w [] (-1) (by omega) (by have:=hps w (by rw [e];simp);simpa using this)
   simp only [List.nil_append,List.length_nil] at hw
   have e3:32-out.length=(32-(out++ [num w]).length)+1:=by simp;omega
   have e2:out++((w::t).map num).take (32-out.length)=out++ [num w]++(t.map num).take (32-(out++ [num w]).length):=by
    rw [e3,List.map_cons,List.take_succ_cons];simp
   rw [e2]
   refine fM ?_ ih
   have hx:idx ps (pre.length:Int)=some w:=by rw [e];exact jl pre w t
   have hlt:decide ((pre.length:Int)<(ps.length:Int))=true:=by rw [e];exact uw pre w t
   unfold wS mJ sA wR
   simp only [hlt,hx,cond_true,Option.bind_some]
   rw [decide_eq_false (show¬(out.length:Int)=32 by omega)]
   simp only [cond_false]
   have h0:(0:Int)=((0:Nat):Int):=rfl
   rw [h0,hw]
   simp only [Option.bind_some]
   rw [fy 8 _ _ (by simp;omega)]
   simp only [Option.bind_some]
   rw [tj pre w hp];rfl
theorem Hw(a1:List UInt8): ∀(xQ pre:List UInt8),a1=pre++xQ→a1.length≤100000000→
  b9 (wT a1) (pre.length:Int)=some (if xQ.all okB then .inl () else .inr ([],4))
 | [],pre,e,h=>dK (by
   subst e
   unfold wT kP
   simp only [xL,cond_false];rfl)
 | z::t,pre,e,h=>by
  have hp:pre.length<1000000000:=by rw [e] at h;simp at h;omega
  have hx:idx a1 (pre.length:Int)=some z:=by rw [e];exact jl pre z t
  have hlt:decide ((pre.length:Int)<(a1.length:Int))=true:=by rw [e];exact uw pre z t
  by_cases hz:okB z=true
  ·have ih:=Hw a1 t (pre++ [z]) (by rw [e];simp) h
   rw [List.all_cons,hz,Bool.true_and]
   refine fM ?_ ih
   unfold wT kP qa
   simp only [hlt,hx,cond_true,Option.bind_some]
   rw [tj pre z hp]
   by_cases h59:z.toNat=59
   ·rw [decide_eq_true (show (z.toNat:Int)=59 by omega)];rfl
   ·rw [decide_eq_false (show¬(z.toNat:Int)=59 by omega)]
    unfold okB at hz
    simp [h59] at hz
    rw [decide_eq_false (show¬(z.toNat:Int)<48 by omega),decide_eq_false (show¬(57:Int)<(z.toNat:Int) by omega)];rfl
  ·rw [List.all_cons,Bool.eq_false_iff.2 hz,Bool.false_and]
   refine dK ?_
   unfold wT kP qa
   simp only [hlt,hx,cond_true,Option.bind_some]
   unfold okB at hz
   simp at hz
   rw [decide_eq_false (show¬(z.toNat:Int)=59 by omega)]
   simp only [Bool.not_false,cond_true]
   by_cases Db:z.toNat<48
   ·rw [decide_eq_true (show (z.toNat:Int)<48 by omega)];rfl
   ·rw [decide_eq_false (show¬(z.toNat:Int)<48 by omega)]
    simp only [cond_false]
    rw [decide_eq_true (show (57:Int)<(z.toNat:Int) by omega)];rfl
theorem arB(b:UInt8)(h:okB b=true):b∈([48,49,50,51,52,53,54,55,56,57,59]:List UInt8):=by
 unfold okB at h
 have hb:b=UInt8.ofNat b.toNat:=aA5 rfl b.toNat_lt
 have:b.toNat=48∨b.toNat=49∨b.toNat=50∨b.toNat=51∨b.toNat=52∨b.toNat=53∨b.toNat=54∨b.toNat=55∨b.toNat=56∨b.toNat=57∨b.toNat=59:=by simp at h;omega
 rcases this with e | e | e | e | e | e | e | e | e | e | e<;>rw [hb,e]<;>decide
theorem Vp(s:List UInt8)(h:s.length≤10000000):f54 s=some (js s):=by
 unfold f54 sj
 rw [if_pos ⟨by omega,by simp,by decide⟩,bs]
 have hc:=Hw s s [] rfl (by omega)
 have h0:(0:Int)=(([]:List UInt8).length:Int):=rfl
 unfold js
 cases ha:s.all okB with
 | true=>
  rw [ha] at hc
  have ht:Lib.trimS s [48,49,50,51,52,53,54,55,56,57,59]= []:=ain s _ fun b hb=>arB b (List.all_eq_true.1 ha b hb)
  rw [ht,decide_eq_true rfl,Bool.not_true,cf]
  unfold D9
  rw [h0,hc,bs,if_pos rfl,Sum.elim_inl]
  unfold Iq
  rw [aim s 59 (by omega),bs]
  have hp:=Hv s (jA 59 s) (fun w hw=>by have:=(E6 59 s w hw).1;omega) (by have:=Hp 59 s;omega) (jA 59 s) [] [] rfl (by simp)
  simp only [List.length_nil,List.nil_append] at hp
  rw [h0,show ((([]:List UInt8).length:Int))=((0:Nat):Int) from rfl,hp,bs]
  rfl
 | false=>
  rw [ha] at hc
  by_cases ht:Lib.trimS s [48,49,50,51,52,53,54,55,56,57,59]= []
  ·rw [ht,decide_eq_true rfl,Bool.not_true,cf]
   unfold D9
   rw [h0,hc,bs,if_neg (by simp),Sum.elim_inr];rfl
  ·rw [decide_eq_false ht,Bool.not_false,ct];rfl
theorem tq(s:List UInt8):(js s).1.length≤32:=by
 unfold js
 split
 ·simp;omega
 ·simp
def kj:aM:=⟨6,0,0,[],[],[]⟩
def cJ(s:Int):aS:=⟨s,0,[],[],[]⟩
theorem n_(a:aM)(S M:Int)(I A T:fJ)(l:List aM)(h:l.length≤700000000):f179 a S M I A T l=some (S,M,I,A,T,l++ [a]):=by
 unfold f179
 rw [fy 80 _ _ (by simp;omega),bs]
theorem Ae(s S M:Int)(I A T:fJ)(l:List aM)(h:l.length≤700000000):f181 s S M I A T l=some (s,l++ [kj]):=by
 unfold f181
 rw [show aM.mk 6 0 0 [] [] []=kj from rfl,n_ _ _ _ _ _ _ _ h,bs]
 unfold f180
 rw [bs]
theorem Gk(a:aM)(S M:Int)(I A T:fJ)(l:List aM)(h:l.length≤700000000):f207 a S M I A T l=some (0,l++ [if I.length=3 then kj else a]):=by
 unfold f207
 by_cases h3:I.length=3
 ·rw [decide_eq_true (by omega),ct,if_pos h3,show aM.mk 6 0 0 [] [] []=kj from rfl,n_ _ _ _ _ _ _ _ h,bs]
  unfold f180
  rw [bs]
 ·rw [decide_eq_false (by omega),cf,if_neg h3,n_ _ _ _ _ _ _ _ h,bs]
  unfold f180
  rw [bs]
def sg(c:Int):UInt8:=UInt8.ofNat c.toNat
theorem arC:((List.range 64).all fun n=>decide ((Utf8.encode (IntKind.i32.wrap (n:Int))).data.toList= [UInt8.ofNat n]))=true:=by kernel_rfl
theorem aeF(c:Int)(h:0≤c∧c<64):(Utf8.encode (IntKind.i32.wrap c)).data.toList= [sg c]:=by
 obtain ⟨n,rfl⟩:=Int.eq_ofNat_of_zero_le h.1
 exact of_decide_eq_true (List.all_eq_true.1 arC n (List.mem_range.2 (by omega)))
def tu(I:fJ)(c:Int):fJ:=if I.length<3 then I++ [sg c] else I
theorem Vq(c S M:Int)(I A T:fJ)(l:List aM)(hc:0≤c∧c<64):f206 c S M I A T l=some (S,M,tu I c,A,T,l):=by
 unfold f206 tu
 rw [aeF c hc]
 by_cases h3:I.length<3
 ·rw [decide_eq_true (by omega),ct,if_pos h3,jS _ _ (by simp;omega),bs]
 ·rw [decide_eq_false (by omega),cf,if_neg h3]
theorem gj(n a b:Int):f55 n a b=some (decide (a≤n)&&decide (n≤b)):=by
 unfold f55
 cases decide (a≤n)<;>cases decide (n≤b)<;>rfl
def fD(r:Int):fJ:=
 bif decide (IntKind.u32.wrap r≤127) then [u8 r] else
 bif decide (IntKind.u32.wrap r≤2047) then [(192:UInt8) ||| u8 (Int.fdiv r (2^6)),(128:UInt8) ||| (u8 r&&&(63:UInt8))] else
 bif (bif decide (IntKind.u32.wrap r<55296) then true else (decide (57343<IntKind.u32.wrap r)&&decide (IntKind.u32.wrap r≤65535))) then [(224:UInt8) ||| u8 (Int.fdiv r (2^12)),(128:UInt8) ||| (u8 (Int.fdiv r (2^6))&&&(63:UInt8)),(128:UInt8) ||| (u8 r&&&(63:UInt8))] else
 bif (decide (65535<IntKind.u32.wrap r)&&decide (IntKind.u32.wrap r≤1114111)) then [(240:UInt8) ||| u8 (Int.fdiv r (2^18)),(128:UInt8) ||| (u8 (Int.fdiv r (2^12))&&&(63:UInt8)),(128:UInt8) ||| (u8 (Int.fdiv r (2^6))&&&(63:UInt8)),(128:UInt8) ||| (u8 r&&&(63:UInt8))] else [239,191,189]
theorem ap1(a:UInt8):eP 1 [] [a]=some [a]:=fy 1 [] [a] (by simp)
theorem ap2(a b:UInt8):eP 1 [] [a,b]=some [a,b]:=fy 1 [] [a,b] (by simp)
theorem ap3(a b c:UInt8):eP 1 [] [a,b,c]=some [a,b,c]:=fy 1 [] [a,b,c] (by simp)
theorem ap4(a b c d:UInt8):eP 1 [] [a,b,c,d]=some [a,b,c,d]:=fy 1 [] [a,b,c,d] (by simp)
theorem kX(r:Int):f115 r []=some (fD r):=by
 unfold f115 fD f160 qd
 simp only [ap1,ap2,ap3,ap4,bs]
 generalize decide (IntKind.u32.wrap r≤127)=b1
 generalize decide (IntKind.u32.wrap r≤2047)=b2
 generalize decide (IntKind.u32.wrap r<55296)=b3
 generalize decide (57343<IntKind.u32.wrap r)=b4
 generalize decide (IntKind.u32.wrap r≤65535)=b5
 generalize decide (65535<IntKind.u32.wrap r)=b6
 generalize decide (IntKind.u32.wrap r≤1114111)=b7
 cases b1<;>cases b2<;>cases b3<;>cases b4<;>cases b5<;>cases b6<;>cases b7<;>rfl
theorem nj(r:Int):(fD r).length≤4:=by
 unfold fD
 generalize decide (IntKind.u32.wrap r≤127)=b1
 generalize decide (IntKind.u32.wrap r≤2047)=b2
 generalize (bif decide (IntKind.u32.wrap r<55296) then true else (decide (57343<IntKind.u32.wrap r)&&decide (IntKind.u32.wrap r≤65535)))=b3
 generalize (decide (65535<IntKind.u32.wrap r)&&decide (IntKind.u32.wrap r≤1114111))=b4
 cases b1<;>cases b2<;>cases b3<;>cases b4<;>simp
def Hx(c:Int):fJ:=fD (if c<0∨1114111<c∨(55296≤c∧c≤57343) then 65533 else IntKind.i32.wrap c)
theorem arD(c:Int):f78 [c]=some (Hx c):=by
 unfold f78
 have h1:pP [c] ([],0)=some (.inl (Hx c,1)):=by
  unfold pP kT sP Hx
  simp only
  rw [decide_eq_true (by simp),ct,ct,show idx [c] 0=some c from jl [] c [],bs,show IntKind.i64.wrap (0+1)=1 from rfl]
  by_cases a:c<0
  ·rw [decide_eq_true a,ct,if_pos (.inl a),kX,bs]
  ·rw [decide_eq_false a,cf]
   by_cases b:1114111<c
   ·rw [decide_eq_true b,ct,if_pos (.inr (.inl b)),kX,bs]
   ·rw [decide_eq_false b,cf]
    by_cases d:55296≤c
    ·rw [decide_eq_true d,ct]
     by_cases e:c≤57343
     ·rw [decide_eq_true e,ct,if_pos (.inr (.inr ⟨d,e⟩)),kX,bs]
     ·rw [decide_eq_false e,cf,if_neg (by omega),kX,bs]
    ·rw [decide_eq_false d,cf,if_neg (by omega),kX,bs]
 have h2:pP [c] (Hx c,1)=some (.inr (Hx c)):=by
  unfold pP kT
  simp only
  rw [decide_eq_false (by simp),cf,cf]
 rw [fM h1 (dK h2),bs]
def Gl(p:aS)(c:Int):aS×List aM:=
 if c=27 then (⟨p.State+1,p.Mark,p.Inter,p.Args,p.Text⟩,[]) else if c=24 then (cJ 0,[kj]) else if c=26 then (cJ 0,[kj]) else if p.State=9 then (p,[]) else if c=7 then (cJ 0,[⟨5,0,0,[],[],p.Text⟩]) else if c<32 then (p,[]) else if 127≤c∧c≤159 then (p,[]) else if (p.Text++Hx c).length≤256 then (⟨p.State,p.Mark,p.Inter,p.Args,p.Text++Hx c⟩,[]) else (p,[])
def Be(a:aM)(p:aS):aS×List aM:=(cJ 0,[if p.Inter.length=3 then kj else a])
def Ct(p:aS)(c:Int):aS×List aM:=
 if c<48 then (⟨2,p.Mark,tu p.Inter c,p.Args,p.Text⟩,[]) else if p.State=2 then Be ⟨3,c,0,p.Inter,[],[]⟩ p else if c=91 then (⟨3,p.Mark,p.Inter,p.Args,p.Text⟩,[]) else if c=93 then (⟨7,p.Mark,p.Inter,p.Args,p.Text⟩,[]) else if 0≤Lib.indexByte [80,88,94,95] (u8 c) then (⟨9,p.Mark,p.Inter,p.Args,p.Text⟩,[]) else Be ⟨3,c,0,[],[],[]⟩ p
def yg(p:aS)(c:Int):aS×List aM:=
 if p.State=6 then (if 64≤c then (cJ 0,[kj]) else (p,[])) else if c<48 then (⟨5,p.Mark,tu p.Inter c,p.Args,p.Text⟩,[]) else if 64≤c then Be ⟨4,c,p.Mark,p.Inter,(js p.Args).1,[]⟩ p else if p.State=5 then (cJ 6,[]) else if c=58 then (cJ 6,[]) else if c<60 then (⟨4,p.Mark,p.Inter,(if p.Args.length<100 then p.Args++ [sg c] else p.Args),p.Text⟩,[]) else if p.State=3 then (⟨4,c,p.Inter,p.Args,p.Text⟩,[]) else (cJ 6,[])
def n9(p:aS)(c:Int):Option (aS×List aM):=
 if c=27 then some (cJ 1,if p.State=0 then [] else [kj]) else if c=24 then some (cJ 0,if p.State=0 then [] else [kj]) else if c=26 then some (cJ 0,if p.State=0 then [] else [kj]) else if c<32 then some (p,[⟨2,c,0,[],[],[]⟩]) else if 127≤c∧c≤159 then some (p,[]) else none
def lq(p:aS)(c:Int):aS×List aM:=match n9 p c with
 | some r=>r
 | none=>if p.State=0 then (p,[⟨1,c,0,[],[],[]⟩]) else if 160≤c then (cJ 0,[kj]) else if p.State≤2 then Ct p c else yg p c
def fh(p:aS)(c:Int):aS×List aM:=
 if c<0 then (p,[]) else if 1114111<c then (p,[]) else if p.State=7∨p.State=9 then Gl p c else if p.State=8∨p.State=10 then (if c=92 then (cJ 0,[if p.State=8 then ⟨5,0,0,[],[],p.Text⟩ else kj]) else ((lq (cJ 1) c).1,kj::(lq (cJ 1) c).2)) else lq p c
def pk(l:List aM)(r:aS×List aM):Int×Int×fJ×fJ×fJ×List aM:=(r.1.State,r.1.Mark,r.1.Inter,r.1.Args,r.1.Text,l++r.2)
theorem iH(l:List aM)(p:aS):pk l (p,[])=(p.State,p.Mark,p.Inter,p.Args,p.Text,l):=by simp [pk]
theorem arE(c:Int)(p:aS)(l:List aM)(h:l.length≤700000000)(hS:0≤p.State∧p.State≤10)(hT:p.Text.length≤256):f178 c p.State p.Mark p.Inter p.Args p.Text l=some (pk l (Gl p c)):=by
 unfold f178 Gl
 by_cases H7:c=27
 ·rw [decide_eq_true H7,ct,if_pos H7,iH,gu _ (by omega)]
 rw [decide_eq_false H7,cf,if_neg H7]
 by_cases H8:c=24
 ·rw [decide_eq_true H8,ct,if_pos H8,Ae _ _ _ _ _ _ _ h,bs];rfl
 rw [decide_eq_false H8,cf,if_neg H8]
 by_cases H9:c=26
 ·rw [decide_eq_true H9,ct,if_pos H9,Ae _ _ _ _ _ _ _ h,bs];rfl
 rw [decide_eq_false H9,cf,if_neg H9]
 by_cases h9:p.State=9
 ·rw [decide_eq_true h9,ct,if_pos h9,iH]
 rw [decide_eq_false h9,cf,if_neg h9]
 by_cases h7:c=7
 ·rw [decide_eq_true h7,ct,if_pos h7,n_ _ _ _ _ _ _ _ h,bs]
  unfold f180
  rw [bs];rfl
 rw [decide_eq_false h7,cf,if_neg h7]
 by_cases vZ:c<32
 ·rw [decide_eq_true vZ,ct,if_pos vZ,iH]
 rw [decide_eq_false vZ,cf,if_neg vZ,gj,bs]
 by_cases hw:127≤c∧c≤159
 ·rw [decide_eq_true hw.1,decide_eq_true hw.2,Bool.and_self,ct,if_pos hw,iH]
 rw [show (decide ((127:Int)≤c)&&decide (c≤159))=false by rw [←Bool.decide_and];exact decide_eq_false hw,cf,if_neg hw,arD,bs,jS _ _ (by have:=nj (if c<0∨1114111<c∨(55296≤c∧c≤57343) then 65533 else IntKind.i32.wrap c);show p.Text.length+(fD _).length≤_;omega),bs]
 by_cases hl:(p.Text++Hx c).length≤256
 ·rw [decide_eq_true (by omega),ct,if_pos hl,iH]
 ·rw [decide_eq_false (by omega),cf,if_neg hl,iH]
theorem RB(c:Int)(p:aS)(l:List aM)(h:l.length≤700000000)(hc:0≤c):f183 c p.State p.Mark p.Inter p.Args p.Text l=some (pk l (Ct p c)):=by
 unfold f183 Ct
 by_cases Db:c<48
 ·rw [decide_eq_true Db,ct,if_pos Db,Vq _ _ _ _ _ _ _ (by omega),bs,iH]
 rw [decide_eq_false Db,cf,if_neg Db]
 by_cases h2:p.State=2
 ·rw [decide_eq_true h2,ct,if_pos h2,Gk _ _ _ _ _ _ _ h,bs];rfl
 rw [decide_eq_false h2,cf,if_neg h2]
 by_cases h91:c=91
 ·rw [decide_eq_true h91,ct,if_pos h91,iH]
 rw [decide_eq_false h91,cf,if_neg h91]
 by_cases h93:c=93
 ·rw [decide_eq_true h93,ct,if_pos h93,iH]
 rw [decide_eq_false h93,cf,if_neg h93]
 unfold l6
 rw [bs]
 by_cases hi:0≤Lib.indexByte [80,88,94,95] (u8 c)
 ·rw [decide_eq_true hi,ct,if_pos hi,iH]
 rw [decide_eq_false hi,cf,if_neg hi,Gk _ _ _ _ _ _ _ h,bs];rfl
theorem aw5(c:Int)(p:aS)(l:List aM)(h:l.length≤700000000)(hc:0≤c)(hA:p.Args.length≤100):f184 c p.State p.Mark p.Inter p.Args p.Text l=some (pk l (yg p c)):=by
 unfold f184 yg
 by_cases h6:p.State=6
 ·rw [decide_eq_true h6,ct,if_pos h6]
  by_cases M_:64≤c
  ·rw [decide_eq_true M_,ct,if_pos M_,Ae _ _ _ _ _ _ _ h,bs];rfl
  ·rw [decide_eq_false M_,cf,if_neg M_,iH]
 rw [decide_eq_false h6,cf,if_neg h6]
 by_cases Db:c<48
 ·rw [decide_eq_true Db,ct,if_pos Db,Vq _ _ _ _ _ _ _ (by omega),bs,iH]
 rw [decide_eq_false Db,cf,if_neg Db]
 by_cases M_:64≤c
 ·rw [decide_eq_true M_,ct,if_pos M_,Vp _ (by omega),bs]
  unfold ED
  rw [Gk _ _ _ _ _ _ _ h,bs];rfl
 rw [decide_eq_false M_,cf,if_neg M_]
 by_cases h5:p.State=5
 ·rw [decide_eq_true h5,ct,if_pos h5,iH]
  unfold f209
  rw [bs];rfl
 rw [decide_eq_false h5,cf,if_neg h5]
 by_cases Zk:c=58
 ·rw [decide_eq_true Zk,ct,if_pos Zk,iH]
  unfold f209
  rw [bs];rfl
 rw [decide_eq_false Zk,cf,if_neg Zk]
 by_cases Vr:c<60
 ·rw [decide_eq_true Vr,ct,if_pos Vr,iH]
  by_cases ha:p.Args.length<100
  ·rw [decide_eq_true (by omega),ct,if_pos ha,aeF c (by omega),jS _ _ (by simp;omega),bs]
  ·rw [decide_eq_false (by omega),cf,if_neg ha]
 rw [decide_eq_false Vr,cf,if_neg Vr]
 by_cases h3:p.State=3
 ·rw [decide_eq_true h3,ct,if_pos h3,iH]
 ·rw [decide_eq_false h3,cf,if_neg h3,iH]
  unfold f209
  rw [bs];rfl
theorem RF(c nx:Int)(p:aS)(l:List aM)(h:l.length≤700000000):vE c p.State p.Mark p.Inter p.Args p.Text l nx=some (nx,0,[],[],[],l++(if p.State=0 then [] else [kj]),true):=by
 unfold vE
 by_cases h0:p.State=0
 ·rw [decide_eq_true h0,Bool.not_true,cf,if_pos h0]
  unfold f180
  rw [bs,List.append_nil]
 ·rw [decide_eq_false h0,Bool.not_false,ct,if_neg h0,show aM.mk 6 0 0 [] [] []=kj from rfl,n_ _ _ _ _ _ _ _ h,bs]
  unfold f180
  rw [bs]
theorem arF(c:Int)(p:aS)(l:List aM)(h:l.length≤700000000):f182 c p.State p.Mark p.Inter p.Args p.Text l=some (match n9 p c with
  | some r=>(r.1.State,r.1.Mark,r.1.Inter,r.1.Args,r.1.Text,l++r.2,true)
  | none=>(p.State,p.Mark,p.Inter,p.Args,p.Text,l,false)):=by
 unfold f182 n9
 by_cases H7:c=27
 ·rw [decide_eq_true H7,ct,if_pos H7,RF c 1 p l h];rfl
 rw [decide_eq_false H7,cf,if_neg H7]
 by_cases H8:c=24
 ·rw [decide_eq_true H8,ct,if_pos H8]
  unfold vG
  rw [RF c 0 p l h];rfl
 rw [decide_eq_false H8,cf,if_neg H8]
 by_cases H9:c=26
 ·rw [decide_eq_true H9,ct,if_pos H9]
  unfold vG
  rw [RF c 0 p l h];rfl
 rw [decide_eq_false H9,cf,if_neg H9]
 by_cases vZ:c<32
 ·rw [decide_eq_true vZ,ct,if_pos vZ,n_ _ _ _ _ _ _ _ h,bs]
 rw [decide_eq_false vZ,cf,if_neg vZ,gj,bs]
 by_cases hw:127≤c∧c≤159
 ·rw [decide_eq_true hw.1,decide_eq_true hw.2,Bool.and_self,if_pos hw]
  simp only [List.append_nil]
 ·rw [show (decide ((127:Int)≤c)&&decide (c≤159))=false by rw [←Bool.decide_and];exact decide_eq_false hw,if_neg hw]
theorem LQ{p:aS}{c:Int}(h:n9 p c=none):32≤c∧ ¬(127≤c∧c≤159):=by
 unfold n9 at h
 by_cases H7:c=27
 ·rw [if_pos H7] at h;cases h
 rw [if_neg H7] at h
 by_cases H8:c=24
 ·rw [if_pos H8] at h;cases h
 rw [if_neg H8] at h
 by_cases H9:c=26
 ·rw [if_pos H9] at h;cases h
 rw [if_neg H9] at h
 by_cases vZ:c<32
 ·rw [if_pos vZ] at h;cases h
 rw [if_neg vZ] at h
 by_cases hw:127≤c∧c≤159
 ·rw [if_pos hw] at h;cases h
 exact ⟨by omega,hw⟩
theorem O7(c:Int)(x1 x2:Int)(x3 x4 x5:fJ)(x6:List aM)(p:aS)(l:List aM)(h:l.length≤700000000)(hA:p.Args.length≤100):vH c x1 x2 x3 x4 x5 x6 p.State p.Mark p.Inter p.Args p.Text l=some (pk l (lq p c)):=by
 unfold vH lq
 rw [arF c p l h,bs]
 cases hc:n9 p c with
 | some r=>simp only [cond_true];rfl
 | none=>
  have vZ:=(LQ hc).1
  simp only [cond_false]
  by_cases h0:p.State=0
  ·rw [decide_eq_true h0,ct,if_pos h0,n_ _ _ _ _ _ _ _ h,bs];rfl
  rw [decide_eq_false h0,cf,if_neg h0]
  by_cases aeG:160≤c
  ·rw [decide_eq_true aeG,ct,if_pos aeG,Ae _ _ _ _ _ _ _ h,bs];rfl
  rw [decide_eq_false aeG,cf,if_neg aeG]
  by_cases h2:p.State≤2
  ·rw [decide_eq_true h2,ct,if_pos h2,RB c p l h (by omega),bs]
  ·rw [decide_eq_false h2,cf,if_neg h2,aw5 c p l h (by omega) hA,bs]
theorem arG(c:Int)(p:aS)(l:List aM)(h:l.length≤650000000)(hS:0≤p.State∧p.State≤10)(hA:p.Args.length≤100)(hT:p.Text.length≤256):f144 c p.State p.Mark p.Inter p.Args p.Text l=some (pk l (fh p c)):=by
 unfold f144 fh
 by_cases h0:c<0
 ·rw [decide_eq_true h0,ct,if_pos h0,iH]
 rw [decide_eq_false h0,cf,if_neg h0]
 by_cases h1:1114111<c
 ·rw [decide_eq_true h1,ct,if_pos h1,iH]
 rw [decide_eq_false h1,cf,if_neg h1]
 have ht:qi c p.State p.Mark p.Inter p.Args p.Text l true=some (pk l (Gl p c)):=by
  unfold qi
  rw [ct,arE c p l (by omega) hS hT,bs]
 unfold EF
 by_cases h7:p.State=7
 ·rw [decide_eq_true h7,ct,if_pos (.inl h7),ht]
 rw [decide_eq_false h7,cf]
 by_cases h9:p.State=9
 ·rw [decide_eq_true h9,ct,if_pos (.inr h9),ht]
 rw [decide_eq_false h9,cf,if_neg (by omega)]
 have hb:(p.State=8∨p.State=10)→qh c p.State p.Mark p.Inter p.Args p.Text l true=some (pk l (if c=92 then (cJ 0,[if p.State=8 then ⟨5,0,0,[],[],p.Text⟩ else kj]) else ((lq (cJ 1) c).1,kj::(lq (cJ 1) c).2))):=fun _=>by
  unfold qh
  rw [ct]
  by_cases h92:c=92
  ·rw [decide_eq_true h92,ct,if_pos h92]
   by_cases h8:p.State=8
   ·rw [decide_eq_true h8,ct,if_pos h8,n_ _ _ _ _ _ _ _ (by omega),bs]
    unfold f180
    rw [bs];rfl
   ·rw [decide_eq_false h8,cf,if_neg h8,show aM.mk 6 0 0 [] [] []=kj from rfl,n_ _ _ _ _ _ _ _ (by omega),bs]
    unfold f180
    rw [bs];rfl
  ·rw [decide_eq_false h92,cf,if_neg h92,Ae _ _ _ _ _ _ _ (by omega),bs]
   have:=O7 c p.State p.Mark p.Inter p.Args p.Text l (cJ 1) (l++ [kj]) (by simp;omega) (by simp [cJ])
   refine this.trans ?_
   simp [pk]
 unfold qi
 by_cases h8:p.State=8
 ·rw [cf,decide_eq_true h8,ct,if_pos (.inl h8),hb (.inl h8)]
 rw [cf,decide_eq_false h8,cf]
 by_cases h10:p.State=10
 ·rw [decide_eq_true h10,ct,if_pos (.inr h10),hb (.inr h10)]
 rw [decide_eq_false h10,cf,if_neg (by omega)]
 unfold qh
 rw [cf,O7 c _ _ _ _ _ _ p l (by omega) hA]

def Bu(b:UInt8):Bool:=decide ((32:Int)≤(b.toNat:Int))&&decide ((b.toNat:Int)≤47)
theorem Fg(a:fJ)(k:Int): ∀(xQ pre:fJ),a=pre++xQ→a.length≤100000000→
  b9 (wU a k) (pre.length:Int)=some (if xQ.all Bu then .inl () else .inr false)
 | [],pre,e,h=>dK (by
   subst e
   unfold wU mK
   simp only [xL,cond_false];rfl)
 | z::t,pre,e,h=>by
  have hp:pre.length<1000000000:=by rw [e] at h;simp at h;omega
  have hx:idx a (pre.length:Int)=some z:=by rw [e];exact jl pre z t
  have hlt:decide ((pre.length:Int)<(a.length:Int))=true:=by rw [e];exact uw pre z t
  have hw:f55 (z.toNat:Int) 32 47=some (Bu z):=gj _ _ _
  rw [List.all_cons]
  cases hz:Bu z with
  | true=>
   have ih:=Fg a k t (pre++ [z]) (by rw [e];simp) h
   rw [Bool.true_and]
   refine fM ?_ ih
   unfold wU mK sD
   simp only [hlt,cond_true]
   rw [hx,bs,hw,bs,hz,Bool.not_true,cf,tj pre z hp]
  | false=>
   rw [Bool.false_and,if_neg (by simp)]
   refine dK ?_
   unfold wU mK sD
   simp only [hlt,cond_true]
   rw [hx,bs,hw,bs,hz,Bool.not_false,ct]
theorem Zl(a:fJ)(k:Int)(h:a.length≤100000000):f56 a k=some (a.all Bu&&decide ((a.length:Int)≤k)):=by
 unfold f56
 have:=Fg a k a [] rfl h
 rw [show ((([]:fJ).length:Nat):Int)=0 from rfl] at this
 rw [this,bs]
 cases a.all Bu with
 | true=>
  rw [if_pos rfl,Sum.elim_inl,Bool.true_and]
  cases decide ((a.length:Int)≤k)<;>rfl
 | false=>rw [if_neg (by simp),Sum.elim_inr];rfl
def tB(p:aS):Bool:=decide ((p.Text.length:Int)≤256)&&(decide (p.Text= []) || (decide (p.State=7) || decide (p.State=8)))
def aB(p:aS):Bool:=decide ((p.Args.length:Int)≤100)&&(decide (p.Args= []) || (decide (p.State=4) || decide (p.State=5)))
def iB(p:aS)(q:Bool):Bool:=(p.Inter.all Bu&&decide ((p.Inter.length:Int)≤3))&&((!decide (p.Inter= []))==q)
def mB(p:aS):Bool:=decide (p.Mark=0) || ((decide (60≤p.Mark)&&decide (p.Mark≤63))&&(decide (p.State=4) || decide (p.State=5)))
def okP(p:aS):Bool:=(decide (0≤p.State)&&decide (p.State≤10))&&mB p&&iB p (decide (p.State=2) || decide (p.State=5))&&(decide ((js p.Args).2=0)&&aB p)&&tB p
theorem yf(p:aS)(b:Bool):nQ p b=some (bif b&&tB p then 0 else 4):=by
 unfold nQ tB
 generalize decide ((p.Text.length:Int)≤256)=x1
 generalize decide (p.Text= [])=x2
 generalize decide (p.State=7)=x3
 generalize decide (p.State=8)=x4
 cases b<;>cases x1<;>cases x2<;>cases x3<;>cases x4<;>rfl
theorem aD9(p:aS)(e:Int)(b:Bool):pN p e b=some (bif b&&(decide (e=0)&&aB p)&&tB p then 0 else 4):=by
 unfold pN aB
 simp only [yf]
 generalize tB p=t
 generalize decide (e=0)=x0
 generalize decide ((p.Args.length:Int)≤100)=x1
 generalize decide (p.Args= [])=x2
 generalize decide (p.State=4)=x3
 generalize decide (p.State=5)=x4
 cases b<;>cases t<;>cases x0<;>cases x1<;>cases x2<;>cases x3<;>cases x4<;>rfl
theorem aD_(p:aS)(q:Bool)(e:Int)(b:Bool)(h:p.Inter.length≤100000000):pO p q e b=some (bif b&&iB p q&&(decide (e=0)&&aB p)&&tB p then 0 else 4):=by
 unfold pO iB
 simp only [aD9,Zl _ _ h,bs]
 generalize tB p=t
 generalize (decide (e=0)&&aB p)=x0
 generalize (p.Inter.all Bu&&decide ((p.Inter.length:Int)≤3))=x1
 generalize decide (p.Inter= [])=x2
 cases b<;>cases q<;>cases t<;>cases x0<;>cases x1<;>cases x2<;>rfl
theorem aEa(p:aS)(q:Bool)(h:p.Inter.length≤10000000)(hA:p.Args.length≤10000000):wV p q=some (bif (decide (0≤p.State)&&decide (p.State≤10))&&mB p&&iB p q&&(decide ((js p.Args).2=0)&&aB p)&&tB p then 0 else 4):=by
 unfold wV mB
 have h':p.Inter.length≤100000000:=by omega
 rw [Vp _ hA,bs,gj,bs,gj,bs]
 simp only [aD_ _ _ _ _ h']
 generalize tB p=t
 generalize (decide ((js p.Args).2=0)&&aB p)=x0
 generalize iB p q=x1
 generalize (decide (0≤p.State)&&decide (p.State≤10))=x2
 generalize decide (p.Mark=0)=x3
 generalize (decide (60≤p.Mark)&&decide (p.Mark≤63))=x4
 generalize decide (p.State=4)=x5
 generalize decide (p.State=5)=x6
 cases t<;>cases x0<;>cases x1<;>cases x2<;>cases x3<;>cases x4<;>cases x5<;>cases x6<;>rfl
theorem jb(p:aS)(h:p.Inter.length≤10000000)(hA:p.Args.length≤10000000):f21 p=some (bif okP p then 0 else 4):=by
 unfold f21 okP
 simp only [aEa p _ h hA]
 cases decide (p.State=2)<;>cases decide (p.State=5)<;>rfl
structure Dc (p:aS):Prop where
 st:0≤p.State∧p.State≤10
 mA:p.Mark=0∨(60≤p.Mark∧p.Mark≤63∧(p.State=4∨p.State=5))
 ia:p.Inter.all Bu=true
 il:p.Inter.length≤3
 ie:(p.State=2∨p.State=5)↔p.Inter≠ []
 aa:p.Args.all okB=true
 al:p.Args.length≤100
 ae:p.Args= []∨p.State=4∨p.State=5
 tl:p.Text.length≤256
 te:p.Text= []∨p.State=7∨p.State=8
theorem air(s:fJ):(js s).2=0↔s.all okB=true:=by
 unfold js
 split
 ·rename_i h;simp [h]
 ·rename_i h;simp [h]
theorem aw8(p:aS):okP p=true↔Dc p:=by
 unfold okP mB iB aB tB
 simp only [Bool.and_eq_true,Bool.or_eq_true,decide_eq_true_eq,air]
 have hie:((!decide (p.Inter= []))==(decide (p.State=2) || decide (p.State=5)))=true↔((p.State=2∨p.State=5)↔p.Inter≠ []):=by
  by_cases a:p.State=2<;>by_cases b:p.State=5<;>by_cases c:p.Inter= []<;>simp [a,b,c]<;>omega
 rw [hie]
 constructor
 ·rintro ⟨⟨⟨⟨h1,h2⟩,⟨h3,h4⟩,h5⟩,h6,h7,h8⟩,h9,h10⟩
  exact ⟨h1,by omega,h3,by omega,h5,h6,by omega,h8,by omega,h10⟩
 ·intro h
  exact ⟨⟨⟨⟨h.st,by have:=h.mA;omega⟩,⟨h.ia,by have:=h.il;omega⟩,h.ie⟩,h.aa,by have:=h.al;omega,h.ae⟩,by have:=h.tl;omega,h.te⟩
def LR(a:aM):Prop:=a.Text.length≤256∧a.Inter.length≤2∧a.Args.length≤32∧1≤a.Kind∧a.Kind≤6
def ctl(c:Int):Nat:=if 0≤c∧c<32 then 1 else 0
def LS(l:List aM):Nat:=(l.filter fun a=>decide (a.Kind=2)).length
structure uy (n k:Nat) (r:aS×List aM):Prop where
 ok:Dc r.1
 len:r.2.length≤n
 good: ∀a∈r.2,LR a
 ctl:LS r.2≤k
theorem n7(s:Int)(h:0≤s∧s≤10)(h2:s≠2)(h5:s≠5):Dc (cJ s):=
 ⟨h,.inl rfl,rfl,by simp [cJ],⟨fun hh=>by simp only [cJ] at hh;omega,fun hh=>absurd rfl hh⟩,rfl,by simp [cJ],.inl rfl,by simp [cJ],.inl rfl⟩
theorem Gm:LR kj:=by simp [LR,kj]
theorem jU{p:aS}(k:Nat)(h:Dc p):uy 1 k (p,[]):=⟨h,by simp,fun a ha=>by simp at ha,by simp [LS]⟩
theorem LU{p:aS}{a:aM}(k:Nat)(h:Dc p)(ha:LR a)(h2:a.Kind≠2):uy 1 k (p,[a]):=
 ⟨h,by simp,fun b hb=>by simp at hb;rw [hb];exact ha,by simp [LS,h2]⟩
theorem Gn(s:Int)(k:Nat)(h:0≤s∧s≤10)(h2:s≠2)(h5:s≠5):uy 1 k (cJ s,[kj]):=LU k (n7 s h h2 h5) Gm (by simp [kj])
theorem Af(a:aM)(p:aS)(k:Nat)(hI:p.Inter.length≤3)(ha:p.Inter.length≤2→LR a)(h2:a.Kind≠2):uy 1 k (Be a p):=by
 unfold Be
 by_cases h:p.Inter.length=3
 ·rw [if_pos h];exact Gn 0 k (by omega) (by omega) (by omega)
 ·rw [if_neg h];exact LU k (n7 0 (by omega) (by omega) (by omega)) (ha (by omega)) h2
theorem Zm(p:aS)(c:Int)(h:Dc p)(h7:p.State=7∨p.State=9)(k:Nat):uy 1 k (Gl p c):=by
 obtain ⟨st,mA,ia,il,ie,aa,al,ae,tl,te⟩:=h
 have h0:Dc p:=⟨st,mA,ia,il,ie,aa,al,ae,tl,te⟩
 have hI:p.Inter= []:=Classical.byContradiction fun hh=>by have:=ie.2 hh;omega
 unfold Gl
 split
 ·refine jU k ⟨by dsimp only;omega,by dsimp only;omega,ia,il,⟨fun hh=>by dsimp only at hh;omega,fun hh=>absurd hI hh⟩,aa,al,?_,tl,?_⟩
  ·rcases ae with e | e
   ·exact .inl e
   ·omega
  ·rcases te with e | e
   ·exact .inl e
   ·exact .inr (by dsimp only;omega)
 split
 ·exact Gn 0 k (by omega) (by omega) (by omega)
 split
 ·exact Gn 0 k (by omega) (by omega) (by omega)
 split
 ·exact jU k h0
 split
 ·exact LU k (n7 0 (by omega) (by omega) (by omega)) ⟨tl,by simp,by simp,by simp,by simp⟩ (by simp)
 split
 ·exact jU k h0
 split
 ·exact jU k h0
 split
 ·rename_i h9 _ _ _ hl
  exact jU k ⟨st,mA,ia,il,ie,aa,al,ae,hl,.inr (by dsimp only;omega)⟩
 ·exact jU k h0
theorem aBc(c:Int)(h:32≤c∧c<48):Bu (sg c)=true:=by
 unfold Bu sg
 have:(UInt8.ofNat c.toNat).toNat=c.toNat:=by simp;omega
 rw [this,decide_eq_true (by omega),decide_eq_true (by omega)];rfl
theorem aBd(c:Int)(h:48≤c∧c<60∧c≠58):okB (sg c)=true:=by
 unfold okB sg
 have:(UInt8.ofNat c.toNat).toNat=c.toNat:=by simp;omega
 rw [this]
 by_cases h59:c.toNat=59
 ·rw [decide_eq_true h59];rfl
 ·rw [decide_eq_true (show 48≤c.toNat by omega),decide_eq_true (show c.toNat≤57 by omega),Bool.and_self,Bool.or_true]
theorem Vs(I:fJ)(c:Int)(h:32≤c∧c<48)(ia:I.all Bu=true)(il:I.length≤3):(tu I c).all Bu=true∧(tu I c).length≤3∧tu I c≠ []:=by
 unfold tu
 by_cases h3:I.length<3
 ·rw [if_pos h3]
  refine ⟨by rw [List.all_append,ia];simp [aBc c h],by simp;omega,by simp⟩
 ·rw [if_neg h3]
  exact ⟨ia,il,fun hh=>by rw [hh] at h3;simp at h3⟩
theorem ais(p:aS)(c:Int)(h:Dc p)(h2:p.State=1∨p.State=2)(hc:32≤c)(k:Nat):uy 1 k (Ct p c):=by
 obtain ⟨st,mA,ia,il,ie,aa,al,ae,tl,te⟩:=h
 have hA:p.Args= []:=by rcases ae with e | e;exact e;omega
 have hT:p.Text= []:=by rcases te with e | e;exact e;omega
 have hM:p.Mark=0:=by omega
 unfold Ct
 split
 ·rename_i Db
  obtain ⟨m1,m2,m3⟩:=Vs p.Inter c ⟨hc,Db⟩ ia il
  exact jU k ⟨by dsimp only;omega,.inl hM,m1,m2,⟨fun _=>m3,fun _=> .inl rfl⟩,aa,al,.inl hA,tl,.inl hT⟩
 split
 ·exact Af _ p k il (fun hh=>⟨by simp,hh,by simp,by simp,by simp⟩) (by simp)
 rename_i hs2
 have hI:p.Inter= []:=Classical.byContradiction fun hh=>by have:=ie.2 hh;omega
 have hne: ∀s:Int,s≠2→s≠5→0≤s∧s≤10→Dc ⟨s,p.Mark,p.Inter,p.Args,p.Text⟩:=fun s s2 s5 sb=>
  ⟨sb,.inl hM,ia,il,⟨fun hh=>by dsimp only at hh;omega,fun hh=>absurd hI hh⟩,aa,al,.inl hA,tl,.inl hT⟩
 split
 ·exact jU k (hne 3 (by omega) (by omega) (by omega))
 split
 ·exact jU k (hne 7 (by omega) (by omega) (by omega))
 split
 ·exact jU k (hne 9 (by omega) (by omega) (by omega))
 ·exact Af _ p k il (fun hh=>⟨by simp,by simp,by simp,by simp,by simp⟩) (by simp)
theorem ait(p:aS)(c:Int)(h:Dc p)(h2:3≤p.State∧p.State≤6)(hc:32≤c)(k:Nat):uy 1 k (yg p c):=by
 obtain ⟨st,mA,ia,il,ie,aa,al,ae,tl,te⟩:=h
 have h0:Dc p:=⟨st,mA,ia,il,ie,aa,al,ae,tl,te⟩
 have hT:p.Text= []:=by rcases te with e | e;exact e;omega
 have f6:uy 1 k (cJ 6,[]):=jU k (n7 6 (by omega) (by omega) (by omega))
 unfold yg
 split
 ·split
  ·exact Gn 0 k (by omega) (by omega) (by omega)
  ·exact jU k h0
 split
 ·rename_i Db
  obtain ⟨m1,m2,m3⟩:=Vs p.Inter c ⟨hc,Db⟩ ia il
  exact jU k ⟨by dsimp only;omega,by dsimp only;omega,m1,m2,⟨fun _=>m3,fun _=> .inr rfl⟩,aa,al,.inr (.inr rfl),tl,.inl hT⟩
 split
 ·exact Af _ p k il (fun hh=>⟨by simp,hh,tq _,by simp,by simp⟩) (by simp)
 split
 ·exact f6
 split
 ·exact f6
 rename_i h6 Db M_ h5 Zk
 have hI:p.Inter= []:=Classical.byContradiction fun hh=>by have:=ie.2 hh;omega
 split
 ·rename_i Vr
  refine jU k ⟨by dsimp only;omega,by dsimp only;omega,ia,il,⟨fun hh=>by dsimp only at hh;omega,fun hh=>absurd hI hh⟩,?_,?_,.inr (.inl rfl),tl,.inl hT⟩
  ·dsimp only
   split
   ·rw [List.all_append,aa];simp [aBd c (by omega)]
   ·exact aa
  ·dsimp only
   split
   ·simp;omega
   ·exact al
 split
 ·rename_i Vr h3
  refine jU k ⟨by dsimp only;omega,.inr ⟨by dsimp only;omega,by dsimp only;omega,.inl rfl⟩,ia,il,⟨fun hh=>by dsimp only at hh;omega,fun hh=>absurd hI hh⟩,aa,al,.inr (.inl rfl),tl,.inl hT⟩
 ·exact f6
theorem Hy(p:aS)(c:Int)(h:Dc p)(h6:p.State≤6)(hc:0≤c):uy 1 (ctl c) (lq p c):=by
 have hs:=h.st
 have hd: ∀s:Int,(s=0∨s=1)→uy 1 (ctl c) (cJ s,if p.State=0 then [] else [kj]):=fun s hs'=>by
  split
  ·exact jU _ (n7 s (by omega) (by omega) (by omega))
  ·exact Gn s _ (by omega) (by omega) (by omega)
 have core: ∀o,o=n9 p c→uy 1 (ctl c) (match o with | some r=>r | none=>if p.State=0 then (p,[⟨1,c,0,[],[],[]⟩]) else if 160≤c then (cJ 0,[kj]) else if p.State≤2 then Ct p c else yg p c):=by
  intro o ho
  cases o with
  | none=>
   have hn:=(LQ ho.symm).1
   simp only
   split
   ·exact LU _ h ⟨by simp,by simp,by simp,by simp,by simp⟩ (by simp)
   split
   ·exact Gn 0 _ (by omega) (by omega) (by omega)
   split
   ·exact ais p c h (by omega) hn _
   ·exact ait p c h (by omega) hn _
  | some r=>
   simp only
   unfold n9 at ho
   split at ho
   ·cases ho;exact hd 1 (.inr rfl)
   split at ho
   ·cases ho;exact hd 0 (.inl rfl)
   split at ho
   ·cases ho;exact hd 0 (.inl rfl)
   split at ho
   ·rename_i vZ
    cases ho
    refine ⟨h,by simp,fun a ha=>?_,?_⟩
    ·simp at ha;subst ha;exact ⟨by simp,by simp,by simp,by simp,by simp⟩
    ·have:ctl c=1:=if_pos ⟨hc,vZ⟩
     rw [this]
     simp [LS]
   split at ho
   ·cases ho;exact jU _ h
   ·cases ho
 exact core _ rfl
theorem Zn(p:aS)(c:Int)(h:Dc p):uy 2 (ctl c) (fh p c):=by
 have wide: ∀{r},uy 1 (ctl c) r→uy 2 (ctl c) r:=fun f=>⟨f.ok,by have:=f.len;omega,f.good,f.ctl⟩
 have hs:=h.st
 unfold fh
 split
 ·exact wide (jU _ h)
 split
 ·exact wide (jU _ h)
 split
 ·rename_i h7;exact wide (Zm p c h h7 _)
 split
 ·split
  ·refine wide (LU _ (n7 0 (by omega) (by omega) (by omega)) ?_ ?_)
   ·split
    ·exact ⟨h.tl,by simp,by simp,by simp,by simp⟩
    ·exact Gm
   ·split<;>simp [kj]
  ·have f:=Hy (cJ 1) c (n7 1 (by omega) (by omega) (by omega)) (by simp [cJ]) (by omega)
   refine ⟨f.ok,by have:=f.len;simp only [List.length_cons];omega,fun a ha=>?_,?_⟩
   ·rcases List.mem_cons.1 ha with rfl | ha
    ·exact Gm
    ·exact f.good a ha
   ·have:=f.ctl
    simp only [LS] at this ⊢
    rw [List.filter_cons_of_neg (by simp [kj])]
    exact this
 ·rename_i h7 h8
  exact wide (Hy p c h (by omega) (by omega))
def dw:aS→List Int→aS×List aM
 | p,[]=>(p,[])
 | p,c::t=>((dw (fh p c).1 t).1,(fh p c).2++(dw (fh p c).1 t).2)
theorem O5: ∀(a b:List Int) (p:aS),dw p (a++b)=((dw (dw p a).1 b).1,(dw p a).2++(dw (dw p a).1 b).2)
 | [],b,p=>by simp [dw]
 | c::a,b,p=>by
  rw [List.cons_append]
  simp only [dw]
  rw [O5 a b]
  simp
theorem xR(a1:aS)(a2:List Int)(hl:a2.length≤273000000): ∀(xQ pre:List Int) (p:aS) (l:List aM),a2=pre++xQ→Dc p→l.length≤2*pre.length→
  b9 (vI a1 a2) (p.State,p.Mark,p.Inter,p.Args,p.Text,l,(pre.length:Int))=some (pk l (dw p xQ))
 | [],pre,p,l,e,h,hk=>dK (by
   subst e
   unfold vI mX
   simp only [xL,cond_false]
   simp [dw,pk])
 | c::t,pre,p,l,e,h,hk=>by
  have hp:pre.length<1000000000:=by rw [e] at hl;simp at hl;omega
  have hp2:pre.length≤273000000:=by rw [e] at hl;simp at hl;omega
  have hx:idx a2 (pre.length:Int)=some c:=by rw [e];exact jl pre c t
  have hlt:decide ((pre.length:Int)<(a2.length:Int))=true:=by rw [e];exact uw pre c t
  have f:=Zn p c h
  have fl:=f.len
  have ih:=xR a1 a2 hl t (pre++ [c]) (fh p c).1 (l++(fh p c).2) (by rw [e];simp) f.ok (by simp;omega)
  have er:pk l (dw p (c::t))=pk (l++(fh p c).2) (dw (fh p c).1 t):=by simp [pk,dw]
  rw [er]
  refine fM ?_ ih
  unfold vI mX tW
  simp only [hlt,cond_true]
  rw [hx,bs,arG c p l (by omega) h.st h.al h.tl,bs,tj pre c hp]
  rfl
theorem Ff(p:aS)(l:List Int)(hl:l.length≤273000000)(h:Dc p):f107 p l=some ((dw p l).1,(dw p l).2,0):=by
 unfold f107
 have hi:=h.il;have ha:=h.al
 rw [jb p (by omega) (by omega),(aw8 p).2 h,bs,ct,decide_eq_true rfl,Bool.not_true,cf]
 unfold EH
 have:=xR p l hl l [] p [] rfl h (by simp)
 rw [show ((([]:List Int).length:Nat):Int)=0 from rfl] at this
 rw [this,bs]
 unfold EG pk
 simp
theorem jr{p q:aS}{c:Int}{t:List Int}(h:fh p c=(q,[])):dw p (c::t)=dw q t:=by
 simp only [dw];rw [h];simp
theorem Da{p:aS}{c:Int}{a:aM}(h:fh p c=(cJ 0,[a])):dw p [c]=(cJ 0,[a]):=by
 simp only [dw];rw [h];simp
theorem arH(p:aS)(c:Int)(h:32≤c∧ ¬(127≤c∧c≤159)):n9 p c=none:=by
 unfold n9
 rw [if_neg (by omega),if_neg (by omega),if_neg (by omega),if_neg (by omega),if_neg h.2]
theorem Gp(p:aS)(c:Int)(hs:1≤p.State∧p.State≤6)(hc:32≤c∧c≤126):fh p c=if p.State≤2 then Ct p c else yg p c:=by
 unfold fh
 rw [if_neg (by omega),if_neg (by omega),if_neg (by omega),if_neg (by omega)]
 unfold lq
 rw [arH p c (by omega)]
 simp only
 rw [if_neg (by omega),if_neg (by omega)]
theorem aw9:fh (cJ 0) 27=(cJ 1,[]):=rfl
theorem aw_:fh (cJ 1) 91=(cJ 3,[]):=rfl
theorem Vt(b:UInt8):sg (b.toNat:Int)=b:=by
 unfold sg
 apply UInt8.toNat.inj
 simp
def kD(l:List UInt8):List Int:=l.map fun b=>(b.toNat:Int)
theorem arJ(s m:Int)(A:fJ)(c:Int)(hs:s=3∨s=4)(hc:48≤c∧c<60∧c≠58)(hA:A.length<100):fh ⟨s,m,[],A,[]⟩ c=(⟨4,m,[],A++ [sg c],[]⟩,[]):=by
 rw [Gp _ _ (by dsimp only;omega) (by omega),if_neg (by dsimp only;omega)]
 unfold yg
 rw [if_neg (by dsimp only;omega),if_neg (by omega),if_neg (by omega),if_neg (by dsimp only;omega),if_neg (by omega),if_pos (by omega)]
 dsimp only
 rw [if_pos hA]
theorem O8: ∀(B A:fJ) (s m:Int) (t:List Int),(s=3∨s=4)→B.all okB=true→(A++B).length≤100→dw ⟨s,m,[],A,[]⟩ (kD B++t)=dw ⟨if B= [] then s else 4,m,[],A++B,[]⟩ t
 | [],A,s,m,t,hs,hj,hl=>by simp [kD]
 | b::B,A,s,m,t,hs,hj,hl=>by
  rw [List.all_cons,Bool.and_eq_true] at hj
  have hb:48≤b.toNat∧b.toNat<60∧b.toNat≠58:=by
   have:=hj.1;unfold okB at this;simp at this;omega
  have e:kD (b::B)++t=(b.toNat:Int)::(kD B++t):=rfl
  rw [e,jr (arJ s m A _ hs (by omega) (by simp at hl;omega)),Vt,O8 B (A++ [b]) 4 m t (.inr rfl) hj.2 (by simpa using hl)]
  simp
theorem axa(s m:Int)(A I:fJ)(c:Int)(hs:s=3∨s=4∨s=5)(hc:32≤c∧c≤47):fh ⟨s,m,I,A,[]⟩ c=(⟨5,m,tu I c,A,[]⟩,[]):=by
 rw [Gp _ _ (by dsimp only;omega) (by omega),if_neg (by dsimp only;omega)]
 unfold yg
 rw [if_neg (by dsimp only;omega),if_pos (by omega)]
theorem Vu: ∀(J I A:fJ) (s m:Int) (t:List Int),(s=3∨s=4∨s=5)→J.all Bu=true→(I++J).length≤3→dw ⟨s,m,I,A,[]⟩ (kD J++t)=dw ⟨if J= [] then s else 5,m,I++J,A,[]⟩ t
 | [],I,A,s,m,t,hs,hj,hl=>by simp [kD]
 | b::J,I,A,s,m,t,hs,hj,hl=>by
  rw [List.all_cons,Bool.and_eq_true] at hj
  have hb:(32:Int)≤(b.toNat:Int)∧(b.toNat:Int)≤47:=by
   have:=hj.1;unfold Bu at this;simpa using this
  have e:kD (b::J)++t=(b.toNat:Int)::(kD J++t):=rfl
  have em:tu I (b.toNat:Int)=I++ [b]:=by
   unfold tu
   rw [if_pos (by simp at hl;omega),Vt]
  rw [e,jr (axa s m A I _ hs hb),em,Vu J (I++ [b]) A 5 m t (.inr (.inr rfl)) hj.2 (by simpa using hl)]
  simp
theorem arK(s m:Int)(A I:fJ)(c:Int)(hs:s=3∨s=4∨s=5)(hI:I.length≤2)(hc:64≤c∧c≤126):fh ⟨s,m,I,A,[]⟩ c=(cJ 0,[⟨4,c,m,I,(js A).1,[]⟩]):=by
 rw [Gp _ _ (by dsimp only;omega) (by omega),if_neg (by dsimp only;omega)]
 unfold yg
 rw [if_neg (by dsimp only;omega),if_neg (by omega),if_pos hc.1]
 unfold Be
 rw [if_neg (by dsimp only;omega)]
theorem aiu(s m:Int)(A I:fJ)(c:Int)(hs:s=3∨s=4)(hA:A.all okB=true)(lA:A.length≤100)(hI:I.all Bu=true)(lI:I.length≤2)(hc:64≤c∧c≤126):dw ⟨s,m,[],[],[]⟩ (kD (A++I)++ [c])=(cJ 0,[⟨4,c,m,I,(js A).1,[]⟩]):=by
 have e:kD (A++I)++ [c]=kD A++(kD I++ [c]):=by simp [kD]
 rw [e,O8 A [] s m _ hs hA (by simpa using lA),List.nil_append]
 have h1:(if A= [] then s else 4)=3∨(if A= [] then s else 4)=4:=by split<;>omega
 generalize (if A= [] then s else 4)=s1 at h1
 rw [Vu I [] A s1 m _ (by omega) hI (by simp;omega),List.nil_append]
 have h2:(if I= [] then s1 else 5)=3∨(if I= [] then s1 else 5)=4∨(if I= [] then s1 else 5)=5:=by split<;>omega
 generalize (if I= [] then s1 else 5)=s2 at h2
 exact Da (arK s2 m A I c h2 lI hc)
theorem xP(A I:fJ)(c:Int)(hA:A.all okB=true)(lA:A.length≤100)(hI:I.all Bu=true)(lI:I.length≤2)(hc:64≤c∧c≤126):dw (cJ 0) (27::91::(kD (A++I)++ [c]))=(cJ 0,[⟨4,c,0,I,(js A).1,[]⟩]):=by
 rw [jr aw9,jr aw_]
 exact aiu 3 0 A I c (.inl rfl) hA lA hI lI hc
end Go.Proofs.YtimbfadnabfabaaGreatDoor.Pr

namespace Go.Proofs.YtimbfadnabfabaaGreatDoor.Pm.Ut
open Go.Proofs.YtimbfadnabfabaaGreatDoor.Args
open Go.ChangeShapes Go.WideShapes Go.ChangeAt Go.RowKit
set_option linter.unusedVariables false
set_option linter.unusedSimpArgs false
set_option maxRecDepth 100000
abbrev fJ:=List UInt8
theorem iN(i n:Nat)(h:i<n):jO (i:Int) n=some i:=by unfold jO;rw [if_pos (by omega)];simp
def need(c:UInt8):Nat×UInt8×UInt8:=
 if 194≤c.toNat∧c.toNat≤223 then (1,128,191) else if c.toNat=224 then (2,160,191) else if c.toNat=237 then (2,128,159) else if 225≤c.toNat∧c.toNat≤239 then (2,128,191) else if c.toNat=240 then (3,144,191) else if c.toNat=244 then (3,128,143) else if 241≤c.toNat∧c.toNat≤243 then (3,128,191) else (0,0,0)
theorem arL(c:UInt8):f85 c=some (((need c).1:Int),(need c).2.1,(need c).2.2):=by
 unfold f85 need
 by_cases h1:194≤c.toNat∧c.toNat≤223
 ·rw [decide_eq_true (by omega),ct,decide_eq_true (by omega),ct,if_pos h1];rfl
 have e0:AB c=some (((if c.toNat=224 then (2,160,191) else if c.toNat=237 then (2,128,159) else if 225≤c.toNat∧c.toNat≤239 then (2,128,191) else if c.toNat=240 then (3,144,191) else if c.toNat=244 then (3,128,143) else if 241≤c.toNat∧c.toNat≤243 then (3,128,191) else (0,0,0):Nat×UInt8×UInt8).1:Int),(if c.toNat=224 then (2,160,191) else if c.toNat=237 then (2,128,159) else if 225≤c.toNat∧c.toNat≤239 then (2,128,191) else if c.toNat=240 then (3,144,191) else if c.toNat=244 then (3,128,143) else if 241≤c.toNat∧c.toNat≤243 then (3,128,191) else (0,0,0):Nat×UInt8×UInt8).2):=by
  unfold AB
  by_cases h2:c.toNat=224
  ·rw [decide_eq_true (by omega),ct,if_pos h2];rfl
  rw [decide_eq_false (by omega),cf,if_neg h2]
  by_cases h3:c.toNat=237
  ·rw [decide_eq_true (by omega),ct,if_pos h3];rfl
  rw [decide_eq_false (by omega),cf,if_neg h3]
  by_cases h4:225≤c.toNat∧c.toNat≤239
  ·rw [decide_eq_true (by omega),ct,decide_eq_true (by omega),ct,if_pos h4];rfl
  rw [if_neg h4]
  have e1:AA c=some (((if c.toNat=240 then (3,144,191) else if c.toNat=244 then (3,128,143) else if 241≤c.toNat∧c.toNat≤243 then (3,128,191) else (0,0,0):Nat×UInt8×UInt8).1:Int),(if c.toNat=240 then (3,144,191) else if c.toNat=244 then (3,128,143) else if 241≤c.toNat∧c.toNat≤243 then (3,128,191) else (0,0,0):Nat×UInt8×UInt8).2):=by
   unfold AA
   by_cases h5:c.toNat=240
   ·rw [decide_eq_true (by omega),ct,if_pos h5];rfl
   rw [decide_eq_false (by omega),cf,if_neg h5]
   by_cases h6:c.toNat=244
   ·rw [decide_eq_true (by omega),ct,if_pos h6];rfl
   rw [decide_eq_false (by omega),cf,if_neg h6]
   by_cases h7:241≤c.toNat
   ·rw [decide_eq_true (by omega),ct]
    by_cases h8:c.toNat≤243
    ·rw [decide_eq_true (by omega),ct,if_pos ⟨h7,h8⟩];rfl
    ·rw [decide_eq_false (by omega),cf,if_neg (by omega)];rfl
   ·rw [decide_eq_false (by omega),cf,if_neg (by omega)];rfl
  by_cases h5:225≤c.toNat
  ·rw [decide_eq_true (by omega),ct,decide_eq_false (by omega),cf,e1]
  ·rw [decide_eq_false (by omega),cf,e1]
 rw [if_neg h1]
 by_cases h2:194≤c.toNat
 ·rw [decide_eq_true (by omega),ct,decide_eq_false (by omega),cf,e0]
 ·rw [decide_eq_false (by omega),cf,e0]
def run:Nat→UInt8→UInt8→fJ→Nat
 | n+1,lo,hi,b::t=>if lo.toNat≤b.toNat∧b.toNat≤hi.toNat then 1+run n 128 191 t else 0
 | _,_,_,_=>0
theorem RG: ∀(n:Nat) (lo hi:UInt8) (t:fJ),run n lo hi t≤n∧run n lo hi t≤t.length
 | 0,_,_,t=>by simp [run]
 | n+1,_,_,[]=>by simp [run]
 | n+1,lo,hi,b::t=>by
  have:=RG n 128 191 t
  unfold run
  split
  ·simp;omega
  ·simp
def bz:fJ→Nat×Bool
 | []=>(0,false)
 | c::t=>if (need c).1=0 then (0,false) else (1+run (need c).1 (need c).2.1 (need c).2.2 t,decide (run (need c).1 (need c).2.1 (need c).2.2 t=(need c).1))
theorem jt(c:UInt8)(t:fJ):bz (c::t)=if (need c).1=0 then (0,false) else (1+run (need c).1 (need c).2.1 (need c).2.2 t,decide (run (need c).1 (need c).2.1 (need c).2.2 t=(need c).1)):=rfl
theorem arM(c:UInt8):(need c).1≤3:=by
 unfold need
 repeat' split
 all_goals simp
theorem rJ(a1:fJ)(hl:a1.length≤100000000)(N:Nat)(hN:N≤3): ∀(m:Nat) (t pre:fJ) (lo hi:UInt8),a1=pre++t→N+1=pre.length+m→
  b9 (tP a1) ((N:Int),lo,hi,(pre.length:Int))=some ((N:Int),((pre.length+run m lo hi t:Nat):Int))
 | 0,t,pre,lo,hi,e,hm=>dK (by
   unfold tP
   simp only
   rw [decide_eq_false (by omega),cf]
   simp [run])
 | m+1,[],pre,lo,hi,e,hm=>dK (by
   unfold tP
   simp only
   rw [decide_eq_true (by omega),ct,e,xL,cf];rfl)
 | m+1,b::t,pre,lo,hi,e,hm=>by
  have hp:pre.length<1000000000:=by rw [e] at hl;simp at hl;omega
  have hx:idx a1 (pre.length:Int)=some b:=by rw [e];exact jl pre b t
  have hlt:decide ((pre.length:Int)<(a1.length:Int))=true:=by rw [e];exact uw pre b t
  unfold run
  by_cases hb:lo.toNat≤b.toNat∧b.toNat≤hi.toNat
  ·have ih:=rJ a1 hl N hN m t (pre++ [b]) 128 191 (by rw [e];simp) (by simp;omega)
   rw [if_pos hb,show pre.length+(1+run m 128 191 t)=(pre++ [b]).length+run m 128 191 t by simp;omega]
   refine fM ?_ ih
   unfold tP
   simp only
   rw [decide_eq_true (by omega),ct,hlt,ct,hx,bs,bs,decide_eq_true (by omega),ct,decide_eq_true (by omega),ct,tj pre b hp]
  ·rw [if_neg hb]
   refine dK ?_
   unfold tP
   simp only
   rw [decide_eq_true (by omega),ct,hlt,ct,hx,bs,bs]
   by_cases h1:lo.toNat≤b.toNat
   ·rw [decide_eq_true (by omega),ct,decide_eq_false (by omega),cf];rfl
   ·rw [decide_eq_false (by omega),cf];rfl
theorem qu(c:UInt8)(t:fJ)(hl:(c::t).length≤100000000):f53 (c::t)=some (((bz (c::t)).1:Int),(bz (c::t)).2):=by
 unfold f53
 rw [show idx (c::t) 0=some c from jl [] c t,bs,arL,bs]
 rw [jt]
 by_cases h0:(need c).1=0
 ·rw [if_pos h0]
  simp only
  rw [decide_eq_true (by omega),ct];rfl
 ·rw [if_neg h0]
  simp only
  rw [decide_eq_false (by omega),cf]
  unfold Ip
  have h:=rJ (c::t) hl (need c).1 (arM c) (need c).1 t [c] (need c).2.1 (need c).2.2 rfl (by simp;omega)
  rw [show ((([c]:fJ).length:Nat):Int)=1 from rfl] at h
  rw [h,bs]
  simp only
  have hr:=RG (need c).1 (need c).2.1 (need c).2.2 t
  generalize run (need c).1 (need c).2.1 (need c).2.2 t=r at*
  by_cases hw:r=(need c).1
  ·rw [decide_eq_true hw,decide_eq_true (by simp;omega),ct];rfl
  ·rw [decide_eq_false hw,decide_eq_false (by simp;omega),cf];rfl
theorem Hz(s:fJ):(bz s).1≤s.length:=by
 cases s with
 | nil=>simp [bz]
 | cons c t=>
  rw [jt]
  have:=RG (need c).1 (need c).2.1 (need c).2.2 t
  split
  ·simp
  ·simp;omega
def qP:fJ→Int
 | c::b1::t=>if c.toNat≤223 then ((c.toNat%32*64+b1.toNat%64:Nat):Int) else match t with
  | b2::t2=>if c.toNat≤239 then ((c.toNat%16*4096+b1.toNat%64*64+b2.toNat%64:Nat):Int) else match t2 with
   | b3::_=>((c.toNat%8*262144+b1.toNat%64*4096+b2.toNat%64*64+b3.toNat%64:Nat):Int)
   | []=>0
  | []=>0
 | _=>0
theorem xS(s:fJ)(h:(bz s).2=true):
  (∃c b1 t,s=c::b1::t∧(bz s).1=2∧194≤c.toNat∧c.toNat≤223∧128≤b1.toNat∧b1.toNat≤191)∨
  (∃c b1 b2 t,s=c::b1::b2::t∧(bz s).1=3∧224≤c.toNat∧c.toNat≤239∧128≤b1.toNat∧b1.toNat≤191∧(c.toNat=224→160≤b1.toNat)∧(c.toNat=237→b1.toNat≤159)∧128≤b2.toNat∧b2.toNat≤191)∨
  (∃c b1 b2 b3 t,s=c::b1::b2::b3::t∧(bz s).1=4∧240≤c.toNat∧c.toNat≤244∧128≤b1.toNat∧b1.toNat≤191∧(c.toNat=240→144≤b1.toNat)∧(c.toNat=244→b1.toNat≤143)∧128≤b2.toNat∧b2.toNat≤191∧128≤b3.toNat∧b3.toNat≤191):=by
 cases s with
 | nil=>simp [bz] at h
 | cons c t=>
  have key: ∀(n:Nat) (lo hi:UInt8),need c=(n,lo,hi)→n≠0→run n lo hi t=n∧(bz (c::t)).1=1+n:=by
   intro n lo hi e hn
   rw [jt] at h ⊢
   rw [e] at h ⊢
   simp only at h ⊢
   rw [if_neg hn] at h ⊢
   have:=of_decide_eq_true h
   exact ⟨this,by rw [this]⟩
  have one: ∀(n:Nat) (lo hi:UInt8) (t:fJ),run (n+1) lo hi t=n+1→ ∃b u,t=b::u∧lo.toNat≤b.toNat∧b.toNat≤hi.toNat∧run n 128 191 u=n:=by
   intro n lo hi t ht
   cases t with
   | nil=>simp [run] at ht
   | cons b u=>
    unfold run at ht
    by_cases hb:lo.toNat≤b.toNat∧b.toNat≤hi.toNat
    ·rw [if_pos hb] at ht;exact ⟨b,u,rfl,hb.1,hb.2,by omega⟩
    ·rw [if_neg hb] at ht;omega
  have arN:(191:UInt8).toNat=191:=rfl
  have arO:(128:UInt8).toNat=128:=rfl
  have aEe:(160:UInt8).toNat=160:=rfl
  have aEf:(159:UInt8).toNat=159:=rfl
  have aEg:(144:UInt8).toNat=144:=rfl
  have aEh:(143:UInt8).toNat=143:=rfl
  have e3: ∀lo hi,need c=(2,lo,hi)→ ∃b1 b2 u,t=b1::b2::u∧(bz (c::t)).1=3∧lo.toNat≤b1.toNat∧b1.toNat≤hi.toNat∧128≤b2.toNat∧b2.toNat≤191:=by
   intro lo hi e
   obtain ⟨q1,q2⟩:=key 2 lo hi e (by omega)
   obtain ⟨b,u,rfl,g1,g2,g3⟩:=one 1 lo hi t q1
   obtain ⟨b2,u2,rfl,g4,g5,_⟩:=one 0 128 191 u g3
   exact ⟨b,b2,u2,rfl,q2,g1,g2,g4,g5⟩
  have e4: ∀lo hi,need c=(3,lo,hi)→ ∃b1 b2 b3 u,t=b1::b2::b3::u∧(bz (c::t)).1=4∧lo.toNat≤b1.toNat∧b1.toNat≤hi.toNat∧128≤b2.toNat∧b2.toNat≤191∧128≤b3.toNat∧b3.toNat≤191:=by
   intro lo hi e
   obtain ⟨q1,q2⟩:=key 3 lo hi e (by omega)
   obtain ⟨b,u,rfl,g1,g2,g3⟩:=one 2 lo hi t q1
   obtain ⟨b2,u2,rfl,g4,g5,g6⟩:=one 1 128 191 u g3
   obtain ⟨b3,u3,rfl,g7,g8,_⟩:=one 0 128 191 u2 g6
   exact ⟨b,b2,b3,u3,rfl,q2,g1,g2,g4,g5,g7,g8⟩
  by_cases h1:194≤c.toNat∧c.toNat≤223
  ·obtain ⟨q1,q2⟩:=key 1 128 191 (by unfold need;rw [if_pos h1]) (by omega)
   obtain ⟨b,u,rfl,g1,g2,_⟩:=one 0 128 191 t q1
   exact .inl ⟨c,b,u,rfl,q2,h1.1,h1.2,g1,g2⟩
  by_cases h2:c.toNat=224
  ·obtain ⟨b1,b2,u,rfl,q,g⟩:=e3 160 191 (by unfold need;rw [if_neg h1,if_pos h2])
   exact .inr (.inl ⟨c,b1,b2,u,rfl,q,by omega,by omega,by omega,by omega,by omega,by omega,by omega,by omega⟩)
  by_cases h3:c.toNat=237
  ·obtain ⟨b1,b2,u,rfl,q,g⟩:=e3 128 159 (by unfold need;rw [if_neg h1,if_neg h2,if_pos h3])
   exact .inr (.inl ⟨c,b1,b2,u,rfl,q,by omega,by omega,by omega,by omega,by omega,by omega,by omega,by omega⟩)
  by_cases h4:225≤c.toNat∧c.toNat≤239
  ·obtain ⟨b1,b2,u,rfl,q,g⟩:=e3 128 191 (by unfold need;rw [if_neg h1,if_neg h2,if_neg h3,if_pos h4])
   exact .inr (.inl ⟨c,b1,b2,u,rfl,q,by omega,by omega,by omega,by omega,by omega,by omega,by omega,by omega⟩)
  by_cases h5:c.toNat=240
  ·obtain ⟨b1,b2,b3,u,rfl,q,g⟩:=e4 144 191 (by unfold need;rw [if_neg h1,if_neg h2,if_neg h3,if_neg h4,if_pos h5])
   exact .inr (.inr ⟨c,b1,b2,b3,u,rfl,q,by omega,by omega,by omega,by omega,by omega,by omega,by omega,by omega,by omega,by omega⟩)
  by_cases h6:c.toNat=244
  ·obtain ⟨b1,b2,b3,u,rfl,q,g⟩:=e4 128 143 (by unfold need;rw [if_neg h1,if_neg h2,if_neg h3,if_neg h4,if_neg h5,if_pos h6])
   exact .inr (.inr ⟨c,b1,b2,b3,u,rfl,q,by omega,by omega,by omega,by omega,by omega,by omega,by omega,by omega,by omega,by omega⟩)
  by_cases h7:241≤c.toNat∧c.toNat≤243
  ·obtain ⟨b1,b2,b3,u,rfl,q,g⟩:=e4 128 191 (by unfold need;rw [if_neg h1,if_neg h2,if_neg h3,if_neg h4,if_neg h5,if_neg h6,if_pos h7])
   exact .inr (.inr ⟨c,b1,b2,b3,u,rfl,q,by omega,by omega,by omega,by omega,by omega,by omega,by omega,by omega,by omega,by omega⟩)
  have:need c=(0,0,0):=by unfold need;rw [if_neg h1,if_neg h2,if_neg h3,if_neg h4,if_neg h5,if_neg h6,if_neg h7]
  rw [jt] at h
  rw [this] at h
  simp at h
abbrev dJ(c:Int):Prop:=(0≤c∧c≤55295)∨(57344≤c∧c≤1114111)
theorem aiv(s:fJ)(h:(bz s).2=true):dJ (qP s):=by
 unfold dJ
 rcases xS s h with ⟨c,b1,t,rfl,_,h1,h2,_⟩ | ⟨c,b1,b2,t,rfl,_,h1,h2,_⟩ | ⟨c,b1,b2,b3,t,rfl,_,h1,h2,_⟩
 ·simp only [qP]
  rw [if_pos h2]
  omega
 ·simp only [qP]
  rw [if_neg (by omega),if_pos h2]
  omega
 ·simp only [qP]
  rw [if_neg (by omega),if_neg (by omega)]
  omega
theorem axb(s:fJ)(h:(bz s).2=true): ∃k,iL s=some (qP s,k):=by
 unfold iL
 rw [Lib.decode_at]
 rcases xS s h with ⟨c,b1,t,rfl,_,h1,h2,h3,h4⟩ | ⟨c,b1,b2,t,rfl,_,h1,h2,h3,h4,h5,h6,h7,h8⟩ | ⟨c,b1,b2,b3,t,rfl,_,h1,h2,h3,h4,h5,h6,h7,h8,h9,h10⟩
 ·refine ⟨2,?_⟩
  rw [if_neg (by simp)]
  have g0:(⟨(c::b1::t).toArray⟩:ByteArray).get! 0=c:=rfl
  have g1:(⟨(c::b1::t).toArray⟩:ByteArray).get! (0+1)=b1:=rfl
  have gs:(⟨(c::b1::t).toArray⟩:ByteArray).size=t.length+2:=by show (c::b1::t).toArray.size=_;simp
  rw [g0,g1,gs]
  generalize ((⟨(c::b1::t).toArray⟩:ByteArray).get! (0+2)).toNat=x2
  generalize ((⟨(c::b1::t).toArray⟩:ByteArray).get! (0+3)).toNat=x3
  unfold Lib.decodeN
  rw [if_neg (by omega),if_pos ⟨by omega,by omega,by omega⟩,if_pos (by omega)]
  simp only [qP]
  rw [if_pos h2];rfl
 ·refine ⟨3,?_⟩
  rw [if_neg (by simp)]
  have g0:(⟨(c::b1::b2::t).toArray⟩:ByteArray).get! 0=c:=rfl
  have g1:(⟨(c::b1::b2::t).toArray⟩:ByteArray).get! (0+1)=b1:=rfl
  have g2:(⟨(c::b1::b2::t).toArray⟩:ByteArray).get! (0+2)=b2:=rfl
  have gs:(⟨(c::b1::b2::t).toArray⟩:ByteArray).size=t.length+3:=by show (c::b1::b2::t).toArray.size=_;simp
  rw [g0,g1,g2,gs]
  generalize ((⟨(c::b1::b2::t).toArray⟩:ByteArray).get! (0+3)).toNat=x3
  unfold Lib.decodeN
  rw [if_neg (by omega),if_neg (by omega),if_pos ⟨by omega,⟨by omega,by omega⟩,by omega,by omega⟩,if_pos (by omega)]
  simp only [qP]
  rw [if_neg (by omega),if_pos h2];rfl
 ·refine ⟨4,?_⟩
  rw [if_neg (by simp)]
  have g0:(⟨(c::b1::b2::b3::t).toArray⟩:ByteArray).get! 0=c:=rfl
  have g1:(⟨(c::b1::b2::b3::t).toArray⟩:ByteArray).get! (0+1)=b1:=rfl
  have g2:(⟨(c::b1::b2::b3::t).toArray⟩:ByteArray).get! (0+2)=b2:=rfl
  have g3:(⟨(c::b1::b2::b3::t).toArray⟩:ByteArray).get! (0+3)=b3:=rfl
  have gs:(⟨(c::b1::b2::b3::t).toArray⟩:ByteArray).size=t.length+4:=by show (c::b1::b2::b3::t).toArray.size=_;simp
  rw [g0,g1,g2,g3,gs]
  unfold Lib.decodeN
  rw [if_neg (by omega),if_neg (by omega),if_neg (by omega),if_pos ⟨by omega,⟨by omega,by omega⟩,⟨by omega,by omega⟩,by omega,by omega⟩,if_pos (by omega)]
  simp only [qP]
  rw [if_neg (by omega),if_neg (by omega)];rfl
def lX:Nat→fJ→List Int×fJ
 | n+1,c::t=>if c.toNat<128 then ((c.toNat:Int)::(lX n t).1,(lX n t).2)
  else if (bz (c::t)).2=true then (qP (c::t)::(lX n ((c::t).drop (bz (c::t)).1)).1,(lX n ((c::t).drop (bz (c::t)).1)).2)
  else if 0<(bz (c::t)).1∧(bz (c::t)).1=(c::t).length then ([],c::t)
  else (65533::(lX n ((c::t).drop (max (bz (c::t)).1 1))).1,(lX n ((c::t).drop (max (bz (c::t)).1 1))).2)
 | _,s=>([],s)
theorem xT(s:fJ)(h:(bz s).2=true):2≤(bz s).1:=by
 rcases xS s h with ⟨c,b1,t,_,e,_⟩ | ⟨c,b1,b2,t,_,e,_⟩ | ⟨c,b1,b2,b3,t,_,e,_⟩<;>omega
theorem xU: ∀(n m:Nat) (s:fJ),s.length≤n→s.length≤m→lX n s=lX m s
 | n,m,[],hn,hm=>by cases n<;>cases m<;>rfl
 | 0,m,c::t,hn,hm=>by simp at hn
 | n,0,c::t,hn,hm=>by simp at hm
 | n+1,m+1,c::t,hn,hm=>by
  simp only [List.length_cons] at hn hm
  have h1:=xU n m t (by omega) (by omega)
  have hd: ∀k,1≤k→lX n ((c::t).drop k)=lX m ((c::t).drop k):=fun k hk=>xU n m _ (by simp;omega) (by simp;omega)
  unfold lX
  rw [h1,hd (max (bz (c::t)).1 1) (by omega)]
  by_cases hw:(bz (c::t)).2=true
  ·rw [hd (bz (c::t)).1 (by have:=xT _ hw;omega)]
  ·rw [if_neg hw,if_neg hw]
def eA(s:fJ):List Int×fJ:=lX s.length s
theorem Zo:eA []=([],[]):=rfl
theorem LV(c:UInt8)(t:fJ)(h:c.toNat<128):eA (c::t)=((c.toNat:Int)::(eA t).1,(eA t).2):=by
 unfold eA
 rw [List.length_cons]
 conv=>lhs;unfold lX
 rw [if_pos h]
theorem rj(c:UInt8)(t:fJ)(h: ¬c.toNat<128)(hw:(bz (c::t)).2=true):eA (c::t)=(qP (c::t)::(eA ((c::t).drop (bz (c::t)).1)).1,(eA ((c::t).drop (bz (c::t)).1)).2):=by
 have h2:=xT _ hw
 unfold eA
 rw [List.length_cons]
 conv=>lhs;unfold lX
 rw [if_neg h,if_pos hw,xU t.length ((c::t).drop (bz (c::t)).1).length _ (by simp;omega) (Nat.le_refl _)]
theorem Vv(c:UInt8)(t:fJ)(h: ¬c.toNat<128)(hw:(bz (c::t)).2=false)(hs:0<(bz (c::t)).1∧(bz (c::t)).1=(c::t).length):eA (c::t)=([],c::t):=by
 unfold eA
 rw [List.length_cons]
 unfold lX
 rw [if_neg h,if_neg (by rw [hw];simp),if_pos hs]
theorem Zp(c:UInt8)(t:fJ)(h: ¬c.toNat<128)(hw:(bz (c::t)).2=false)(hs: ¬(0<(bz (c::t)).1∧(bz (c::t)).1=(c::t).length)):eA (c::t)=(65533::(eA ((c::t).drop (max (bz (c::t)).1 1))).1,(eA ((c::t).drop (max (bz (c::t)).1 1))).2):=by
 unfold eA
 rw [List.length_cons]
 conv=>lhs;unfold lX
 rw [if_neg h,if_neg (by rw [hw];simp),if_neg hs,xU t.length ((c::t).drop (max (bz (c::t)).1 1)).length _ (by simp;omega) (Nat.le_refl _)]
theorem Bf{P:fJ→Prop}(h0:P [])(aeH: ∀c t,c.toNat<128→P t→P (c::t))
  (hw: ∀c t,¬c.toNat<128→(bz (c::t)).2=true→P ((c::t).drop (bz (c::t)).1)→P (c::t))
  (hs: ∀c t,¬c.toNat<128→(bz (c::t)).2=false→(0<(bz (c::t)).1∧(bz (c::t)).1=(c::t).length)→P (c::t))
  (hb: ∀c t,¬c.toNat<128→(bz (c::t)).2=false→ ¬(0<(bz (c::t)).1∧(bz (c::t)).1=(c::t).length)→P ((c::t).drop (max (bz (c::t)).1 1))→P (c::t)): ∀(n:Nat) (s:fJ),s.length≤n→P s
 | _,[],_=>h0
 | 0,c::t,hn=>by simp at hn
 | n+1,c::t,hn=>by
  simp only [List.length_cons] at hn
  by_cases h:c.toNat<128
  ·exact aeH c t h (Bf h0 aeH hw hs hb n t (by omega))
  by_cases hwh:(bz (c::t)).2=true
  ·have:=xT _ hwh
   exact hw c t h hwh (Bf h0 aeH hw hs hb n _ (by simp;omega))
  rw [Bool.not_eq_true] at hwh
  by_cases hst:0<(bz (c::t)).1∧(bz (c::t)).1=(c::t).length
  ·exact hs c t h hwh hst
  ·exact hb c t h hwh hst (Bf h0 aeH hw hs hb n _ (by simp;omega))
theorem Gq(s:fJ)(k:Nat)(h:k≤s.length):qL s (k:Int) (s.length:Int)=some (s.drop k):=by
 unfold qL
 rw [if_pos (by omega)]
 simp
theorem xR(a1 a2:fJ): ∀(n:Nat) (s:fJ),s.length≤n→s.length≤10000000→ ∀out:List Int,out.length+s.length≤10000000→
  b9 (mb a1 a2) (s,out)=some (if (eA s).2= [] then .inl (out++(eA s).1) else .inr ((eA s).2,out++(eA s).1,0)):=by
 intro n s hn
 refine Bf (P:=fun s=>s.length≤10000000→ ∀out:List Int,out.length+s.length≤10000000→b9 (mb a1 a2) (s,out)=some (if (eA s).2= [] then .inl (out++(eA s).1) else .inr ((eA s).2,out++(eA s).1,0))) ?_ ?_ ?_ ?_ ?_ n s hn
 ·intro _ out ho
  refine dK ?_
  unfold mb
  simp only [decide_true,Bool.not_true,cond_false]
  rw [Zo,if_pos rfl,List.append_nil]
 ·intro c t h ih hl out ho
  simp only [List.length_cons] at hl ho
  have ih:=ih (by omega) (out++ [(c.toNat:Int)]) (by simp;omega)
  rw [LV c t h]
  rw [show out++ [(c.toNat:Int)]++(eA t).1=out++((c.toNat:Int)::(eA t).1) by simp] at ih
  refine fM ?_ ih
  unfold mb kU
  simp only
  have hd:=Gq (c::t) 1 (by simp)
  rw [decide_eq_false (by simp),Bool.not_false,ct,show idx (c::t) 0=some c from jl [] c t,bs,decide_eq_true (by omega),ct,bs,fy 8 _ _ (by simp;omega),bs,show (1:Int)=((1:Nat):Int) from rfl,hd,bs];rfl
 ·intro c t h hw ih hl out ho
  have hle:=Hz (c::t)
  have h2:=xT _ hw
  obtain ⟨k,hk⟩:=axb (c::t) hw
  have hr:=aiv _ hw
  have ih:=ih (by simp only [List.length_drop];omega) (out++ [qP (c::t)]) (by simp only [List.length_drop,List.length_append,List.length_cons,List.length_nil] at ho hl ⊢;omega)
  rw [rj c t h hw]
  rw [show out++ [qP (c::t)]++(eA ((c::t).drop (bz (c::t)).1)).1=out++(qP (c::t)::(eA ((c::t).drop (bz (c::t)).1)).1) by simp] at ih
  refine fM ?_ ih
  unfold mb kU mW
  simp only
  have hd:=Gq (c::t) (bz (c::t)).1 hle
  unfold dJ at hr
  rw [decide_eq_false (by simp),Bool.not_false,ct,show idx (c::t) 0=some c from jl [] c t,bs,decide_eq_false (by omega),cf,qu c t (by omega),bs]
  simp only
  rw [hw,ct,hk,bs]
  simp only
  rw [gu _ (by omega),fy 8 _ _ (by simp;omega),bs,if_neg (by omega),hd,bs]
 ·intro c t h hw hs hl out ho
  rw [Vv c t h hw hs,if_neg (by simp)]
  refine dK ?_
  unfold mb kU mW
  simp only
  rw [decide_eq_false (by simp),Bool.not_false,ct,show idx (c::t) 0=some c from jl [] c t,bs,decide_eq_false (by omega),cf,qu c t (by omega),bs]
  simp only
  rw [hw,cf,decide_eq_true (by omega),ct,decide_eq_true (by rw [hs.2]),ct,List.append_nil]
 ·intro c t h hw hs ih hl out ho
  have hle:=Hz (c::t)
  have ih:=ih (by simp only [List.length_drop];omega) (out++ [65533]) (by simp only [List.length_drop,List.length_append,List.length_cons,List.length_nil] at ho hl ⊢;omega)
  rw [Zp c t h hw hs]
  rw [show out++ [65533]++(eA ((c::t).drop (max (bz (c::t)).1 1))).1=out++(65533::(eA ((c::t).drop (max (bz (c::t)).1 1))).1) by simp] at ih
  refine fM ?_ ih
  have hd:=Gq (c::t) (max (bz (c::t)).1 1) (by simp only [List.length_cons] at hle ⊢;omega)
  have hmx:(if 1>((bz (c::t)).1:Int) then (1:Int) else ((bz (c::t)).1:Int))=((max (bz (c::t)).1 1:Nat):Int):=by
   by_cases h1:1>((bz (c::t)).1:Int)
   ·rw [if_pos h1];omega
   ·rw [if_neg h1];omega
  have hap:eP 8 out [65533]=some (out++ [65533]):=fy 8 _ _ (by simp;omega)
  unfold mb kU mW
  simp only
  rw [decide_eq_false (by simp),Bool.not_false,ct,show idx (c::t) 0=some c from jl [] c t,bs,decide_eq_false (by omega),cf,qu c t (by omega),bs]
  simp only
  rw [hw,cf]
  unfold qf
  rw [hap,bs,hmx,hd,bs]
  by_cases h0:0<(bz (c::t)).1
  ·rw [decide_eq_true (by omega),ct,decide_eq_false (fun hh=>hs ⟨h0,by omega⟩),cf]
  ·rw [decide_eq_false (by omega),cf]
def Cx(s:fJ):Prop:=s= []∨((bz s).2=false∧(bz s).1=s.length)
theorem jb(s:fJ)(hl:s.length≤10000000)(h:Cx s):f20 s=some 0:=by
 unfold f20
 rcases h with rfl | ⟨h1,h2⟩
 ·rw [decide_eq_true rfl,ct]
 ·cases s with
  | nil=>rw [decide_eq_true rfl,ct]
  | cons c t=>
   rw [decide_eq_false (by simp),cf]
   unfold DZ
   rw [qu c t (by omega),bs,h1,cf]
   simp only
   rw [decide_eq_true (by rw [h2]),Bool.not_true,cf]
theorem Zq(s:fJ)(hl:s.length≤10000000)(h: ¬Cx s):f20 s=some 4:=by
 unfold f20
 cases s with
 | nil=>exact absurd (.inl rfl) h
 | cons c t=>
  rw [decide_eq_false (by simp),cf]
  unfold DZ
  rw [qu c t (by omega),bs]
  simp only
  cases hw:(bz (c::t)).2 with
  | true=>rw [ct]
  | false=>
   rw [cf,decide_eq_false (fun hh=>h (.inr ⟨hw,by omega⟩)),Bool.not_false,ct]
theorem Ff(p s:fJ)(hl:p.length+s.length≤10000000)(h:Cx p):f106 p s=some ((eA (p++s)).2,(eA (p++s)).1,0):=by
 unfold f106
 rw [jb p (by omega) h,bs,decide_eq_true rfl,Bool.not_true,cf]
 unfold EB
 rw [jS p s (by omega),bs,xR p s (p++s).length (p++s) (Nat.le_refl _) (by simp;omega) [] (by simp;omega),bs]
 by_cases h0:(eA (p++s)).2= []
 ·rw [if_pos h0,Sum.elim_inl,h0];rfl
 ·rw [if_neg h0,Sum.elim_inr];rfl
def fD(r:Int):fJ:=
 bif decide (IntKind.u32.wrap r≤127) then [u8 r] else
 bif decide (IntKind.u32.wrap r≤2047) then [(192:UInt8) ||| u8 (Int.fdiv r (2^6)),(128:UInt8) ||| (u8 r&&&(63:UInt8))] else
 bif (bif decide (IntKind.u32.wrap r<55296) then true else (decide (57343<IntKind.u32.wrap r)&&decide (IntKind.u32.wrap r≤65535))) then [(224:UInt8) ||| u8 (Int.fdiv r (2^12)),(128:UInt8) ||| (u8 (Int.fdiv r (2^6))&&&(63:UInt8)),(128:UInt8) ||| (u8 r&&&(63:UInt8))] else
 bif (decide (65535<IntKind.u32.wrap r)&&decide (IntKind.u32.wrap r≤1114111)) then [(240:UInt8) ||| u8 (Int.fdiv r (2^18)),(128:UInt8) ||| (u8 (Int.fdiv r (2^12))&&&(63:UInt8)),(128:UInt8) ||| (u8 (Int.fdiv r (2^6))&&&(63:UInt8)),(128:UInt8) ||| (u8 r&&&(63:UInt8))] else [239,191,189]
theorem nj(r:Int):(fD r).length≤4:=by
 unfold fD
 generalize decide (IntKind.u32.wrap r≤127)=b1
 generalize decide (IntKind.u32.wrap r≤2047)=b2
 generalize (bif decide (IntKind.u32.wrap r<55296) then true else (decide (57343<IntKind.u32.wrap r)&&decide (IntKind.u32.wrap r≤65535)))=b3
 generalize (decide (65535<IntKind.u32.wrap r)&&decide (IntKind.u32.wrap r≤1114111))=b4
 cases b1<;>cases b2<;>cases b3<;>cases b4<;>simp
theorem kX(r:Int)(o:fJ)(h:o.length≤100000000):f115 r o=some (o++fD r):=by
 have ap1: ∀a:UInt8,eP 1 o [a]=some (o++ [a]):=fun a=>fy 1 _ _ (by simp;omega)
 have ap2: ∀a b:UInt8,eP 1 o [a,b]=some (o++ [a,b]):=fun a b=>fy 1 _ _ (by simp;omega)
 have ap3: ∀a b c:UInt8,eP 1 o [a,b,c]=some (o++ [a,b,c]):=fun a b c=>fy 1 _ _ (by simp;omega)
 have ap4: ∀a b c d:UInt8,eP 1 o [a,b,c,d]=some (o++ [a,b,c,d]):=fun a b c d=>fy 1 _ _ (by simp;omega)
 unfold f115 fD f160 qd
 simp only [ap1,ap2,ap3,ap4,bs]
 generalize decide (IntKind.u32.wrap r≤127)=b1
 generalize decide (IntKind.u32.wrap r≤2047)=b2
 generalize decide (IntKind.u32.wrap r<55296)=b3
 generalize decide (57343<IntKind.u32.wrap r)=b4
 generalize decide (IntKind.u32.wrap r≤65535)=b5
 generalize decide (65535<IntKind.u32.wrap r)=b6
 generalize decide (IntKind.u32.wrap r≤1114111)=b7
 cases b1<;>cases b2<;>cases b3<;>cases b4<;>cases b5<;>cases b6<;>cases b7<;>rfl
def HA(c:Int):Int:=if c<0∨1114111<c∨(55296≤c∧c≤57343) then 65533 else c
theorem O9(a1:List Int)(hl:a1.length≤2000000): ∀(xQ pre:List Int) (o:fJ),a1=pre++xQ→o.length≤4*pre.length→
  b9 (pP a1) (o,(pre.length:Int))=some (o++xQ.flatMap fun c=>fD (HA c))
 | [],pre,o,e,ho=>dK (by
   subst e
   unfold pP kT
   simp only [xL,cond_false]
   simp)
 | c::t,pre,o,e,ho=>by
  have hp:pre.length<1000000000:=by rw [e] at hl;simp at hl;omega
  have hp2:pre.length≤2000000:=by rw [e] at hl;simp at hl;omega
  have hx:idx a1 (pre.length:Int)=some c:=by rw [e];exact jl pre c t
  have hlt:decide ((pre.length:Int)<(a1.length:Int))=true:=by rw [e];exact uw pre c t
  have hel:=nj (HA c)
  have ih:=O9 a1 hl t (pre++ [c]) (o++fD (HA c)) (by rw [e];simp) (by simp;omega)
  rw [List.flatMap_cons,←List.append_assoc]
  refine fM ?_ ih
  have hw:=tj pre c hp
  have vZ: ∀x:Int,0≤x∧x≤1114111→IntKind.i32.wrap x=x:=fun x hx=>IntWalk.i32_in x (by omega)
  unfold pP kT sP
  simp only [hlt,cond_true]
  rw [hx,bs]
  unfold HA
  by_cases a:c<0
  ·rw [decide_eq_true a,ct,if_pos (.inl a),kX _ _ (by omega),bs,hw]
  ·rw [decide_eq_false a,cf]
   by_cases b:1114111<c
   ·rw [decide_eq_true b,ct,if_pos (.inr (.inl b)),kX _ _ (by omega),bs,hw]
   ·rw [decide_eq_false b,cf]
    by_cases d:55296≤c
    ·rw [decide_eq_true d,ct]
     by_cases f:c≤57343
     ·rw [decide_eq_true f,ct,if_pos (.inr (.inr ⟨d,f⟩)),kX _ _ (by omega),bs,hw]
     ·rw [decide_eq_false f,cf,if_neg (by omega),vZ c (by omega),kX _ _ (by omega),bs,hw]
    ·rw [decide_eq_false d,cf,if_neg (by omega),vZ c (by omega),kX _ _ (by omega),bs,hw]
theorem aeI(l:List Int)(hl:l.length≤2000000):f78 l=some (l.flatMap fun c=>fD (HA c)):=by
 unfold f78
 have:=O9 l hl l [] [] rfl (by simp)
 rw [show ((([]:List Int).length:Nat):Int)=0 from rfl] at this
 rw [this,bs];rfl
theorem aEi: ∀x:UInt8,x.toNat<32→((192:UInt8) ||| x).toNat=192+x.toNat:=by
 have h: ∀n:Fin 32,((192:UInt8) ||| UInt8.ofNat n.val).toNat=192+n.val:=by decide
 intro x hx
 have:=h ⟨x.toNat,hx⟩
 rwa [show UInt8.ofNat x.toNat=x by simp] at this
theorem aEj: ∀x:UInt8,x.toNat<16→((224:UInt8) ||| x).toNat=224+x.toNat:=by
 have h: ∀n:Fin 16,((224:UInt8) ||| UInt8.ofNat n.val).toNat=224+n.val:=by decide
 intro x hx
 have:=h ⟨x.toNat,hx⟩
 rwa [show UInt8.ofNat x.toNat=x by simp] at this
theorem aEk: ∀x:UInt8,x.toNat<8→((240:UInt8) ||| x).toNat=240+x.toNat:=by
 have h: ∀n:Fin 8,((240:UInt8) ||| UInt8.ofNat n.val).toNat=240+n.val:=by decide
 intro x hx
 have:=h ⟨x.toNat,hx⟩
 rwa [show UInt8.ofNat x.toNat=x by simp] at this
theorem O_: ∀x:UInt8,((128:UInt8) ||| (x&&&63)).toNat=128+x.toNat%64:=by
 have h: ∀n:Fin 256,((128:UInt8) ||| (UInt8.ofNat n.val&&&63)).toNat=128+n.val%64:=by decide
 intro x
 have:=h ⟨x.toNat,x.toNat_lt⟩
 rwa [show UInt8.ofNat x.toNat=x by simp] at this
theorem IY(r:Nat):(u8 (r:Int)).toNat=r%256:=by
 unfold u8
 have:((r:Int)%256).toNat=r%256:=by omega
 rw [this];simp
theorem fd(r k:Nat):Int.fdiv (r:Int) (2^k)=((r/2^k:Nat):Int):=by
 rw [Int.fdiv_eq_ediv_of_nonneg _ (by have:=Int.pow_pos (n:=2) (m:=k) (by omega);omega)]
 norm_cast
theorem Pa(r:Nat)(h:dJ (r:Int))(t:fJ):eA (fD (r:Int)++t)=((r:Int)::(eA t).1,(eA t).2):=by
 unfold dJ at h
 have hw:IntKind.u32.wrap (r:Int)=(r:Int):=IntWalk.u32_in _ (by omega)
 unfold fD
 rw [hw,fd,fd,fd]
 have k0:=IY r
 have k6:=IY (r/2^6)
 have k12:=IY (r/2^12)
 have k18:=IY (r/2^18)
 simp only [Nat.reducePow] at k6 k12 k18 ⊢
 by_cases h1:r≤127
 ·rw [decide_eq_true (by omega),ct,List.cons_append,List.nil_append,LV _ _ (by rw [k0];omega),k0]
  rw [show r%256=r by omega]
 rw [decide_eq_false (by omega),cf]
 by_cases h2:r≤2047
 ·rw [decide_eq_true (by omega),ct]
  have c0:=aEi (u8 ((r/64:Nat):Int)) (by rw [k6];omega)
  have c1:=O_ (u8 (r:Int))
  rw [k6] at c0
  rw [k0] at c1
  generalize (192:UInt8) ||| u8 ((r/64:Nat):Int)=x0 at*
  generalize (128:UInt8) ||| (u8 (r:Int)&&&(63:UInt8))=x1 at*
  have hn:need x0=(1,128,191):=by unfold need;rw [if_pos (by omega)]
  have arN:(191:UInt8).toNat=191:=rfl
  have arO:(128:UInt8).toNat=128:=rfl
  have hl:bz (x0::x1::t)=(2,true):=by
   rw [jt]
   rw [hn]
   simp only
   rw [if_neg (by omega)]
   unfold run
   rw [if_pos (by omega)]
   simp [run]
  rw [List.cons_append,List.cons_append,List.nil_append,rj _ _ (by omega) (by rw [hl]),hl]
  simp only [qP,List.drop_succ_cons,List.drop_zero]
  rw [if_pos (by omega),show x0.toNat%32*64+x1.toNat%64=r by omega]
 rw [decide_eq_false (by omega),cf]
 by_cases h3:r≤65535
 ·have hb:(bif decide ((r:Int)<55296) then true else (decide (57343<(r:Int))&&decide ((r:Int)≤65535)))=true:=by
   by_cases g:r<55296
   ·rw [decide_eq_true (by omega),ct]
   ·rw [decide_eq_false (by omega),cf,decide_eq_true (by omega),decide_eq_true (by omega)];rfl
  rw [hb,ct]
  have c0:=aEj (u8 ((r/4096:Nat):Int)) (by rw [k12];omega)
  have c1:=O_ (u8 ((r/64:Nat):Int))
  have c2:=O_ (u8 (r:Int))
  rw [k12] at c0
  rw [k6] at c1
  rw [k0] at c2
  generalize (224:UInt8) ||| u8 ((r/4096:Nat):Int)=x0 at*
  generalize (128:UInt8) ||| (u8 ((r/64:Nat):Int)&&&(63:UInt8))=x1 at*
  generalize (128:UInt8) ||| (u8 (r:Int)&&&(63:UInt8))=x2 at*
  have arN:(191:UInt8).toNat=191:=rfl
  have arO:(128:UInt8).toNat=128:=rfl
  have aEe:(160:UInt8).toNat=160:=rfl
  have aEf:(159:UInt8).toNat=159:=rfl
  have hl:bz (x0::x1::x2::t)=(3,true):=by
   have hr: ∃lo hi,need x0=(2,lo,hi)∧lo.toNat≤x1.toNat∧x1.toNat≤hi.toNat:=by
    unfold need
    rw [if_neg (by omega)]
    by_cases g1:x0.toNat=224
    ·rw [if_pos g1];exact ⟨_,_,rfl,by omega,by omega⟩
    rw [if_neg g1]
    by_cases g2:x0.toNat=237
    ·rw [if_pos g2];exact ⟨_,_,rfl,by omega,by omega⟩
    rw [if_neg g2,if_pos (by omega)];exact ⟨_,_,rfl,by omega,by omega⟩
   obtain ⟨lo,hi,hn,g1,g2⟩:=hr
   rw [jt]
   rw [hn]
   simp only
   rw [if_neg (by omega)]
   unfold run
   rw [if_pos ⟨g1,g2⟩]
   unfold run
   rw [if_pos (by omega)]
   simp [run]
  rw [List.cons_append,List.cons_append,List.cons_append,List.nil_append,rj _ _ (by omega) (by rw [hl]),hl]
  simp only [qP,List.drop_succ_cons,List.drop_zero]
  rw [if_neg (by omega),if_pos (by omega),show x0.toNat%16*4096+x1.toNat%64*64+x2.toNat%64=r by omega]
 ·have hb:(bif decide ((r:Int)<55296) then true else (decide (57343<(r:Int))&&decide ((r:Int)≤65535)))=false:=by
   rw [decide_eq_false (by omega),cf,decide_eq_true (by omega),decide_eq_false (by omega)];rfl
  rw [hb,cf,decide_eq_true (by omega),decide_eq_true (by omega),Bool.and_self,ct]
  have c0:=aEk (u8 ((r/262144:Nat):Int)) (by rw [k18];omega)
  have c1:=O_ (u8 ((r/4096:Nat):Int))
  have c2:=O_ (u8 ((r/64:Nat):Int))
  have c3:=O_ (u8 (r:Int))
  rw [k18] at c0
  rw [k12] at c1
  rw [k6] at c2
  rw [k0] at c3
  generalize (240:UInt8) ||| u8 ((r/262144:Nat):Int)=x0 at*
  generalize (128:UInt8) ||| (u8 ((r/4096:Nat):Int)&&&(63:UInt8))=x1 at*
  generalize (128:UInt8) ||| (u8 ((r/64:Nat):Int)&&&(63:UInt8))=x2 at*
  generalize (128:UInt8) ||| (u8 (r:Int)&&&(63:UInt8))=x3 at*
  have arN:(191:UInt8).toNat=191:=rfl
  have arO:(128:UInt8).toNat=128:=rfl
  have aEg:(144:UInt8).toNat=144:=rfl
  have aEh:(143:UInt8).toNat=143:=rfl
  have hl:bz (x0::x1::x2::x3::t)=(4,true):=by
   have hr: ∃lo hi,need x0=(3,lo,hi)∧lo.toNat≤x1.toNat∧x1.toNat≤hi.toNat:=by
    unfold need
    rw [if_neg (by omega),if_neg (by omega),if_neg (by omega),if_neg (by omega)]
    by_cases g1:x0.toNat=240
    ·rw [if_pos g1];exact ⟨_,_,rfl,by omega,by omega⟩
    rw [if_neg g1]
    by_cases g2:x0.toNat=244
    ·rw [if_pos g2];exact ⟨_,_,rfl,by omega,by omega⟩
    rw [if_neg g2,if_pos (by omega)];exact ⟨_,_,rfl,by omega,by omega⟩
   obtain ⟨lo,hi,hn,g1,g2⟩:=hr
   rw [jt]
   rw [hn]
   simp only
   rw [if_neg (by omega)]
   unfold run
   rw [if_pos ⟨g1,g2⟩]
   unfold run
   rw [if_pos (by omega)]
   unfold run
   rw [if_pos (by omega)]
   simp [run]
  rw [List.cons_append,List.cons_append,List.cons_append,List.cons_append,List.nil_append,rj _ _ (by omega) (by rw [hl]),hl]
  simp only [qP,List.drop_succ_cons,List.drop_zero]
  rw [if_neg (by omega),if_neg (by omega),show x0.toNat%8*262144+x1.toNat%64*4096+x2.toNat%64*64+x3.toNat%64=r by omega]
end Go.Proofs.YtimbfadnabfabaaGreatDoor.Pm.Ut

namespace Go.Proofs.YtimbfadnabfabaaGreatDoor.Pm
open Go.Proofs.YtimbfadnabfabaaGreatDoor.Args
open Go.ChangeShapes Go.WideShapes Go.ChangeAt Go.RowKit
open Go.Proofs.YtimbfadnabfabaaGreatDoor.Pm.Ut (dJ eA Pa)
open Go.Proofs.YtimbfadnabfabaaGreatDoor.Pr (cJ kj dw fh Ct yg n9 lq jr Da xP kD num Cu IX js tq)
set_option linter.unusedVariables false
set_option linter.unusedSimpArgs false
set_option maxRecDepth 100000
def LB(b:Int):Prop:=b=65∨b=66∨b=67∨b=68∨b=70∨b=72∨b=80∨b=81∨b=82∨b=83
inductive Bv:List Int→Prop where
 | one (c:Int) (h:dJ c):Bv [c]
 | alt (c:Int) (h:dJ c):Bv [27,c]
 | Dd:Bv [27,27,91,90]
 | Zr (b:Int) (hb:LB b):Bv [27,79,b]
 | EC (A:List UInt8) (c:Int) (hA:A.all Pr.okB=true) (hl:A.length≤100) (hc:LB c∨c=90∨c=126):Bv (27::91::(kD A++ [c]))
def dU(R:List Int):List UInt8:=R.flatMap Ut.fD
theorem Vw{A:List UInt8}(h:A.all Pr.okB=true): ∀b∈A,48≤b.toNat∧b.toNat≤59:=fun b hb=>by
 have:=List.all_eq_true.1 h b hb
 unfold Pr.okB at this
 rw [Bool.or_eq_true,Bool.and_eq_true,decide_eq_true_eq,decide_eq_true_eq,decide_eq_true_eq] at this
 omega
theorem Vx{A:List UInt8}(h:A.all Pr.okB=true): ∀c∈kD A,48≤c∧c≤59:=fun c hc=>by
 unfold kD at hc
 obtain ⟨b,hb,rfl⟩:=List.mem_map.1 hc
 have:=Vw h b hb
 omega
theorem arQ{R:List Int}(h:Bv R): ∀c∈R,dJ c:=by
 intro x hx
 cases h with
 | one c h=>rw [List.mem_singleton.1 hx];exact h
 | alt c h=>simp at hx;rcases hx with rfl | rfl;exact .inl (by omega);exact h
 | Dd=>simp at hx;rcases hx with rfl | rfl | rfl<;>exact .inl (by omega)
 | Zr b hb=>unfold LB at hb;simp at hx;rcases hx with rfl | rfl | rfl<;>exact .inl (by omega)
 | EC A c hA hl hc=>
  unfold LB at hc
  simp only [List.mem_cons,List.mem_append,List.mem_singleton,List.not_mem_nil,or_false] at hx
  rcases hx with rfl | rfl | hx | rfl
  ·exact .inl (by omega)
  ·exact .inl (by omega)
  ·have:=Vx hA x hx;exact .inl (by omega)
  ·exact .inl (by omega)
theorem LW: ∀R:List Int,(∀c∈R,dJ c)→eA (dU R)=(R,[])
 | [],_=>rfl
 | c::R,h=>by
  have hc:=h c (List.mem_cons_self ..)
  obtain ⟨r,rfl⟩: ∃r:Nat,c=r:=⟨c.toNat,by unfold dJ at hc;omega⟩
  have e:dU ((r:Int)::R)=Ut.fD (r:Int)++dU R:=by unfold dU;rw [List.flatMap_cons]
  rw [e,Pa r hc,LW R fun x hx=>h x (List.mem_cons_of_mem _ hx)]
def uE(c:Int):List Int:=if c=13 then [13,10] else [c]
inductive v_:aM→Prop where
 | drop:v_ kj
 | aeJ (c:Int) (h:0≤c∧c<32):v_ ⟨2,c,0,[],[],[]⟩
 | print (c:Int) (h:32≤c∧c≤1114111):v_ ⟨1,c,0,[],[],[]⟩
 | esc (c:Int) (h:48≤c∧c≤126):v_ ⟨3,c,0,[],[],[]⟩
 | EC (c:Int) (l:List Int) (h:LB c∨c=90∨c=126) (hl:l.length≤32∧ ∀x∈l,-1≤x∧x≤16383):v_ ⟨4,c,0,[],l,[]⟩
inductive xV:List aM→Prop where
 | none:xV []
 | one (a:aM) (h:v_ a):xV [a]
 | line:xV [⟨2,13,0,[],[],[]⟩,⟨2,10,0,[],[],[]⟩]
 | Zr (b:Int) (hb:LB b):xV [⟨3,79,0,[],[],[]⟩,⟨1,b,0,[],[],[]⟩]
 | Dd (l:List Int) (hl:l.length≤32) (h: ∀x∈l,-1≤x∧x≤16383):xV [kj,⟨4,90,0,[],l,[]⟩]
theorem axd(c:Int)(h:dJ c): ∃p,fh (cJ 0) c=(p,[])∨ ∃a,v_ a∧fh (cJ 0) c=(p,[a]):=by
 unfold dJ at h
 unfold fh
 rw [if_neg (by omega),if_neg (by omega),if_neg (by simp [cJ]),if_neg (by simp [cJ])]
 unfold lq n9
 by_cases h1:c=27
 ·rw [if_pos h1];exact ⟨_,.inl rfl⟩
 by_cases h2:c=24
 ·rw [if_neg h1,if_pos h2];exact ⟨_,.inl rfl⟩
 by_cases h3:c=26
 ·rw [if_neg h1,if_neg h2,if_pos h3];exact ⟨_,.inl rfl⟩
 by_cases h4:c<32
 ·rw [if_neg h1,if_neg h2,if_neg h3,if_pos h4];exact ⟨_,.inr ⟨_,.aeJ c (by omega),rfl⟩⟩
 by_cases h5:127≤c∧c≤159
 ·rw [if_neg h1,if_neg h2,if_neg h3,if_neg h4,if_pos h5];exact ⟨_,.inl rfl⟩
 ·rw [if_neg h1,if_neg h2,if_neg h3,if_neg h4,if_neg h5]
  exact ⟨_,.inr ⟨_,.print c (by omega),rfl⟩⟩
theorem axe(c:Int)(h:dJ c): ∃p,fh (cJ 1) c=(p,[])∨ ∃a,v_ a∧fh (cJ 1) c=(p,[a]):=by
 unfold dJ at h
 unfold fh
 rw [if_neg (by omega),if_neg (by omega),if_neg (by simp [cJ]),if_neg (by simp [cJ])]
 unfold lq n9
 by_cases h1:c=27
 ·rw [if_pos h1];exact ⟨_,.inr ⟨_,.drop,rfl⟩⟩
 by_cases h2:c=24
 ·rw [if_neg h1,if_pos h2];exact ⟨_,.inr ⟨_,.drop,rfl⟩⟩
 by_cases h3:c=26
 ·rw [if_neg h1,if_neg h2,if_pos h3];exact ⟨_,.inr ⟨_,.drop,rfl⟩⟩
 by_cases h4:c<32
 ·rw [if_neg h1,if_neg h2,if_neg h3,if_pos h4];exact ⟨_,.inr ⟨_,.aeJ c (by omega),rfl⟩⟩
 by_cases h5:127≤c∧c≤159
 ·rw [if_neg h1,if_neg h2,if_neg h3,if_neg h4,if_pos h5];exact ⟨_,.inl rfl⟩
 rw [if_neg h1,if_neg h2,if_neg h3,if_neg h4,if_neg h5]
 simp only
 rw [if_neg (show¬(cJ 1).State=0 by decide)]
 by_cases h6:160≤c
 ·rw [if_pos h6];exact ⟨_,.inr ⟨_,.drop,rfl⟩⟩
 rw [if_neg h6,if_pos (show (cJ 1).State≤2 by decide)]
 unfold Ct
 by_cases h7:c<48
 ·rw [if_pos h7];exact ⟨_,.inl rfl⟩
 rw [if_neg h7,if_neg (show¬(cJ 1).State=2 by decide)]
 by_cases h8:c=91
 ·rw [if_pos h8];exact ⟨_,.inl rfl⟩
 by_cases h9:c=93
 ·rw [if_neg h8,if_pos h9];exact ⟨_,.inl rfl⟩
 rw [if_neg h8,if_neg h9]
 by_cases h10:0≤Lib.indexByte [80,88,94,95] (u8 c)
 ·rw [if_pos h10];exact ⟨_,.inl rfl⟩
 ·rw [if_neg h10];exact ⟨_,.inr ⟨_,.esc c (by omega),rfl⟩⟩
theorem Pb(p:aS)(c:Int):(dw p [c]).2=(fh p c).2:=by simp [dw]
theorem RH: ∀R:List Int,(∀c∈R,c≠13)→R.flatMap uE=R
 | [],_=>rfl
 | c::R,h=>by
  rw [List.flatMap_cons,RH R fun x hx=>h x (List.mem_cons_of_mem _ hx)]
  unfold uE;rw [if_neg (h c (List.mem_cons_self ..))];rfl
theorem aBf(w:List UInt8): -1≤num w∧num w≤16383:=by
 have: ∀(w:List UInt8) (n:Int),-1≤n∧n≤16383→ -1≤w.foldl Cu n∧w.foldl Cu n≤16383:=by
  intro w
  induction w with
  | nil=>intro n h;exact h
  | cons z w ih=>
   intro n h
   have:=IX n z h
   exact ih _ (by omega)
 exact this w (-1) (by omega)
theorem LX(A:List UInt8): ∀x∈(js A).1,-1≤x∧x≤16383:=fun x hx=>by
 unfold js at hx
 split at hx
 ·obtain ⟨w,_,rfl⟩:=List.mem_map.1 (List.mem_of_mem_take hx)
  exact aBf w
 ·cases hx
theorem arR{R:List Int}(h:Bv R):xV (dw (cJ 0) (R.flatMap uE)).2:=by
 cases h with
 | one c h=>
  by_cases q:c=13
  ·subst q;exact .line
  ·have e: [c].flatMap uE= [c]:=by simp [uE,q]
   rw [e,Pb]
   obtain ⟨p,hp | ⟨a,ha,hp⟩⟩:=axd c h
   ·rw [hp];exact .none
   ·rw [hp];exact .one a ha
 | alt c h=>
  by_cases q:c=13
  ·subst q;exact .line
  ·have e: [27,c].flatMap uE= [27,c]:=by simp [uE,q]
   have e2:(dw (cJ 0) [27,c]).2=(dw (cJ 1) [c]).2:=by rw [jr (show fh (cJ 0) 27=(cJ 1,[]) from rfl)]
   rw [e,e2,Pb]
   obtain ⟨p,hp | ⟨a,ha,hp⟩⟩:=axe c h
   ·rw [hp];exact .none
   ·rw [hp];exact .one a ha
 | Dd=>
  have e1: [27,27,91,90].flatMap uE= [27,27,91,90]:=by decide
  have e2:dw (cJ 0) (27::91::(kD ([]++ [])++ [90]))=(cJ 0,[⟨4,90,0,[],(js []).1,[]⟩]):=xP [] [] 90 rfl (by decide) rfl (by decide) (by decide)
  have e3:dw (cJ 0) [27,27,91,90]=(cJ 0,[kj,⟨4,90,0,[],(js []).1,[]⟩]):=by
   have h1:dw (cJ 0) [27,27,91,90]=dw (cJ 1) [27,91,90]:=jr (show fh (cJ 0) 27=(cJ 1,[]) from rfl)
   have h2:dw (cJ 0) [27,91,90]=dw (cJ 1) [91,90]:=jr (show fh (cJ 0) 27=(cJ 1,[]) from rfl)
   have h3:dw (cJ 0) [27,91,90]=(cJ 0,[⟨4,90,0,[],(js []).1,[]⟩]):=e2
   rw [h2] at h3
   rw [h1]
   rw [show dw (cJ 1) [27,91,90]=((dw (cJ 1) [91,90]).1,[kj]++(dw (cJ 1) [91,90]).2) from rfl,h3];rfl
  rw [e1,e3];exact .Dd _ (by exact tq _) (LX _)
 | Zr b hb=>
  have hb':=hb
  unfold LB at hb'
  have e1: [27,79,b].flatMap uE= [27,79,b]:=RH _ (fun c hc=>by simp at hc;omega)
  have e:(dw (cJ 0) [27,79,b]).2= [⟨3,79,0,[],[],[]⟩,⟨1,b,0,[],[],[]⟩]:=by
   have h1:dw (cJ 0) [27,79,b]=dw (cJ 1) [79,b]:=jr (show fh (cJ 0) 27=(cJ 1,[]) from rfl)
   rw [h1]
   simp only [dw]
   rw [show fh (cJ 1) 79=(cJ 0,[⟨3,79,0,[],[],[]⟩]) from by kernel_rfl]
   rcases hb' with rfl | rfl | rfl | rfl | rfl | rfl | rfl | rfl | rfl | rfl<;>rfl
  rw [e1,e];exact .Zr b hb
 | EC A c hA hl hc=>
  have hc':=hc
  unfold LB at hc'
  have e1:(27::91::(kD A++ [c])).flatMap uE=27::91::(kD A++ [c]):=RH _ (fun x hx=>by
   simp only [List.mem_cons,List.mem_append,List.mem_singleton,List.not_mem_nil,or_false] at hx
   rcases hx with rfl | rfl | hx | rfl
   ·omega
   ·omega
   ·have:=Vx hA x hx;omega
   ·omega)
  have e2:dw (cJ 0) (27::91::(kD (A++ [])++ [c]))=(cJ 0,[⟨4,c,0,[],(js A).1,[]⟩]):=xP A [] c hA hl rfl (by decide) (by omega)
  rw [List.append_nil] at e2
  rw [e1,e2];exact .one _ (.EC c _ hc ⟨tq A,LX A⟩)
end Go.Proofs.YtimbfadnabfabaaGreatDoor.Pm

namespace Go.Proofs.YtimbfadnabfabaaGreatDoor.Pm
open Go.Proofs.YtimbfadnabfabaaGreatDoor.Args
open Go.ChangeShapes Go.WideShapes Go.ChangeAt Go.RowKit
open Go.Proofs.YtimbfadnabfabaaGreatDoor.Pm.Ut (dJ fD HA aeI)
open Go.Proofs.YtimbfadnabfabaaGreatDoor.Pr (kD)
set_option linter.unusedVariables false
set_option linter.unusedSimpArgs false
set_option maxRecDepth 100000
theorem ayY(n:Nat)(h:n<10):Lib.decDigits n= [UInt8.ofNat (48+n)]:=by rw [Lib.decDigits,dif_pos h]
theorem aEl(n:Nat)(h:10≤n∧n<100):Lib.decDigits n= [UInt8.ofNat (48+n/10),UInt8.ofNat (48+n%10)]:=by
 rw [Lib.decDigits,dif_neg (by omega),ayY (n/10) (by omega)];rfl
theorem Gr(n:Nat)(h:n<10):dD (n:Int)=some [UInt8.ofNat (48+n)]:=by
 unfold dD Lib.itoa
 rw [if_pos (by omega),if_neg (by omega),Int.toNat_natCast,ayY n h]
theorem Ag(n:Nat)(h:10≤n∧n<100):dD (n:Int)=some [UInt8.ofNat (48+n/10),UInt8.ofNat (48+n%10)]:=by
 unfold dD Lib.itoa
 rw [if_pos (by omega),if_neg (by omega),Int.toNat_natCast,aEl n h]
def oa(a:List UInt8)(c:UInt8)(m:Nat):List UInt8:=if m=0 then 27::(a++ [c]) else [27,91,49,59,UInt8.ofNat (49+m),c]
def kY(d:List UInt8)(m:Nat):List UInt8:=27::91::(d++(if m=0 then [126] else [59,UInt8.ofNat (49+m),126]))
def tab(n m:Nat)(b:Bool):List UInt8:=
 match n with
 | 1=>oa (if b then [79] else [91]) 65 m
 | 2=>oa (if b then [79] else [91]) 66 m
 | 3=>oa (if b then [79] else [91]) 67 m
 | 4=>oa (if b then [79] else [91]) 68 m
 | 5=>oa (if b then [79] else [91]) 72 m
 | 6=>oa (if b then [79] else [91]) 70 m
 | 7=>kY [50] m
 | 8=>kY [51] m
 | 9=>kY [53] m
 | 10=>kY [54] m
 | 11=>oa [79] 80 m
 | 12=>oa [79] 81 m
 | 13=>oa [79] 82 m
 | 14=>oa [79] 83 m
 | 15=>kY [49,53] m
 | 16=>kY [49,55] m
 | 17=>kY [49,56] m
 | 18=>kY [49,57] m
 | 19=>kY [50,48] m
 | 20=>kY [50,49] m
 | 21=>kY [50,51] m
 | _=>kY [50,52] m
theorem g50(a:List UInt8)(c:UInt8)(m:Int)(e:List UInt8)(he:(Utf8.encode (c.toNat:Int)).data.toList=e):
  f28 a c m=bif decide (m=0) then ((ep ([27]:List UInt8) a).bind fun cM=>((ep cM e).bind fun z12=>(some z12))) else ((dD (IntKind.i64.wrap (m+1))).bind fun z8=>((ep ([27,91,49,59]:List UInt8) z8).bind fun z9=>((ep z9 e).bind fun dh=>(some dh)))):=by
 subst he;rfl
theorem h50(a e:List UInt8)(m:Nat)(ha:a.length≤10)(he:e.length≤10)(hm:m≤7):
  (bif decide ((m:Int)=0) then ((ep ([27]:List UInt8) a).bind fun cM=>((ep cM e).bind fun z12=>(some z12))) else ((dD (IntKind.i64.wrap ((m:Int)+1))).bind fun z8=>((ep ([27,91,49,59]:List UInt8) z8).bind fun z9=>((ep z9 e).bind fun dh=>(some dh)))))=
  some (if m=0 then 27::(a++e) else [27,91,49,59,UInt8.ofNat (49+m)]++e):=by
 by_cases h:m=0
 ·subst h
  rw [decide_eq_true (by rfl),if_pos rfl]
  simp only [cond_true]
  rw [jS _ _ (by simp only [List.length_append,List.length_cons,List.length_nil];omega)]
  simp only [Option.bind_some]
  rw [jS _ _ (by simp only [List.length_append,List.length_cons,List.length_nil];omega)]
  rfl
 ·rw [decide_eq_false (by omega),if_neg h]
  simp only [cond_false]
  rw [gu _ (by omega)]
  have e1:dD ((m:Int)+1)=some [UInt8.ofNat (49+m)]:=by
   have:=Gr (m+1) (by omega)
   rw [show 48+(m+1)=49+m by omega] at this
   exact this
  rw [e1]
  simp only [Option.bind_some]
  rw [jS _ _ (by simp only [List.length_append,List.length_cons,List.length_nil];omega)]
  simp only [Option.bind_some]
  rw [jS _ _ (by simp only [List.length_append,List.length_cons,List.length_nil];omega)]
  rfl
theorem Na(a:List UInt8)(c:UInt8)(m:Nat)(ha:a.length≤10)(hm:m≤7)(hc:(Utf8.encode (c.toNat:Int)).data.toList= [c]):f28 a c (m:Int)=some (oa a c m):=
 (g50 a c m [c] hc).trans (h50 a [c] m ha (by simp) hm)
theorem aEm(p q r d x:List UInt8)(b:Bool)(y:Int)(hp:p.length≤10)(hq:q.length≤10)(hr:r.length≤10)(hd:d.length≤10)(hx:x.length≤10)(hy:b=true→dD y=some x):
  ((ep p d).bind fun dh=>(bif b then ((dD y).bind fun cM=>((ep q cM).bind fun z12=>((ep dh z12).bind fun dX=>((ep dX r).bind fun dR=>(some dR))))) else ((ep dh r).bind fun eZ=>(some eZ))))=some (p++d++(if b then q++x else [])++r):=by
 rw [jS p d (by omega)]
 simp only [Option.bind_some]
 cases b with
 | false=>
  have e:=jS (p++d) r (by rw [List.length_append];omega)
  simp only [cond_false,e,Option.bind_some,Bool.false_eq_true,if_false,List.append_nil]
 | true=>
  have e1:=jS q x (by omega)
  have e2:=jS (p++d) (q++x) (by rw [List.length_append,List.length_append];omega)
  have e3:=jS (p++d++(q++x)) r (by rw [List.length_append,List.length_append,List.length_append];omega)
  simp only [cond_true,hy rfl,Option.bind_some,e1,e2,e3,if_true]
theorem aiw(n m:Int)(d:List UInt8)(hd:dD n=some d)(p q r:List UInt8)(hp:([27,91]:List UInt8)=p)(hq:([59]:List UInt8)=q)(hr:([126]:List UInt8)=r):
  f29 n m=((ep p d).bind fun dh=>(bif (!decide (m=0)) then ((dD (IntKind.i64.wrap (m+1))).bind fun cM=>((ep q cM).bind fun z12=>((ep dh z12).bind fun dX=>((ep dX r).bind fun dR=>(some dR))))) else ((ep dh r).bind fun eZ=>(some eZ)))):=by
 subst hp;subst hq;subst hr
 have e:f29 n m=((dD n).bind fun z9=>((ep ([27,91]:List UInt8) z9).bind fun dh=>(bif (!decide (m=0)) then ((dD (IntKind.i64.wrap (m+1))).bind fun cM=>((ep ([59]:List UInt8) cM).bind fun z12=>((ep dh z12).bind fun dX=>((ep dX ([126]:List UInt8)).bind fun dR=>(some dR))))) else ((ep dh ([126]:List UInt8)).bind fun eZ=>(some eZ))))):=rfl
 exact e.trans (congrArg (fun o:Option (List UInt8)=>o.bind fun z9=>((ep ([27,91]:List UInt8) z9).bind fun dh=>(bif (!decide (m=0)) then ((dD (IntKind.i64.wrap (m+1))).bind fun cM=>((ep ([59]:List UInt8) cM).bind fun z12=>((ep dh z12).bind fun dX=>((ep dX ([126]:List UInt8)).bind fun dR=>(some dR))))) else ((ep dh ([126]:List UInt8)).bind fun eZ=>(some eZ))))) hd)
theorem h51(n:Int)(d:List UInt8)(m:Nat)(hd:dD n=some d)(hl:d.length≤2)(hm:m≤7):f29 n (m:Int)=some (kY d m):=by
 rw [aiw n m d hd [27,91] [59] [126] rfl rfl rfl]
 have e1:dD (IntKind.i64.wrap ((m:Int)+1))=some [UInt8.ofNat (49+m)]:=by
  have:=Gr (m+1) (by omega)
  rw [show 48+(m+1)=49+m by omega] at this
  rw [gu _ (by omega)]
  exact this
 refine (aEm [27,91] [59] [126] d [UInt8.ofNat (49+m)] (!decide ((m:Int)=0)) _ (by decide) (by decide) (by decide) (by omega) (by simp) (fun _=>e1)).trans (congrArg some ?_)
 unfold kY
 by_cases h:m=0
 ·subst h;simp
 ·rw [decide_eq_false (show¬((m:Int)=0) by omega),if_neg h];simp
theorem H_(n:Nat)(d:List UInt8)(m:Nat)(hd:dD (n:Int)=some d)(hl:d.length≤2)(hm:m≤7):f29 (n:Int) (m:Int)=some (kY d m):=h51 n d m hd hl hm
theorem named(n m:Nat)(a2:Int)(hn:1≤n∧n≤22)(hm:m≤7):f8 ⟨(n:Int),0,(m:Int)⟩ a2=some (tab n m (!decide (cQ .and .i64 a2 16=0)),0):=by
 have h0:f8 ⟨(n:Int),0,(m:Int)⟩ a2=lV ⟨(n:Int),0,(m:Int)⟩ a2:=by
  unfold f8
  simp only
  rw [decide_eq_false (by omega),decide_eq_false (by omega),decide_eq_false (by omega),decide_eq_false (by omega),decide_eq_false (show¬(n:Int)=0 by omega)]
  rfl
 rw [h0]
 have hd:n=1∨n=2∨n=3∨n=4∨n=5∨n=6∨n=7∨n=8∨n=9∨n=10∨n=11∨n=12∨n=13∨n=14∨n=15∨n=16∨n=17∨n=18∨n=19∨n=20∨n=21∨n=22:=by omega
 rcases hd with rfl | rfl | rfl | rfl | rfl | rfl | rfl | rfl | rfl | rfl | rfl | rfl | rfl | rfl | rfl | rfl | rfl | rfl | rfl | rfl | rfl | rfl
 case _=>unfold lV uC;cases (!decide (cQ .and .i64 a2 16=0))<;>exact congrArg (Option.bind · fun z=>some (z,0)) (Na _ 65 m (by simp) hm (by decide))
 case _=>unfold lV uC;cases (!decide (cQ .and .i64 a2 16=0))<;>exact congrArg (Option.bind · fun z=>some (z,0)) (Na _ 66 m (by simp) hm (by decide))
 case _=>unfold lV uC;cases (!decide (cQ .and .i64 a2 16=0))<;>exact congrArg (Option.bind · fun z=>some (z,0)) (Na _ 67 m (by simp) hm (by decide))
 case _=>unfold lV uC;cases (!decide (cQ .and .i64 a2 16=0))<;>exact congrArg (Option.bind · fun z=>some (z,0)) (Na _ 68 m (by simp) hm (by decide))
 case _=>unfold lV uC;cases (!decide (cQ .and .i64 a2 16=0))<;>exact congrArg (Option.bind · fun z=>some (z,0)) (Na _ 72 m (by simp) hm (by decide))
 case _=>unfold lV uC;cases (!decide (cQ .and .i64 a2 16=0))<;>exact congrArg (Option.bind · fun z=>some (z,0)) (Na _ 70 m (by simp) hm (by decide))
 case _=>exact congrArg (Option.bind · fun z=>some (z,0)) (H_ 2 [50] m (Gr 2 (by decide)) (by simp) hm)
 case _=>exact congrArg (Option.bind · fun z=>some (z,0)) (H_ 3 [51] m (Gr 3 (by decide)) (by simp) hm)
 case _=>exact congrArg (Option.bind · fun z=>some (z,0)) (H_ 5 [53] m (Gr 5 (by decide)) (by simp) hm)
 case _=>exact congrArg (Option.bind · fun z=>some (z,0)) (H_ 6 [54] m (Gr 6 (by decide)) (by simp) hm)
 case _=>exact congrArg (Option.bind · fun z=>some (z,0)) (Na [79] 80 m (by simp) hm (by decide))
 case _=>exact congrArg (Option.bind · fun z=>some (z,0)) (Na [79] 81 m (by simp) hm (by decide))
 case _=>exact congrArg (Option.bind · fun z=>some (z,0)) (Na [79] 82 m (by simp) hm (by decide))
 case _=>exact congrArg (Option.bind · fun z=>some (z,0)) (Na [79] 83 m (by simp) hm (by decide))
 case _=>exact congrArg (Option.bind · fun z=>some (z,0)) (H_ 15 [49,53] m (Ag 15 (by decide)) (by simp) hm)
 case _=>exact congrArg (Option.bind · fun z=>some (z,0)) (H_ 17 [49,55] m (Ag 17 (by decide)) (by simp) hm)
 case _=>exact congrArg (Option.bind · fun z=>some (z,0)) (H_ 18 [49,56] m (Ag 18 (by decide)) (by simp) hm)
 case _=>exact congrArg (Option.bind · fun z=>some (z,0)) (H_ 19 [49,57] m (Ag 19 (by decide)) (by simp) hm)
 case _=>exact congrArg (Option.bind · fun z=>some (z,0)) (H_ 20 [50,48] m (Ag 20 (by decide)) (by simp) hm)
 case _=>exact congrArg (Option.bind · fun z=>some (z,0)) (H_ 21 [50,49] m (Ag 21 (by decide)) (by simp) hm)
 case _=>exact congrArg (Option.bind · fun z=>some (z,0)) (H_ 23 [50,51] m (Ag 23 (by decide)) (by simp) hm)
 case _=>exact congrArg (Option.bind · fun z=>some (z,0)) (H_ 24 [50,52] m (Ag 24 (by decide)) (by simp) hm)
theorem other(k:eD)(a2:Int)(hn:k.Name=0∨23≤k.Name):lV k a2=KN k a2:=by
 unfold lV
 rcases hn with h | h
 ·rw [decide_eq_false (show¬1≤k.Name by omega)]
  unfold F7
  rw [decide_eq_false (show¬7≤k.Name by omega)]
  unfold F6
  rw [decide_eq_false (show¬11≤k.Name by omega)]
  unfold F5
  rw [decide_eq_false (show¬14<k.Name by omega)];rfl
 ·rw [decide_eq_true (show 1≤k.Name by omega),decide_eq_false (show¬k.Name≤6 by omega)]
  unfold F7
  rw [decide_eq_true (show 7≤k.Name by omega),decide_eq_false (show¬k.Name≤10 by omega)]
  unfold F6
  rw [decide_eq_true (show 11≤k.Name by omega),decide_eq_false (show¬k.Name≤14 by omega)]
  unfold F5
  rw [decide_eq_true (show 14<k.Name by omega),decide_eq_false (show¬k.Name<23 by omega)];rfl
def okK(k:eD):Prop:=(0≤k.Name∧k.Name≤26)∧(k.Name=0→(0≤k.eB∧k.eB≤1114111)∧(k.eB<55296∨57343<k.eB))∧(k.Name≠0→k.eB=0)
theorem valid(k:eD)(a2:Int)(hm:0≤k.eV∧k.eV≤7):(okK k∧f8 k a2=lV k a2)∨(¬okK k∧f8 k a2=some ([],1)):=by
 unfold okK f8 f27
 simp only [Bool.cond_decide]
 rw [if_neg (show¬k.eV<0 by omega),if_neg (show¬7<k.eV by omega)]
 by_cases h1:k.Name<0
 ·rw [if_pos h1];exact .inr ⟨fun h=>by omega,rfl⟩
 rw [if_neg h1]
 by_cases h2:26<k.Name
 ·rw [if_pos h2];exact .inr ⟨fun h=>by omega,rfl⟩
 rw [if_neg h2]
 by_cases h3:k.Name=0
 ·rw [if_pos h3]
  have nb:(!decide (k.Name=0))=false:=by rw [decide_eq_true h3];rfl
  simp only [nb,cond_false]
  repeat' split
  all_goals first
   | exact .inl ⟨⟨by omega,fun _=>⟨by omega,by omega⟩,fun h=>absurd h3 h⟩,rfl⟩
   | exact .inr ⟨fun h=>by have:=h.2.1 h3;omega,rfl⟩
 ·rw [if_neg h3]
  have nb:(!decide (k.Name=0))=true:=by rw [decide_eq_false h3];rfl
  simp only [nb,cond_true]
  by_cases h4:k.eB=0
  ·rw [decide_eq_true h4];exact .inl ⟨⟨by omega,fun h=>absurd h h3,fun _=>h4⟩,rfl⟩
  ·rw [decide_eq_false h4];exact .inr ⟨fun h=>h4 (h.2.2 h3),rfl⟩
theorem Cv(n:Nat)(h:n<128):fD (n:Int)= [UInt8.ofNat n]:=by
 have ht:((List.range 128).all fun n=>decide (fD (n:Int)= [UInt8.ofNat n]))=true:=by kernel_rfl
 exact of_decide_eq_true (List.all_eq_true.1 ht n (List.mem_range.2 h))
theorem aEn(c:Int)(h:dJ c):f78 [c]=some (dU [c]):=by
 rw [aeI [c] (by simp)]
 have:HA c=c:=by unfold HA;unfold dJ at h;rw [if_neg (by omega)]
 unfold dU
 simp [this]
theorem aBh(c:Int)(h:64≤c∧c≤122):dJ (cQ .and .i64 c 31):=by
 have ht:((List.range 128).all fun n=>decide (0≤cQ .and .i64 (n:Int) 31)&&decide (cQ .and .i64 (n:Int) 31≤31))=true:=by kernel_rfl
 obtain ⟨n,rfl⟩: ∃n:Nat,c=n:=⟨c.toNat,by omega⟩
 have:=List.all_eq_true.1 ht n (List.mem_range.2 (by omega))
 rw [Bool.and_eq_true,decide_eq_true_eq,decide_eq_true_eq] at this
 exact .inl (by omega)
theorem axf(c m:Int)(h:dJ c): ∃r,dJ r∧f65 c m=some (dU [r]):=by
 have t: ∀x,dJ x→ ∃r,dJ r∧((f78 [x]).bind fun z6=>(some z6))=some (dU [r]):=fun x hx=>⟨x,hx,by rw [aEn x hx];rfl⟩
 unfold f65 xp A5
 cases (!decide (cQ .and .i64 m 4=0))
 ·simp only [cond_false];exact t _ h
 ·simp only [cond_true,Bool.cond_decide]
  repeat' split
  all_goals first
   | exact t _ (aBh c (by omega))
   | exact t _ (.inl (by omega))
   | exact t _ h
theorem Zs(k:eD)(h:dJ k.eB): ∃R,f30 k=some (dU R)∧((∃c,dJ c∧R= [c])∨R= [27,91,90]):=by
 obtain ⟨r,hr,e⟩:=axf k.eB k.eV h
 have one: ∀n:Nat,n<128→ ∃R,some [UInt8.ofNat n]=some (dU R)∧((∃c,dJ c∧R= [c])∨R= [27,91,90]):=fun n hn=>⟨[(n:Int)],by unfold dU;simp [Cv n hn],.inl ⟨n,.inl (by omega),rfl⟩⟩
 have t3:dU [27,91,90]= [27,91,90]:=by kernel_rfl
 unfold f30 Ev Eu
 rw [e]
 simp only [Bool.cond_decide,Option.bind_some]
 cases (!decide (cQ .and .i64 k.eV 1=0))<;>cases (!decide (cQ .and .i64 k.eV 4=0))<;>simp only [cond_true,cond_false]<;>repeat' split
 all_goals first
  | exact one 13 (by decide)
  | exact one 9 (by decide)
  | exact one 8 (by decide)
  | exact one 127 (by decide)
  | exact one 27 (by decide)
  | exact ⟨[27,91,90],congrArg some t3.symm,.inr rfl⟩
  | exact ⟨_,rfl,.inl ⟨r,hr,rfl⟩⟩
theorem Vy: ∀A:List UInt8,(∀b∈A,b.toNat<128)→dU (kD A)=A
 | [],_=>rfl
 | b::A,h=>by
  have e:dU (kD (b::A))=fD (b.toNat:Int)++dU (kD A):=by unfold dU kD;rw [List.map_cons,List.flatMap_cons]
  rw [e,Cv b.toNat (h b (List.mem_cons_self ..)),Vy A fun x hx=>h x (List.mem_cons_of_mem _ hx)]
  simp
theorem Fh(A:List UInt8)(c:Nat)(hA:A.all Pr.okB=true)(hc:c<128):dU (27::91::(kD A++ [(c:Int)]))=27::91::(A++ [UInt8.ofNat c]):=by
 have e:dU (27::91::(kD A++ [(c:Int)]))=fD 27++(fD 91++(dU (kD A)++fD (c:Int))):=by unfold dU;simp
 rw [e,Vy A (fun b hb=>by have:=Vw hA b hb;omega),Cv c hc,show fD 27= [27] from Cv 27 (by decide),show fD 91= [91] from Cv 91 (by decide)];rfl
theorem ayZ(m:Nat)(hm:m≤7):Pr.okB (UInt8.ofNat (49+m))=true:=by
 have ht:((List.range 8).all fun m=>Pr.okB (UInt8.ofNat (49+m)))=true:=by kernel_rfl
 exact List.all_eq_true.1 ht m (List.mem_range.2 (by omega))
theorem Zt(b:Bool)(c m:Nat)(hm:m≤7)(hc:LB (c:Int))(Vz:c<128): ∃R,Bv R∧dU R=oa (if b then [79] else [91]) (UInt8.ofNat c) m:=by
 unfold oa
 by_cases h:m=0
 ·rw [if_pos h]
  cases b
  ·exact ⟨27::91::(kD []++ [(c:Int)]),.EC [] _ rfl (by decide) (.inl hc),Fh [] c rfl Vz⟩
  ·refine ⟨[27,79,(c:Int)],.Zr _ hc,?_⟩
   have e:dU [27,79,(c:Int)]=fD 27++(fD 79++fD (c:Int)):=by unfold dU;simp
   rw [e,Cv c Vz,show fD 27= [27] from Cv 27 (by decide),show fD 79= [79] from Cv 79 (by decide)];rfl
 ·rw [if_neg h]
  have hA: [49,59,UInt8.ofNat (49+m)].all Pr.okB=true:=by
   rw [List.all_cons,List.all_cons,List.all_cons,ayZ m hm];rfl
  exact ⟨27::91::(kD [49,59,UInt8.ofNat (49+m)]++ [(c:Int)]),.EC _ _ hA (by simp) (.inl hc),Fh _ c hA Vz⟩
theorem aeK(c m:Nat)(hm:m≤7)(hc:LB (c:Int))(Vz:c<128): ∃R,Bv R∧dU R=oa [79] (UInt8.ofNat c) m:=Zt true c m hm hc Vz
theorem Ia(d:List UInt8)(m:Nat)(hm:m≤7)(hd:d.all Pr.okB=true)(hl:d.length≤10): ∃R,Bv R∧dU R=kY d m:=by
 unfold kY
 by_cases h:m=0
 ·rw [if_pos h]
  exact ⟨27::91::(kD d++ [((126:Nat):Int)]),.EC d _ hd (by omega) (.inr (.inr rfl)),Fh d 126 hd (by decide)⟩
 ·rw [if_neg h]
  have hA:(d++ [59,UInt8.ofNat (49+m)]).all Pr.okB=true:=by
   rw [List.all_append,hd,List.all_cons,List.all_cons,ayZ m hm];rfl
  refine ⟨27::91::(kD (d++ [59,UInt8.ofNat (49+m)])++ [((126:Nat):Int)]),.EC _ _ hA (by simp;omega) (.inr (.inr rfl)),(Fh _ 126 hA (by decide)).trans ?_⟩
  simp
theorem axg(n m:Nat)(b:Bool)(hn:1≤n∧n≤22)(hm:m≤7): ∃R,Bv R∧dU R=tab n m b:=by
 have hd:n=1∨n=2∨n=3∨n=4∨n=5∨n=6∨n=7∨n=8∨n=9∨n=10∨n=11∨n=12∨n=13∨n=14∨n=15∨n=16∨n=17∨n=18∨n=19∨n=20∨n=21∨n=22:=by omega
 rcases hd with rfl | rfl | rfl | rfl | rfl | rfl | rfl | rfl | rfl | rfl | rfl | rfl | rfl | rfl | rfl | rfl | rfl | rfl | rfl | rfl | rfl | rfl
 ·exact Zt b 65 m hm (by unfold LB;omega) (by decide)
 ·exact Zt b 66 m hm (by unfold LB;omega) (by decide)
 ·exact Zt b 67 m hm (by unfold LB;omega) (by decide)
 ·exact Zt b 68 m hm (by unfold LB;omega) (by decide)
 ·exact Zt b 72 m hm (by unfold LB;omega) (by decide)
 ·exact Zt b 70 m hm (by unfold LB;omega) (by decide)
 ·exact Ia [50] m hm (by decide) (by decide)
 ·exact Ia [51] m hm (by decide) (by decide)
 ·exact Ia [53] m hm (by decide) (by decide)
 ·exact Ia [54] m hm (by decide) (by decide)
 ·exact aeK 80 m hm (by unfold LB;omega) (by decide)
 ·exact aeK 81 m hm (by unfold LB;omega) (by decide)
 ·exact aeK 82 m hm (by unfold LB;omega) (by decide)
 ·exact aeK 83 m hm (by unfold LB;omega) (by decide)
 ·exact Ia [49,53] m hm (by decide) (by decide)
 ·exact Ia [49,55] m hm (by decide) (by decide)
 ·exact Ia [49,56] m hm (by decide) (by decide)
 ·exact Ia [49,57] m hm (by decide) (by decide)
 ·exact Ia [50,48] m hm (by decide) (by decide)
 ·exact Ia [50,49] m hm (by decide) (by decide)
 ·exact Ia [50,51] m hm (by decide) (by decide)
 ·exact Ia [50,52] m hm (by decide) (by decide)
theorem axh(k:eD)(a2:Int):(∃R,Bv R∧f8 k a2=some (dU R,0))∨f8 k a2=some ([],1):=by
 by_cases hm:0≤k.eV∧k.eV≤7
 ·rcases valid k a2 hm with ⟨hk,e⟩ | ⟨_,e⟩
  ·refine .inl ?_
   obtain ⟨n,r,m⟩:=k
   obtain ⟨m,rfl⟩:=Int.eq_ofNat_of_zero_le hm.1
   by_cases hn:n=0∨23≤n
   ·have hr:dJ r:=by
     by_cases h0:n=0
     ·have:=hk.2.1 h0
      simp only at this
      unfold dJ;omega
     ·have:=hk.2.2 h0
      simp only at this
      subst this;exact .inl (by omega)
    obtain ⟨R,e1,hR⟩:=Zs ⟨n,r,(m:Int)⟩ hr
    rw [e,other _ _ hn]
    unfold KN
    rw [e1,bs]
    have hl:(dU R).length≤100:=by
     unfold dU
     rcases hR with ⟨c,_,rfl⟩ | rfl
     ·have:=Ut.nj c;simp;omega
     ·have h1:=Ut.nj 27;have h2:=Ut.nj 91;have h3:=Ut.nj 90;simp;omega
    by_cases h2:cQ .and .i64 (m:Int) 2=0
    ·rw [bV (by show (!decide (cQ .and .i64 (m:Int) 2=0))=false;rw [decide_eq_true h2];rfl)]
     refine ⟨R,?_,rfl⟩
     rcases hR with ⟨c,hc,rfl⟩ | rfl
     ·exact .one c hc
     ·exact .EC [] 90 rfl (by decide) (.inr (.inl rfl))
    ·rw [bT (by show (!decide (cQ .and .i64 (m:Int) 2=0))=true;rw [decide_eq_false h2];rfl),jS _ _ (by simp;omega),bs]
     refine ⟨27::R,?_,?_⟩
     ·rcases hR with ⟨c,hc,rfl⟩ | rfl
      ·exact .alt c hc
      ·exact .Dd
     ·unfold dU;rw [List.flatMap_cons,show fD 27= [27] from Cv 27 (by decide)]
   ·have h1:=hk.1
    simp only at h1 hm
    have hr:r=0:=hk.2.2 (by simp only;omega)
    obtain ⟨n,rfl⟩:=Int.eq_ofNat_of_zero_le h1.1
    subst hr
    obtain ⟨R,hR,eR⟩:=axg n m (!decide (cQ .and .i64 a2 16=0)) (by omega) (by omega)
    exact ⟨R,hR,by rw [named n m a2 (by omega) (by omega),eR]⟩
  ·exact .inr e
 ·refine .inr ?_
  unfold f8
  simp only [Bool.cond_decide]
  by_cases h:k.eV<0
  ·rw [if_pos h]
  ·rw [if_neg h,if_pos (by omega)]
end Go.Proofs.YtimbfadnabfabaaGreatDoor.Pm

namespace Go.Proofs.YtimbfadnabfabaaGreatDoor.Pm
open Go.Proofs.YtimbfadnabfabaaGreatDoor.Args
open Go.ChangeShapes Go.WideShapes Go.ChangeAt Go.RowKit
set_option linter.unusedVariables false
set_option linter.unusedSimpArgs false
set_option maxRecDepth 100000
structure VS (W H:Nat) (t:ag):Prop where
 hW:1≤W∧W≤160
 hH:1≤H∧H≤60
 gw:t.af.aG.bR=W
 gh:t.af.aG.bW=H
 gl:t.af.aG.Cells.length=W*H
 row:0≤t.af.Row∧t.af.Row≤(H:Int)-1
 lW:0≤t.af.cP∧t.af.cP≤(W:Int)-1
 ai:0≤t.af.ji∧((t.af.ji<t.af.cT∧t.af.cT≤H)∨t.af.cT≤ -1)
 sh:0≤t.af.cC∧t.af.cC≤1
 past:t.af.bn.length≤40
theorem aBi(s:aA)(f:SF s): ∃W H:Nat,VS W H ⟨s,[]⟩:=by
 obtain ⟨W,H,w1,w2,h1,h2,e,hc,hR⟩:=Rw s.aG f.g
 have eW:s.aG.bR=(W:Int):=by rw [e]
 have eH:s.aG.bW=(H:Int):=by rw [e]
 have hr:=f.row
 have qR:=f.lW
 have ht:=f.top
 have hb:=f.bot
 rw [eH] at hr hb
 rw [eW] at qR
 refine ⟨W,H,⟨w1,w2⟩,⟨h1,h2⟩,eW,eH,hc,hr,qR,⟨ht.1,?_⟩,f.sh,f.past.2⟩
 by_cases q: -9223372036854775807≤s.cT
 ·rw [gu (s.cT-1) (by omega)] at ht
  exact .inl ⟨by show s.ji<s.cT;omega,hb⟩
 ·exact .inr (by show s.cT≤ -1;omega)
theorem axi(a hi:Int)(h:0≤hi): ∃r,f237 a 0 hi=some r∧0≤r∧r≤hi:=by
 unfold f237
 refine ⟨_,rfl,?_⟩
 constructor<;>split<;>split<;>omega
theorem arS{W H:Nat}{t:ag}(v:VS W H t)(c:Int): ∃r,0≤r∧r≤(W:Int)-1∧f212 c t=some ⟨{t.af with cP:=r,eK:=false},t.sent⟩:=by
 have hW:=v.hW
 obtain ⟨r,e,h1,h2⟩:=axi c ((W:Int)-1) (by omega)
 unfold f212
 rw [v.gw,gu _ (by omega),e,bs]
 exact ⟨r,h1,h2,rfl⟩
theorem VS.Fi{W H:Nat}{t:ag}(v:VS W H t){r:Int}(h0:0≤r)(h1:r≤(W:Int)-1):VS W H ⟨{t.af with cP:=r,eK:=false},t.sent⟩:=
 ⟨v.hW,v.hH,v.gw,v.gh,v.gl,v.row,⟨h0,h1⟩,v.ai,v.sh,v.past⟩
theorem Bg(t:ag)(l:List PD)(m:Int): ∃b,f214 t l m=some b:=by
 unfold f214
 cases (!decide (cQ .and .i64 t.af.eE m=0))
 ·exact ⟨_,rfl⟩
 ·exact ⟨_,rfl⟩
theorem Gs{W H:Nat}(hW:1≤W∧W≤160)(hH:1≤H∧H≤60)(c:List ah)(hc:c.length=W*H)(tp bt n:Int)(p:bA)(ht:0≤tp)(hr:(tp<bt∧bt≤H)∨bt≤ -1)(hn: -100000≤n∧n≤100000):
  ∃d,f239 (W:Int) (H:Int) tp bt n p c=some d∧d.length=c.length:=by
 rcases hr with hr | hr
 ·obtain ⟨a,rfl⟩:=Int.eq_ofNat_of_zero_le ht
  obtain ⟨b,rfl⟩:=Int.eq_ofNat_of_zero_le (show 0≤bt by omega)
  exact ⟨_,E_ W H a b n p c hc hW.1 hW.2 hH.2 (by omega) (by omega) hn,by unfold LH;rw [cR]⟩
 ·refine ⟨c,?_,rfl⟩
  unfold f239
  rw [dK (r:=(c,[])) (by
   unfold qm
   rw [bV (df (by show¬tp<bt;omega))]),bs]
  unfold zy f250
  rw [dK (r:= []) (by
   unfold ql kV
   rw [bV (df (by show¬(0:Int)<(([]:List (List ah)).length:Int);simp)),cf]),bs,bs]
  dsimp only []
  rw [gi (dt rfl),bs,gi (dt rfl),bs]
  rw [dK (r:=c) (by
   unfold s3 kW
   rw [bV (df (by show¬(0:Int)<(([]:List (List ah)).length:Int);simp)),cf]),bs]
theorem IZ{W H:Nat}{t:ag}(v:VS W H t)(t0:ag): ∃t',qo t0 t=some t'∧VS W H t'∧t'.af.cP=t.af.cP:=by
 obtain ⟨d,e,hd⟩:=Gs v.hW v.hH t.af.aG.Cells v.gl t.af.ji t.af.cT 1 (bA.mk 0 0 t.af.bP.dm) v.ai.1 v.ai.2 (by omega)
 unfold qo f216
 rw [bs,v.gw,v.gh,e,bs,gi (dt hd),bs]
 exact ⟨_,rfl,⟨v.hW,v.hH,rfl,rfl,hd.trans v.gl,v.row,v.lW,v.ai,v.sh,v.past⟩,rfl⟩
theorem arT{α:Type}(l:List α)(h:1<l.length):JO l 1 (l.length:Int)=some (l.drop 1):=by
 unfold JO
 rw [if_pos (by omega),show (1:Int)=((1:Nat):Int) from rfl,LA l 1 l.length (by omega) (Nat.le_refl _),List.take_length]
theorem LY{W H:Nat}{t:ag}(v:VS W H t): ∃t',f213 t=some t'∧VS W H t'∧t'.af.cP=t.af.cP:=by
 have hH:=v.hH
 have hW:=v.hW
 have h9:=size_le W H hW.2 hH.2
 have hp:=v.past
 have lt: ∀pa:List bF,pa.length≤40→VS W H ⟨{t.af with eK:=false,bn:=pa},t.sent⟩:=fun pa h=>⟨v.hW,v.hH,v.gw,v.gh,v.gl,v.row,v.lW,v.ai,v.sh,h⟩
 unfold f213
 by_cases q1:t.af.Row=IntKind.i64.wrap (t.af.cT-1)
 ·rw [bT (dt q1)]
  by_cases q2:t.af.ji=0
  ·rw [bT (dt q2)]
   obtain ⟨b,e⟩:=Bg (ag.mk ({t.af with eK:=false}) t.sent) [] 256
   rw [e,bs]
   cases b
   ·rw [Bool.not_false,ct]
    have er:f238 t.af.aG 0=some (j6 W t.af.aG.Cells 0):=by
     have hg:t.af.aG=⟨W,H,t.af.aG.Cells⟩:=by
      have h1:=v.gw
      have h2:=v.gh
      cases hq:t.af.aG with
      | mk a b c=>
       rw [hq] at h1 h2
       dsimp only [] at h1 h2
       rw [h1,h2]
     unfold f238
     rw [hg]
     have:=IU W H t.af.aG.Cells 0 v.gl (by omega) hW.2 hH.2
     rw [show f89 ⟨(W:Int),(H:Int),t.af.aG.Cells⟩ 0=_ from this,bs,E7 _ (by rw [vX W H _ 0 v.gl (by omega)];omega),bs]
    rw [er,bs,fy _ _ _ (by rw [List.length_singleton];omega),bs]
    have hn:(t.af.bn++ [bF.mk (j6 W t.af.aG.Cells 0)]).length=t.af.bn.length+1:=by rw [List.length_append,List.length_singleton]
    by_cases q4:40<t.af.bn.length+1
    ·rw [bT (dt (by rw [hn];omega)),arT _ (by rw [hn];omega),bs]
     exact IZ (lt _ (by rw [List.length_drop,hn];omega)) _
    ·rw [bV (df (by rw [hn];omega))]
     exact IZ (lt _ (by rw [hn];omega)) _
   ·rw [Bool.not_true,cf]
    exact IZ (lt t.af.bn hp) _
  ·rw [bV (df q2)]
   exact IZ (lt t.af.bn hp) _
 ·rw [bV (df q1),v.gh,gu ((H:Int)-1) (by omega)]
  have hr:=v.row
  by_cases q3:t.af.Row<(H:Int)-1
  ·rw [bT (dt q3),gu (t.af.Row+1) (by omega)]
   exact ⟨_,rfl,⟨v.hW,v.hH,v.gw,v.gh,v.gl,⟨by show 0≤t.af.Row+1;omega,by show t.af.Row+1≤_;omega⟩,v.lW,v.ai,v.sh,v.past⟩,rfl⟩
  ·rw [bV (df q3)]
   exact ⟨_,rfl,lt t.af.bn hp,rfl⟩
theorem aBj{W H:Nat}{t:ag}(v:VS W H t): ∃t',f219 t=some t':=by
 obtain ⟨d,e,hd⟩:=Gs v.hW v.hH t.af.aG.Cells v.gl t.af.ji t.af.cT (-1) (bA.mk 0 0 t.af.bP.dm) v.ai.1 v.ai.2 (by omega)
 unfold f219 f216
 by_cases q:t.af.Row=t.af.ji
 ·rw [bT (dt q),bs,v.gw,v.gh]
  dsimp only []
  rw [e,bs,gi (dt hd),bs]
  exact ⟨_,rfl⟩
 ·rw [bV (df q)]
  cases decide (0<t.af.Row)
  ·exact ⟨_,rfl⟩
  ·exact ⟨_,rfl⟩
theorem c3{a b:Nat}(h:a=b):bU (decide (a=b))=some ():=gi (dt h)
theorem aEo{W H:Nat}{t:ag}(v:VS W H t): ∃t',f188 13 t=some t'∧VS W H t':=by
 obtain ⟨r,h0,h1,e⟩:=arS v 0
 unfold f188 mg
 rw [bV (by rfl),bV (by rfl),bV (by rfl),bV (by rfl),bV (by rfl),cf,bT (by rfl),e,bs,c3 rfl,bs,c3 rfl,bs,c3 rfl,bs]
 exact ⟨_,rfl,v.Fi h0 h1⟩
theorem aBk{W H:Nat}{t:ag}(v:VS W H t)(c:Int): ∃t',f188 c t=some t':=by
 have aeL: ∀{u:ag} (vu:VS W H u) (k:Int),∃t',((f212 k u).bind fun z20=>((bU (decide (z20.af.bn.length=u.af.bn.length))).bind fun z21=>((bU (decide (z20.af.aT.Cells.length=u.af.aT.Cells.length))).bind fun z22=>((bU (decide (z20.af.aG.Cells.length=u.af.aG.Cells.length))).bind fun z23=>(some z20)))))=some t':=fun {u} vu k=>by
  obtain ⟨r,h0,h1,e⟩:=arS vu k
  rw [e,bs,c3 rfl,bs,c3 rfl,bs,c3 rfl,bs]
  exact ⟨_,rfl⟩
 have lf: ∃t',mg c t true=some t':=by
  unfold mg
  obtain ⟨t1,e1,v1,_⟩:=LY v
  obtain ⟨b,e2⟩:=Bg t1 [] 128
  rw [ct,e1,bs,e2,bs]
  cases b
  ·exact ⟨_,rfl⟩
  ·rw [ct];exact aeL v1 0
 unfold f188
 by_cases q1:c=8
 ·rw [bT (dt q1)];exact aeL v _
 rw [bV (df q1)]
 by_cases q2:c=9
 ·obtain ⟨r,e⟩:=Lx t.af.eU t.af.cP 1 t.af.aG.bR
  rw [bT (dt q2),e,bs];exact aeL v _
 rw [bV (df q2)]
 by_cases q3:c=10
 ·rw [bT (dt q3)];exact lf
 rw [bV (df q3)]
 by_cases q4:c=11
 ·rw [bT (dt q4)];exact lf
 rw [bV (df q4)]
 by_cases q5:c=12
 ·rw [bT (dt q5)];exact lf
 rw [bV (df q5)]
 unfold mg
 rw [cf]
 by_cases q6:c=13
 ·rw [bT (dt q6)];exact aeL v 0
 rw [bV (df q6)]
 cases decide (c=14)
 ·cases decide (c=15)
  ·exact ⟨_,rfl⟩
  ·exact ⟨_,rfl⟩
 ·exact ⟨_,rfl⟩
end Go.Proofs.YtimbfadnabfabaaGreatDoor.Pm

namespace Go.Proofs.YtimbfadnabfabaaGreatDoor.Pm
open Go.Proofs.YtimbfadnabfabaaGreatDoor.Args
open Go.ChangeShapes Go.WideShapes Go.ChangeAt Go.RowKit
open Go.Proofs.YtimbfadnabfabaaGreatDoor.Pr (kj)
set_option linter.unusedVariables false
set_option linter.unusedSimpArgs false
set_option maxRecDepth 100000
theorem VS.Zu{W H:Nat}{t:ag}(v:VS W H t){d:List ah}(hd:d.length=t.af.aG.Cells.length):VS W H ⟨{t.af with aG:=bS.mk t.af.aG.bR t.af.aG.bW d},t.sent⟩:=
 ⟨v.hW,v.hH,v.gw,v.gh,hd.trans v.gl,v.row,v.lW,v.ai,v.sh,v.past⟩
theorem aBm{W H:Nat}{t:ag}(v:VS W H t)(r:Int)(p:bA)(hr:0<wd r)(hc:t.af.cP+wd r≤W): ∃d,f217 t.af.aG.bR t.af.aG.bW t.af.Row t.af.cP r p t.af.aG.Cells=some d∧d.length=t.af.aG.Cells.length:=by
 have hrow:=v.row
 have Hu:=v.lW
 obtain ⟨n,hn⟩:=Int.eq_ofNat_of_zero_le hrow.1
 obtain ⟨k,hk⟩:=Int.eq_ofNat_of_zero_le Hu.1
 rw [v.gw,v.gh,hn,hk]
 exact ⟨_,O3 W H n k r p _ v.gl (by omega) v.hW.2 v.hH.2 hr (by omega),by rw [rI];unfold Ht;rw [cR]⟩
theorem VA{W H:Nat}{t:ag}(v:VS W H t)(n:Int)(p:bA)(hn: -100000≤n∧n≤100000): ∃d,f215 t.af.aG.bR t.af.aG.bW t.af.Row t.af.cP t.af.aG.bR n p t.af.aG.Cells=some d∧d.length=t.af.aG.Cells.length:=by
 have hrow:=v.row
 have Hu:=v.lW
 obtain ⟨r,hr⟩:=Int.eq_ofNat_of_zero_le hrow.1
 obtain ⟨k,hk⟩:=Int.eq_ofNat_of_zero_le Hu.1
 rw [v.gw,v.gh,hr,hk]
 exact ⟨_,Hq W H r k W n p _ v.gl (by omega) v.hW.2 v.hH.2 (by omega) (Nat.le_refl _) hn,by rw [rI];unfold Fe;rw [cR]⟩
theorem ay0{W H:Nat}{t:ag}(v:VS W H t)(c:Int)(t0:ag)(r:Int)(hr:0<wd r)(hc:t.af.cP+wd r≤W): ∃t',vO c t0 t r (wd r)=some t':=by
 obtain ⟨d,e,hd⟩:=aBm v r t.af.bP hr hc
 unfold vO
 rw [e,bs,gi (dt hd),bs]
 cases decide ((IntKind.i64.wrap (t0.af.aG.bR-1))<(IntKind.i64.wrap (t.af.cP+wd r)))
 ·exact ⟨_,rfl⟩
 ·rw [ct]
  obtain ⟨b,eb⟩:=Bg (ag.mk ({t.af with aG:=(bS.mk t.af.aG.bR t.af.aG.bW d),cP:=(IntKind.i64.wrap (t.af.cP+wd r))}) t.sent) [] 4
  rw [eb,bs]
  exact ⟨_,rfl⟩
theorem ay1{W H:Nat}{t:ag}(v:VS W H t)(c:Int)(t0:ag)(r:Int)(hr:0<wd r)(hc:t.af.cP+wd r≤W): ∃t',vP c t0 t r (wd r)=some t':=by
 unfold vP f216
 obtain ⟨b,eb⟩:=Bg t [] 1
 rw [eb,bs]
 cases b
 ·exact ay0 v c t0 r hr hc
 ·have hw:=Bc r
  obtain ⟨d,e,hd⟩:=VA v (wd r) (bA.mk 0 0 t.af.bP.dm) (by omega)
  rw [ct,bs,e,bs,gi (dt hd),bs]
  exact ay0 (v.Zu hd) c t0 r hr hc
theorem ay2{W H:Nat}{t:ag}(v:VS W H t)(c:Int)(t0:ag)(h0:t0.af.aG.bR=W)(r:Int)(hr:0<wd r)(hw:wd r≤W): ∃t',vR c t0 t r (wd r)=some t':=by
 have hW:=v.hW
 have hc:=v.lW
 have h5: ¬(wd r=2∧t.af.cP=(W:Int)-1)→ ∃t',vQ c t0 t r (wd r)=some t':=fun h=>by
  unfold vQ
  have:=Bc r
  exact ay1 v c t0 r hr (by omega)
 unfold vR
 by_cases q1:wd r=2
 ·rw [bT (dt q1),h0,gu ((W:Int)-1) (by omega)]
  by_cases q2:t.af.cP=(W:Int)-1
  ·rw [bT (dt q2)]
   obtain ⟨b,eb⟩:=Bg t [] 4
   rw [eb,bs]
   cases b
   ·exact ⟨_,rfl⟩
   ·rw [Bool.not_true,cf]
    have h00:(0:Int)≤(W:Int)-1:=by omega
    unfold f212
    rw [v.gw,gu ((W:Int)-1) (by omega)]
    have el:f237 0 0 ((W:Int)-1)=some 0:=by
     unfold f237
     by_cases q:(W:Int)-1<0
     ·omega
     ·rw [if_neg q,if_neg (by omega)]
    rw [el,bs,bs,c3 rfl,bs,c3 rfl,bs,c3 rfl,bs]
    obtain ⟨t1,e1,v1,Hu⟩:=LY (v.Fi (Int.le_refl 0) h00)
    have Hu:t1.af.cP=0:=Hu
    rw [e1,bs]
    exact ay1 v1 c t0 r hr (by rw [Hu];omega)
  ·rw [bV (df q2)];exact h5 fun h=>q2 h.2
 ·rw [bV (df q1)];exact h5 fun h=>q1 h.1
theorem aEq(W:Nat)(h:1≤W):f237 0 0 ((W:Int)-1)=some 0:=by
 unfold f237
 by_cases q:(W:Int)-1<0
 ·omega
 ·rw [if_neg q,if_neg (by omega)]
theorem aeM{W H:Nat}{t:ag}(v:VS W H t):f212 0 t=some ⟨{t.af with cP:=0,eK:=false},t.sent⟩:=by
 have hW:=v.hW
 unfold f212
 rw [v.gw,gu ((W:Int)-1) (by omega),aEq W hW.1,bs]
theorem aEr{W H:Nat}{t:ag}(v:VS W H t)(c r:Int)(hr:0<wd r)(hw:wd r≤W): ∃t',zI c t r (wd r)=some t':=by
 have hW:=v.hW
 unfold zI
 by_cases hl:t.af.eK=true
 ·obtain ⟨t1,e1,v1,_⟩:=LY (v.Fi (Int.le_refl 0) (show (0:Int)≤(W:Int)-1 by omega))
  rw [bT hl,aeM v,bs,c3 rfl,bs,c3 rfl,bs,c3 rfl,bs,e1,bs]
  exact ay2 v1 c t v.gw r hr hw
 ·rw [bV (by cases hq:t.af.eK;rfl;exact absurd hq hl)]
  exact ay2 v c t v.gw r hr hw
theorem Pc(a:Int)(b:UInt8): ∃z,f211 a b=some z:=by
 have h0: ∃z,vK a b=some z:=by
  unfold vK
  cases decide (a=3)
  ·exact ⟨_,rfl⟩
  ·by_cases q1:95≤(b.toNat:Int)
   ·by_cases q2:(b.toNat:Int)≤126
    ·have:(((b-(95:UInt8)).toNat:Nat):Int)=((b.toNat-95:Nat):Int):=by
      have:(95:UInt8).toNat=95:=rfl
      rw [UInt8.toNat_sub_of_le _ _ (UInt8.le_iff_toNat_le.2 (by omega)),this]
     rw [ct,bT (dt q1),bT (dt q2),this,iN _ 32 (by omega),bs]
     exact ⟨_,rfl⟩
    ·rw [ct,bT (dt q1),bV (df q2)];exact ⟨_,rfl⟩
   ·rw [ct,bV (df q1)];exact ⟨_,rfl⟩
 obtain ⟨z,e⟩:=h0
 unfold f211 f236
 rw [rH,bs,e]
 cases (!(decide (1≤a)&&decide (a≤4)))
 ·rw [cf]
  cases decide (a=2)
  ·cases decide (127<(b.toNat:Int))
   ·cases decide (a=4)
    ·exact ⟨_,rfl⟩
    ·cases decide ((b.toNat:Int)=35)
     ·exact ⟨_,rfl⟩
     ·exact ⟨_,rfl⟩
   ·exact ⟨_,rfl⟩
  ·exact ⟨_,rfl⟩
 ·exact ⟨_,rfl⟩
theorem arU{W H:Nat}{t:ag}(v:VS W H t)(c:Int): ∃t',f187 c t=some t':=by
 have h0: ∀r,∃t',s7 c t r=some t':=fun r=>by
  unfold s7
  rw [pH,bs]
  by_cases q1:wd r=0
  ·rw [bT (dt q1)];exact ⟨_,rfl⟩
  rw [bV (df q1),v.gw]
  by_cases q2:(W:Int)<wd r
  ·rw [bT (dt q2)];exact ⟨_,rfl⟩
  rw [bV (df q2)]
  have:=Bc r
  exact aEr v c r (by omega) (by omega)
 unfold f187 zM
 have hs:=v.sh
 by_cases q1:0≤c
 ·by_cases q2:c≤127
  ·rw [bT (dt q1),bT (dt q2)]
   obtain ⟨k,hk⟩:=Int.eq_ofNat_of_zero_le hs.1
   rw [hk,iN k 2 (by omega),bs]
   obtain ⟨z1,e1⟩:=Pc t.af.bp.1 (u8 c)
   obtain ⟨z2,e2⟩:=Pc t.af.bp.2 (u8 c)
   rw [e1,e2,bs,bs]
   cases decide (k=0)
   ·exact h0 _
   ·exact h0 _
  ·rw [bT (dt q1),bV (df q2)];exact h0 c
 ·rw [bV (df q1)];exact h0 c
theorem VB(m:Int)(b:Bool)(t:ag): ∃k,f223 m b t=some ⟨{t.af with eE:=k},t.sent⟩:=by
 unfold f223
 cases b
 ·exact ⟨_,rfl⟩
 ·exact ⟨_,rfl⟩
theorem arV{W H:Nat}{t:ag}(v:VS W H t): ∃r,f224 t=some r:=by
 obtain ⟨st,e⟩:=Vc W H v.hW v.hH
 unfold f224
 rw [v.gw,v.gh,e,bs]
 exact ⟨_,rfl⟩
theorem aBn(s:bu)(c:Int): ∃r,f220 s c true=some r:=by
 unfold f220
 by_cases q1:c<0
 ·rw [bT (dt q1)];exact ⟨_,rfl⟩
 rw [bV (df q1)]
 by_cases q2:255<c
 ·rw [bT (dt q2)];exact ⟨_,rfl⟩
 rw [bV (df q2)]
 obtain ⟨⟨m,hm⟩,h0⟩:=aev c (by omega) (by omega)
 unfold zP
 rw [hm,bs,gi (dt h0),bs,bs,ct,bs,bs,bs]
 exact ⟨_,rfl⟩
theorem aBo{W H:Nat}{t:ag}(v:VS W H t)(c:Int): ∃t',f189 c t=some t':=by
 have hW:=v.hW
 have ay3: ∀(m:Int) (b:Bool),∃t',((f223 m b t).bind fun qF=>((bU (decide (qF.af.bn.length=t.af.bn.length))).bind fun TR=>((bU (decide (qF.af.aT.Cells.length=t.af.aT.Cells.length))).bind fun z44=>((bU (decide (qF.af.aG.Cells.length=t.af.aG.Cells.length))).bind fun QK=>(some qF)))))=some t':=fun m b=>by
  obtain ⟨k,e⟩:=VB m b t
  rw [e,bs,c3 rfl,bs,c3 rfl,bs,c3 rfl,bs]
  exact ⟨_,rfl⟩
 have h0: ∀b,∃t',qq c t b=some t':=fun b=>by
  unfold qq
  cases b
  ·rw [cf]
   by_cases q:c=99
   ·obtain ⟨r,e⟩:=arV v
    rw [bT (dt q),e,bs];exact ⟨_,rfl⟩
   ·rw [bV (df q)];exact ⟨_,rfl⟩
  ·rw [ct]
   cases decide (c=61)
   ·exact ay3 32 false
   ·exact ay3 32 true
 unfold f189
 obtain ⟨ti,ei,vi,_⟩:=LY v
 obtain ⟨tz,ez,vz,_⟩:=LY (v.Fi (Int.le_refl 0) (show (0:Int)≤(W:Int)-1 by omega))
 by_cases q1:c=68
 ·rw [bT (dt q1),ei,bs];exact ⟨_,rfl⟩
 rw [bV (df q1)]
 by_cases q2:c=69
 ·rw [bT (dt q2),aeM v,bs,c3 rfl,bs,c3 rfl,bs,c3 rfl,bs,ez,bs];exact ⟨_,rfl⟩
 rw [bV (df q2)]
 by_cases q3:c=77
 ·obtain ⟨r,e⟩:=aBj v
  rw [bT (dt q3),e,bs];exact ⟨_,rfl⟩
 rw [bV (df q3)]
 by_cases q4:c=72
 ·obtain ⟨r,e⟩:=aBn t.af.eU t.af.cP
  rw [bT (dt q4),e,bs];exact ⟨_,rfl⟩
 rw [bV (df q4)]
 by_cases q5:c=55
 ·obtain ⟨b,e⟩:=Bg t [] 2
  rw [bT (dt q5)]
  unfold f221
  rw [e,bs,bs,c3 rfl,bs,c3 rfl,bs,c3 rfl,bs];exact ⟨_,rfl⟩
 rw [bV (df q5)]
 by_cases q6:c=56
 ·rw [bT (dt q6)]
  unfold f222
  obtain ⟨k,e⟩:=VB 2 t.af.aI.Origin (ag.mk ({t.af with Row:=(if (IntKind.i64.wrap (t.af.aG.bW-1))<t.af.aI.Row then (IntKind.i64.wrap (t.af.aG.bW-1)) else t.af.aI.Row),bP:=t.af.aI.bP,bp:=t.af.aI.bp,cC:=t.af.aI.cC}) t.sent)
  rw [e,bs,c3 rfl,bs,c3 rfl,bs,c3 rfl,bs]
  unfold f212
  obtain ⟨r,er⟩:=IV t.af.aI.cP 0 (IntKind.i64.wrap (t.af.aG.bR-1))
  dsimp only []
  rw [er,bs,bs,c3 rfl,bs,c3 rfl,bs,c3 rfl,bs,bs,c3 rfl,bs,c3 rfl,bs,c3 rfl,bs];exact ⟨_,rfl⟩
 rw [bV (df q6)]
 cases decide (c=61)
 ·cases decide (c=62)
  ·exact h0 false
  ·exact h0 true
 ·exact h0 true
theorem arW{W H:Nat}{t:ag}(v:VS W H t)(c n k:Int)(hn:0≤n∧n≤16383)(hc:c=80∨c=83∨c=81∨c=82∨c=126):(∃t',f228 c n k t=some (t',true))∨((c=81∨c=82∨c=126)∧f228 c n k t=some (t,false)):=by
 unfold f228 Ab
 rcases hc with rfl | rfl | hc
 ·left
  unfold EW f216
  obtain ⟨d,e,hd⟩:=VA v (IntKind.i64.wrap (0-n)) (bA.mk 0 0 t.af.bP.dm) (by rw [gu _ (by omega)];omega)
  rw [bV (by rfl),bT (by rfl),ct,bT (by rfl),bs]
  dsimp only []
  rw [e,bs,gi (dt hd),bs]
  exact ⟨_,rfl⟩
 ·left
  unfold Aa vU EX f216
  obtain ⟨d,e,hd⟩:=Gs v.hW v.hH t.af.aG.Cells v.gl t.af.ji t.af.cT n (bA.mk 0 0 t.af.bP.dm) v.ai.1 v.ai.2 (by omega)
  rw [bV (by rfl),bV (by rfl),cf,bV (by rfl),bV (by rfl),bV (by rfl),bV (by rfl),bV (by rfl),bT (by rfl),ct,bV (by rfl),bs,v.gw,v.gh]
  dsimp only []
  rw [e,bs,gi (dt hd),bs]
  exact ⟨_,rfl⟩
 ·right
  refine ⟨hc,?_⟩
  unfold Aa vU
  rcases hc with rfl | rfl | rfl<;>rfl
theorem arX(l:List Int)(hl: ∀x∈l,-1≤x∧x≤16383)(i:Int)(z:Int)(hz:0≤z∧z≤1): ∃r,f226 l i z=some r∧ -1≤r∧r≤16383:=by
 unfold f226
 by_cases q1:i<0
 ·rw [bT (dt q1)];exact ⟨_,rfl,by omega,by omega⟩
 rw [bV (df q1)]
 by_cases q2:(l.length:Int)≤i
 ·rw [bT (dt q2)];exact ⟨_,rfl,by omega,by omega⟩
 rw [bV (df q2)]
 obtain ⟨k,rfl⟩:=Int.eq_ofNat_of_zero_le (show 0≤i by omega)
 have hk:k<l.length:=by omega
 have e:idx l (k:Int)=some l[k]:=by unfold idx;rw [if_pos (by omega)];simp [hk]
 have hx:=hl _ (List.getElem_mem hk)
 rw [e,bs,bs]
 by_cases q3:l[k]= -1
 ·rw [bT (dt q3)];exact ⟨_,rfl,by omega,by omega⟩
 ·rw [bV (df q3)];exact ⟨_,rfl,by omega,by omega⟩
end Go.Proofs.YtimbfadnabfabaaGreatDoor.Pm

namespace Go.Proofs.YtimbfadnabfabaaGreatDoor.Pm
open Go.Proofs.YtimbfadnabfabaaGreatDoor.Args
open Go.ChangeShapes Go.WideShapes Go.ChangeAt Go.RowKit
open Go.Proofs.YtimbfadnabfabaaGreatDoor.Pr (kj)
set_option linter.unusedVariables false
set_option linter.unusedSimpArgs false
set_option maxRecDepth 100000
theorem arY(l:List Int)(hl: ∀x∈l,-1≤x∧x≤16383)(i:Int): ∃r,f225 l i=some r∧0≤r∧r≤16383:=by
 unfold f225
 obtain ⟨r,hr,h1,h2⟩:=arX l hl i 1 (by omega)
 rw [hr,bs]
 refine ⟨_,rfl,?_⟩
 split<;>omega
theorem aBp{W H:Nat}{t:ag}(v:VS W H t)(c:Int)(l:List Int)(hl: ∀x∈l,-1≤x∧x≤16383)(h:LB c∨c=90∨c=126): ∃t',f191 ⟨4,c,0,[],l,[]⟩ t=some t':=by
 unfold f191
 obtain ⟨n,hn,n1,n2⟩:=arY l hl 0
 obtain ⟨k,hk⟩:=Rx l 0 0
 dsimp only []
 rw [hn,bs,hk,bs,bT (dt rfl)]
 rcases Lz ⟨4,c,0,[],l,[]⟩ n t with ⟨_,t',e,k'⟩ | ⟨hne,e⟩
 ·rw [e,bs]
  dsimp only []
  rw [yf k'.kt]
  exact ⟨_,rfl⟩
 ·rw [e,bs]
  dsimp only []
  rw [c3 rfl,bs,c3 rfl,bs,c3 rfl,bs]
  have hc:c=80∨c=83∨c=81∨c=82∨c=126:=by
   unfold aeC at hne
   dsimp only [] at hne
   unfold LB at h
   omega
  rcases arW v c n k ⟨n1,n2⟩ hc with ⟨t',e⟩ | ⟨hc',e⟩
  ·rw [Bool.not_false,ct,e,bs]
   exact ⟨_,rfl⟩
  ·rw [Bool.not_false,ct,e,bs]
   dsimp only []
   rw [Bool.not_false,ct]
   unfold f229 EY
   rcases hc' with rfl | rfl | rfl<;>exact ⟨_,rfl⟩
theorem RI{W H:Nat}{t:ag}(v:VS W H t)(a:aM)(h:v_ a): ∃t',f146 a t=some t':=by
 unfold f146
 cases h with
 | drop=>exact ⟨_,rfl⟩
 | aeJ c h=>
  obtain ⟨t',e⟩:=aBk v c
  exact ⟨t',by dsimp only [];rw [bV (by rfl),bT (by rfl),e,bs]⟩
 | print c h=>
  obtain ⟨t',e⟩:=arU v c
  exact ⟨t',by dsimp only [];rw [bT (by rfl),e,bs]⟩
 | esc c h=>
  obtain ⟨t',e⟩:=aBo v c
  exact ⟨t',by dsimp only [];rw [bV (by rfl),bV (by rfl),bT (by rfl),bT (by rfl),e,bs]⟩
 | EC c l h hl=>
  obtain ⟨t',e⟩:=aBp v c l hl.2 h
  exact ⟨t',by dsimp only [];rw [bV (by rfl),bV (by rfl),bV (by rfl),bV (by rfl),bV (by rfl),bT (by rfl),bT (by rfl),e,bs]⟩
theorem axj{W H:Nat}{t:ag}(v:VS W H t): ∃t',f146 ⟨2,13,0,[],[],[]⟩ t=some t'∧VS W H t':=by
 obtain ⟨t',e,v'⟩:=aEo v
 refine ⟨t',?_,v'⟩
 unfold f146
 dsimp only []
 rw [bV (by rfl),bT (by rfl),e,bs]
theorem axk(t:ag):f146 ⟨3,79,0,[],[],[]⟩ t=some t:=by
 unfold f146 f189 qq
 rfl
theorem arZ(t:ag):f146 kj t=some t:=rfl
def DA:aM:=⟨0,0,0,[],[],[]⟩
theorem rJ(s:aA)(l:List aM)(hl:l.length≤2)(f:Nat→ag)(h: ∀i,i<l.length→f146 (l.getD i DA) (f i)=some (f (i+1))):b9 (nW s l) (f 0,0)=some (f l.length):=by
 refine j7 (body:=nW s l) (fun i=>(f i,(i:Int))) (f l.length) l.length ?_ 0 (by omega) ?_
 ·unfold nW ni
  dsimp only []
  rw [bV (df (by omega)),cf]
 ·intro i _ hi
  unfold nW ni uv
  dsimp only []
  rw [bT (dt (by omega)),ct,fO l i DA hi,bs,h i hi,bs,nX i (by omega)]
theorem axl(s:aA)(f:SF s)(l:List aM)(h:xV l): ∃t',b9 (nW s l) (⟨s,[]⟩,0)=some t':=by
 obtain ⟨W,H,v⟩:=aBi s f
 have two: ∀(a b:aM) (t1 t2:ag),f146 a ⟨s,[]⟩=some t1→f146 b t1=some t2→ ∃t',b9 (nW s [a,b]) (⟨s,[]⟩,0)=some t':=fun a b t1 t2 h1 h2=>
  ⟨t2,rJ s [a,b] (by simp) (fun i=>if i=0 then ⟨s,[]⟩ else if i=1 then t1 else t2) (fun i hi=>by
   have hi':i<2:=hi
   obtain rfl | rfl:i=0∨i=1:=by omega
   ·exact h1
   ·exact h2)⟩
 cases h with
 | none=>exact ⟨⟨s,[]⟩,rJ s [] (by simp) (fun _=>⟨s,[]⟩) (fun i hi=>absurd hi (by simp))⟩
 | one a h=>
  obtain ⟨t',e⟩:=RI v a h
  exact ⟨t',rJ s [a] (by simp) (fun i=>if i=0 then ⟨s,[]⟩ else t') (fun i hi=>by
   have hi':i<1:=hi
   obtain rfl:i=0:=by omega
   exact e)⟩
 | line=>
  obtain ⟨t1,e1,v1⟩:=axj v
  obtain ⟨t2,e2⟩:=RI v1 _ (v_.aeJ 10 (by omega))
  exact two _ _ t1 t2 e1 e2
 | Zr b hb=>
  obtain ⟨t2,e2⟩:=RI v _ (v_.print b (by unfold LB at hb;omega))
  exact two _ _ _ t2 (axk _) e2
 | Dd l hl h=>
  obtain ⟨t2,e2⟩:=RI v _ (v_.EC 90 l (by omega) ⟨hl,h⟩)
  exact two _ _ _ t2 (arZ _) e2
theorem LZ{l:List aM}(h:xV l):l.length≤2∧ ∀x∈l,x.Args.length≤32:=by
 have one: ∀a,v_ a→a.Args.length≤32:=fun a h=>by
  cases h with
  | EC c l h hl=>exact hl.1
  | _=>exact Nat.zero_le _
 cases h with
 | none=>exact ⟨by simp,fun x hx=>absurd hx (by simp)⟩
 | one a h=>exact ⟨by simp,fun x hx=>by rw [List.mem_singleton.1 hx];exact one a h⟩
 | line=>exact ⟨by simp,fun x hx=>by simp at hx;rcases hx with rfl | rfl<;>exact Nat.zero_le _⟩
 | Zr b hb=>exact ⟨by simp,fun x hx=>by simp at hx;rcases hx with rfl | rfl<;>exact Nat.zero_le _⟩
 | Dd l hl h=>exact ⟨by simp,fun x hx=>by simp at hx;rcases hx with rfl | rfl;exact Nat.zero_le _;exact hl⟩
theorem aBq(s:aA)(hz:SzS s)(l:List aM)(h:xV l): ∃s' o n,f108 s l=some (s',o,n):=by
 unfold f108
 rcases C6 s hz.p with e | ⟨e,f⟩
 ·rw [e,bs,df (by decide),Bool.not_false,ct,Fa s hz,bs]
  exact ⟨_,_,_,rfl⟩
 rw [e,bs,dt rfl,Bool.not_true,cf]
 unfold E0
 obtain ⟨n,hn⟩:=Hs l (by have:=(LZ h).1;omega) (fun x hx=>by have:=(LZ h).2 x hx;omega)
 rw [hn,bs]
 by_cases n0:n=0
 case neg=>
  rw [df n0,Bool.not_false,ct,Fa s hz,bs]
  exact ⟨_,_,_,rfl⟩
 rw [dt n0,Bool.not_true,cf]
 unfold EZ
 obtain ⟨t',ht⟩:=axl s f l h
 rw [Fa s hz,bs,ht,bs]
 exact ⟨_,_,_,rfl⟩
end Go.Proofs.YtimbfadnabfabaaGreatDoor.Pm

namespace Go.Proofs.YtimbfadnabfabaaGreatDoor.Pm
open Go.Proofs.YtimbfadnabfabaaGreatDoor.Args
open Go.ChangeShapes Go.WideShapes Go.ChangeAt Go.RowKit
open Go.Proofs.YtimbfadnabfabaaGreatDoor.Pm.Ut (dJ fD eA)
set_option linter.unusedVariables false
set_option linter.unusedSimpArgs false
set_option maxRecDepth 100000
theorem ar0(b c:UInt8)(new:List UInt8)(h:b≠c)(t:List UInt8)(k:Nat):Lib.replaceK [c] new k (b::t)=b::Lib.replaceK [c] new k t:=by
 cases k with
 | zero=>rfl
 | succ k=>
  have HL:=Lib.indexByte_ge t c
  have hi:Lib.index (b::t) [c]=if Lib.index t [c]= -1 then-1 else Lib.index t [c]+1:=by
   rw [Lib.index_one,Lib.index_one,Lib.indexByte,if_neg (by simpa using h)]
   by_cases hm:Lib.indexByte t c= -1
   ·rw [if_pos (by simpa using hm),if_pos hm]
   ·rw [if_neg (by simpa using hm),if_neg hm]
  unfold Lib.replaceK
  rw [hi]
  by_cases hm:Lib.index t [c]= -1
  ·rw [if_pos hm,if_pos (by rfl),if_pos (by rw [hm];rfl)]
  ·have hnn:0≤Lib.index t [c]:=by rw [Lib.index_one] at hm ⊢;omega
   rw [if_neg hm,if_neg (by simp;omega),if_neg (by simpa using hm)]
   obtain ⟨i,Jh⟩:=Int.eq_ofNat_of_zero_le hnn
   rw [Jh,show ((i:Int)+1).toNat=i+1 by omega,show (i:Int).toNat=i by omega]
   simp
theorem axm(c:UInt8)(new:List UInt8)(t:List UInt8)(k:Nat):Lib.replaceK [c] new (k+1) (c::t)=new++Lib.replaceK [c] new k t:=by
 have hi:Lib.index (c::t) [c]=0:=by rw [Lib.index_one,Lib.indexByte,if_pos (by simp)]
 rw [Lib.replaceK,hi,if_neg (by decide)]
 simp
def rb(c:UInt8)(nw:List UInt8)(b:UInt8):List UInt8:=if b=c then nw else [b]
theorem ar1(c:UInt8)(nw:List UInt8): ∀s:List UInt8,Lib.replaceK [c] nw (Lib.count s [c]) s=s.flatMap (rb c nw)
 | []=>by
  rw [Lib.count_one];rfl
 | b::t=>by
  have ih:=ar1 c nw t
  rw [List.flatMap_cons]
  by_cases h:b=c
  ·subst h
   rw [Lib.count_cons_eq,Nat.add_comm 1,axm,ih]
   unfold rb;rw [if_pos rfl]
  ·rw [Lib.count_cons_ne b c t h,ar0 b c _ h,ih]
   unfold rb;rw [if_neg h];rfl
theorem aBr(s:List UInt8)(h:s.length≤10000000):eT s [13] [13,10]=some (s.flatMap (rb 13 [13,10])):=by
 unfold eT
 have qR:Lib.countB ⟨s.toArray⟩ ⟨([13]:List UInt8).toArray⟩≤s.length+1:=Lib.count_le s [13]
 have hb:Lib.countB ⟨s.toArray⟩ ⟨([13]:List UInt8).toArray⟩*([13,10]:List UInt8).length≤(s.length+1)*2:=Nat.mul_le_mul_right 2 qR
 rw [if_pos ⟨by omega,by decide,by omega⟩]
 simp only [Option.some.injEq]
 unfold Lib.replaceAll Lib.replace
 rw [if_neg (by decide)]
 unfold Lib.replaceNum
 rw [if_pos (by left;decide)]
 exact ar1 13 [13,10] s
theorem axn(s:List UInt8)(h:s.length≤10000000):eT s [255] [255,255]=some (s.flatMap (rb 255 [255,255])):=by
 unfold eT
 have qR:Lib.countB ⟨s.toArray⟩ ⟨([255]:List UInt8).toArray⟩≤s.length+1:=Lib.count_le s [255]
 have hb:Lib.countB ⟨s.toArray⟩ ⟨([255]:List UInt8).toArray⟩*([255,255]:List UInt8).length≤(s.length+1)*2:=Nat.mul_le_mul_right 2 qR
 rw [if_pos ⟨by omega,by decide,by omega⟩]
 simp only [Option.some.injEq]
 unfold Lib.replaceAll Lib.replace
 rw [if_neg (by decide)]
 unfold Lib.replaceNum
 rw [if_pos (by left;decide)]
 exact ar1 255 [255,255] s
theorem aBs(k:UInt8)(hk:((List.range 256).all fun n=>(k ||| UInt8.ofNat n) !=13)=true)(x:UInt8):((k ||| x) !=13)=true:=by
 have:=List.all_eq_true.1 hk x.toNat (List.mem_range.2 (UInt8.toNat_lt x))
 rwa [UInt8.ofNat_toNat] at this
def Ib(l:List UInt8):Prop:=(l.all fun b=>b !=13)=true
theorem aEs{p q s:Bool}{A B C D:List UInt8}(a:Ib A)(b:Ib B)(c:Ib C)(d:Ib D):Ib (bif p then A else bif q then B else bif s then C else D):=by
 cases p<;>cases q<;>cases s<;>assumption
theorem lu{k x:UInt8}{l:List UInt8}(hk:((List.range 256).all fun n=>(k ||| UInt8.ofNat n) !=13)=true)(h:Ib l):Ib ((k ||| x)::l):=by
 unfold Ib at h ⊢
 rw [List.all_cons,aBs k hk x,h];rfl
theorem L1:Ib []:=rfl
theorem ar2(r:Nat)(h:dJ (r:Int))(h13:r≠13):Ib (fD (r:Int)):=by
 by_cases h1:r<128
 ·rw [Cv r h1]
  have ht:((List.range 128).all fun n=>decide (n=13) || [UInt8.ofNat n].all fun b=>b !=13)=true:=by kernel_rfl
  have:=List.all_eq_true.1 ht r (List.mem_range.2 h1)
  rw [decide_eq_false h13,Bool.false_or] at this
  exact this
 ·unfold dJ at h
  have hw:IntKind.u32.wrap (r:Int)=(r:Int):=IntWalk.u32_in _ (by omega)
  unfold fD
  rw [hw,decide_eq_false (show¬(r:Int)≤127 by omega),cond_false]
  exact aEs (lu (by kernel_rfl) (lu (by kernel_rfl) L1)) (lu (by kernel_rfl) (lu (by kernel_rfl) (lu (by kernel_rfl) L1))) (lu (by kernel_rfl) (lu (by kernel_rfl) (lu (by kernel_rfl) (lu (by kernel_rfl) L1)))) rfl
theorem ar3: ∀l:List UInt8,Ib l→l.flatMap (rb 13 [13,10])=l
 | [],_=>rfl
 | b::l,h=>by
  unfold Ib at h
  rw [List.all_cons,Bool.and_eq_true] at h
  have hb:b≠13:=by simpa using h.1
  rw [List.flatMap_cons,ar3 l h.2]
  unfold rb
  rw [if_neg hb];rfl
theorem Pd(a b:List Int):dU (a++b)=dU a++dU b:=by unfold dU;rw [List.flatMap_append]
theorem VC: ∀R:List Int,(∀c∈R,dJ c)→(dU R).flatMap (rb 13 [13,10])=dU (R.flatMap uE)
 | [],_=>rfl
 | c::R,h=>by
  have ih:=VC R fun x hx=>h x (List.mem_cons_of_mem _ hx)
  have hc:=h c (List.mem_cons_self ..)
  rw [List.flatMap_cons,Pd,←ih]
  have e:dU (c::R)=dU [c]++dU R:=Pd [c] R
  rw [e,List.flatMap_append]
  have e1:dU [c]=fD c:=by unfold dU;simp
  have e2:(dU [c]).flatMap (rb 13 [13,10])=dU (uE c):=by
   by_cases q:c=13
   ·subst q;kernel_rfl
   ·obtain ⟨r,rfl⟩: ∃r:Nat,c=r:=⟨c.toNat,by unfold dJ at hc;omega⟩
    rw [e1,ar3 _ (ar2 r hc (by omega))]
    unfold uE
    rw [if_neg q,e1]
  rw [e2]
theorem RJ{R:List Int}(h:Bv R):R.length≤103∧R≠ []:=by
 cases h with
 | EC A c hA hl hc=>exact ⟨by simp [Pr.kD];omega,by simp⟩
 | _=>exact ⟨by simp,by simp⟩
theorem Bh: ∀R:List Int,(dU R).length≤4*R.length
 | []=>Nat.zero_le _
 | c::R=>by
  have ih:=Bh R
  have e:dU (c::R)=fD c++dU R:=by unfold dU;rw [List.flatMap_cons]
  have:=Ut.nj c
  rw [e,List.length_append,List.length_cons];omega
theorem ar4{R:List Int}(h: ∀c∈R,dJ c): ∀c∈R.flatMap uE,dJ c:=fun c hc=>by
 obtain ⟨x,hx,hc⟩:=List.mem_flatMap.1 hc
 unfold uE at hc
 split at hc
 ·simp at hc;rcases hc with rfl | rfl<;>exact .inl (by omega)
 ·rw [List.mem_singleton.1 hc];exact h x hx
theorem aeN: ∀R:List Int,(R.flatMap uE).length≤2*R.length
 | []=>Nat.zero_le _
 | c::R=>by
  have ih:=aeN R
  have:(uE c).length≤2:=by unfold uE;split<;>simp
  rw [List.flatMap_cons,List.length_append,List.length_cons];omega
theorem Zv(w:bf)(hz:SzS w.Client.af){R:List Int}(h:Bv R): ∃w',f77 (dU R) w=some w'∧w'.sent=w.sent:=by
 have hr:=arQ h
 have hl:=(RJ h).1
 have hel:=Bh R
 have qR:=aeN R
 have aGV:=Bh (R.flatMap uE)
 unfold f77
 rw [aBr _ (by omega),bs,VC R hr,Ut.Ff [] _ (by simp;omega) (.inl rfl),bs,List.nil_append,LW _ (ar4 hr)]
 unfold IL f114 E1
 dsimp only []
 rw [show f107 (aS.mk 0 0 [] [] []) (R.flatMap uE)=_ from Pr.Ff (Pr.cJ 0) (R.flatMap uE) (by omega) (Pr.n7 0 (by omega) (by omega) (by omega)),bs]
 dsimp only []
 obtain ⟨s',o,n,e⟩:=aBq w.Client.af hz _ (arR h)
 rw [e,bs,bs]
 exact ⟨_,rfl,rfl⟩
end Go.Proofs.YtimbfadnabfabaaGreatDoor.Pm

namespace Go.Proofs.YtimbfadnabfabaaGreatDoor.Pm
open Go.Proofs.YtimbfadnabfabaaGreatDoor.Args
open Go.ChangeShapes Go.WideShapes Go.ChangeAt Go.RowKit
open Go.Proofs.YtimbfadnabfabaaGreatDoor.Pm.Ut (dJ fD eA)
set_option linter.unusedVariables false
set_option linter.unusedSimpArgs false
set_option maxRecDepth 100000
theorem ar5(s:List UInt8)(b:Bool)(h:s.length≤100000): ∃o,f11 s b=some o∧o.length≤2*s.length∧(s≠ []→o≠ []):=by
 unfold f11
 cases b with
 | true=>rw [ct];exact ⟨s,rfl,by omega,id⟩
 | false=>
  rw [cf]
  unfold II
  obtain ⟨r,hr,hp⟩:=h_ (body:=Ex s false) (fun k x=> ∃i:Nat,x.2=(i:Int)∧i≤s.length∧k=s.length-i∧x.1.length≤2*i∧(0<i→x.1≠ [])) (fun r=>r.length≤2*s.length∧(s≠ []→r≠ [])) (by
   rintro k ⟨out,_⟩ ⟨i,rfl,hi,rfl,ho,hn⟩
   dsimp only [] at ho hn
   unfold Ex
   dsimp only []
   by_cases hlt:i<s.length
   ·left
    rw [bT (dt (by omega))]
    unfold pn xu
    rw [ct,fO s i 0 hlt,bs,nX i (by omega)]
    by_cases q:((s.getD i 0).toNat:Int)=10
    ·rw [bT (dt q),fy 1 _ _ (by simp;omega),bs]
     exact ⟨_,s.length-(i+1),rfl,by omega,i+1,rfl,by omega,rfl,by simp;omega,fun _=>by simp⟩
    rw [bV (df q)]
    by_cases q2:((s.getD i 0).toNat:Int)=13
    ·rw [bT (dt q2),fy 1 _ _ (by simp;omega),bs]
     exact ⟨_,s.length-(i+1),rfl,by omega,i+1,rfl,by omega,rfl,by simp;omega,fun _=>by simp⟩
    rw [bV (df q2),bs,fy 1 _ _ (by simp;omega),bs]
    exact ⟨_,s.length-(i+1),rfl,by omega,i+1,rfl,by omega,rfl,by simp;omega,fun _=>by simp⟩
   ·right
    have e:i=s.length:=by omega
    subst e
    rw [bV (df (by omega))]
    unfold pn
    rw [cf]
    exact ⟨_,rfl,ho,fun h0=>hn (List.length_pos_iff.2 h0)⟩) (n:=s.length) (x:=([],0)) ⟨0,rfl,by omega,by omega,by simp,fun h0=>absurd h0 (by omega)⟩
  rw [hr,bs]
  exact ⟨r,rfl,hp⟩
theorem aBt(y:List UInt8)(h:y≠ []):y.flatMap (rb 255 [255,255])≠ []:=by
 cases y with
 | nil=>exact absurd rfl h
 | cons b y=>
  rw [List.flatMap_cons]
  unfold rb
  split<;>simp
theorem aeO: ∀y:List UInt8,(y.flatMap (rb 255 [255,255])).length≤2*y.length
 | []=>Nat.zero_le _
 | b::y=>by
  have ih:=aeO y
  have:(rb 255 [255,255] b).length≤2:=by unfold rb;split<;>simp
  rw [List.flatMap_cons,List.length_append,List.length_cons];omega
theorem RB(y:List UInt8)(h:y.length≤10000000):f10 y=some (y.flatMap (rb 255 [255,255])):=by
 unfold f10
 rw [axn y h,bs]
theorem axo(w:bf):f46 w [] 0=some (decide (((w.Client.Neg.Us 0).toNat:Int)=1)):=by
 unfold f46
 rw [show jO (0:Int) 256=some 0 from by kernel_rfl,bs]
 cases decide (((w.Client.Neg.Us 0).toNat:Int)=1)<;>rfl
theorem ar6(w:bf):f76 w [] 1=some (decide (((w.Client.Neg.fX 1).toNat:Int)=1)):=by
 unfold f76
 rw [show jO (1:Int) 256=some 1 from by kernel_rfl,bs]
 cases decide (((w.Client.Neg.fX 1).toNat:Int)=1)<;>rfl
theorem axp(w:bf)(x:List UInt8)(hx:x.length≤100000)(hw:w.sent= []): ∃y o,f11 x (decide (((w.Client.Neg.Us 0).toNat:Int)=1))=some y∧f10 y=some o∧(x≠ []→o≠ [])∧f44 x w=some ⟨w.Client,o⟩:=by
 obtain ⟨y,hy,hl,hn⟩:=ar5 x (decide (((w.Client.Neg.Us 0).toNat:Int)=1)) hx
 have he:=RB y (by omega)
 have hel:=aeO y
 refine ⟨y,_,hy,he,fun h=>aBt y (hn h),?_⟩
 unfold f44
 rw [axo,bs,hy,bs,he,bs,hw,jS _ _ (by rw [List.length_nil];omega),bs,List.nil_append]
theorem ar7(w:bf)(hz:SzS w.Client.af)(hw:w.sent= [])(hE:w.Client.kL=false){R:List Int}(h:Bv R): ∃y o w',f11 (dU R) (decide (((w.Client.Neg.Us 0).toNat:Int)=1))=some y∧f10 y=some o∧(dU R≠ []→o≠ [])∧f42 (dU R) 0 w=some (w',0)∧w'.sent=o∧((w.Client.Neg.fX 1).toNat=1→w'.Client=w.Client):=by
 have hl:=(RJ h).1
 have hel:=Bh R
 obtain ⟨y,o,hy,ho,hn,e⟩:=axp w (dU R) (by omega) hw
 unfold f42 IM E2
 rw [dt rfl,Bool.not_true,cf,hE,cf,e,bs,ar6,bs]
 by_cases q:((w.Client.Neg.fX 1).toNat:Int)=1
 ·rw [dt q,Bool.not_true,cf]
  exact ⟨y,o,_,hy,ho,hn,rfl,rfl,fun _=>rfl⟩
 ·rw [df q,Bool.not_false,ct]
  obtain ⟨w',e',hs⟩:=Zv ⟨w.Client,o⟩ hz h
  rw [e',bs]
  exact ⟨y,o,w',hy,ho,hn,rfl,hs,fun h1=>absurd (by omega) q⟩
end Go.Proofs.YtimbfadnabfabaaGreatDoor.Pm

namespace Go.Proofs.YtimbfadnabfabaaGreatDoor.Pm
open Go.Proofs.YtimbfadnabfabaaGreatDoor.Args
open Go.ChangeShapes Go.WideShapes Go.ChangeAt Go.RowKit
open Go.Proofs.YtimbfadnabfabaaGreatDoor.Pm.Ut (dJ fD eA)
set_option linter.unusedVariables false
set_option linter.unusedSimpArgs false
set_option maxRecDepth 100000
structure SzC (c:bh):Prop where
 s:SzS c.af
 n:c.bN.Names.length≤1048576
 v:c.Vars.length≤1048576
theorem axq(l:List (List UInt8))(h:l.length≤1048576):f39 l=some l:=by
 unfold f39
 rw [fy _ _ _ (by simp;omega),bs];rfl
theorem axr(l:List dA)(h:l.length≤1048576):f40 l=some l:=by
 unfold f40
 rw [fy _ _ _ (by simp;omega),bs];rfl
theorem De(c:bh)(h:SzC c):f14 c=some c:=by
 unfold f14
 rw [Fa _ h.s,bs,axq _ h.n,bs,axr _ h.v,bs]
theorem ar9{R:List Int}(h:R≠ []):dU R≠ []:=by
 cases R with
 | nil=>exact absurd rfl h
 | cons c R=>
  intro e
  have e1:dU (c::R)=fD c++dU R:=by unfold dU;rw [List.flatMap_cons]
  rw [e1] at e
  have e2:=(List.append_eq_nil_iff.1 e).1
  revert e2
  unfold fD
  cases decide (IntKind.u32.wrap c≤127)<;>cases decide (IntKind.u32.wrap c≤2047)<;>cases (bif decide (IntKind.u32.wrap c<55296) then true else (decide (57343<IntKind.u32.wrap c)&&decide (IntKind.u32.wrap c≤65535)))<;>cases (decide (65535<IntKind.u32.wrap c)&&decide (IntKind.u32.wrap c≤1114111))<;>simp
theorem aeP(c:bh)(x:iC)(hs:SzC c)(n:Int)(hc:f7 c=some n)(hn:n≠0):f5 c x=some (c,[],n):=by
 unfold f5
 rw [hc,bs,df hn,Bool.not_false,ct,De c hs,bs]
theorem Pe(c:bh)(x:iC)(hs:SzC c)(hc:f7 c=some 0)(hx:x.Kind=2)(hk:f8 x.Key c.af.eE=some ([],1)):f5 c x=some (c,[],1):=by
 unfold f5
 rw [hc,bs,dt rfl,Bool.not_true,cf]
 unfold Lt
 rw [De c hs,bs]
 unfold f15
 rw [bV (df (by omega)),bT (dt hx)]
 dsimp only []
 rw [hk,bs]
 unfold f42
 rw [df (by decide),Bool.not_false,ct,bs,bs]
 dsimp only []
 rw [df (show¬(1:Int)=0 by decide),Bool.not_false,ct,bs]
theorem aeQ(c:bh)(x:iC)(hs:SzC c)(hE:c.kL=false)(hc:f7 c=some 0)(hx:x.Kind=2){R:List Int}(h:Bv R)(hk:f8 x.Key c.af.eE=some (dU R,0)): ∃y o c',f11 (dU R) (decide (((c.Neg.Us 0).toNat:Int)=1))=some y∧f10 y=some o∧o≠ []∧f5 c x=some (c',o,0)∧((c.Neg.fX 1).toNat=1→c'=c):=by
 obtain ⟨y,o,w',hy,ho,hn,e,hso,hh⟩:=ar7 ⟨c,[]⟩ hs.s rfl hE h
 refine ⟨y,o,w'.Client,hy,ho,hn (ar9 (RJ h).2),?_,hh⟩
 unfold f5
 rw [hc,bs,dt rfl,Bool.not_true,cf]
 unfold Lt
 rw [De c hs,bs]
 unfold f15
 rw [bV (df (by omega)),bT (dt hx)]
 dsimp only []
 rw [hk,bs]
 dsimp only []
 rw [e,bs,bs]
 dsimp only []
 rw [dt rfl,Bool.not_true,cf]
 unfold Ro
 rw [hso]
end Go.Proofs.YtimbfadnabfabaaGreatDoor.Pm

namespace Go.Proofs.YtimbfadnabfabaaGreatDoor.Pm
open Go.Proofs.YtimbfadnabfabaaGreatDoor.Args
open Go.ChangeShapes Go.WideShapes Go.ChangeAt Go.RowKit
set_option linter.unusedVariables false
set_option linter.unusedSimpArgs false
set_option maxRecDepth 100000
theorem Bi{ρ:Type}{body:Int→Option (Int⊕ρ)}(n:Nat)(h0: ∃r,body (n:Int)=some (.inr r))(h1: ∀i:Nat,i<n→body (i:Int)=some (.inl ((i+1:Nat):Int))∨ ∃r,body (i:Int)=some (.inr r)): ∃r,b9 body 0=some r:=by
 obtain ⟨r,hr,_⟩:=h_ (body:=body) (fun k x=> ∃i:Nat,x=(i:Int)∧i≤n∧k=n-i) (fun _=>True) (by
  rintro k x ⟨i,rfl,hi,rfl⟩
  by_cases hlt:i<n
  ·rcases h1 i hlt with e | ⟨r,e⟩
   ·exact .inl ⟨_,n-(i+1),e,by omega,i+1,rfl,by omega,rfl⟩
   ·exact .inr ⟨r,e,trivial⟩
  ·have:i=n:=by omega
   subst this
   obtain ⟨r,e⟩:=h0
   exact .inr ⟨r,e,trivial⟩) (n:=n) (x:=0) ⟨0,rfl,by omega,by omega⟩
 exact ⟨r,hr⟩
theorem aix(w:kf): ∃n,f19 w=some n:=by
 have h2: ∀p q,∃n,nJ w p q=some n:=fun p q=>by
  unfold nJ
  simp only [Bool.cond_eq_ite]
  repeat' split
  all_goals exact ⟨_,rfl⟩
 have h1: ∀p q,∃n,wL w p q=some n:=fun p q=>by
  unfold wL
  simp only [Bool.cond_eq_ite]
  repeat' split
  all_goals exact h2 _ _
 have h0: ∀p,∃n,wM w p=some n:=fun p=>by
  unfold wM
  simp only [Bool.cond_eq_ite]
  repeat' split
  all_goals exact h1 _ _
 unfold f19
 simp only [Bool.cond_eq_ite]
 repeat' split
 all_goals exact h0 _
theorem aiy(e:su): ∃n,f26 e=some n:=by
 unfold f26
 simp only [Bool.cond_eq_ite]
 split<;>exact ⟨_,rfl⟩
theorem aiz(k:ic): ∃n,f25 k=some n:=by
 unfold f25
 obtain ⟨r,hr⟩:=Bi (body:=AZ k) 19 (by
  unfold AZ o9
  rw [bV (df (by omega)),cf]
  exact ⟨_,rfl⟩) (fun i hi=>by
  unfold AZ o9 xl
  rw [bT (dt (by omega)),ct,iN i 19 hi,bs,nX i (by omega)]
  simp only [Bool.cond_eq_ite]
  split
  ·exact .inr ⟨_,rfl⟩
  ·exact .inl rfl)
 rw [hr,bs]
 cases r with
 | inl u=>
  rw [Sum.elim_inl]
  unfold IE
  simp only [Bool.cond_eq_ite]
  repeat' split
  all_goals exact ⟨_,rfl⟩
 | inr u=>exact ⟨_,rfl⟩
theorem aiA(a:eL): ∃n,f23 a=some n:=by
 rcases E8 a with ⟨_,e⟩ | ⟨_,e⟩
 ·exact ⟨_,e⟩
 ·exact ⟨_,e⟩
theorem aiB(s:aA)(h:s.bn.length≤1048576): ∃n,f22 s=some n:=by
 rcases C6 s h with e | ⟨e,_⟩
 ·exact ⟨_,e⟩
 ·exact ⟨_,e⟩
theorem aiC(s:List UInt8)(h:s.length≤10000000): ∃n,f20 s=some n:=by
 by_cases q:Ut.Cx s
 ·exact ⟨_,Ut.jb s h q⟩
 ·exact ⟨_,Ut.Zq s h q⟩
theorem aiD(p:aS)(h:p.Inter.length≤10000000)(hA:p.Args.length≤10000000): ∃n,f21 p=some n:=⟨_,Pr.jb p h hA⟩
theorem aiE(s:List UInt8)(h:s.length≤1048576): ∃b,f63 s=some b:=by
 unfold f63
 obtain ⟨r,hr⟩:=Bi (body:=AR s) s.length (by
  unfold AR o6
  rw [bV (df (by omega)),cf]
  exact ⟨_,rfl⟩) (fun i hi=>by
  unfold AR o6 xh
  rw [bT (dt (by omega)),ct,fO s i 0 hi,bs,bs,nX i (by omega)]
  simp only [Bool.cond_eq_ite]
  repeat' split
  ·exact .inr ⟨_,rfl⟩
  ·exact .inr ⟨_,rfl⟩
  ·exact .inl rfl)
 rw [hr,bs]
 cases r with
 | inl u=>
  rw [Sum.elim_inl]
  unfold IC
  simp only [Bool.cond_eq_ite]
  repeat' split
  all_goals exact ⟨_,rfl⟩
 | inr u=>exact ⟨_,rfl⟩
theorem ar_(l:List (List UInt8))(x:List UInt8)(h:l.length≤1048576): ∃b,f64 l x=some b:=by
 unfold f64 f93
 obtain ⟨r,hr⟩:=Bi (body:=AV l x) l.length (by
  unfold AV o7
  rw [bV (df (by omega)),cf]
  exact ⟨_,rfl⟩) (fun i hi=>by
  unfold AV o7 xj
  rw [bT (dt (by omega)),ct,fO l i [] hi,bs,nX i (by omega)]
  simp only [Bool.cond_eq_ite]
  split
  ·exact .inr ⟨_,rfl⟩
  ·exact .inl rfl)
 rw [hr,bs]
 cases r with
 | inl u=>rw [Sum.elim_inl,bs];simp only [Bool.cond_eq_ite];split<;>exact ⟨_,rfl⟩
 | inr u=>rw [Sum.elim_inr,bs];simp only [Bool.cond_eq_ite];split<;>exact ⟨_,rfl⟩
theorem asa{α:Type}(l:List α)(i:Nat)(h:i≤l.length):qL l 0 (i:Int)=some (l.take i):=by
 unfold qL
 rw [if_pos ⟨by omega,by omega,by omega⟩]
 rfl
theorem aiF(a:cA)(h:a.Names.length≤1048576)(hn: ∀x∈a.Names,x.length≤1048576): ∃n,f24 a=some n:=by
 unfold f24
 obtain ⟨r,hr⟩:=Bi (body:=AX a) a.Names.length (by
  unfold AX o8
  rw [bV (df (by omega)),cf]
  exact ⟨_,rfl⟩) (fun i hi=>by
  unfold AX o8 xk
  have e:a.Names.getD i []=a.Names[i]:=by simp [hi]
  obtain ⟨b,hb⟩:=aiE (a.Names.getD i []) (by rw [e];exact hn _ (List.getElem_mem hi))
  obtain ⟨d,hd⟩:=ar_ (a.Names.take i) (a.Names.getD i []) (by rw [List.length_take];omega)
  rw [bT (dt (by omega)),ct,fO a.Names i [] hi,bs,hb,bs,nX i (by omega),asa a.Names i (by omega)]
  cases b with
  | false=>exact .inr ⟨_,rfl⟩
  | true=>
   rw [Bool.not_true,cf,bs,hd,bs]
   cases d with
   | true=>exact .inr ⟨_,rfl⟩
   | false=>exact .inl rfl)
 have hj: ∃n,Em a=some n:=by
  unfold Em
  rw [hr,bs]
  cases r with
  | inl u=>
   rw [Sum.elim_inl]
   unfold ID
   simp only [Bool.cond_eq_ite]
   repeat' split
   all_goals exact ⟨_,rfl⟩
  | inr u=>exact ⟨_,rfl⟩
 simp only [Bool.cond_eq_ite]
 repeat' split
 ·exact ⟨_,rfl⟩
 ·exact ⟨_,rfl⟩
 ·exact hj
end Go.Proofs.YtimbfadnabfabaaGreatDoor.Pm

namespace Go.Proofs.YtimbfadnabfabaaGreatDoor.Pm
open Go.Proofs.YtimbfadnabfabaaGreatDoor.Args
open Go.ChangeShapes Go.WideShapes Go.ChangeAt Go.RowKit
set_option linter.unusedVariables false
set_option linter.unusedSimpArgs false
set_option maxRecDepth 100000
def V0:dA:=⟨[],[],false,false⟩
theorem asb(l:List dA)(h:l.length≤1048576):f50 l=some true∨(f50 l=some false∧ ∀i,i<l.length→(l.getD i V0).Name.length≤200∧(l.getD i V0).Value.length≤200):=by
 unfold f50 f84
 have hv: ∀v:dA,f51 v=some (decide (200<v.Name.length) || decide (200<v.Value.length)):=fun v=>by
  unfold f51
  by_cases q1:200<v.Name.length
  ·rw [bT (dt (by omega)),dt q1];rfl
  ·rw [bV (df (by omega)),df q1,Bool.false_or]
   by_cases q2:200<v.Value.length
   ·rw [bT (dt (by omega)),dt q2]
   ·rw [bV (df (by omega)),df q2]
 obtain ⟨r,hr,hp⟩:=arw (body:=Az l) h (fun i=>decide (200<(l.getD i V0).Name.length) || decide (200<(l.getD i V0).Value.length)) (by
  unfold Az oJ
  rw [bV (df (by omega)),cf]) (fun i hi=>by
  unfold Az oJ wN
  rw [bT (dt (by omega)),ct,fO l i V0 hi,bs,hv,bs,nX i (by omega)]
  cases (decide (200<(l.getD i V0).Name.length) || decide (200<(l.getD i V0).Value.length)) with
  | true=>rw [ct,if_pos rfl]
  | false=>rw [cf,if_neg (by decide)])
 rw [hr,bs]
 rcases hp with ⟨rfl,hq⟩ | ⟨i,rfl⟩
 ·right
  refine ⟨rfl,fun i hi=>?_⟩
  have:=hq i hi
  rw [Bool.or_eq_false_iff,decide_eq_false_iff_not,decide_eq_false_iff_not] at this
  omega
 ·left
  rw [Sum.elim_inr,bs,bT (dt (by omega))]
theorem Pf(n out:List UInt8)(hn:n.length≤1000)(ho:out.length≤1000000): ∃r,f52 n out=some r∧r.length≤out.length+2*n.length:=by
 unfold f52
 obtain ⟨r,hr,hp⟩:=h_ (body:=DV n out) (fun k x=> ∃i:Nat,x.2=(i:Int)∧i≤n.length∧k=n.length-i∧x.1.length≤out.length+2*i) (fun r=>r.length≤out.length+2*n.length) (by
  rintro k ⟨o,_⟩ ⟨i,rfl,hi,rfl,hl⟩
  dsimp only [] at hl
  unfold DV
  dsimp only []
  by_cases hlt:i<n.length
  ·left
   have j3: ∀p:List UInt8,p.length≤o.length+1→oK n out p (i:Int) (i:Int)=some (.inl (p++ [n.getD i 0],((i+1:Nat):Int))):=fun p hp=>by
    unfold oK
    rw [fO n i 0 hlt,bs,fy 1 _ _ (by simp;omega),bs,nX i (by omega)]
   rw [bT (dt (by omega))]
   unfold oM wO
   rw [ct,fO n i 0 hlt,bs]
   by_cases q:((n.getD i 0).toNat:Int)≤3
   ·rw [bT (dt q),fy 1 _ _ (by simp;omega),bs,j3 _ (by simp)]
    exact ⟨_,n.length-(i+1),rfl,by omega,i+1,rfl,by omega,rfl,by simp;omega⟩
   ·rw [bV (df q),j3 _ (by omega)]
    exact ⟨_,n.length-(i+1),rfl,by omega,i+1,rfl,by omega,rfl,by simp;omega⟩
  ·right
   have e:i=n.length:=by omega
   subst e
   rw [bV (df (by omega))]
   unfold oM
   rw [cf]
   exact ⟨_,rfl,hl⟩) (n:=n.length) (x:=(out,0)) ⟨0,rfl,by omega,by omega,by simp⟩
 rw [hr,bs]
 exact ⟨r,rfl,hp⟩
theorem asc(l:List dA): ∃r,f18 l=some r:=by
 unfold f18
 by_cases q:20<l.length
 ·rw [bT (dt (by omega))];exact ⟨_,rfl⟩
 rw [bV (df (by omega))]
 rcases asb l (by omega) with e | ⟨e,hb⟩
 ·rw [e,bs,ct];exact ⟨_,rfl⟩
 rw [e,bs,cf]
 unfold Io
 obtain ⟨r,hr,_⟩:=h_ (body:=DY l) (fun k x=> ∃i:Nat,x.2=(i:Int)∧i≤l.length∧k=l.length-i∧x.1.length≤802*i) (fun _=>True) (by
  rintro k ⟨o,_⟩ ⟨i,rfl,hi,rfl,hl⟩
  dsimp only [] at hl
  unfold DY
  dsimp only []
  by_cases hlt:i<l.length
  ·obtain ⟨b1,b2⟩:=hb i hlt
   have j5: ∀c:UInt8,∃y m,oO l o (l.getD i V0) c (i:Int)=some (.inl y)∧m<l.length-i∧ ∃j:Nat,y.2=(j:Int)∧j≤l.length∧m=l.length-j∧y.1.length≤802*j:=fun c=>by
    unfold oO
    obtain ⟨r1,e1,l1⟩:=Pf (l.getD i V0).Name (o++ [c]) (by omega) (by simp;omega)
    rw [List.length_append,List.length_singleton] at l1
    rw [fy 1 _ _ (by simp;omega),bs,e1,bs,nX i (by omega)]
    cases (l.getD i V0).Set with
    | false=>
     rw [cf]
     exact ⟨_,l.length-(i+1),rfl,by omega,i+1,rfl,by omega,rfl,by dsimp only [];omega⟩
    | true=>
     obtain ⟨r2,e2,l2⟩:=Pf (l.getD i V0).Value (r1++ [1]) (by omega) (by simp;omega)
     rw [List.length_append,List.length_singleton] at l2
     rw [ct,fy 1 _ _ (by simp;omega),bs,e2,bs]
     exact ⟨_,l.length-(i+1),rfl,by omega,i+1,rfl,by omega,rfl,by dsimp only [];omega⟩
   have j4: ∃y m,oP l o (l.getD i V0) (i:Int)=some (.inl y)∧m<l.length-i∧ ∃j:Nat,y.2=(j:Int)∧j≤l.length∧m=l.length-j∧y.1.length≤802*j:=by
    unfold oP
    cases (l.getD i V0).aaf
    ·exact j5 0
    ·exact j5 3
   rw [bT (dt (by omega))]
   unfold oQ wP
   rw [ct,fO l i V0 hlt,bs]
   cases (l.getD i V0).Set with
   | true=>rw [Bool.not_true,cf];exact .inl j4
   | false=>
    rw [Bool.not_false,ct]
    by_cases q3:(l.getD i V0).Value= []
    ·rw [dt q3,Bool.not_true,cf];exact .inl j4
    ·rw [df q3,Bool.not_false,ct];exact .inr ⟨_,rfl,trivial⟩
  ·right
   rw [bV (df (by omega))]
   unfold oQ
   rw [cf]
   exact ⟨_,rfl,trivial⟩) (n:=l.length) (x:=([],0)) ⟨0,rfl,by omega,by omega,by simp⟩
 rw [hr,bs]
 cases r<;>exact ⟨_,rfl⟩
structure Zw (c:bh):Prop where
 z:SzC c
 n: ∀x∈c.bN.Names,x.length≤1048576
 p:c.Part.length≤10000000
 i:c.dG.Inter.length≤10000000
 a:c.dG.Args.length≤10000000
theorem aiG(c:bh)(h:Zw c): ∃n,f7 c=some n∧(n=0∨n=4):=by
 unfold f7
 obtain ⟨z1,e1⟩:=asc c.Vars
 obtain ⟨z2,e2⟩:=aix c.gF
 obtain ⟨z3,e3⟩:=aiC c.Part h.p
 obtain ⟨z4,e4⟩:=aiD c.dG h.i h.a
 obtain ⟨z5,e5⟩:=aiB c.af h.z.s.p
 obtain ⟨z6,e6⟩:=aiA c.Neg
 obtain ⟨z7,e7⟩:=aiF c.bN h.z.n h.n
 obtain ⟨z8,e8⟩:=aiz c.Keys
 obtain ⟨z9,e9⟩:=aiy c.gB
 rw [e1,bs,e2,bs,e3,bs,e4,bs,e5,bs,e6,bs,e7,bs,e8,bs,e9,bs]
 obtain ⟨r,hr,hp⟩:=h_ (body:=KF c) (fun k x=> ∃i:Nat,x.2=(i:Int)∧i≤9∧k=9-i) (fun r=>r= .inl ()∨r= .inr 4) (by
  rintro k ⟨f,_⟩ ⟨i,rfl,hi,rfl⟩
  unfold KF
  dsimp only []
  by_cases hlt:i<9
  ·rw [bT (dt (by omega))]
   unfold rF A1
   rw [ct,iN i 9 hlt,bs,nX i (by omega)]
   by_cases q:f i=0
   ·rw [dt q,Bool.not_true,cf]
    exact .inl ⟨_,9-(i+1),rfl,by omega,i+1,rfl,by omega,rfl⟩
   ·rw [df q,Bool.not_false,ct]
    exact .inr ⟨_,rfl,.inr rfl⟩
  ·right
   rw [bV (df (by omega))]
   unfold rF
   rw [cf]
   exact ⟨_,rfl,.inl rfl⟩) (n:=9) (x:=((fun i=>([z2,z3,z4,z5,z6,z7,z1.2,z8,z9]:List Int).getD i 0),0)) ⟨0,rfl,by omega,by omega⟩
 rw [hr,bs]
 rcases hp with rfl | rfl
 ·exact ⟨0,rfl,.inl rfl⟩
 ·exact ⟨4,rfl,.inr rfl⟩
end Go.Proofs.YtimbfadnabfabaaGreatDoor.Pm

namespace Go.Proofs.YtimbfadnabfabaaGreatDoor.Pm
open Go.Proofs.YtimbfadnabfabaaGreatDoor.Args
open Go.ChangeShapes Go.WideShapes Go.ChangeAt Go.RowKit
set_option linter.unusedVariables false
set_option linter.unusedSimpArgs false
set_option maxRecDepth 100000
end Go.Proofs.YtimbfadnabfabaaGreatDoor.Pm

namespace Go.Proofs.YtimbfadnabfabaaGreatDoor.Pm
open Go.Proofs.YtimbfadnabfabaaGreatDoor.Args
open Go.ChangeShapes Go.WideShapes Go.ChangeAt Go.RowKit
set_option linter.unusedVariables false
set_option linter.unusedSimpArgs false
set_option maxRecDepth 100000
def nk(c:bh)(v:UInt8):bh:={c with Neg:={c.Neg with fX:=upd c.Neg.fX 1 v}}
theorem VD(a:eL)(u v:UInt8)(hu:u.toNat≤5)(hv:v.toNat≤5):okN {a with fX:=upd a.fX 1 u}→okN {a with fX:=upd a.fX 1 v}:=fun h i hi=>by
 have:=h i hi
 unfold upd at this ⊢
 dsimp only [] at this ⊢
 by_cases q:i=1
 ·rw [if_pos q];exact ⟨this.1,hv⟩
 ·rw [if_neg q] at this ⊢;exact this
theorem aiH(a:eL)(u v:UInt8)(hu:u.toNat≤5)(hv:v.toNat≤5):f23 {a with fX:=upd a.fX 1 u}=f23 {a with fX:=upd a.fX 1 v}:=by
 rcases E8 {a with fX:=upd a.fX 1 u} with ⟨h1,e1⟩ | ⟨h1,e1⟩<;>rcases E8 {a with fX:=upd a.fX 1 v} with ⟨h2,e2⟩ | ⟨h2,e2⟩
 ·rw [e1,e2]
 ·exact absurd (VD a u v hu hv h1) h2
 ·exact absurd (VD a v u hv hu h2) h1
 ·rw [e1,e2]
theorem ase(c:bh)(u v:UInt8)(hu:u.toNat≤5)(hv:v.toNat≤5):f7 (nk c u)=f7 (nk c v):=by
 unfold f7 nk
 dsimp only []
 rw [aiH c.Neg u v hu hv]
 rfl
theorem asf(c:bh)(x:iC)(h1:Zw (nk c 1))(h0:Zw (nk c 0))(hE:c.kL=false)(hx:x.Kind=2):(∃a s b e,f5 (nk c 1) x=some (a,s,e)∧e≠0∧f5 (nk c 0) x=some (b,s,e))∨ ∃s b,f5 (nk c 1) x=some (nk c 1,s,0)∧s≠ []∧f5 (nk c 0) x=some (b,s,0):=by
 obtain ⟨n,hn,hv⟩:=aiG (nk c 1) h1
 have ym:f7 (nk c 0)=some n:=(ase c 0 1 (by decide) (by decide)).trans hn
 by_cases q:n=0
 ·subst q
  rcases axh x.Key c.af.eE with ⟨R,hR,hk⟩ | hk
  ·right
   obtain ⟨y,o,c1,hy,ho,hne,e1,hh⟩:=aeQ (nk c 1) x h1.z hE hn hx hR hk
   obtain ⟨y',o',c0,hy',ho',_,e0,_⟩:=aeQ (nk c 0) x h0.z hE ym hx hR hk
   have ey:y'=y:=Option.some.inj (hy'.symm.trans hy)
   subst ey
   have eo:o'=o:=Option.some.inj (ho'.symm.trans ho)
   subst eo
   rw [hh rfl] at e1
   exact ⟨o',c0,e1,hne,e0⟩
  ·exact .inl ⟨_,_,_,_,Pe (nk c 1) x h1.z hn hx hk,by decide,Pe (nk c 0) x h0.z ym hx hk⟩
 ·exact .inl ⟨_,_,_,_,aeP (nk c 1) x h1.z n hn q,q,aeP (nk c 0) x h0.z n ym q⟩
end Go.Proofs.YtimbfadnabfabaaGreatDoor.Pm

namespace Go.Proofs.YtimbfadnabfabaaGreatDoor.Pm
open Go.Proofs.YtimbfadnabfabaaGreatDoor.Args
open Go.ChangeShapes Go.WideShapes Go.ChangeAt Go.RowKit
set_option linter.unusedVariables false
set_option linter.unusedSimpArgs false
set_option maxRecDepth 100000
theorem asg{α:Type}(l:List α)(i:Nat)(h:i<l.length):idx l (i:Int)=some l[i]:=by
 unfold idx;rw [if_pos (by omega)];simp [h]
theorem wrn(k:Nat)(h:k≤1000000000):IntKind.i64.wrap ((k:Int)+1)=((k+1:Nat):Int):=by rw [gu _ (by omega)];omega
theorem VE{α:Type} [DecidableEq α](n:Nat)(f:Nat→α):CL n f f=true:=by
 unfold CL;rw [List.all_eq_true];exact fun i _=>decide_eq_true rfl
theorem VF(l:List bF)(h: ∀y∈l,y.Cells.length≤1048576)(hl:l.length≤1048576):f35 l l=some true:=by
 unfold f35
 rw [dt rfl,Bool.not_true,cf]
 unfold IQ
 have h':=j7 (body:=xK l l) (fun i=>(i:Int)) (.inl ()) l.length (by
  unfold xK pG
  rw [bV (df (by omega)),cf]) 0 (by omega) (fun i _ hi=>by
  unfold xK pG xJ f36
  rw [bT (dt (by omega)),ct,asg l i hi,bs,bs,Ad _ (h _ (List.getElem_mem hi)),bs,bs,Bool.not_true,cf,wrn i (by omega)])
 rw [show b9 (xK l l) 0=_ from h',bs]
 rfl
theorem RM(s:aA)(h1:s.aG.Cells.length≤1048576)(h2:s.aT.Cells.length≤1048576)(h3: ∀y∈s.bn,y.Cells.length≤1048576)(h4:s.bn.length≤1048576):f13 s s=some true:=by
 unfold f13
 have e1:(decide (s.bP.Flags=s.bP.Flags)&&(decide (s.bP.dP=s.bP.dP)&&(decide (s.bP.dm=s.bP.dm)&&true)))=true:=by rw [dt rfl,dt rfl,dt rfl];rfl
 have e2:(CL 4 s.eU.Bits s.eU.Bits&&true)=true:=by rw [VE];rfl
 have e3:(decide (s.bp.1=s.bp.1)&&(decide (s.bp.2=s.bp.2)&&true))=true:=by rw [dt rfl,dt rfl];rfl
 have e4:(decide (s.aI.Row=s.aI.Row)&&(decide (s.aI.cP=s.aI.cP)&&(decide (s.aI.bP.Flags=s.aI.bP.Flags)&&(decide (s.aI.bP.dP=s.aI.bP.dP)&&(decide (s.aI.bP.dm=s.aI.bP.dm)&&(decide (s.aI.Origin=s.aI.Origin)&&(decide (s.aI.bp.1=s.aI.bp.1)&&(decide (s.aI.bp.2=s.aI.bp.2)&&(decide (s.aI.cC=s.aI.cC)&&true)))))))))=true:=by
  rw [dt rfl,dt rfl,dt rfl,dt rfl,dt rfl,dt rfl,dt rfl,dt rfl,dt rfl];rfl
 rw [C7 _ h1,bs,ct,C7 _ h2,bs,ct,bT (dt rfl),bT (dt rfl),bT (dt rfl),bT (dt rfl),bT (dt rfl),bT e1,bT (dt rfl),bT e2,bT e3,bT (dt rfl),bT e4,bT (dt rfl),VF _ h3 h4,bs]
theorem aEt(f:Nat→UInt8)(u v:UInt8):upd (upd f 1 u) 1 v=upd f 1 v:=by
 funext i
 unfold upd
 by_cases h:i=1
 ·rw [if_pos h,if_pos h]
 ·rw [if_neg h,if_neg h,if_neg h]
theorem VG(a:bh)(v:UInt8)(h:Zw a):Zw (nk {a with kL:=false} v):=⟨⟨h.z.s,h.z.n,h.z.v⟩,h.n,h.p,h.i,h.a⟩
theorem clientEcho(a1:bh)(a2:eD)(h:Zw a1):f4 a1 a2=some true:=by
 have lv:oG=some true:=rfl
 unfold f4
 rw [aEt]
 rcases asf {a1 with kL:=false} (iC.mk 2 [] a2 (eN.mk 0 0 0 0 false) [] 0 0 false 0 false) (VG a1 1 h) (VG a1 0 h) rfl rfl with ⟨a,s,b,e,e1,he,e0⟩ | ⟨s,b,e1,hs,e0⟩
 ·rw [show f5 ({a1 with Neg:={a1.Neg with fX:=(upd a1.Neg.fX 1 1)},kL:=false}) _=_ from e1,bs,show f5 ({a1 with Neg:={a1.Neg with fX:=(upd a1.Neg.fX 1 0)},kL:=false}) _=_ from e0,bs,lv,bs,Bool.not_true,cf]
  dsimp only []
  rw [df he,Bool.not_false,ct]
  unfold Lu
  rw [lv,bs,ct,dt rfl,ct]
 ·rw [show f5 ({a1 with Neg:={a1.Neg with fX:=(upd a1.Neg.fX 1 1)},kL:=false}) _=_ from e1,bs,show f5 ({a1 with Neg:={a1.Neg with fX:=(upd a1.Neg.fX 1 0)},kL:=false}) _=_ from e0,bs,lv,bs,Bool.not_true,cf]
  dsimp only []
  rw [dt rfl,Bool.not_true,cf]
  unfold Rv
  rw [dt rfl,ct,dt rfl,ct,df hs,Bool.not_false,ct,show f13 (nk {a1 with kL:=false} 1).af a1.af=some true from RM a1.af h.z.s.g h.z.s.o h.z.s.l h.z.s.p,bs]
end Go.Proofs.YtimbfadnabfabaaGreatDoor.Pm

namespace Go.Proofs.YtimbfadnabfabaaGreatDoor.Pm
open Go.Proofs.YtimbfadnabfabaaGreatDoor.Args
open Go.ChangeShapes Go.WideShapes Go.ChangeAt Go.RowKit
set_option maxRecDepth 100000
theorem asx{w:World}(hsh:w.ShapedOpen Go.Proofs.Tryz.prog): ∃m,w.cell? ⟨1,0,none⟩=some (.int .i64 m):=
 cell_of_shapedOpen_int (t:=3) (zero:= #[.int .i64 0]) hsh (of_decide_eq_true (by kernel_rfl)) (by kernel_rfl) rfl (by kernel_rfl) (by kernel_rfl) (by kernel_rfl)
theorem aBY{w:World}(hL:laidMetH Go.Proofs.Tryz.prog Rows.clientEchoUptoRow.laid w):Lib.TabIs Go.Proofs.Tryz.prog w "internal/strconv.uint64pow10" .u64 Lib.pow10Tab:=by
 have h:=hL.filter (fun x=>x.1== "internal/strconv.uint64pow10")
 have e:(Rows.clientEchoUptoRow.laid.filter fun x=>x.1== "internal/strconv.uint64pow10")= [("internal/strconv.uint64pow10",Lib.tabData .u64 Lib.pow10Tab)]:=by kernel_rfl
 rw [e] at h
 have h2:=(laidMetH_iff.1 h).1
 have e2:(([("internal/strconv.uint64pow10",Lib.tabData .u64 Lib.pow10Tab)]:List (String×DataW Unit)).filter fun x=>x.2.handleName?.isNone)= [("internal/strconv.uint64pow10",Lib.tabData .u64 Lib.pow10Tab)]:=by kernel_rfl
 rw [e2] at h2
 exact Lib.tabIs_of_head rfl rfl rfl rfl rfl rfl h2
theorem axB{w:World}(hL:laidMetH Go.Proofs.Tryz.prog Rows.clientEchoUptoRow.laid w):Lib.Utf8Tabs 2 3 w:=by
 have h:=hL.filter (fun x=>x.1== "unicode/utf8.acceptRanges" || x.1== "unicode/utf8.first")
 have e:(Rows.clientEchoUptoRow.laid.filter fun x=>x.1== "unicode/utf8.acceptRanges" || x.1== "unicode/utf8.first")= [("unicode/utf8.acceptRanges",Lib.acceptData),("unicode/utf8.first",Lib.firstData)]:=by kernel_rfl
 rw [e] at h
 have h2:=(laidMetH_iff.1 h).1
 have e2:(([("unicode/utf8.acceptRanges",Lib.acceptData),("unicode/utf8.first",Lib.firstData)]:List (String×DataW Unit)).filter fun x=>x.2.handleName?.isNone)= [("unicode/utf8.acceptRanges",Lib.acceptData),("unicode/utf8.first",Lib.firstData)]:=by kernel_rfl
 rw [e2] at h2
 exact utf8Tabs_of_readsT (ρ:=Go.Proofs.Tryz.Fo) {Go.Proofs.Tryz.VL with} ⟨by kernel_rfl,by kernel_rfl,by kernel_rfl,by kernel_rfl,by kernel_rfl,by kernel_rfl,by kernel_rfl⟩ (Lib.laidMet.reads h2 (.tail _ (.head _))) (Lib.laidMet.reads h2 (.head _))
theorem axC{a:bh}(hv:V55 (some 1048576) a):Zw a:=by
 have hs:=hv.2.2.2.2.1
 have hn:=hv.2.2.2.2.2.2.1.1
 have hp:=hv.2.2.2.1
 refine ⟨⟨⟨?_,?_,?_,fun x hx=>?_⟩,?_,?_⟩,fun x hx=>?_,?_,?_,?_⟩
 ·have:=hs.1.2.2.1;unfold gV at this;omega
 ·have:=hs.2.2.2.2.2.2.2.2.2.2.2.2.1.2.2.1;unfold gV at this;omega
 ·have:=hs.2.2.2.2.2.2.2.2.2.2.2.2.2.2.1;unfold gV at this;omega
 ·have:=(hs.2.2.2.2.2.2.2.2.2.2.2.2.2.2.2 x hx).1;unfold gV at this;omega
 ·have:=hn.1;unfold gV at this;omega
 ·have:=hv.2.2.2.2.2.2.2.1.1;unfold gV at this;omega
 ·have:=(hn.2 x hx).2;unfold gV at this;omega
 ·have:=hv.2.2.1.2;unfold gV at this;omega
 ·have:=hp.2.2.1.2;unfold gV at this;omega
 ·have:=hp.2.2.2.1.2;unfold gV at this;omega
theorem ClientEcho_walk(v0 v1:Value)(w:World)(h0:Arg (some 1048576) Go.Proofs.Tryz.prog w 55 v0)(h1:Arg (some 1048576) Go.Proofs.Tryz.prog w 57 v1)(hsh:w.ShapedOpen Go.Proofs.Tryz.prog)(hL:laidMetH Go.Proofs.Tryz.prog Rows.clientEchoUptoRow.laid w):Calls Go.Proofs.Tryz.prog 4 #[v0,v1] w fun e w'=>e= .returned (.bool true)∧Below w.heap.size w w':=
 Fp (some 1048576) (fun a b ha _=>clientEcho a b (axC ha)) v0 v1 w h0 h1 (asx hsh) (aBY hL) (axB hL)
end Go.Proofs.YtimbfadnabfabaaGreatDoor.Pm

