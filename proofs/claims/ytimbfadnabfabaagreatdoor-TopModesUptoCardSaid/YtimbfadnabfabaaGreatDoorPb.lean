/- The small machine: arguments of a law as typed data, and a law's call out of a typed function. No program is named here. -/
import Derived.Test.YtimbfadnabfabaaGreatDoorPa
import Derived.Test.YtimbfadnabfabaaGreatDoorArg
namespace Go.Proofs.YtimbfadnabfabaaGreatDoor.Pm
open Go.Proofs.YtimbfadnabfabaaGreatDoor.Args
open Go.ChangeShapes Go.WideShapes Go.ChangeAt Go.RowKit

abbrev V3:Nat→Prop:=fun _=>False
def cI(w:World):List PD→List Value→Prop
 | [],vs=>vs= []
 | x::xs,vs=> ∃v r,vs=v::r∧dR V3 w x v∧cI w xs r
theorem cI.app{w:World}: ∀{a b:List PD} {u v:List Value},cI w a u→cI w b v→cI w (a++b) (u++v)
 | [],_,_,_,h,k=>by have:_= []:=h;subst this;exact k
 | _::_,_,_,_,⟨v,r,e,h1,h2⟩,k=>by subst e;exact ⟨v,r++_,rfl,h1,cI.app h2 k⟩
theorem cI.len{w:World}: ∀{a:List PD} {u:List Value},cI w a u→a.length=u.length
 | [],_,h=>by have:_= []:=h;subst this;rfl
 | _::_,_,⟨v,r,e,_,h2⟩=>by subst e;simp [cI.len h2]
theorem cI.C1{w:World}{R:Ref→Value→Prop}: ∀{a:List PD} {u:List Value},cI w a u→aY V3 w R (a.map .d) u
 | [],_,h=>h
 | _::_,_,⟨v,r,e,h1,h2⟩=>⟨v,r,e,h1,cI.C1 h2⟩
theorem cI.get{w:World}: ∀{a:List PD} {u:List Value},cI w a u→ ∀(i:Nat) x,a[i]?=some x→ ∃v,u[i]?=some v∧dR V3 w x v
 | _::_,_,⟨v,r,e,h1,h2⟩,0,x,hx=>by simp at hx;subst hx;subst e;exact ⟨v,rfl,h1⟩
 | _::_,_,⟨v,r,e,h1,h2⟩,i+1,x,hx=>by
  obtain ⟨v',h3,h4⟩:=cI.get h2 i x (by simpa using hx)
  exact ⟨v',by subst e;simpa using h3,h4⟩
structure kM (P:Program) (t:TypeId) {α:Type} (E:cT α) (V:Option Nat→α→Prop):Prop where
 op: ∀(m:Option Nat) (w:World) (cs:List Value),Rd m P w t cs→ ∃x,V m x∧cI w (E.enc x) cs
 k:P.cellsOf t=E.k
section
variable {P : Program} {t e : TypeId} {k : IntKind} {α β : Type} {E : cT α} {V : Option Nat → α → Prop}
theorem di(ht:P.underlying t=some (.int k))(hc:P.cellsOf t=1):kM P t (cE k) (fun _ n=>(Lit.int k n).wf=true):=
 ⟨fun m w cs h=>by
  obtain ⟨n,rfl,hn⟩:=h.int ht
  exact ⟨n,hn,_,[],rfl,rfl,rfl⟩,hc⟩
theorem G_(ht:P.underlying t=some (.int .u8))(hc:P.cellsOf t=1):kM P t cH (fun _ _=>True):=
 ⟨fun m w cs h=>by
  obtain ⟨n,rfl,hn⟩:=h.int ht
  have hr:0≤n∧n<256:=by simp [Lit.wf,IntKind.min,IntKind.max,IntKind.signed,IntKind.bits] at hn;omega
  refine ⟨u8 n,trivial,.int .u8 n,[],rfl,?_,rfl⟩
  show Value.int .u8 n= .int .u8 _
  rw [ain];congr 1;omega,hc⟩
theorem kN(ht:P.underlying t=some .bool)(hc:P.cellsOf t=1):kM P t O1 (fun _ _=>True):=
 ⟨fun m w cs h=>by
  obtain ⟨n,rfl⟩:=h.bool ht
  exact ⟨n,trivial,_,[],rfl,rfl,rfl⟩,hc⟩
theorem lB(ht:P.underlying t=some .string)(hc:P.cellsOf t=1):kM P t dM (fun m s=>s.length≤maxLen∧gR m s.length 1):=
 ⟨fun m w cs h=>by
  obtain ⟨s,rfl,h1,h2⟩:=h.string ht
  exact ⟨s.data.toList,⟨by simpa using h1,by simpa using h2⟩,_,[],rfl,rfl,rfl⟩,hc⟩
theorem C2(ht:P.underlying t=some (.slice e))(hc:P.cellsOf t=1)(O:kM P e E V)(hk:0<E.k):kM P t (ij E) (fun m xs=>gR m xs.length (P.bytesOf e)∧ ∀x∈xs,V m x):=
 ⟨fun m w cs h=>by
  rcases h.slice ht with rfl | ⟨a,len,cap,rfl,h2,h3,h4,h5⟩
  ·refine ⟨[],⟨by cases m<;>simp [gR],by simp⟩,.slice none 0 0,[],rfl,⟨none,0,rfl,Nat.le_refl _,by simp,fun _=>rfl,.inl rfl⟩,rfl⟩
  ·have one: ∀i,i<cap→ ∃x,V m x∧ ∃cs',(List.range E.k).mapM (fun j=>w.cell? ((a.add (i*E.k)).add j))=some cs'∧cI w (E.enc x) cs':=fun i hi=>by
    obtain ⟨cs',h6,h7⟩:=h5 i hi
    obtain ⟨x,h8,h9⟩:=O.op m w cs' h7
    rw [O.k] at h6
    exact ⟨x,h8,cs',h6,h9⟩
   have all: ∀n,n≤cap→ ∃xs:List α,xs.length=n∧(∀x∈xs,V m x)∧ ∀i x,xs[i]?=some x→ ∃cs',(List.range E.k).mapM (fun j=>w.cell? ((a.add (i*E.k)).add j))=some cs'∧cI w (E.enc x) cs':=by
    intro n
    induction n with
    | zero=>exact fun _=>⟨[],rfl,by simp,fun i x h=>by simp at h⟩
    | succ n ih=>
     intro hn
     obtain ⟨xs,hl,hv,hx⟩:=ih (by omega)
     obtain ⟨y,hy,cs',h6,h7⟩:=one n (by omega)
     refine ⟨xs++ [y],by simp [hl],fun x hx=>?_,fun i x hi=>?_⟩
     ·rcases List.mem_append.1 hx with h | h
      ·exact hv x h
      ·simp at h;subst h;exact hy
     ·by_cases hin:i<xs.length
      ·rw [List.getElem?_append_left hin] at hi;exact hx i x hi
      ·have:i=xs.length:=by
        have:=(List.getElem?_eq_some_iff.1 hi).1
        simp at this;omega
       subst this
       simp at hi;subst hi
       rw [hl];exact ⟨cs',h6,h7⟩
   obtain ⟨xs,hl,hv,hx⟩:=all len h2
   refine ⟨xs,⟨?_,hv⟩,.slice (some a) len cap,[],rfl,?_,rfl⟩
   ·cases m with
    | none=>exact Nat.le_trans (Nat.mul_le_mul_right _ (by omega)) h4
    | some K=>exact Nat.le_trans (by omega) h4
   ·show dR V3 w (.sl xs.length (E.cells xs)) _
    subst hl
    refine ⟨some a,cap,rfl,h2,h3,(fun h=>by cases h),?_⟩
    cases xs with
    | nil=>exact .inl rfl
    | cons x0 xs'=>
     have cell: ∀i x,(x0::xs')[i]?=some x→ ∀j y,(E.enc x)[j]?=some y→ ∃v,w.cell? ((a.add (i*E.k)).add j)=some v∧dR V3 w y v:=by
      intro i x hi j y hj
      obtain ⟨cs',h6,h7⟩:=hx i x hi
      obtain ⟨v,hv1,hv2⟩:=h7.get j y hj
      refine ⟨v,?_,hv2⟩
      have hjk:j<E.k:=by rw [←E.len x];exact (List.getElem?_eq_some_iff.1 hj).1
      have hm: ∀(l:List Nat) (cs':List Value),l.mapM (fun j=>w.cell? ((a.add (i*E.k)).add j))=some cs'→ ∀(q j0:Nat),l[q]?=some j0→w.cell? ((a.add (i*E.k)).add j0)=cs'[q]?:=by
       intro l
       induction l with
       | nil=>intro cs' _ q j0 h;simp at h
       | cons b l ih=>
        intro cs' h q j0 hq
        simp only [List.mapM_cons,Option.bind_eq_bind,Option.bind_eq_some_iff] at h
        obtain ⟨v0,h8,r0,h9,h10⟩:=h
        simp at h10;subst h10
        cases q with
        | zero=>simp at hq;subst hq;simpa using h8
        | succ q=>have:=ih r0 h9 q j0 (by simpa using hq);simpa using this
      rw [hm _ _ h6 j j (by simp [hjk]),hv1]
     obtain ⟨ab,ao,asp⟩:=a
     have ahz:0<(E.enc x0).length:=by rw [E.len];exact hk
     obtain ⟨v0,hc0,_⟩:=cell 0 x0 rfl 0 (E.enc x0)[0] (by simp [ahz])
     have hspot:asp=none:=by simpa [Addr.add] using World.cell?_spot hc0
     subst hspot
     have hsz:ab<w.heap.size:=by
      have h0:w.cell? ⟨ab,ao+0*E.k+0,none⟩=some v0:=by rw [←hc0,gm,gm]
      cases hb:w.heap[ab]? with
      | none=>simp [World.cell?,hb] at h0
      | some _=>exact (Array.getElem?_eq_some_iff.1 hb).1
     refine .inr ⟨ab,ao,rfl,fun h=>h,hsz,fh.of fun q y hq=>?_⟩
     have pI:=hk
     have hq':q<(x0::xs').length*E.k:=by rw [←E.dF];exact (List.getElem?_eq_some_iff.1 hq).1
     have hi:q/E.k<(x0::xs').length:=Nat.div_lt_of_lt_mul (by rw [Nat.mul_comm];exact hq')
     have hg:(x0::xs')[q/E.k]?=some (x0::xs')[q/E.k]:=by simp [hi]
     have hce:=E.lX hg
     have Sh:(E.cells ((x0::xs').take (q/E.k))).length=q/E.k*E.k:=by rw [E.dF,List.length_take,Nat.min_eq_left (by omega)]
     have hqd:q=q/E.k*E.k+q%E.k:=by have:=Nat.div_add_mod q E.k;rw [Nat.mul_comm] at this;omega
     have aFp:=Nat.mod_lt q pI
     have hy:(E.enc (x0::xs')[q/E.k])[q%E.k]?=some y:=by
      rw [hce,List.getElem?_append_right (by omega),List.getElem?_append_left (by rw [E.len];omega)] at hq
      rw [←hq];congr 1;omega
     obtain ⟨v,hv1,hv2⟩:=cell _ _ hg _ _ hy
     refine ⟨v,?_,hv2⟩
     rw [←hv1]
     rw [gm,gm,Nat.add_assoc,←hqd],hc⟩
theorem kM.field(O:kM P e E V){m:Option Nat}{w:World}{fs:Array Field}{cs:List Value}(h: ∀(i:Nat) (f:Field),fs[i]?=some f→Rd m P w f.type ((cs.drop f.offset).take (P.cellsOf f.type)))(i:Nat)(f:Field)(hf:fs[i]?=some f)(he:f.type=e): ∃x,V m x∧cI w (E.enc x) ((cs.drop f.offset).take E.k):=by
 have:=h i f hf
 rw [he,O.k] at this
 exact O.op m w _ this
theorem bD{w:World}{a b:List PD}{cs:List Value}{o k:Nat}(h1:cI w a ((cs.drop o).take k))(h2:cI w b (cs.drop (o+k))):cI w (a++b) (cs.drop o):=by
 have:=h1.app h2
 rwa [←List.drop_drop,List.take_append_drop] at this
def Ay{α:Type}(n:Nat)(E:cT α):cT (Nat→α):=⟨n*E.k,fun f=>E.cells ((List.range n).map f),fun f=>by rw [E.dF];simp⟩
def gF{α γ:Type}(f:γ→α)(E:cT α):cT γ:=⟨E.k,fun x=>E.enc (f x),fun x=>E.len _⟩
def gG{γ:Type}(E F:cT γ):cT γ:=⟨E.k+F.k,fun x=>E.enc x++F.enc x,fun x=>by rw [List.length_append,E.len,F.len]⟩
def I0{γ:Type}:cT γ:=⟨0,fun _=> [],fun _=>rfl⟩
theorem adT{α:Type}(n:Nat)(E:cT α)(f:Nat→α):((Ay n E).enc f).map PV.d=E.row n f:=rfl
theorem Sl{w:World}(f:Nat→α): ∀(n:Nat) (cs:List Value),cs.length=n*E.k→(∀i,i<n→cI w (E.enc (f i)) ((cs.drop (i*E.k)).take E.k))→cI w (E.cells ((List.range n).map f)) cs
 | 0,cs,hl,_=>by
  have:cs= []:=List.eq_nil_of_length_eq_zero (by simpa using hl)
  subst this;rfl
 | n+1,cs,hl,h=>by
  rw [List.range_succ,List.map_append,E.nW]
  have hle:n*E.k≤cs.length:=by rw [hl,Nat.succ_mul];omega
  have h1:=Sl f n (cs.take (n*E.k)) (by rw [List.length_take];omega) (fun i hi=>by
   have Ic:(i+1)*E.k≤n*E.k:=Nat.mul_le_mul_right _ hi
   rw [Nat.succ_mul] at Ic
   have:=h i (by omega)
   rw [List.drop_take,List.take_take,Nat.min_eq_left (by omega)]
   exact this)
  have h2:=h n (by omega)
  rw [List.take_of_length_le (by rw [List.length_drop,hl,Nat.succ_mul];omega)] at h2
  have:=h1.app (b:=E.cells ([n].map f)) (v:=cs.drop (n*E.k)) (by simpa [cT.cells] using h2)
  rwa [List.take_append_drop] at this
open Classical in
theorem oV [Inhabited α]{n:Nat}(ht:P.underlying t=some (.array n e))(O:kM P e E V)(hc:P.cellsOf t=n*E.k):kM P t (Ay n E) (fun m f=> ∀i,i<n→V m (f i)):=
 ⟨fun m w cs h=>by
  obtain ⟨hl,hx⟩:=h.array ht
  have EF: ∀i,i<n→ ∃x,V m x∧cI w (E.enc x) ((cs.drop (i*E.k)).take E.k):=fun i hi=>by
   have:=hx i hi
   rw [O.k] at this
   exact O.op m w _ this
  refine ⟨fun i=>if h:i<n then (EF i h).choose else default,fun i hi=>?_,?_⟩
  ·simp only [dif_pos hi];exact (EF i hi).choose_spec.1
  ·refine Sl _ n cs (by rw [hl,hc]) fun i hi=>?_
   simp only [dif_pos hi];exact (EF i hi).choose_spec.2,hc⟩
def aBN{α:Type}(E:cT α):cT (α×α):=⟨E.k+E.k,fun x=>E.enc x.1++E.enc x.2,fun x=>by rw [List.length_append,E.len,E.len]⟩
theorem Sm(ht:P.underlying t=some (.array 2 e))(O:kM P e E V)(hc:P.cellsOf t=E.k+E.k):kM P t (aBN E) (fun m x=>V m x.1∧V m x.2):=
 ⟨fun m w cs h=>by
  obtain ⟨hl,hx⟩:=h.array ht
  have h0:=hx 0 (by decide)
  have h1:=hx 1 (by decide)
  rw [O.k] at h0 h1
  obtain ⟨x,v1,r1⟩:=O.op m w _ h0
  obtain ⟨y,v2,r2⟩:=O.op m w _ h1
  refine ⟨(x,y),⟨v1,v2⟩,?_⟩
  rw [Nat.zero_mul,List.drop_zero] at r1
  rw [Nat.one_mul] at r2
  have e2:(cs.drop E.k).take E.k=cs.drop E.k:=List.take_of_length_le (by rw [List.length_drop,hl,hc];omega)
  rw [e2] at r2
  have:=r1.app r2
  rwa [List.take_append_drop] at this,hc⟩
theorem kM.arg(O:kM P t E V){m:Option Nat}{w:World}{v:Value}(h:Arg m P w t v)(h1:v.cells.toList= [v]∨True): ∃x,V m x∧cI w (E.enc x) v.cells.toList:=O.op m w _ h.1
theorem Sn{x:List PD}{w:World}{R:Ref→Value→Prop}{cs:Array Value}(h:cI w x cs.toList):cJ V3 w R (.agg (x.map .d)) (.agg cs):=⟨cs,rfl,h.C1⟩
end
theorem V4{P:Program}{br:List Nat}{av:Nat→Option aK}{base:ek}{w:World}(hb:nS P base w fun _=> .nil none)(hc: ∀f fc,av f=some fc→wQ P br f fc){n f:Nat}{args:List PV}{vs:List Value}(h:bW av base n f args []=some (.d (.bool true),[]))(hargs:aY V3 w (fun _ _=>False) args vs):
  Calls P f vs.toArray w fun e w'=>e= .returned (.bool true)∧Below w.heap.size w w':=by
 refine (VY hb hc h hargs).mono ?_
 rintro e w' ⟨v,dA,β,rfl,hbl,ho⟩
 have:=ho.rep
 have hv:v= .bool true:=this
 subst hv
 exact ⟨rfl,hbl⟩
theorem gY{σ ρ:Type}{body:σ→Option (σ⊕ρ)}(I:Nat→σ→Prop)(Post:ρ→Prop)(hb: ∀n x,I n x→(∃y m,body x=some (.inl y)∧m<n∧I m y)∨ ∃r,body x=some (.inr r)∧Post r){n:Nat}{x:σ}(h:I n x): ∃r,b9 body x=some r∧Post r:=by
 induction n using Nat.strongRecOn generalizing x with
 | ind n ih=>
  rcases hb n x h with ⟨y,m,h1,h2,h3⟩ | ⟨r,h1,h2⟩
  ·obtain ⟨r,h4,h5⟩:=ih m h2 h3
   exact ⟨r,fI h1 h4,h5⟩
  ·exact ⟨r,dJ h1,h2⟩
end Go.Proofs.YtimbfadnabfabaaGreatDoor.Pm
