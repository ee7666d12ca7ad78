/- The small machine: arguments of a law as typed data, and a law's call out of a typed function. No program is named here. -/
import Derived.Test.YtobkkblijfhpoaaGreatDoorPa
import Derived.Test.YtobkkblijfhpoaaGreatDoorArg
namespace Go.Proofs.YtobkkblijfhpoaaGreatDoor.Pm
open Go.Proofs.YtobkkblijfhpoaaGreatDoor.Args
open Go.ChangeShapes Go.WideShapes Go.ChangeAt Go.RowKit

abbrev XP:Nat→Prop:=fun _=>False
def l_(w:World):List PD→List Value→Prop
 | [],vs=>vs= []
 | x::xs,vs=> ∃v r,vs=v::r∧dQ XP w x v∧l_ w xs r
theorem l_.app{w:World}: ∀{a b:List PD} {u v:List Value},l_ w a u→l_ w b v→l_ w (a++b) (u++v)
 | [],_,_,_,h,k=>by have:_= []:=h;subst this;exact k
 | _::_,_,_,_,⟨v,r,e,h1,h2⟩,k=>by subst e;exact ⟨v,r++_,rfl,h1,l_.app h2 k⟩
theorem l_.len{w:World}: ∀{a:List PD} {u:List Value},l_ w a u→a.length=u.length
 | [],_,h=>by have:_= []:=h;subst this;rfl
 | _::_,_,⟨v,r,e,_,h2⟩=>by subst e;simp [l_.len h2]
theorem l_.get{w:World}: ∀{a:List PD} {u:List Value},l_ w a u→ ∀(i:Nat) x,a[i]?=some x→ ∃v,u[i]?=some v∧dQ XP w x v
 | _::_,_,⟨v,r,e,h1,h2⟩,0,x,hx=>by simp at hx;subst hx;subst e;exact ⟨v,rfl,h1⟩
 | _::_,_,⟨v,r,e,h1,h2⟩,i+1,x,hx=>by
  obtain ⟨v',h3,h4⟩:=l_.get h2 i x (by simpa using hx)
  exact ⟨v',by subst e;simpa using h3,h4⟩
structure Opn (P:Program) (t:TypeId) {α:Type} (E:dJ α) (V:Option Nat→α→Prop):Prop where
 op: ∀(m:Option Nat) (w:World) (cs:List Value),Rd m P w t cs→ ∃x,V m x∧l_ w (E.enc x) cs
 k:P.cellsOf t=E.k
section
variable {P : Program} {t e : TypeId} {k : IntKind} {α β : Type} {E : dJ α} {V : Option Nat → α → Prop}
theorem TB(ht:P.underlying t=some (.int k))(hc:P.cellsOf t=1):Opn P t (dR k) (fun _ n=>(Lit.int k n).wf=true):=
 ⟨fun m w cs h=>by
  obtain ⟨n,rfl,hn⟩:=h.int ht
  exact ⟨n,hn,_,[],rfl,rfl,rfl⟩,hc⟩
theorem ako(ht:P.underlying t=some .string)(hc:P.cellsOf t=1):Opn P t eu (fun m s=>s.length≤maxLen∧HY m s.length 1):=
 ⟨fun m w cs h=>by
  obtain ⟨s,rfl,h1,h2⟩:=h.string ht
  exact ⟨s.data.toList,⟨by simpa using h1,by simpa using h2⟩,_,[],rfl,rfl,rfl⟩,hc⟩
theorem Opn.field(O:Opn P e E V){m:Option Nat}{w:World}{fs:Array Field}{cs:List Value}(h: ∀(i:Nat) (f:Field),fs[i]?=some f→Rd m P w f.type ((cs.drop f.offset).take (P.cellsOf f.type)))(i:Nat)(f:Field)(hf:fs[i]?=some f)(he:f.type=e): ∃x,V m x∧l_ w (E.enc x) ((cs.drop f.offset).take E.k):=by
 have:=h i f hf
 rw [he,O.k] at this
 exact O.op m w _ this
theorem Opn.arg(O:Opn P t E V){m:Option Nat}{w:World}{v:Value}(h:Arg m P w t v)(h1:v.cells.toList= [v]∨True): ∃x,V m x∧l_ w (E.enc x) v.cells.toList:=O.op m w _ h.1
end
def yE:cX:=fun _ _ _=>none
theorem mb(P:Program){W:World}{Φ:Nat→cJ}:nI P yE W Φ:=fun _ _ _ _ _ h=>by cases h
theorem XQ{P:Program}{br:List Nat}{az:Nat→Option aO}{base:cX}{w:World}(hb:nI P base w fun _=> .nil none)(hc: ∀f fc,az f=some fc→uw P br f fc){n f:Nat}{args:List PV}{vs:List Value}(h:cg az base n f args []=some (.d (.bool true),[]))(hargs:aZ XP w (fun _ _=>False) args vs):
  Calls P f vs.toArray w fun e w'=>e= .returned (.bool true)∧Below w.heap.size w w':=by
 refine (kj hb hc h hargs).mono ?_
 rintro e w' ⟨v,dz,β,rfl,hbl,ho⟩
 have:=ho.rep
 have hv:v= .bool true:=this
 subst hv
 exact ⟨rfl,hbl⟩
theorem CT{σ ρ:Type}{body:σ→Option (σ⊕ρ)}(I:Nat→σ→Prop)(Post:ρ→Prop)(hb: ∀n x,I n x→(∃y m,body x=some (.inl y)∧m<n∧I m y)∨ ∃r,body x=some (.inr r)∧Post r){n:Nat}{x:σ}(h:I n x): ∃r,bR body x=some r∧Post r:=by
 induction n using Nat.strongRecOn generalizing x with
 | ind n ih=>
  rcases hb n x h with ⟨y,m,h1,h2,h3⟩ | ⟨r,h1,h2⟩
  ·obtain ⟨r,h4,h5⟩:=ih m h2 h3
   exact ⟨r,gI h1 h4,h5⟩
  ·exact ⟨r,eC h1,h2⟩
end Go.Proofs.YtobkkblijfhpoaaGreatDoor.Pm
