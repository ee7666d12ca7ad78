/- How an argument that can be read as data looks, type by type, with a bound on its size; used to open the arguments of the laws. No program is named here. -/
import Derived.Test.YtimbfadnabfabaaGreatDoorRows
import Derived.WalkKit
import Derived.ProofKit
import Derived.OpenShut
import Derived.Deep.Slices
import Derived.SizedLaws
namespace Go.Proofs.YtimbfadnabfabaaGreatDoor.Args
open Go.ChangeShapes Go.WideShapes Go.ChangeAt Go.RowKit

def Fit(m:Option Nat){H:Type}(P:Program)(t:TypeId)(d:DataW H):Prop:=
 match m with
 | none=> ∀n∈d.weights P t,n≤reachBytes
 | some K=>Rows.uptoBulk d≤K
def gR(m:Option Nat)(n bytes:Nat):Prop:=
 match m with
 | none=>n*bytes≤reachBytes
 | some K=>n≤K

def Rd(m:Option Nat)(P:Program)(w:World)(t:TypeId)(cs:List Value):Prop:=
 ∃(H:Type) (enc:TypeId×Value→H) (fuel:Nat) (x:DataW H×List MemPlace),DataW.trod enc P w 0 (fun _=>true) true fuel t cs=some x∧Fit m P t x.1
def Arg(m:Option Nat)(P:Program)(w:World)(t:TypeId)(v:Value):Prop:=
 Rd m P w t v.cells.toList∧ ∃r b,Value.okWide P w r b t v

theorem Arg.mk{m:Option Nat}{P:Program}{w:World}{t:TypeId}{v:Value}{r:Reach}{b:Nat}{H:Type}{enc:TypeId×Value→H}{d:DataW H}{ps:List MemPlace}
  (hv:Value.okWide P w r b t v) (h:DataW.Trod enc P w 0 (fun _=>true) true t v d ps) (hf:Fit m P t d):Arg m P w t v:=
 ⟨let ⟨f,hf'⟩:=h;⟨H,enc,f,_,hf',hf⟩,r,b,hv⟩

variable {m : Option Nat} {P : Program} {w : World} {t e : TypeId} {k : IntKind} {v : Value} {cs : List Value}

theorem one_le{H:Type}(d:DataW H):1≤Rows.uptoBulk d:=by
 cases d with
 | lit l=>cases l<;>simp [Rows.uptoBulk]
 | _=>simp [Rows.uptoBulk]
theorem C0{H:Type}{d:DataW H}{l:List (DataW H)}(h:d∈l):Rows.uptoBulk d≤Rows.uptoBulkAll l:=by
 induction l with
 | nil=>cases h
 | cons x r ih=>
  simp only [Rows.uptoBulkAll]
  cases List.mem_cons.1 h with
  | inl e=>subst e;omega
  | inr h=>have:=ih h;omega
theorem length_le{H:Type}(l:List (DataW H)):l.length≤Rows.uptoBulkAll l:=by
 induction l with
 | nil=>simp [Rows.uptoBulkAll]
 | cons x r ih=>have:=one_le x;simp only [Rows.uptoBulkAll,List.length_cons];omega
theorem pK{H:Type}{l:List (DataW H)}{d:DataW H}(h:d∈l){n:Nat}(hn:n∈d.weights P e):n∈DataW.weightsAll P e l:=by
 induction l with
 | nil=>cases h
 | cons x r ih=>
  simp only [DataW.weightsAll,List.mem_append]
  rcases List.mem_cons.1 h with rfl | h
  ·exact .inl hn
  ·exact .inr (ih h)
theorem Sk{H:Type}{fs:Array Field}{xs:List (DataW H)}(ht:P.underlying t=some (.struct fs))(h:Fit m P t (.agg xs))(i:Nat)(f:Field)(hf:fs[i]?=some f)(d:DataW H)(hd:xs[i]?=some d):Fit m P f.type d:=by
 cases m with
 | none=>
  intro n hn
  refine h n ?_
  simp only [DataW.weights,ht]
  exact DataW.weights_mem_each (j:=i) (by simp [hf]) hd n hn
 | some K=>
  have h1:=C0 (List.mem_of_getElem? hd)
  have h2:Rows.uptoBulk (.agg xs)≤K:=h
  simp only [Rows.uptoBulk] at h2
  show Rows.uptoBulk d≤K
  omega
theorem V2{H:Type}{n:Nat}{xs:List (DataW H)}(ht:P.underlying t=some (.array n e))(h:Fit m P t (.agg xs))(d:DataW H)(hd:d∈xs):Fit m P e d:=by
 cases m with
 | none=>
  intro n hn
  refine h n ?_
  simp only [DataW.weights,ht]
  exact pK hd hn
 | some K=>
  have h1:=C0 hd
  have h2:Rows.uptoBulk (.agg xs)≤K:=h
  simp only [Rows.uptoBulk] at h2
  show Rows.uptoBulk d≤K
  omega
theorem IZ{H:Type}{xs ys:List (DataW H)}(ht:P.underlying t=some (.slice e))(h:Fit m P t (.slice xs ys)):gR m (xs.length+ys.length) (P.bytesOf e)∧ ∀d,d∈xs∨d∈ys→Fit m P e d:=by
 cases m with
 | none=>
  refine ⟨h _ (by simp [DataW.weights,ht]),fun d hd n hn=>h n ?_⟩
  simp only [DataW.weights,ht,List.mem_cons,List.mem_append]
  rcases hd with hd | hd
  ·exact .inr (.inl (pK hd hn))
  ·exact .inr (.inr (pK hd hn))
 | some K=>
  have h2:Rows.uptoBulk (.slice xs ys)≤K:=h
  have h3:=length_le xs
  have h4:=length_le ys
  simp only [Rows.uptoBulk] at h2
  refine ⟨by show xs.length+ys.length≤K;omega,fun d hd=>?_⟩
  show Rows.uptoBulk d≤K
  rcases hd with hd | hd
  ·have:=C0 hd;omega
  ·have:=C0 hd;omega

theorem Rd.int(ht:P.underlying t=some (.int k))(h:Rd m P w t cs): ∃n,cs= [.int k n]∧(Lit.int k n).wf=true:=by
 obtain ⟨H,enc,f,x,h,_⟩:=h
 obtain ⟨n,h1,_,h2⟩:=DataW.trod_int ht h
 exact ⟨n,h1,h2⟩
theorem Rd.bool(ht:P.underlying t=some .bool)(h:Rd m P w t cs): ∃b,cs= [.bool b]:=by
 obtain ⟨H,enc,f,x,h,_⟩:=h
 obtain ⟨n,h1,_⟩:=DataW.trod_bool ht h
 exact ⟨n,h1⟩
theorem Rd.string(ht:P.underlying t=some .string)(h:Rd m P w t cs): ∃s,cs= [.string s]∧s.size≤maxLen∧gR m s.size 1:=by
 obtain ⟨H,enc,f,x,h,hf⟩:=h
 obtain ⟨n,h1,h3,h2⟩:=DataW.trod_string ht h
 refine ⟨n,h1,h2,?_⟩
 subst h3
 cases m with
 | none=>
  have:=hf n.data.toList.length (by simp [DataW.weights])
  show n.size*1≤reachBytes
  simpa using this
 | some K=>
  have:Rows.uptoBulk (DataW.lit (H:=H) (.string n.data.toList))≤K:=hf
  simp only [Rows.uptoBulk] at this
  show n.size≤K
  have e:n.data.toList.length=n.size:=by simp
  omega
theorem Rd.array{n:Nat}(ht:P.underlying t=some (.array n e))(h:Rd m P w t cs):
  cs.length=P.cellsOf t∧ ∀i,i<n→Rd m P w e ((cs.drop (i*P.cellsOf e)).take (P.cellsOf e)):=by
 obtain ⟨H,enc,f,x,h,hf⟩:=h
 obtain ⟨xs,m',_,rfl,hl,hx,hi⟩:=DataW.trod_array ht h
 refine ⟨hl,fun i hn=>⟨H,enc,m',xs[i],?_,?_⟩⟩
 ·rw [hi i hn];simp [hx,hn]
 ·exact V2 ht hf _ (by simp only [List.mem_map];exact ⟨xs[i],List.getElem_mem _,rfl⟩)
theorem Rd.struct{fs:Array Field}(ht:P.underlying t=some (.struct fs))(h:Rd m P w t cs):
  cs.length=P.cellsOf t∧ ∀(i:Nat) (f:Field),fs[i]?=some f→Rd m P w f.type ((cs.drop f.offset).take (P.cellsOf f.type)):=by
 obtain ⟨H,enc,f,x,h,hft⟩:=h
 obtain ⟨xs,m',_,rfl,hl,hx,hi⟩:=DataW.trod_struct ht h
 refine ⟨hl,fun i f hf=>?_⟩
 have hlt:i<fs.size:=by
  rcases Nat.lt_or_ge i fs.size with h' | h'
  ·exact h'
  ·simp [h'] at hf
 refine ⟨H,enc,m',xs[i],?_,?_⟩
 ·rw [hi i f hf];simp [hx,hlt]
 ·exact Sk ht hft i f hf _ (by simp [hx,hlt])
theorem Rd.slice(ht:P.underlying t=some (.slice e))(h:Rd m P w t cs):
  cs= [.slice none 0 0]∨ ∃(a:Addr) (len cap:Nat),cs= [.slice (some a) len cap]∧len≤cap∧cap≤maxLen∧gR m cap (P.bytesOf e)∧
   ∀i,i<cap→ ∃cs',(List.range (P.cellsOf e)).mapM (fun j=>w.cell? ((a.add (i*P.cellsOf e)).add j))=some cs'∧Rd m P w e cs':=by
 obtain ⟨H,enc,f,x,h,hf⟩:=h
 rcases Go.Deep.open_slice ht h with ⟨h1,_⟩ | ⟨a,len,cap,m',n,D,Pl,h1,_,h2,h3,h4,h6,h5⟩
 ·exact .inl h1
 ·refine .inr ⟨a,len,cap,h1,h2,h3,?_,fun i hi=>?_⟩
  ·simp at h4;subst h4;subst h6
   have:=(IZ ht hf).1
   simpa [show len+(m'-len)=m' by omega] using this
  ·simp at h4;subst h4;subst h6
   obtain ⟨cs',hc,hr⟩:=h5 i hi
   refine ⟨cs',by simpa [World.cells?] using hc,H,enc,n,_,hr,(IZ ht hf).2 _ ?_⟩
   by_cases kY:i<len
   ·exact .inl (List.mem_map.2 ⟨i,List.mem_range.2 kY,rfl⟩)
   ·exact .inr (List.mem_map.2 ⟨i-len,List.mem_range.2 (by omega),by rw [show len+(i-len)=i by omega]⟩)

theorem Arg.int(ht:P.underlying t=some (.int k))(h:Arg m P w t v): ∃n,v= .int k n∧(Lit.int k n).wf=true:=by
 obtain ⟨h,r,b,hv⟩:=h
 obtain ⟨n,rfl⟩:=okWide_int ht hv
 obtain ⟨n',h1,h2⟩:=h.int ht
 simp [Value.cells] at h1;subst h1
 exact ⟨n,rfl,h2⟩
theorem Arg.bool(ht:P.underlying t=some .bool)(h:Arg m P w t v): ∃b,v= .bool b:=by
 obtain ⟨h,r,b,hv⟩:=h
 exact okWide_bool ht hv
theorem Arg.string(ht:P.underlying t=some .string)(h:Arg m P w t v): ∃s,v= .string s∧s.size≤maxLen∧gR m s.size 1:=by
 obtain ⟨h,r,b,hv⟩:=h
 obtain ⟨n,rfl⟩:=okWide_string ht hv
 obtain ⟨n',h1,h2⟩:=h.string ht
 simp [Value.cells] at h1;subst h1
 exact ⟨n,rfl,h2⟩
theorem Arg.agg(ht:(∃fs,P.underlying t=some (.struct fs))∨ ∃n e,P.underlying t=some (.array n e))(h:Arg m P w t v): ∃cs,v= .agg cs∧Rd m P w t cs.toList:=by
 obtain ⟨h,r,b,hv⟩:=h
 rcases ht with ⟨fs,ht⟩ | ⟨n,e,ht⟩<;>
 ·simp only [Value.okWide,ht] at hv
  obtain ⟨cs,rfl,_⟩:=hv
  exact ⟨cs,rfl,h⟩
theorem Arg.slice(ht:P.underlying t=some (.slice e))(h:Arg m P w t v): ∃v',v=v'∧Rd m P w t [v']∧ ∃a l c,v'= .slice a l c:=by
 obtain ⟨h,r,b,hv⟩:=h
 obtain ⟨a,len,cap,rfl⟩:=okWide_slice ht hv
 exact ⟨_,rfl,h,_,_,_,rfl⟩

theorem Rd.ints(ht:P.underlying t=some (.slice e))(he:P.underlying e=some (.int k))(hc:P.cellsOf e=1)(h:Rd m P w t [v]):
  ∃xs:List Int,((xs.map (Value.int k)= []∧ ∃a cap,v= .slice a 0 cap)∨ ∃b off cap,v= .slice (some ⟨b,off,none⟩) (xs.map (Value.int k)).length cap∧(xs.map (Value.int k)).length≤cap∧cap≤maxLen∧
    ∀i x,(xs.map (Value.int k))[i]?=some x→w.cell? ⟨b,off+i,none⟩=some x)∧(∀x∈xs,(Lit.int k x).wf=true)∧gR m xs.length (P.bytesOf e):=by
 rcases h.slice ht with h1 | ⟨a,len,cap,h1,h2,h3,h4,h5⟩
 ·simp at h1
  refine ⟨[],.inl ⟨rfl,none,0,h1⟩,by simp,?_⟩
  cases m<;>simp [gR]
 ·simp at h1
  subst h1
  have h6: ∀i,i<cap→ ∃n,w.cell? (a.add i)=some (.int k n)∧(Lit.int k n).wf=true:=by
   intro i hi
   obtain ⟨cs',hcs,hr⟩:=h5 i hi
   obtain ⟨n,rfl,hn⟩:=hr.int he
   rw [hc] at hcs
   simp [Go.Deep.add_add] at hcs
   refine ⟨n,?_,hn⟩
   cases hq:w.cell? (a.add i) with
   | none=>simp [hq] at hcs
   | some z=>simp [hq] at hcs;rw [hcs]
  have h7: ∃xs:List Int,xs.length=len∧ ∀i,i<len→ ∃n,xs[i]?=some n∧w.cell? (a.add i)=some (.int k n)∧(Lit.int k n).wf=true:=by
   have: ∀j,j≤len→ ∃xs:List Int,xs.length=j∧ ∀i,i<j→ ∃n,xs[i]?=some n∧w.cell? (a.add i)=some (.int k n)∧(Lit.int k n).wf=true:=by
    intro j
    induction j with
    | zero=>exact fun _=>⟨[],rfl,fun i hi=>absurd hi (Nat.not_lt_zero _)⟩
    | succ j ih=>
     intro hj
     obtain ⟨xs,hl,hx⟩:=ih (by omega)
     obtain ⟨n,hn,hw⟩:=h6 j (by omega)
     refine ⟨xs++ [n],by simp [hl],fun i hi=>?_⟩
     by_cases e:i=j
     ·subst e;exact ⟨n,by simp [←hl],hn,hw⟩
     ·obtain ⟨n',h1,h2⟩:=hx i (by omega)
      exact ⟨n',by rw [List.getElem?_append_left (by omega)];exact h1,h2⟩
   exact this len (Nat.le_refl _)
  obtain ⟨xs,hl,hx⟩:=h7
  subst hl
  refine ⟨xs,?_,?_,?_⟩
  ·by_cases h0:xs.length=0
   ·exact .inl ⟨by simpa using h0,some a,cap,by rw [h0]⟩
   ·obtain ⟨ab,ao,asp⟩:=a
    obtain ⟨n0,_,hc0,_⟩:=hx 0 (by omega)
    have hspot:asp=none:=by simpa [Addr.add] using World.cell?_spot hc0
    subst hspot
    refine .inr ⟨ab,ao,cap,by simp,by simpa using h2,h3,fun i x R5=>?_⟩
    have hi:i<xs.length:=by
     rcases Nat.lt_or_ge i xs.length with h' | h'
     ·exact h'
     ·rw [List.getElem?_eq_none (by simpa using h')] at R5;cases R5
    obtain ⟨n,hn,hcn,_⟩:=hx i hi
    rw [List.getElem?_map,hn] at R5
    simp at R5;subst R5
    have hp:(⟨ab,ao,none⟩:Addr).add i=⟨ab,ao+i,none⟩:=by unfold Addr.add;split<;>simp_all
    rw [←hp];exact hcn
  ·intro x EF
   obtain ⟨i,hi,rfl⟩:=List.getElem_of_mem EF
   obtain ⟨n,h1,_,h2⟩:=hx i hi
   rw [List.getElem?_eq_getElem hi] at h1
   cases h1;exact h2
  ·cases m with
   | none=>exact Nat.le_trans (Nat.mul_le_mul_right _ h2) h4
   | some K=>exact Nat.le_trans h2 h4
end Go.Proofs.YtimbfadnabfabaaGreatDoor.Args
