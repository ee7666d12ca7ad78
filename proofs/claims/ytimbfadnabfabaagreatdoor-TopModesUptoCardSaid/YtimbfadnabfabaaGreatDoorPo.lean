/- A small machine on plain data, and what it has to do with the language's own: what its values stand for. No program is named here. -/
import Derived.Test.YtimbfadnabfabaaGreatDoorRows
import Derived.WalkKit
import Derived.ProofKit
import Derived.Orders
import Derived.WalkLawsBesides
import Derived.Laws.AppendOwn
import Derived.Laws.RangeString
import Derived.Lib.OthersKept
import Derived.Laws.DeepStrings4
import Derived.Laws.StructEq
namespace Go.Proofs.YtimbfadnabfabaaGreatDoor.Pm
open Go.RowKit

inductive PD where
 | int (k:IntKind) (n:Int)
 | bool (b:Bool)
 | str (s:List UInt8)
 | sl (n:Nat) (cs:List PD)
 | un
 | err (b:Bool)
 deriving Inhabited
inductive Ref where
 | ptr (i g o:Nat)
 | aJ (i g l n:Nat)
 | own (j:Nat) (e:TypeId) (k n:Nat) (cs:List PD)
 deriving Inhabited
inductive PV where
 | d (x:PD)
 | agg (cs:List PV)
 | bE (cs:List PV)
 | r (x:Ref)
 | cD (cs:List PD)
 | nil
 | fn (f:Nat) (cs:List PV)
 | jo (z:Bool) (n:Nat) (cs:List PD)
 | un
 deriving Inhabited
inductive bH where
 | box (cs:List PV)
 | own (e:TypeId) (k:Nat) (cs:List PD)
 deriving Inhabited
structure cq where
 g:Nat
 b:Option bH
 deriving Inhabited
inductive cg where
 | nil (a:Option Addr)
 | blk (b c:Nat)
def MM:Nat:=18446744073709551616
def cp(c:Nat):Nat:=c%MM
def off(c:Nat):Nat:=c/MM
theorem HM{c:Nat}(h:c≤maxLen):cp c=c:=Nat.mod_eq_of_lt (by unfold maxLen at h;unfold MM;omega)
theorem G5{c:Nat}(h:c≤maxLen):off c=0:=Nat.div_eq_of_lt (by unfold maxLen at h;unfold MM;omega)
theorem axa{o c:Nat}(h:c≤maxLen):cp (o*MM+c)=c:=by unfold cp;rw [Nat.mul_comm,Nat.mul_add_mod];exact HM h
theorem apx{o c:Nat}(h:c≤maxLen):off (o*MM+c)=o:=by
 unfold off;rw [Nat.mul_comm,Nat.mul_add_div (by decide)]
 have:=G5 h;unfold off at this;rw [this];rfl

mutual
def dR(X:Nat→Prop)(w:World):PD→Value→Prop
 | .int k n,v=>v= .int k n
 | .bool b,v=>v= .bool b
 | .str s,v=>v= .string ⟨s.toArray⟩
 | .un,v=>v.oneCell'=true
 | .err b,v=>(b=false∧v= .nilIface)∨(b=true∧ ∃t p,v= .iface t p)
 | .sl n cs,v=> ∃a c,v= .slice a n c∧n≤c∧c≤maxLen∧(a=none→c=0)∧(cs= []∨ ∃b o,a=some ⟨b,o,none⟩∧ ¬X b∧b<w.heap.size∧fh X w cs b o)
def fh(X:Nat→Prop)(w:World):List PD→Nat→Nat→Prop
 | [],_,_=>True
 | x::xs,b,o=>(∃v,w.cell? ⟨b,o,none⟩=some v∧dR X w x v)∧fh X w xs b (o+1)
end
mutual
def cJ(X:Nat→Prop)(w:World)(R:Ref→Value→Prop):PV→Value→Prop
 | .d x,v=>dR X w x v
 | .agg cs,v=> ∃vs,v= .agg vs∧aY X w R cs vs.toList
 | .bE cs,v=> ∃vs,v= .tuple vs∧aY X w R cs vs.toList
 | .r x,v=>R x v
 | .cD cs,v=> ∃b o,v= .pointer (some ⟨b,o,none⟩)∧ ¬X b∧b<w.heap.size∧fh X w cs b o
 | .nil,v=> ∃a,v= .slice a 0 0
 | .fn f cs,v=> ∃vs,v= .func (.func f) #[] vs∧aY X w R cs vs.toList
 | .jo z n cs,v=>dR X w (.sl n cs) v∧ ∃a c,v= .slice a n c∧a.isNone=z
 | .un,_=>True
def aY(X:Nat→Prop)(w:World)(R:Ref→Value→Prop):List PV→List Value→Prop
 | [],vs=>vs= []
 | p::ps,vs=> ∃v r,vs=v::r∧cJ X w R p v∧aY X w R ps r
end

structure Ch (X X':Nat→Prop) (w w':World):Prop where
 size:w.heap.size≤w'.heap.size
 blk: ∀b,b<w.heap.size→ ¬X b→w'.heap[b]?=w.heap[b]?∧ ¬X' b
theorem Ch.refl(X:Nat→Prop)(w:World):Ch X X w w:=⟨Nat.le_refl _,fun _ _ h=>⟨rfl,h⟩⟩
theorem Ch.trans{X Y Z:Nat→Prop}{a b c:World}(h:Ch X Y a b)(k:Ch Y Z b c):Ch X Z a c:=
 ⟨Nat.le_trans h.size k.size,fun i hi hx=>⟨((k.blk i (Nat.lt_of_lt_of_le hi h.size) (h.blk i hi hx).2).1).trans (h.blk i hi hx).1,(k.blk i (Nat.lt_of_lt_of_le hi h.size) (h.blk i hi hx).2).2⟩⟩
section
variable {X X' : Nat → Prop} {w w' : World}
mutual
theorem dR.keep(h:Ch X X' w w'): ∀(p:PD) (v:Value),dR X w p v→dR X' w' p v
 | .int _ _,_,q=>q
 | .bool _,_,q=>q
 | .str _,_,q=>q
 | .un,_,q=>q
 | .err _,_,q=>q
 | .sl _ cs,_,⟨a,c,h1,h2,h3,h4,h5⟩=>⟨a,c,h1,h2,h3,h4,h5.imp id fun ⟨b,o,e,hx,hl,hc⟩=>⟨b,o,e,(h.blk b hl hx).2,Nat.lt_of_lt_of_le hl h.size,fh.keep h cs b o hx hl hc⟩⟩
theorem fh.keep(h:Ch X X' w w'): ∀(cs:List PD) (b o:Nat),¬X b→b<w.heap.size→fh X w cs b o→fh X' w' cs b o
 | [],_,_,_,_,_=>trivial
 | x::xs,b,o,hx,hl,⟨⟨v,h1,h2⟩,h3⟩=>⟨⟨v,by rw [←h1];exact World.cell?_of_block (w:=w) (h.blk b hl hx).1,dR.keep h x v h2⟩,fh.keep h xs b (o+1) hx hl h3⟩
end
variable {R R' : Ref → Value → Prop}
mutual
theorem cJ.keep(h:Ch X X' w w')(hr: ∀r v,R r v→R' r v): ∀(p:PV) (v:Value),cJ X w R p v→cJ X' w' R' p v
 | .d x,v,q=>dR.keep h x v q
 | .agg cs,_,⟨vs,e,q⟩=>⟨vs,e,aY.keep h hr cs _ q⟩
 | .bE cs,_,⟨vs,e,q⟩=>⟨vs,e,aY.keep h hr cs _ q⟩
 | .r _,_,q=>hr _ _ q
 | .cD cs,_,⟨b,o,e,hx,hl,hc⟩=>⟨b,o,e,(h.blk b hl hx).2,Nat.lt_of_lt_of_le hl h.size,fh.keep h cs b o hx hl hc⟩
 | .nil,_,q=>q
 | .fn _ cs,_,⟨vs,e,q⟩=>⟨vs,e,aY.keep h hr cs _ q⟩
 | .jo _ n cs,v,⟨q1,q2⟩=>⟨dR.keep h (.sl n cs) v q1,q2⟩
 | .un,_,_=>trivial
theorem aY.keep(h:Ch X X' w w')(hr: ∀r v,R r v→R' r v): ∀(ps:List PV) (vs:List Value),aY X w R ps vs→aY X' w' R' ps vs
 | [],_,q=>q
 | p::ps,_,⟨v,r,e,q1,q2⟩=>⟨v,r,e,cJ.keep h hr p v q1,aY.keep h hr ps r q2⟩
end
end

def bh(φ:Nat→cg)(H:Nat→cq):Ref→Value→Prop
 | .ptr i g o,v=>(∃b q,v= .pointer (some ⟨b,q,none⟩))∧g≤(H i).g∧(g=(H i).g→(H i).b.isSome→ ∃b c,φ i= .blk b c∧v= .pointer (some ⟨b,off c+o,none⟩))
 | .aJ i g l n,v=>(∃a n c,v= .slice a n c)∧g≤(H i).g∧(g=(H i).g→ ∀e k cs,(H i).b=some (.own e k cs)→0<k∧(l+n)*k≤cs.length∧
   match φ i with
   | .nil a=>v= .slice a 0 0∧l=0∧n=0
   | .blk b c=> ∃a c',v= .slice a n c'∧n≤c'∧c'+l=cp c∧(0<n→a=some ⟨b,off c+l*k,none⟩)∧(l=0→a=some ⟨b,off c,none⟩)∧a≠none)
 | .own ..,_=>False
def jW(w:World)(b:Nat)(cur:Array Value)(e:TypeId):Prop:= ∃f:Nat×Nat,w.heap[b]?=some (.cells cur e f)∧(f=(0,0)∨cur.size≤f.1)
theorem jW.of{w:World}{b:Nat}{cur:Array Value}{e:TypeId}(h:w.heap[b]?=some (.cells cur e (0,0))):jW w b cur e:=⟨_,h,.inl rfl⟩
theorem jW.keep{w w':World}{b:Nat}{cur:Array Value}{e:TypeId}(h:jW w b cur e)(he:w'.heap[b]?=w.heap[b]?):jW w' b cur e:=by
 obtain ⟨f,h1,h2⟩:=h
 exact ⟨f,he.trans h1,h2⟩
theorem jW.cell{w:World}{b:Nat}{cur:Array Value}{e:TypeId}(h:jW w b cur e)(j:Nat):w.cell? ⟨b,j,none⟩=cur[j]?:=by
 obtain ⟨f,h1,_⟩:=h
 exact cell_of_row w b j cur e f h1
theorem jW.free{w:World}{b:Nat}{cur:Array Value}{e:TypeId}(h:jW w b cur e)(j:Nat)(hj:j<cur.size):w.frozen? ⟨b,j,none⟩=false:=by
 obtain ⟨f,h1,h2⟩:=h
 unfold World.frozen?
 simp only [h1]
 rcases h2 with rfl | h2
 ·simp
 ·have: ¬f.1≤j:=by omega
  simp [this]
theorem jW.set{w:World}{b:Nat}{cur:Array Value}{e:TypeId}(h:jW w b cur e)(new:Array Value)(hs:new.size=cur.size):jW (w.setRow b new) b new e:=by
 obtain ⟨f,h1,h2⟩:=h
 exact ⟨f,setRow_heap w b cur new e f h1,by rw [hs];exact h2⟩
def Mt:List Value→Option (ByteArray×Int)
 | [.tuple q]=>match q.toList with
  | [.string s,.int .i64 p]=>some (s,p)
  | _=>none
 | _=>none
def aha:Value→Value
 | .slice _ _ 0=> .slice none 0 0
 | v=>v
def Y6(b:Nat):List Value→Option (Value×Value×Nat)
 | [.tuple q,v]=>match q.toList with
  | [.bool true,.int .i64 T]=>some (.pointer none,aha v,T.toNat)
  | [_,.int .i64 T]=>some (.pointer (some ⟨b,0,none⟩),aha v,T.toNat)
  | _=>none
 | _=>none
def uS(b:Nat)(vs:Array Value)(T:TypeId):Obj:=match Mt vs.toList with
 | some (s,p)=> .stringIter s p.toNat
 | none=>match Y6 b vs.toList with
  | some (p,v,U)=> .cells #[p,v] U (0,0)
  | none=> .cells vs T (0,0)
def gT:List PV→Bool
 | [.un]=>false
 | [.bE _]=>false
 | [.un,_]=>false
 | [.bE _,_]=>false
 | _=>true
def blC(T:Nat)(p:PV):List PV:= [.bE [.un,.d (.int .i64 T)],p]
def itC(s:List UInt8)(p:Int):PV:= .bE [.d (.str s),.d (.int .i64 p)]
def uT(X:Nat→Prop)(w:World)(R:Ref→Value→Prop):cg→bH→Prop
 | .blk b c,.box cs=> ∃vs T,(w.heap[b]?=some (uS b vs T)∧off c=0)∧aY X w R cs vs.toList
 | .blk b c,.own e k cs=>0<k∧ ∃cur xs,jW w b cur e∧cur.size=off c+cp c*k∧cp c≤maxLen∧(∃n,cs.length=n*k)∧cs.length≤cp c*k∧(cur.toList.drop (off c)).take cs.length=xs∧aY X w R (cs.map .d) xs
 | .nil a,.own _ k cs=>0<k∧cs= []
 | .nil _,.box _=>False
abbrev Mu(X:Nat→Prop)(w:World)(φ:Nat→cg)(H:Nat→cq):cg→bH→Prop:=uT X w (bh φ H)
theorem Mv{X:Nat→Prop}{w:World}{φ:Nat→cg}{H:Nat→cq}{p:PV}{q:Array Value}(h1:cJ X w (bh φ H) p (.tuple q)):p= .un∨ ∃cs,p= .bE cs:=by
 cases p with
 | un=>exact .inl rfl
 | bE cs=>exact .inr ⟨cs,rfl⟩
 | d x=>cases x with
  | sl n cs=>obtain ⟨a,c,e,_⟩:=h1;cases e
  | un=>cases h1
  | err b=>rcases h1 with ⟨_,h1⟩ | ⟨_,_,_,h1⟩<;>cases h1
  | _=>cases h1
 | agg _=>obtain ⟨_,e,_⟩:=h1;cases e
 | r x=>cases x with
  | own=>exact h1.elim
  | ptr=>obtain ⟨⟨_,_,e⟩,_⟩:=h1;cases e
  | aJ=>obtain ⟨⟨_,_,_,e⟩,_⟩:=h1;cases e
 | cD _=>obtain ⟨_,_,e,_⟩:=h1;cases e
 | nil=>obtain ⟨_,e⟩:=h1;cases e
 | fn=>obtain ⟨_,e,_⟩:=h1;cases e
 | jo=>obtain ⟨⟨_,_,e,_⟩,_⟩:=h1;cases e
theorem adf{X:Nat→Prop}{w:World}{φ:Nat→cg}{H:Nat→cq}{cs:List PV}{vs:List Value}(h:gT cs=true)(hr:aY X w (bh φ H) cs vs):Mt vs=none:=by
 unfold Mt
 split
 ·rename_i q
  exfalso
  cases cs with
  | nil=>cases hr
  | cons p ps=>
   obtain ⟨v,r,e,h1,h2⟩:=hr
   cases e
   cases ps with
   | cons a b=>obtain ⟨v2,r2,e2,_⟩:=h2;cases e2
   | nil=>rcases Mv h1 with rfl | ⟨_,rfl⟩<;>cases h
 ·rfl
theorem adg{X:Nat→Prop}{w:World}{φ:Nat→cg}{H:Nat→cq}{cs:List PV}{vs:List Value}(b:Nat)(h:gT cs=true)(hr:aY X w (bh φ H) cs vs):Y6 b vs=none:=by
 unfold Y6
 split
 ·rename_i q v
  exfalso
  cases cs with
  | nil=>cases hr
  | cons p ps=>
   obtain ⟨v1,r,e,h1,h2⟩:=hr
   cases e
   cases ps with
   | nil=>cases h2
   | cons a ps=>
    obtain ⟨v2,r2,e2,h3,h4⟩:=h2
    cases e2
    cases ps with
    | cons a b=>obtain ⟨_,_,e3,_⟩:=h4;cases e3
    | nil=>rcases Mv h1 with rfl | ⟨_,rfl⟩<;>cases h
 ·rfl
theorem lT{X:Nat→Prop}{w:World}{φ:Nat→cg}{H:Nat→cq}{cs:List PV}{vs:Array Value}{b:Nat}(T:TypeId)(h:gT cs=true)(hr:aY X w (bh φ H) cs vs.toList):uS b vs T= .cells vs T (0,0):=by
 unfold uS;rw [adf h hr];simp only [adg b h hr]
theorem apz{X:Nat→Prop}{w:World}{R:Ref→Value→Prop}{U:Nat}{p:PV}{x v:Value}(h:cJ X w R p v):aY X w R (blC U p) [.tuple #[x,.int .i64 (U:Int)],v]:=
 ⟨_,_,rfl,⟨_,rfl,_,_,rfl,trivial,_,_,rfl,rfl,rfl⟩,_,_,rfl,h,rfl⟩
theorem adh{cs:List PV}(h: ∃x,.d x∈cs)(h2:cs.length≠2∨ ∃x y,cs= [.d x,y]):gT cs=true:=by
 obtain ⟨x,hx⟩:=h
 unfold gT
 split
 ·simp at hx
 ·simp at hx
 ·rcases h2 with h2 | ⟨_,_,h2⟩
  ·exact absurd rfl h2
  ·cases h2
 ·rcases h2 with h2 | ⟨_,_,h2⟩
  ·exact absurd rfl h2
  ·cases h2
 ·rfl
def wT:bH→Option bH→Prop
 | .box _,some (.box _)=>True
 | .own e k _,some (.own e' k' _)=>e=e'∧k=k'
 | _,_=>False
def Vh:bH→Bool
 | .box _=>true
 | _=>false
def cV(E:Nat→Prop)(φ:Nat→cg)(b:Nat):Prop:=E b∨ ∃i c,φ i= .blk b c

structure Mem (E:Nat→Prop) (m:List bH) (aP:Nat→cg) (w0:World) (φ:Nat→cg) (H:Nat→cq) (w:World):Prop where
 rep: ∀i b,(H i).b=some b→Mu (cV E φ) w φ H (φ i) b
 inj: ∀i j b c c',φ i= .blk b c→φ j= .blk b c'→i=j
 lt: ∀i b c,φ i= .blk b c→b<w.heap.size∧(w0.heap.size≤b∨(i<m.length∧ ∃c',aP i= .blk b c'))
 ext: ∀b,E b→b<w0.heap.size
 m8:m.length≤8
 pass: ∀i b0,m[i]?=some b0→wT b0 (H i).b∧(Vh b0=true∨(H i).g=0→φ i=aP i)
 sz:w0.heap.size≤w.heap.size
 os:w.os=w0.os
 tape:w.tape=w0.tape
 out:w.output=w0.output
 fr: ∀b,b<w0.heap.size→(∀i c,i<m.length→aP i≠ .blk b c)→w.heap[b]?=w0.heap[b]?
structure Tr (E:Nat→Prop) (φ:Nat→cg) (H:Nat→cq) (w:World) (bp:Nat→cg) (H':Nat→cq) (w':World):Prop where
 ch:Ch (cV E φ) (cV E bp) w w'
 ref: ∀r v,bh φ H r v→bh bp H' r v
section
variable {E : Nat → Prop} {m : List bH} {aP φ bp : Nat → cg} {H H' : Nat → cq} {w0 w w' : World}
theorem Tr.refl:Tr E φ H w φ H w:=⟨Ch.refl _ _,fun _ _ h=>h⟩
theorem Tr.trans{avI:Nat→cg}{H'':Nat→cq}{w'':World}(h:Tr E φ H w bp H' w')(k:Tr E bp H' w' avI H'' w''):Tr E φ H w avI H'' w'':=
 ⟨h.ch.trans k.ch,fun r v q=>k.ref r v (h.ref r v q)⟩
theorem Tr.v(h:Tr E φ H w bp H' w'){p:PV}{v:Value}(q:cJ (cV E φ) w (bh φ H) p v):cJ (cV E bp) w' (bh bp H') p v:=cJ.keep h.ch h.ref p v q
theorem Tr.l(h:Tr E φ H w bp H' w'){p:List PV}{v:List Value}(q:aY (cV E φ) w (bh φ H) p v):aY (cV E bp) w' (bh bp H') p v:=aY.keep h.ch h.ref p v q
def like:Option bH→Option bH→Prop
 | some (.box _),some (.box _)=>True
 | some (.own e k cs),some (.own e' k' cs')=>e=e'∧k=k'∧cs.length=cs'.length
 | _,none=>True
 | _,_=>False
theorem Mem.upd(h:Mem E m aP w0 φ H w)(I:Nat→Prop)
  (h1: ∀j,¬I j→bp j=φ j∧H' j=H j)
  (h2: ∀j,I j→(H j).g<(H' j).g∨(bp j=φ j∧(H' j).g=(H j).g∧like (H j).b (H' j).b))
  (h3: ∀b,b<w.heap.size→(∀i c,I i→φ i≠ .blk b c)→w'.heap[b]?=w.heap[b]?)
  (h4: ∀j b c,I j→bp j= .blk b c→b<w'.heap.size∧(w.heap.size≤b∨ ∃c',φ j= .blk b c'))
  (h5: ∀i j b c c',I i→I j→bp i= .blk b c→bp j= .blk b c'→i=j)
  (h9: ∀j,I j→j<m.length→(∀b0,wT b0 (H j).b→wT b0 (H' j).b)∧(bp j=φ j∨ ∃e k cs,(H j).b=some (.own e k cs)))
  (h6:w.heap.size≤w'.heap.size) (h7:w'.os=w.os∧w'.tape=w.tape∧w'.output=w.output)
  (h8:Tr E φ H w bp H' w'→ ∀j b,I j→(H' j).b=some b→Mu (cV E bp) w' bp H' (bp j) b):
  Mem E m aP w0 bp H' w'∧Tr E φ H w bp H' w':=by
 have hX: ∀b,b<w.heap.size→ ¬cV E φ b→ ¬cV E bp b:=by
  intro b hb hx EF
  rcases EF with EF | ⟨i,c,hi⟩
  ·exact hx (.inl EF)
  ·by_cases hI:I i
   ·rcases (h4 i b c hI hi).2 with h' | ⟨c',h'⟩
    ·omega
    ·exact hx (.inr ⟨i,c',h'⟩)
   ·rw [(h1 i hI).1] at hi;exact hx (.inr ⟨i,c,hi⟩)
 have tr:Tr E φ H w bp H' w':=by
  refine ⟨⟨h6,fun b hb hx=>⟨h3 b hb fun i c _ hi=>hx (.inr ⟨i,c,hi⟩),hX b hb hx⟩⟩,?_⟩
  intro r v hr
  cases r with
  | own=>exact hr
  | ptr i g o=>
   obtain ⟨q0,q1,q2⟩:=hr
   by_cases hI:I i
   ·rcases h2 i hI with hg | ⟨e1,e2,e3⟩
    ·exact ⟨q0,by omega,fun e=>by omega⟩
    ·refine ⟨q0,by omega,fun e hs=>?_⟩
     rw [e1]
     refine q2 (by omega) ?_
     cases hb:(H i).b with
     | some=>rfl
     | none=>cases hb':(H' i).b with
      | none=>rw [hb'] at hs;cases hs
      | some x=>rw [hb,hb'] at e3;cases x<;>exact e3.elim
   ·refine ⟨q0,?_⟩
    rw [(h1 i hI).2,(h1 i hI).1];exact ⟨q1,q2⟩
  | aJ i g l n=>
   obtain ⟨q0,q1,q2⟩:=hr
   by_cases hI:I i
   ·rcases h2 i hI with hg | ⟨e1,e2,e3⟩
    ·exact ⟨q0,by omega,fun e=>by omega⟩
    ·refine ⟨q0,by omega,fun e e' k cs' hs=>?_⟩
     rw [e1]
     rw [hs] at e3
     cases hb:(H i).b with
     | none=>rw [hb] at e3;exact e3.elim
     | some x=>
      rw [hb] at e3
      cases x with
      | box=>exact e3.elim
      | own e1 k1 cs1=>
       obtain ⟨rfl,rfl,hl⟩:=e3
       rw [←hl]
       exact q2 (by omega) _ _ _ hb
   ·refine ⟨q0,?_⟩
    rw [(h1 i hI).2,(h1 i hI).1];exact ⟨q1,q2⟩
 refine ⟨⟨?_,?_,?_,h.ext,h.m8,(fun i b0 hi=>by
  obtain ⟨p1,p2⟩:=h.pass i b0 hi
  have kY:=(List.getElem?_eq_some_iff.1 hi).1
  by_cases hI:I i
  ·obtain ⟨q1,q2⟩:=h9 i hI kY
   refine ⟨q1 b0 p1,fun hb=>?_⟩
   have g0:(H' i).g=0→bp i=φ i∧(H i).g=0:=fun hg=>by
    rcases h2 i hI with h | ⟨h,h',_⟩
    ·omega
    ·exact ⟨h,by omega⟩
   rcases hb with hb | hb
   ·rcases q2 with q2 | ⟨e,k,cs,q2⟩
    ·rw [q2];exact p2 (.inl hb)
    ·rw [q2] at p1;cases b0<;>first | exact p1.elim | cases hb
   ·obtain ⟨h,h'⟩:=g0 hb
    rw [h];exact p2 (.inr h')
  ·rw [(h1 i hI).1,(h1 i hI).2];exact ⟨p1,p2⟩),Nat.le_trans h.sz h6,h7.1.trans h.os,h7.2.1.trans h.tape,h7.2.2.trans h.out,?_⟩,tr⟩
 ·intro i b hb
  by_cases hI:I i
  ·exact h8 tr i b hI hb
  ·rw [(h1 i hI).2] at hb
   have q:=h.rep i b hb
   rw [(h1 i hI).1]
   have same: ∀k c,φ i= .blk k c→w'.heap[k]?=w.heap[k]?:=fun k c hk=>h3 k (h.lt i k c hk).1 fun i' c' hI' hk'=>by
    have:=h.inj i i' k c c' hk hk'
    subst this;exact hI hI'
   generalize hp:φ i=p at*
   cases p with
   | nil a=>cases b<;>exact q
   | blk k c=>
    cases b with
    | box cs=>
     obtain ⟨vs,T,q1,q2⟩:=q
     exact ⟨vs,T,⟨(same k c rfl).trans q1.1,q1.2⟩,tr.l q2⟩
    | own e kk cs=>
     obtain ⟨q0,cur,xs,q1,q2,q3,q4,q5,q6,q7⟩:=q
     exact ⟨q0,cur,xs,q1.keep (same k c rfl),q2,q3,q4,q5,q6,tr.l q7⟩
 ·intro i j b c c' hi hj
  by_cases hI:I i
  ·by_cases hJ:I j
   ·exact h5 i j b c c' hI hJ hi hj
   ·rw [(h1 j hJ).1] at hj
    have:=(h.lt j b c' hj).1
    rcases (h4 i b c hI hi).2 with h' | ⟨c2,h'⟩
    ·omega
    ·exact h.inj i j b c2 c' h' hj
  ·rw [(h1 i hI).1] at hi
   by_cases hJ:I j
   ·have:=(h.lt i b c hi).1
    rcases (h4 j b c' hJ hj).2 with h' | ⟨c2,h'⟩
    ·omega
    ·exact h.inj i j b c c2 hi h'
   ·rw [(h1 j hJ).1] at hj
    exact h.inj i j b c c' hi hj
 ·intro i b c hi
  by_cases hI:I i
  ·have:=(h4 i b c hI hi)
   refine ⟨this.1,?_⟩
   rcases this.2 with h' | ⟨c',h'⟩
   ·exact .inl (Nat.le_trans h.sz h')
   ·exact (h.lt i b c' h').2
  ·rw [(h1 i hI).1] at hi
   exact ⟨Nat.lt_of_lt_of_le (h.lt i b c hi).1 h6,(h.lt i b c hi).2⟩
 ·intro b hb hn
  rw [h3 b (Nat.lt_of_lt_of_le hb h.sz) ?_]
  ·exact h.fr b hb hn
  ·intro i c _ hi
   rcases (h.lt i b c hi).2 with h' | ⟨him,c',h'⟩
   ·omega
   ·exact hn i c' him h'
theorem Mem.drew(h:Mem E m aP w0 φ H w):Mem E m aP w0 φ H w.drew∧Tr E φ H w φ H w.drew:=
 h.upd (fun _=>False) (fun _ _=>⟨rfl,rfl⟩) (fun _ q=>q.elim) (fun _ _ _=>rfl) (fun _ _ _ q=>q.elim) (fun _ _ _ _ _ q=>q.elim) (fun _ q=>q.elim) (Nat.le_refl _) ⟨rfl,rfl,rfl⟩ (fun _ _ _ q=>q.elim)
end
end Go.Proofs.YtimbfadnabfabaaGreatDoor.Pm

namespace Go.Proofs.YtimbfadnabfabaaGreatDoor.Pm

def PV.int?:PV→Option (IntKind×Int) | .d (.int k n)=>some (k,n) | _=>none
def PV.bool?:PV→Option Bool | .d (.bool b)=>some b | _=>none
def PV.qJ:PV→Option (List UInt8) | .d (.str s)=>some s | _=>none
def PV.cells?:PV→Option (List PV)
 | .agg cs=>some cs
 | .d x=>some [.d x]
 | .r x=>some [.r x]
 | .fn f cs=>some [.fn f cs]
 | .nil=>some [.nil]
 | .cD cs=>some [.cD cs]
 | .jo z n cs=>some [.jo z n cs]
 | _=>none
def uU:PV→Bool
 | .agg _ | .bE _ | .un=>false
 | _=>true
def ofConst:Value→PV
 | .int k n=> .d (.int k n)
 | .bool b=> .d (.bool b)
 | .string s=> .d (.str s.data.toList)
 | .slice none 0 0=> .nil
 | .nilIface=> .d (.err false)
 | _=> .un
def look(H:Nat→cq)(i g:Nat):Option bH:=if g=(H i).g then (H i).b else none
def aZ(d j:Nat):Nat:=8*d+8+j
def nw(H:Nat→cq)(i:Nat)(b:bH):Nat×cq:=(i,⟨(H i).g+1,some b⟩)
def toD:PV→Option PD
 | .d x=>some x
 | .nil=>some (.sl 0 [])
 | .jo _ n cs=>some (.sl n cs)
 | _=>none
def pT:List PV→Option (List PD)
 | []=>some []
 | p::ps=>match toD p,pT ps with
  | some x,some xs=>some (x::xs)
  | _,_=>none
def fJ(H:Nat→cq):PV→Option (Nat×List PD)
 | .d (.sl n cs)=>some (n,cs)
 | .nil=>some (0,[])
 | .jo _ n cs=>some (n,cs)
 | .r (.aJ i g l n)=>match look H i g with
  | some (.own _ k cs)=>some (n,(cs.drop (l*k)).take (n*k))
  | _=>none
 | _=>none
def Ow:List UInt8→List PD
 | []=> []
 | b::t=> .int .u8 (b.toNat:Int)::Ow t
def Re(H:Nat→cq)(k:Nat):PV→Option (Nat×List PD)
 | .d (.str s)=>if k=1 then some (s.length,Ow s) else none
 | v=>fJ H v
theorem apA{H:Nat→cq}{k:Nat}{p:PV}{r:Nat×List PD}(h:fJ H p=some r):Re H k p=some r:=by
 unfold Re
 split
 ·simp [fJ] at h
 ·exact h
def cO(op:BinOp)(k:IntKind)(x y:Int):Int:=
 let a:=BitVec.ofInt k.bits x
 let b:=BitVec.ofInt k.bits y
 match op with
 | .and=>k.wrap (a&&&b).toNat
 | .or=>k.wrap (a ||| b).toNat
 | .xor=>k.wrap (a^^^b).toNat
 | _=>k.wrap (a&&& ~~~b).toNat
def arith(op:BinOp)(k:IntKind)(x y:Int):Option Int:=
 match op with
 | .add=>some (k.wrap (x+y))
 | .sub=>some (k.wrap (x-y))
 | .mul=>some (k.wrap (x*y))
 | .quo=>if y=0 then none else some (k.wrap (x.tdiv y))
 | .rem=>if y=0 then none else some (x.tmod y)
 | .and=>some (cO .and k x y)
 | .or=>some (cO .or k x y)
 | .xor=>some (cO .xor k x y)
 | .andNot=>some (cO .andNot k x y)
 | _=>none
def Rf(op:BinOp)(k:IntKind)(x y:Int):Option Int:=
 match op with
 | .shl=>if 0≤y then some (k.wrap (x*2^(min y.toNat k.bits))) else none
 | .shr=>if 0≤y then some (x.fdiv (2^(min y.toNat k.bits))) else none
 | _=>none
def ahc(op:BinOp)(x y:Int):Option Bool:=
 match op with
 | .eql=>some (decide (x=y))
 | .neq=>some (!decide (x=y))
 | .lss=>some (decide (x<y))
 | .leq=>some (decide (x≤y))
 | .gtr=>some (decide (y<x))
 | .geq=>some (decide (y≤x))
 | _=>none
def ahd(op:BinOp)(x y:List UInt8):Option Bool:=
 match op with
 | .eql=>some (decide (x=y))
 | .neq=>some (!decide (x=y))
 | .lss=>some (Op.bytesLess x y)
 | .leq=>some (Op.bytesLess x y || decide (x=y))
 | .gtr=>some (!(Op.bytesLess x y || decide (x=y)))
 | .geq=>some (!Op.bytesLess x y)
 | _=>none
inductive LK where
 | int | bool | str
 deriving DecidableEq,Inhabited
def eqC:LK→PV→PV→Option Bool
 | .int,.d (.int k a),.d (.int k' b)=>if k=k' then some (decide (a=b)) else none
 | .bool,.d (.bool a),.d (.bool b)=>some (decide (a=b))
 | .str,.d (.str a),.d (.str b)=>some (decide (a=b))
 | _,_,_=>none
def Rg:List LK→List PV→List PV→Option Bool
 | [],[],[]=>some true
 | k::ks,x::xs,y::ys=>match eqC k x y,Rg ks xs ys with
  | some a,some b=>some (a&&b)
  | _,_=>none
 | _,_,_=>none
def bZ{α:Type}(cs:List α)(o:Nat)(new:List α):List α:=cs.take o++new++cs.drop (o+new.length)
def part(agg:Bool)(cs:List PV)(o n:Nat):Option PV:=
 if agg then (if o+n≤cs.length then some (.agg ((cs.drop o).take n)) else none) else cs[o]?
def nP(agg:Bool)(cs:List PD)(o n:Nat):Option PV:=
 if agg then (if o+n≤cs.length then some (.agg (((cs.drop o).take n).map .d)) else none) else cs[o]?.map .d
def jc:List (Nat×Value)→List PV
 | []=> []
 | (n,v)::r=>List.replicate n (ofConst v)++jc r
def pG(ρ:Operand→PV):List PV→List (Nat×Nat×Operand)→Option (List PV)
 | cs,[]=>some cs
 | cs,(o,n,x)::r=>match (ρ x).cells? with
  | some new=>if new.length=n∧o+n≤cs.length then pG ρ (bZ cs o new) r else none
  | none=>none

def Bv:PV→Bool
 | .un=>false
 | .bE _=>false
 | .agg _=>false
 | _=>true
def Y7:bH→Option (List PD)
 | .box cs=>if cs.all Bv=true then some (cs.map fun p=>(toD p).getD .un) else none
 | .own _ _ cs=>some cs
mutual
def gA(H:Nat→cq):PV→Option PV
 | .d x=>some (.d x)
 | .agg cs=>(gU H cs).map .agg
 | .fn f cs=>(gU H cs).map (.fn f)
 | .cD cs=>some (.cD cs)
 | .nil=>some (.d (.sl 0 []))
 | .jo _ n cs=>some (.d (.sl n cs))
 | .un=>some .un
 | .bE _=>none
 | .r (.ptr i g o)=>match look H i g with
  | some b=>(Y7 b).map fun cs=> .cD (cs.drop o)
  | none=>none
 | .r (.aJ i g l n)=>match look H i g with
  | some (.own _ k cs)=>some (.d (.sl n ((cs.drop (l*k)).take (n*k))))
  | _=>none
 | .r (.own ..)=>none
def gU(H:Nat→cq):List PV→Option (List PV)
 | []=>some []
 | p::ps=>match gA H p,gU H ps with
  | some x,some xs=>some (x::xs)
  | _,_=>none
end
mutual
def dw:PV→List Nat
 | .agg cs=>bA cs
 | .bE cs=>bA cs
 | .fn _ cs=>bA cs
 | .r (.ptr i _ _)=> [i]
 | .r (.aJ i _ _ _)=> [i]
 | _=> []
def bA:List PV→List Nat
 | []=> []
 | p::ps=>dw p++bA ps
end
mutual
def fM:PV→Bool
 | .d (.sl _ cs)=>cs.isEmpty
 | .d _=>true
 | .agg cs=>mQ cs
 | .bE cs=>mQ cs
 | .fn _ cs=>mQ cs
 | .r (.own _ _ _ _ cs)=>cs.all fun | .sl _ ds=>ds.isEmpty | _=>true
 | .r _=>true
 | .cD cs=>false
 | .jo _ _ cs=>cs.isEmpty
 | .nil=>true
 | .un=>true
def mQ:List PV→Bool
 | []=>true
 | p::ps=>fM p&&mQ ps
end
mutual
def Ah(H:Nat→cq)(d:Nat):PV→PV
 | .agg cs=> .agg (Rh H d cs)
 | .bE cs=> .bE (Rh H d cs)
 | .fn f cs=> .fn f (Rh H d cs)
 | .r (.own j _ _ n _)=> .r (.aJ (aZ d j) ((H (aZ d j)).g+1) 0 n)
 | .r _=> .un
 | p=>p
def Rh(H:Nat→cq)(d:Nat):List PV→List PV
 | []=> []
 | p::ps=>Ah H d p::Rh H d ps
end
mutual
def owns:PV→List (Nat×bH)
 | .agg cs=>eB cs
 | .bE cs=>eB cs
 | .fn _ cs=>eB cs
 | .r (.own j e k _ cs)=> [(j,.own e k cs)]
 | _=> []
def eB:List PV→List (Nat×bH)
 | []=> []
 | p::ps=>owns p++eB ps
end
mutual
def mj(D:Nat→Bool)(H:Nat→cq):PV→PV
 | .agg cs=> .agg (jO D H cs)
 | .bE cs=> .bE (jO D H cs)
 | .fn f cs=> .fn f (jO D H cs)
 | .r (.aJ i g l n)=>if D i then (match look H i g with
  | some (.own _ k cs)=> .d (.sl n ((cs.drop (l*k)).take (n*k)))
  | _=> .un) else .r (.aJ i g l n)
 | .r (.ptr i g o)=>if D i then .un else .r (.ptr i g o)
 | p=>p
def jO(D:Nat→Bool)(H:Nat→cq):List PV→List PV
 | []=> []
 | p::ps=>mj D H p::jO D H ps
end
def Au(D:Nat→Bool)(H:Nat→cq):Option bH→Option bH
 | some (.box cs)=>some (.box (jO D H cs))
 | b=>b
def kr(l:List Nat)(i:Nat):Bool:=l.any (Nat.beq i)
def distinct:List Nat→Bool
 | []=>true
 | x::xs=>xs.all (fun y=> !Nat.beq x y)&&distinct xs

def yV:List (Nat×LK)→List LK
 | []=> []
 | (n,k)::r=>List.replicate n k++yV r
inductive kj where
 | Cx (x:Operand)
 | FC (e k:Nat)
 | pick (c a b:Operand)
 | qK (op:BinOp) (x y:Operand)
 | sh (op:BinOp) (x y:Operand)
 | sQ (op:BinOp) (x y:Operand)
 | jD (op:BinOp) (x y:Operand)
 | eqB (neg:Bool) (x y:Operand)
 | Vi (neg:Bool) (ks:List (Nat×LK)) (x y:Operand)
 | isN (neg:Bool) (x:Operand)
 | isE (neg:Bool) (x:Operand)
 | ahf (x:Operand)
 | HN (e:Nat) (x:Operand)
 | un (op:UnOp) (x:Operand)
 | ku (k:IntKind) (x:Operand)
 | sS (x:Operand)
 | Ri (x:Operand)
 | Rj (x:Operand)
 | box (n:Nat) (x:Operand)
 | alloc (zero:List (Nat×Value))
 | uV (T:Nat)
 | build (zero:List (Nat×Value)) (ps:List (Nat×Nat×Operand))
 | wU (e k n:Nat) (zero:List (Nat×Value)) (ps:List (Nat×Nat×Operand))
 | load (agg:Bool) (n:Nat) (x:Operand)
 | store (n:Nat) (x y:Operand)
 | Mw (x:Operand)
 | Rk (o:Nat) (x:Operand)
 | Rl (agg:Bool) (o n:Nat) (x:Operand)
 | sN (len k:Nat) (x i:Operand)
 | jz (e k:Nat) (x i:Operand)
 | GH (agg:Bool) (len k:Nat) (x i:Operand)
 | iw (x i:Operand)
 | uW (e k:Nat) (x:Operand) (lo hi:Option Operand)
 | uX (x:Operand) (lo hi:Option Operand)
 | Rm (e k:Nat) (x:Operand)
 | ext (x:Operand) (i:Nat)
 | mkF (f:Nat) (cs:List Operand)
 | call (f:Nat) (xs:List Operand)
 | lU (x:Operand) (xs:List Operand)
 | fO (f:Nat) (xs:List Operand)
 | jd (f:Nat) (xs:List Operand)
 | app (e k bytes:Nat) (x y:Operand)
 | len (str:Bool) (x:Operand)
 | Ox (len k:Nat) (x:Operand) (lo hi:Option Operand)
 | Oy (k:Nat) (zero:List (Nat×Value)) (x:Operand)
 | HP (e k:Nat) (x:Operand) (lo hi:Option Operand)
 | Oz (e k bytes:Nat) (zero:List (Nat×Value)) (l c:Operand)
 | Cy (k:Nat) (x y:Operand)
 | Vj (x:Operand)
 | OA (x:Operand)
 | mx (xs:List Operand)
 | mn (xs:List Operand)
 deriving Inhabited

def jP(ρ:Operand→PV)(dflt:Nat):Option Operand→Option Nat
 | none=>some dflt
 | some x=>match (ρ x).int? with
  | some (_,i)=>if 0≤i then some i.toNat else none
  | none=>none
def ints(ρ:Operand→PV):List Operand→Option (List (IntKind×Int))
 | []=>some []
 | x::xs=>match (ρ x).int?,ints ρ xs with
  | some a,some l=>some (a::l)
  | _,_=>none
abbrev eu:=List (Nat×cq)
abbrev ek:=Nat→List PV→List bH→Option (PV×List bH)
def Mx(γ:ek)(f:Nat)(args:List PV):Option PV:=match γ f args [] with
 | some (r,[])=>some r
 | _=>none
def posOf:List Nat→Nat→Option Nat
 | [],_=>none
 | x::xs,i=>if x=i then some 0 else match posOf xs i with
  | some p=>some (p+1)
  | none=>none
mutual
def HQ(ids:List Nat)(H:Nat→cq):PV→PV
 | .agg cs=> .agg (wN ids H cs)
 | .bE cs=> .bE (wN ids H cs)
 | .fn f cs=> .fn f (wN ids H cs)
 | .r (.ptr i g o)=>match look H i g,posOf ids i with
  | some _,some p=> .r (.ptr p 0 o)
  | _,_=> .un
 | .r (.aJ i g l n)=>match look H i g,posOf ids i with
  | some _,some p=> .r (.aJ p 0 l n)
  | _,_=> .un
 | .r (.own ..)=> .un
 | p=>p
def wN(ids:List Nat)(H:Nat→cq):List PV→List PV
 | []=> []
 | p::ps=>HQ ids H p::wN ids H ps
end
def nQ(ids:List Nat)(H:Nat→cq):bH→bH
 | .box cs=> .box (wN ids H cs)
 | b=>b
def dedup:List Nat→List Nat
 | []=> []
 | x::xs=>if (dedup xs).any (Nat.beq x) then dedup xs else x::dedup xs
def Vk:Option bH→List Nat
 | some (.box cs)=>bA cs
 | _=> []
def fK(H:Nat→cq)(args:List PV):List Nat:=dedup (bA args++(bA args).flatMap fun i=>Vk (H i).b)
def gH(H:Nat→cq):List Nat→Option (List bH)
 | []=>some []
 | i::r=>match (H i).b,gH H r with
  | some b,some l=>some (b::l)
  | _,_=>none
def pU(fx:Bool)(H:Nat→cq)(i:Nat):Nat:=match fx,(H i).b with
 | false,some (.own ..)=>(H i).g+1
 | _,_=>(H i).g
mutual
def qL(fx:Bool)(ids:List Nat)(H:Nat→cq)(d:Nat):PV→PV
 | .agg cs=> .agg (OB fx ids H d cs)
 | .bE cs=> .bE (OB fx ids H d cs)
 | .fn f cs=> .fn f (OB fx ids H d cs)
 | .r (.ptr p _ o)=>match ids[p]? with
  | some i=> .r (.ptr i (pU fx H i) o)
  | none=> .un
 | .r (.aJ p _ l n)=>match ids[p]? with
  | some i=> .r (.aJ i (pU fx H i) l n)
  | none=> .un
 | .r (.own j _ _ n _)=> .r (.aJ (aZ d j) ((H (aZ d j)).g+1) 0 n)
 | p=>p
def OB(fx:Bool)(ids:List Nat)(H:Nat→cq)(d:Nat):List PV→List PV
 | []=> []
 | p::ps=>qL fx ids H d p::OB fx ids H d ps
end
def Lg(fx:Bool)(ids:List Nat)(H:Nat→cq)(d:Nat):bH→bH
 | .box cs=> .box (OB fx ids H d cs)
 | b=>b
def wV:bH→List (Nat×bH)
 | .box cs=>eB cs
 | _=> []
def cA(r:PV)(bs:List bH):List (Nat×bH):=owns r++bs.flatMap wV
def j7(fx:Bool)(H:Nat→cq)(ids:List Nat)(d:Nat):List Nat→List bH→eu
 | i::is,b::bs=>(i,⟨pU fx H i,some (Lg fx ids H d b)⟩)::j7 fx H ids d is bs
 | _,_=> []
def nz1:PV→PV
 | .nil=> .d (.sl 0 [])
 | v=>v
def pZ:PV→PV
 | .agg cs=> .agg (cs.map nz1)
 | v=>v
theorem ahh{X:Nat→Prop}{w:World}{R:Ref→Value→Prop}{p:PV}{v:Value}(h:cJ X w R p v):cJ X w R (nz1 p) v:=by
 unfold nz1
 split
 ·obtain ⟨a,rfl⟩:=h
  exact ⟨a,0,rfl,Nat.le_refl _,Nat.zero_le _,fun _=>rfl,.inl rfl⟩
 ·exact h
theorem Rn{X:Nat→Prop}{w:World}{R:Ref→Value→Prop}: ∀(ps:List PV) (vs:List Value),aY X w R ps vs→aY X w R (ps.map nz1) vs
 | [],_,h=>h
 | p::ps,_,⟨v,r,e,h1,h2⟩=>⟨v,r,e,ahh h1,Rn ps r h2⟩
theorem ahi{X:Nat→Prop}{w:World}{R:Ref→Value→Prop}{p:PV}{v:Value}(h:cJ X w R p v):cJ X w R (pZ p) v:=by
 unfold pZ
 split
 ·obtain ⟨vs,e,h⟩:=h
  exact ⟨vs,e,Rn _ _ h⟩
 ·exact h
theorem My{X:Nat→Prop}{w:World}{R:Ref→Value→Prop}: ∀(ps:List PV) (vs:List Value),aY X w R ps vs→aY X w R (ps.map pZ) vs
 | [],_,h=>h
 | p::ps,_,⟨v,r,e,h1,h2⟩=>⟨v,r,e,ahi h1,My ps r h2⟩
def iy(H:Nat→cq):List Nat→List bH→Bool
 | i::is,b::bs=>(match (H i).b,b with
  | some (.own _ _ cs),.own _ _ cs'=>decide (cs'.length=cs.length)
  | _,_=>true)&&iy H is bs
 | _,_=>true
def wC(ids:List Nat)(bJ:List bH):Bool:=Nat.beq bJ.length (ids.length+1)
def Lh(H:Nat→cq)(ids:List Nat)(bJ:List bH):Bool:=if wC ids bJ=true then iy H ids bJ else decide (bJ.length=ids.length)
def mR(γ:ek)(H:Nat→cq)(d:Nat)(f:Nat)(args:List PV):Option (PV×eu):=
 match gH H (fK H args) with
 | none=>none
 | some bs=>match γ f (wN (fK H args) H args) (bs.map (nQ (fK H args) H)) with
  | none=>none
  | some (r,bJ)=>
   if (Lh H (fK H args) bJ&&decide ((fK H args).length≤8)&&distinct ((cA r bJ).map (·.1))&&(cA r bJ).all (fun x=>decide (x.1<8)&& !(fK H args).any (Nat.beq (aZ d x.1))))=true then
    some (qL (wC (fK H args) bJ) (fK H args) H d r,j7 (wC (fK H args) bJ) H (fK H args) d (fK H args) bJ++(cA r bJ).map fun x=>nw H (aZ d x.1) x.2)
   else none
def up'{α:Type}(f:Nat→α)(i:Nat)(x:α):Nat→α:=fun j=>if j=i then x else f j
def wW:(Nat→cq)→eu→(Nat→cq)
 | H,[]=>H
 | H,x::r=>wW (up' H x.1 x.2) r
def jq(γ:ek)(H:Nat→cq)(d:Nat)(f:Nat)(args:List PV):Option (PV×eu):=
 match gU H args with
 | none=>none
 | some l=>match Mx γ f l with
  | none=>none
  | some r=>
   if ((bA args).isEmpty || fM r)&&distinct ((owns r).map (·.1))&&(owns r).all (fun x=>decide (x.1<8)) then
    some (Ah H d r,(owns r).map fun x=>nw H (aZ d x.1) x.2)
   else none

def ig(H:Nat→cq)(l:List Nat):eu:=l.map fun i=>(i,⟨(H i).g+1,none⟩)
def tN(γ:ek)(H:Nat→cq)(d:Nat)(f:Nat)(args:List PV):Option (PV×eu):=
 if (bA args).all (fun i=>Nat.ble 8 i&&(List.range 8).all fun j=> !Nat.beq i (aZ d j))=true then
  match jq γ (wW H (ig H (bA args))) d f (jO (kr (bA args)) H args) with
  | some (p,aD)=>some (p,ig H (bA args)++aD)
  | none=>none
 else none

def az(γ:ek)(H:Nat→cq)(d:Nat)(ρ:Operand→PV):kj→Option (PV×eu)
 | .Cx x=>some (ρ x,[])
 | .FC e k=>some (.r (.aJ (aZ d 0) ((H (aZ d 0)).g+1) 0 0),[nw H (aZ d 0) (.own e k [])])
 | .pick c a b=>match (ρ c).bool? with
  | some t=>some (if t then ρ a else ρ b,[])
  | none=>none
 | .qK op x y=>match (ρ x).int?,(ρ y).int? with
  | some (k,a),some (k',b)=>if k=k' then (match arith op k a b with | some n=>some (.d (.int k n),[]) | none=>none) else none
  | _,_=>none
 | .sh op x y=>match (ρ x).int?,(ρ y).int? with
  | some (k,a),some (_,b)=>(match Rf op k a b with | some n=>some (.d (.int k n),[]) | none=>none)
  | _,_=>none
 | .sQ op x y=>match (ρ x).int?,(ρ y).int? with
  | some (k,a),some (k',b)=>if k=k' then (match ahc op a b with | some t=>some (.d (.bool t),[]) | none=>none) else none
  | _,_=>none
 | .jD op x y=>match (ρ x).qJ,(ρ y).qJ with
  | some a,some b=>(match op with
   | .add=>if ((a.length+b.length:Nat):Int)≤IntKind.i64.max then some (.d (.str (a++b)),[]) else none
   | _=>(match ahd op a b with | some t=>some (.d (.bool t),[]) | none=>none))
  | _,_=>none
 | .eqB neg x y=>match (ρ x).bool?,(ρ y).bool? with
  | some a,some b=>some (.d (.bool (if neg then !decide (a=b) else decide (a=b))),[])
  | _,_=>none
 | .HN e x=>match (ρ x).qJ with
  | some s=>if s.length≤140737488355328 then some (.r (.aJ (aZ d 0) ((H (aZ d 0)).g+1) 0 s.length),[nw H (aZ d 0) (.own e 1 (s.map fun b=> .int .u8 (b.toNat:Int)))]) else none
  | none=>none
 | .ahf x=>match (ρ x).qJ with
  | some s=>if s.length≤140737488355328 then some (.d (.sl s.length (s.map fun b=> .int .u8 (b.toNat:Int))),[]) else none
  | none=>none
 | .isE neg x=>match ρ x with
  | .d (.err b)=>some (.d (.bool (if neg then b else !b)),[])
  | _=>none
 | .isN neg x=>match ρ x with
  | .jo z _ _=>some (.d (.bool (if neg then !z else z)),[])
  | .d (.sl n _)=>if 0<n then some (.d (.bool neg),[]) else none
  | _=>none
 | .Vi neg ks x y=>match ρ x,ρ y with
  | .agg a,.agg b=>(match Rg (yV ks) a b with | some t=>some (.d (.bool (if neg then !t else t)),[]) | none=>none)
  | _,_=>none
 | .un op x=>match op,ρ x with
  | .neg,.d (.int k n)=>some (.d (.int k (k.wrap (0-n))),[])
  | .xor,.d (.int k n)=>some (.d (.int k (cO .xor k (if k.signed then-1 else k.max) n)),[])
  | .not,.d (.bool b)=>some (.d (.bool (!b)),[])
  | _,_=>none
 | .ku k x=>match (ρ x).int? with
  | some (_,n)=>some (.d (.int k (k.wrap n)),[])
  | none=>none
 | .sS x=>match fJ H (ρ x) with
  | some (n,cs)=>(match HR cs with | some l=>if l.length=n then some (.d (.str l),[]) else none | none=>none)
  | none=>none
 | .Ri x=>match (ρ x).int? with
  | some (_,n)=>some (.d (.str (Utf8.encode n).data.toList),[])
  | none=>none
 | .Rj x=>match (ρ x).qJ with
  | some s=>some (.d (.str s),[])
  | none=>none
 | .box n x=>match (ρ x).cells? with
  | some cs=>if cs.length=n∧gT cs=true then some (.r (.ptr (aZ d 0) ((H (aZ d 0)).g+1) 0),[nw H (aZ d 0) (.box cs)]) else none
  | none=>none
 | .uV T=>some (.r (.ptr (aZ d 0) ((H (aZ d 0)).g+1) 0),[nw H (aZ d 0) (.box (blC T .nil))])
 | .alloc z=>if gT (jc z)=true then some (.r (.ptr (aZ d 0) ((H (aZ d 0)).g+1) 0),[nw H (aZ d 0) (.box (jc z))]) else none
 | .build z ps=>match pG ρ (jc z) ps with
  | some cs=>some (.agg cs,[])
  | none=>none
 | .wU e k n z ps=>match pG ρ (jc z) ps with
  | some cs=>if (bA cs).all (fun i=>Nat.ble 8 i&& !Nat.beq i (aZ d 0))=true then (match pT (jO (kr (bA cs)) H cs) with
   | some ds=>if ds.length=n*k then some (.r (.aJ (aZ d 0) ((H (aZ d 0)).g+1) 0 n),((bA cs).map fun i=>(i,⟨(H i).g+1,none⟩))++ [nw H (aZ d 0) (.own e k ds)]) else none
   | none=>none) else none
  | none=>none
 | .load agg n x=>match ρ x with
  | .r (.ptr i g o)=>(match look H i g with
   | some (.box cs)=>if gT cs=true then (match part agg cs o n with | some p=>some (p,[]) | none=>none) else none
   | some (.own _ _ cs)=>(match nP agg cs o n with | some p=>some (p,[]) | none=>none)
   | none=>none)
  | .cD cs=>(match nP agg cs 0 n with | some p=>some (p,[]) | none=>none)
  | _=>none
 | .store n x y=>match ρ x,(ρ y).cells? with
  | .r (.ptr i g o),some new=>(match look H i g with
   | some (.box cs)=>if new.length=n∧o+n≤cs.length∧new.all uU=true∧gT cs=true∧gT (bZ cs o new)=true then some (.un,[(i,⟨g,some (.box (bZ cs o new))⟩)]) else none
   | some (.own e k cs)=>(match pT new with
    | some ds=>if ds.length=n∧o+n≤cs.length then some (.un,[(i,⟨g,some (.own e k (bZ cs o ds))⟩)]) else none
    | none=>none)
   | none=>none)
  | _,_=>none
 | .Mw x=>match ρ x with
  | .r (.ptr i g o)=>some (.r (.ptr i g o),[])
  | .cD cs=>some (.cD cs,[])
  | _=>none
 | .Rk o x=>match ρ x with
  | .r (.ptr i g o')=>some (.r (.ptr i g (o'+o)),[])
  | .cD cs=>some (.cD (cs.drop o),[])
  | _=>none
 | .Rl agg o n x=>match ρ x with
  | .agg cs=>(match part agg cs o n with | some p=>some (p,[]) | none=>none)
  | _=>none
 | .sN len k x i=>match ρ x,(ρ i).int? with
  | .r (.ptr b g o),some (_,j)=>if 0≤j∧j<len then some (.r (.ptr b g (o+j.toNat*k)),[]) else none
  | .cD cs,some (_,j)=>if 0≤j∧j<len then some (.cD (cs.drop (j.toNat*k)),[]) else none
  | _,_=>none
 | .jz e k x i=>match ρ x,(ρ i).int? with
  | .d (.sl n cs),some (_,j)=>if 0≤j∧j<n∧cs≠ [] then some (.cD (cs.drop (j.toNat*k)),[]) else none
  | .r (.aJ b g l n),some (_,j)=>if 0≤j∧j<n then (match look H b g with
   | some (.own _ k' _)=>if k'=k then some (.r (.ptr b g ((l+j.toNat)*k)),[]) else none
   | _=>none) else none
  | _,_=>none
 | .GH agg len k x i=>match ρ x,(ρ i).int? with
  | .agg cs,some (_,j)=>if 0≤j∧j<len then (match part agg cs (j.toNat*k) k with | some p=>some (p,[]) | none=>none) else none
  | _,_=>none
 | .iw x i=>match (ρ x).qJ,(ρ i).int? with
  | some s,some (_,j)=>if 0≤j∧j<s.length then some (.d (.int .u8 ((s.getD j.toNat 0).toNat:Int)),[]) else none
  | _,_=>none
 | .uW e k x lo hi=>match ρ x with
  | .d (.sl n cs)=>(match jP ρ 0 lo,jP ρ n hi with
   | some l,some h=>if l≤h∧h≤n then some (.d (.sl (h-l) ((cs.take (h*k)).drop (l*k))),[]) else none
   | _,_=>none)
  | .r (.aJ i g l0 n)=>(match jP ρ 0 lo,jP ρ n hi with
   | some l,some h=>if l≤h∧h≤n then (match look H i g with
    | some (.own _ k' _)=>if k'=k then some (.r (.aJ i g (l0+l) (h-l)),[]) else none
    | _=>none) else none
   | _,_=>none)
  | .nil=>(match jP ρ 0 lo,jP ρ 0 hi with
   | some 0,some 0=>some (.nil,[])
   | _,_=>none)
  | _=>none
 | .uX x lo hi=>match (ρ x).qJ with
  | some s=>(match jP ρ 0 lo,jP ρ s.length hi with
   | some l,some h=>if l≤h∧h≤s.length then some (.d (.str ((s.take h).drop l)),[]) else none
   | _,_=>none)
  | none=>none
 | .Rm e k x=>match fJ H (ρ x) with
  | some _=>some (.r (.aJ (aZ d 0) ((H (aZ d 0)).g+1) 0 0),[nw H (aZ d 0) (.own e k [])])
  | none=>none
 | .ext x i=>match ρ x with
  | .bE cs=>(match cs[i]? with | some p=>some (p,[]) | none=>none)
  | _=>none
 | .mkF f cs=>some (.fn f (cs.map ρ),[])
 | .call f xs=>jq γ H d f (xs.map ρ)
 | .fO f xs=>mR γ H d f ((xs.map ρ).map pZ)
 | .jd f xs=>tN γ H d f (xs.map ρ)
 | .lU x xs=>match ρ x with
  | .fn f cs=>jq γ H d f (xs.map ρ++cs)
  | _=>none
 | .app e k bytes x y=>match Re H k (ρ y) with
  | none=>none
  | some (m,ys)=>if ys.length=m*k then (match ρ x with
   | .r (.aJ i g 0 n)=>(match look H i g with
    | some (.own e' k' cs)=>if e'=e∧k'=k∧cs.length=n*k∧(n+m)*bytes≤140737488355328 then
      some (.r (.aJ i (g+1) 0 (n+m)),[(i,⟨g+1,some (.own e k (cs++ys))⟩)]) else none
    | _=>none)
   | .nil=>if m*bytes≤140737488355328 then some (.r (.aJ (aZ d 0) ((H (aZ d 0)).g+2) 0 m),[(aZ d 0,⟨(H (aZ d 0)).g+2,some (.own e k ys)⟩)]) else none
   | _=>none) else none
 | .len true x=>match (ρ x).qJ with
  | some s=>some (.d (.int .i64 s.length),[])
  | none=>none
 | .len false x=>match ρ x with
  | .d (.sl n _)=>some (.d (.int .i64 n),[])
  | .nil=>some (.d (.int .i64 0),[])
  | .r (.aJ i g _ n)=>(match look H i g with | some (.own ..)=>some (.d (.int .i64 n),[]) | _=>none)
  | _=>none
 | .Ox len k x lo hi=>match ρ x with
  | .r (.ptr i g 0)=>(match look H i g with
   | some (.box cs)=>(match pT cs,jP ρ 0 lo,jP ρ len hi with
    | some ds,some l,some h=>if 8≤i∧0<k∧ds.length=len*k∧len≤65536∧l≤h∧h≤len then some (.d (.sl (h-l) ((ds.take (h*k)).drop (l*k))),[(i,⟨g+1,none⟩)]) else none
    | _,_,_=>none)
   | _=>none)
  | _=>none
 | .HP _ k x lo hi=>match ρ x with
  | .r (.aJ i g 0 n)=>(match jP ρ 0 lo,jP ρ n hi with
   | some l,some h=>if l≤h∧h≤n∧(l=0∨l<h) then (match look H i g with
    | some (.own e k' cs)=>if k'=k then some (.r (.aJ i (g+1) 0 (h-l)),[(i,⟨g+1,some (.own e k' ((cs.take (h*k')).drop (l*k')))⟩)]) else none
    | _=>none) else none
   | _,_=>none)
  | _=>none
 | .Oy k z x=>match pT (jc z),ρ x with
  | some ds,.r (.aJ i g l n)=>(match look H i g with
   | some (.own e k' cs)=>if k'=k then some (.bE [],[(i,⟨g,some (.own e k' (bZ cs (l*k') ((List.replicate n ds).flatten)))⟩)]) else none
   | _=>none)
  | _,_=>none
 | .Oz e k bytes z l c=>match (ρ l).int?,(ρ c).int?,pT (jc z) with
  | some (_,a),some (_,b),some ds=>if 0≤a∧a≤b∧b.toNat*bytes≤140737488355328 then
    some (.r (.aJ (aZ d 0) ((H (aZ d 0)).g+1) 0 a.toNat),[nw H (aZ d 0) (.own e k ((List.replicate a.toNat ds).flatten))]) else none
  | _,_,_=>none
 | .Cy k x y=>match ρ x,fJ H (ρ y) with
  | .r (.aJ i g l n),some (m,ys)=>(match look H i g with
   | some (.own e k' cs)=>if k'=k∧ys.length=m*k then some (.d (.int .i64 (min m n:Nat)),[(i,⟨g,some (.own e k (bZ cs (l*k) (ys.take (min m n*k))))⟩)]) else none
   | _=>none)
  | _,_=>none
 | .Vj x=>match (ρ x).qJ with
  | some s=>some (.r (.ptr (aZ d 0) ((H (aZ d 0)).g+1) 0),[nw H (aZ d 0) (.box [itC s 0])])
  | none=>none
 | .OA x=>match ρ x with
  | .r (.ptr i g 0)=>(match look H i g with
   | some (.box [.bE [.d (.str s),.d (.int .i64 p)]])=>if 0≤p then (if p.toNat<s.length then
     some (.bE [.d (.bool true),.d (.int .i64 p),.d (.int .i32 (Utf8.decode ⟨s.toArray⟩ p.toNat).1)],[(i,⟨g,some (.box [itC s ((p.toNat+(Utf8.decode ⟨s.toArray⟩ p.toNat).2:Nat):Int)])⟩)])
    else some (.bE [.d (.bool false)],[])) else none
   | _=>none)
  | _=>none
 | .mx xs=>match ints ρ xs with
  | some ((k,a)::r)=>some (.d (.int k (r.foldl (fun x y=>if y.2>x then y.2 else x) a)),[])
  | _=>none
 | .mn xs=>match ints ρ xs with
  | some ((k,a)::r)=>some (.d (.int k (r.foldl (fun x y=>if y.2<x then y.2 else x) a)),[])
  | _=>none
where
 HR:List PD→Option (List UInt8)
  | []=>some []
  | .int .u8 n::r=>if 0≤n∧n<256 then (match HR r with | some l=>some (UInt8.ofNat n.toNat::l) | none=>none) else none
  | _=>none
end Go.Proofs.YtimbfadnabfabaaGreatDoor.Pm

namespace Go.Proofs.YtimbfadnabfabaaGreatDoor.Pm
open Go.RowKit

structure St where
 s:Nat→PV
 h:Nat→cq
def bU(s:Nat→PV):Operand→PV
 | .tmp t=>s t
 | .const v=>ofConst v
 | .global _=> .un
 | .func f=> .fn f []
def up{α:Type}(f:Nat→α)(i:Nat)(x:α):Nat→α:=fun j=>if j=i then x else f j
theorem aQ{α:Type}(f:Nat→α)(i:Nat)(x:α):up f i x i=x:=by simp [up]
theorem dK{α:Type}(f:Nat→α)(i j:Nat)(x:α)(h:j≠i):up f i x j=f j:=by simp [up,h]
def eJ:(Nat→cq)→eu→(Nat→cq)
 | H,[]=>H
 | H,x::r=>eJ (up H x.1 x.2) r

theorem gm(b o j:Nat):(⟨b,o,none⟩:Addr).add j=⟨b,o+j,none⟩:=by unfold Addr.add;split<;>simp_all
section
variable {X : Nat → Prop} {w : World} {R : Ref → Value → Prop}
theorem aY.len: ∀{ps:List PV} {vs:List Value},aY X w R ps vs→ps.length=vs.length
 | [],vs,h=>by have:vs= []:=h;subst this;rfl
 | p::ps,vs,⟨v,r,e,_,q⟩=>by subst e;simp [aY.len q]
theorem aY.get: ∀{ps:List PV} {vs:List Value},aY X w R ps vs→ ∀(i:Nat) p,ps[i]?=some p→ ∃v,vs[i]?=some v∧cJ X w R p v
 | [],_,_,i,p,h=>by simp at h
 | q::ps,vs,⟨v,r,e,h1,h2⟩,i,p,h=>by
  subst e
  cases i with
  | zero=>simp at h;subst h;exact ⟨v,rfl,h1⟩
  | succ i=>simpa using aY.get h2 i p (by simpa using h)
theorem aY.of: ∀{ps:List PV} {vs:List Value},ps.length=vs.length→(∀(i:Nat) p v,ps[i]?=some p→vs[i]?=some v→cJ X w R p v)→aY X w R ps vs
 | [],vs,h,_=>List.eq_nil_of_length_eq_zero (by simpa using h.symm)
 | p::ps,[],h,_=>by simp at h
 | p::ps,v::vs,h,hh=>⟨v,vs,rfl,hh 0 p v rfl rfl,aY.of (by simpa using h) fun i p' v' h1 h2=>hh (i+1) p' v' (by simpa using h1) (by simpa using h2)⟩
theorem aY.drop{ps:List PV}{vs:List Value}(h:aY X w R ps vs)(n:Nat):aY X w R (ps.drop n) (vs.drop n):=
 aY.of (by simp [h.len]) fun i p v h1 h2=>by
  rw [List.getElem?_drop] at h1 h2
  obtain ⟨v',e,q⟩:=h.get _ _ h1
  rw [h2] at e;cases e;exact q
theorem aY.take{ps:List PV}{vs:List Value}(h:aY X w R ps vs)(n:Nat):aY X w R (ps.take n) (vs.take n):=
 aY.of (by simp [h.len]) fun i p v h1 h2=>by
  rw [List.getElem?_take] at h1 h2
  split at h1
  ·rename_i hi
   rw [if_pos hi] at h2
   obtain ⟨v',e,q⟩:=h.get _ _ h1
   rw [h2] at e;cases e;exact q
  ·cases h1
theorem aY.app{ps qs:List PV}{vs us:List Value}(h:aY X w R ps vs)(k:aY X w R qs us):aY X w R (ps++qs) (vs++us):=by
 have hl:=h.len
 refine aY.of (by simp [h.len,k.len]) fun i p v h1 h2=>?_
 by_cases hi:i<ps.length
 ·rw [List.getElem?_append_left hi] at h1
  rw [List.getElem?_append_left (by omega)] at h2
  obtain ⟨v',e,q⟩:=h.get _ _ h1
  rw [h2] at e;cases e;exact q
 ·rw [List.getElem?_append_right (by omega)] at h1
  rw [List.getElem?_append_right (by omega),←hl] at h2
  obtain ⟨v',e,q⟩:=k.get _ _ h1
  rw [h2] at e;cases e;exact q
theorem fh.get: ∀{cs:List PD} {b o:Nat},fh X w cs b o→ ∀(i:Nat) x,cs[i]?=some x→ ∃v,w.cell? ⟨b,o+i,none⟩=some v∧dR X w x v
 | [],_,_,_,i,x,h=>by simp at h
 | y::cs,b,o,⟨⟨v,h1,h2⟩,h3⟩,i,x,h=>by
  cases i with
  | zero=>simp at h;subst h;exact ⟨v,h1,h2⟩
  | succ i=>
   have:=fh.get h3 i x (by simpa using h)
   rwa [show o+1+i=o+(i+1) by omega] at this
theorem fh.of: ∀{cs:List PD} {b o:Nat},(∀(i:Nat) x,cs[i]?=some x→ ∃v,w.cell? ⟨b,o+i,none⟩=some v∧dR X w x v)→fh X w cs b o
 | [],_,_,_=>trivial
 | y::cs,b,o,h=>⟨h 0 y rfl,fh.of fun i x hi=>by
   have:=h (i+1) x (by simpa using hi)
   rwa [show o+(i+1)=o+1+i by omega] at this⟩
theorem fh.drop{cs:List PD}{b o:Nat}(h:fh X w cs b o)(n:Nat):fh X w (cs.drop n) b (o+n):=
 fh.of fun i x hi=>by
  rw [List.getElem?_drop] at hi
  have:=h.get _ _ hi
  rwa [←Nat.add_assoc] at this
theorem fh.take{cs:List PD}{b o:Nat}(h:fh X w cs b o)(n:Nat):fh X w (cs.take n) b o:=
 fh.of fun i x hi=>by
  rw [List.getElem?_take] at hi
  split at hi
  ·exact h.get _ _ hi
  ·cases hi
theorem aY.Bw{cs:List PD}{vs:List Value}(h:aY X w R (cs.map .d) vs)(i:Nat)(x:PD)(hx:cs[i]?=some x): ∃v,vs[i]?=some v∧dR X w x v:=
 h.get i (.d x) (by simp [hx])
theorem dR.one{x:PD}{v:Value}(h:dR X w x v):v.oneCell'=true:=by
 cases x with
 | sl n cs=>obtain ⟨a,c,rfl,_⟩:=h;rfl
 | un=>exact h
 | err b=>rcases h with ⟨_,rfl⟩ | ⟨_,_,_,rfl⟩<;>rfl
 | _=>cases h;rfl
theorem HT(v:Value):cJ X w R (ofConst v) v:=by
 unfold ofConst
 split
 ·rfl
 ·rfl
 ·rfl
 ·exact ⟨none,rfl⟩
 ·exact .inl ⟨rfl,rfl⟩
 ·trivial
theorem j8{p:PV}{k:IntKind}{n:Int}{v:Value}(h:p.int?=some (k,n))(q:cJ X w R p v):v= .int k n:=by
 unfold PV.int? at h;split at h
 ·cases h;exact q
 ·cases h
theorem tO{p:PV}{b:Bool}{v:Value}(h:p.bool?=some b)(q:cJ X w R p v):v= .bool b:=by
 unfold PV.bool? at h;split at h
 ·cases h;exact q
 ·cases h
theorem uY{p:PV}{s:List UInt8}{v:Value}(h:p.qJ=some s)(q:cJ X w R p v):v= .string ⟨s.toArray⟩:=by
 unfold PV.qJ at h;split at h
 ·cases h;exact q
 ·cases h
end
theorem Vl{v:Value}(h:v.oneCell'=true):v.cells= #[v]:=by cases v<;>first | rfl | (simp [Value.oneCell'] at h;done)
theorem EG{X:Nat→Prop}{w:World}{φ:Nat→cg}{H:Nat→cq}{p:PV}{cs:List PV}{v:Value}(h:p.cells?=some cs)(q:cJ X w (bh φ H) p v):
  aY X w (bh φ H) cs v.cells.toList∧(cs.all uU=true→ ∀u∈v.cells.toList,u.oneCell'=true):=by
 have one: ∀{c:PV} {u:Value},uU c=true→cJ X w (bh φ H) c u→u.oneCell'=true:=by
  intro c u hc hu
  cases c with
  | d x=>exact dR.one hu
  | agg cs=>cases hc
  | r x=>cases x with
   | ptr i g o=>obtain ⟨⟨a,_,rfl⟩,_⟩:=hu;rfl
   | aJ i g l n=>obtain ⟨⟨a,n,c,rfl⟩,_⟩:=hu;rfl
   | own=>exact hu.elim
  | cD cs=>obtain ⟨b,o,rfl,_⟩:=hu;rfl
  | nil=>obtain ⟨a,rfl⟩:=hu;rfl
  | fn f cs=>obtain ⟨vs,rfl,_⟩:=hu;rfl
  | jo z n cs=>obtain ⟨_,a,c,rfl,_⟩:=hu;rfl
  | bE=>cases hc
  | un=>cases hc
 have all: ∀{ps:List PV} {vs:List Value},aY X w (bh φ H) ps vs→ps.all uU=true→ ∀u∈vs,u.oneCell'=true:=by
  intro ps vs hl hc u hu
  obtain ⟨i,hi,rfl⟩:=List.getElem_of_mem hu
  have hlen:=hl.len
  obtain ⟨v',e,r⟩:=hl.get i ps[i] (by simp [hlen,hi])
  rw [List.getElem?_eq_getElem hi] at e;cases e
  exact one (List.all_eq_true.1 hc _ (List.getElem_mem _)) r
 have single:uU p=true→aY X w (bh φ H) [p] v.cells.toList∧([p].all uU=true→ ∀u∈v.cells.toList,u.oneCell'=true):=by
  intro hp
  have h1:=one hp q
  rw [Vl h1]
  exact ⟨⟨v,[],rfl,q,rfl⟩,fun _ u hu=>by simp at hu;subst hu;exact h1⟩
 cases p with
 | agg l=>
  simp [PV.cells?] at h;subst h
  obtain ⟨vs,rfl,hl⟩:=q
  exact ⟨hl,all hl⟩
 | bE=>simp [PV.cells?] at h
 | un=>simp [PV.cells?] at h
 | d x=>simp [PV.cells?] at h;subst h;exact single rfl
 | r x=>simp [PV.cells?] at h;subst h;exact single rfl
 | cD x=>simp [PV.cells?] at h;subst h;exact single rfl
 | nil=>simp [PV.cells?] at h;subst h;exact single rfl
 | fn f x=>simp [PV.cells?] at h;subst h;exact single rfl
 | jo z n x=>simp [PV.cells?] at h;subst h;exact single rfl
end Go.Proofs.YtimbfadnabfabaaGreatDoor.Pm

