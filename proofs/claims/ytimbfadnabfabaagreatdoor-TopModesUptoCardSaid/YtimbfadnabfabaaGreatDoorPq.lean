/- The small machine: an operation of the language, read as one of the small machine's. No program is named here. -/
import Derived.Test.YtimbfadnabfabaaGreatDoorPp
namespace Go.Proofs.YtimbfadnabfabaaGreatDoor.Pm
open Go.RowKit

def f_(P:Program)(t:TypeId):Bool:=match P.underlying t with | some (.struct _) | some (.array _ _)=>true | _=>false
def iG(P:Program)(t:TypeId):Option Nat:=(P.info? t).map (·.size)
def eqV:Value→Value→Bool
 | .int k n,.int k' n'=>decide (k=k')&&decide (n=n')
 | .bool a,.bool b=>decide (a=b)
 | .string a,.string b=>decide (a.data=b.data)
 | _,_=>false
theorem apD{u v:Value}(h:eqV u v=true):u=v:=by
 unfold eqV at h
 split at h
 ·simp at h;rw [h.1,h.2]
 ·simp at h;rw [h]
 ·rename_i a b
  simp at h
  obtain ⟨⟨a⟩⟩:=a
  obtain ⟨⟨b⟩⟩:=b
  simp at h;rw [h]
 ·cases h
def tE:List Value→List (Nat×Value)
 | []=> []
 | v::r=>match tE r with
  | (n,u)::q=>if eqV v u then (n+1,u)::q else (1,v)::(n,u)::q
  | []=> [(1,v)]
theorem lV: ∀l:List Value,jc (tE l)=l.map ofConst
 | []=>rfl
 | v::r=>by
  have ih:=lV r
  unfold tE
  split
  ·rename_i n u q hq
   rw [hq] at ih
   split
   ·rename_i he
    rw [apD he,List.map_cons,←ih]
    simp [jc,List.replicate_succ]
   ·rw [List.map_cons,←ih]
    simp [jc]
  ·rename_i hq
   rw [hq] at ih
   rw [List.map_cons,←ih]
   simp [jc]
def zeroOf(P:Program)(t:TypeId)(n:Nat):Option (List Value):=
 match P.info? t with
 | some i=>match i.zero with
  | some z=>if z.cells.size=n then some z.cells.toList else none
  | none=>none
 | none=>none
def places(P:Program):List Field→Option (List (Nat×Nat))
 | fs=>fs.mapM (fun f=>(P.info? f.type).map fun i=>(f.offset,i.size))
def lu(pl:Nat→Option (Nat×Nat)):List (Nat×Operand)→Option (List (Nat×Nat×Operand))
 | []=>some []
 | (i,x)::r=>match pl i,lu pl r with
  | some (o,n),some q=>some ((o,n,x)::q)
  | _,_=>none
def Y_:Operand→Bool
 | .const .nilIface=>true
 | _=>false
def CD:Operand→Bool
 | .const (.slice none 0 0)=>true
 | _=>false
def HZ:Option Operand→Bool
 | some (.const (.int _ 0))=>true
 | _=>false
def MA:List LK→List (Nat×LK)
 | []=> []
 | v::r=>match MA r with
  | (n,u)::q=>if v=u then (n+1,u)::q else (1,v)::(n,u)::q
  | []=> [(1,v)]
theorem FE: ∀l:List LK,yV (MA l)=l
 | []=>rfl
 | v::r=>by
  have ih:=FE r
  unfold MA
  split
  ·rename_i n u q hq
   rw [hq] at ih
   split
   ·rename_i he
    rw [he,←ih]
    simp [yV,List.replicate_succ]
   ·rw [←ih]
    simp [yV]
  ·rename_i hq
   rw [hq] at ih
   rw [←ih]
   simp [yV]
def wX(K:TypeId→Option (List LK)):List Field→Nat→Option (List LK)
 | [],_=>some []
 | f::r,off=>if f.name≠ "_" ∧f.offset=off then (match K f.type with
  | some ks=>(match wX K r (off+ks.length) with
   | some l=>some (ks++l)
   | none=>none)
  | none=>none) else none
def iV(P:Program):Nat→TypeId→Option (List LK)
 | 0,_=>none
 | d+1,t=>match (match P.underlying t with
   | some (.int _)=>some [LK.int]
   | some .bool=>some [LK.bool]
   | some .string=>some [LK.str]
   | some (.struct fs)=>if P.stoodInHeld t=false then wX (iV P d) fs.toList 0 else none
   | some (.array n e)=>(match iV P d e with
    | some ks=>some ((List.range n).flatMap fun _=>ks)
    | none=>none)
   | _=>none) with
  | some ks=>if iG P t=some ks.length then some ks else none
  | none=>none
def H6(P:Program)(op:BinOp)(t:TypeId)(x y:Operand):Option kj:=
 match P.underlying t with
 | some (.int _)=>match op with
  | .shl | .shr=>some (.sh op x y)
  | .add | .sub | .mul | .quo | .rem | .and | .or | .xor | .andNot=>some (.qK op x y)
  | _=>some (.sQ op x y)
 | some .string=>some (.jD op x y)
 | some .bool=>match op with
  | .eql=>some (.eqB false x y)
  | .neq=>some (.eqB true x y)
  | _=>none
 | some (.slice _)=>if CD y then (match op with
  | .eql=>some (.isN false x)
  | .neq=>some (.isN true x)
  | _=>none) else none
 | some (.interface _)=>if Y_ y then (match op with
  | .eql=>some (.isE false x)
  | .neq=>some (.isE true x)
  | _=>none) else none
 | some (.struct _) | some (.array _ _)=>(match iV P 40 t with
  | some ks=>if P.eqGuardType P.depth t=false then (match op with
   | .eql=>some (.Vi false (MA ks) x y)
   | .neq=>some (.Vi true (MA ks) x y)
   | _=>none) else none
  | none=>none)
 | _=>none
def MB(P:Program)(src dst:TypeId)(x:Operand):Option kj:=
 match P.underlying src,P.underlying dst with
 | some (.int _),some (.int k)=>some (.ku k x)
 | some (.int _),some .string=>some (.Ri x)
 | some .string,some .string=>some (.Rj x)
 | some .string,some (.slice e)=>match P.underlying e with
  | some (.int .u8)=>some (.HN e x)
  | _=>none
 | some (.slice e),some .string=>match P.underlying e with
  | some (.int .u8)=>if iG P e=some 1 then some (.sS x) else none
  | _=>none
 | _,_=>none
def isStr:Option TypeDesc→Bool
 | some .string=>true
 | _=>false
theorem adk{d:Option TypeDesc}(h:isStr d=true):d=some .string:=by
 unfold isStr at h
 split at h
 ·rfl
 ·cases h
def MC(P:Program)(br:List Nat)(c:Call):Option kj:=
 match c.callee with
 | .value (.func f)=>if br.any (Nat.beq f) then some (.fO f c.args.toList) else if br.any (Nat.beq (f+100000)) then some (.jd f c.args.toList) else some (.call f c.args.toList)
 | .value x=>some (.lU x c.args.toList)
 | .builtin .append=>match c.args.toList,c.argTypes.toList with
  | [x,y],[t,t']=>if (decide (t=t') || isStr (P.underlying t'))=true then (match P.underlying t with
   | some (.slice e)=>(match P.info? e with
    | some i=>(match i.zero with
     | some z=>if z.cells.size=i.size∧0<i.size∧1≤i.bytes then some (.app e i.size i.bytes x y) else none
     | none=>none)
    | none=>none)
   | _=>none) else none
  | _,_=>none
 | .builtin .len=>match c.args.toList,c.argTypes.toList with
  | [x],[t]=>(match P.underlying t with
   | some .string=>some (.len true x)
   | some (.slice _)=>some (.len false x)
   | _=>none)
  | _,_=>none
 | .builtin .copy=>match c.args.toList,c.argTypes.toList with
  | [x,y],[t,_]=>(match P.underlying t with
   | some (.slice e)=>(match iG P e with
    | some k=>if 0<k then some (.Cy k x y) else none
    | none=>none)
   | _=>none)
  | _,_=>none
 | .builtin .clear=>match c.args.toList,c.argTypes.toList with
  | [x],[t]=>(match P.underlying t with
   | some (.slice e)=>(match P.info? e with
    | some i=>(match zeroOf P e i.size with
     | some z=>if 0<i.size then some (.Oy i.size (tE z) x) else none
     | none=>none)
    | none=>none)
   | _=>none)
  | _,_=>none
 | .builtin .max=>some (.mx c.args.toList)
 | .builtin .min=>some (.mn c.args.toList)
 | _=>none
def comp(P:Program)(br:List Nat)(o:Oper):Option kj:=
 match o.op with
 | .move x | .assign x=>if CD x then (match P.underlying o.type with
   | some (.slice e)=>if 0<P.cellsOf e then some (.FC e (P.cellsOf e)) else some (.Cx x)
   | _=>some (.Cx x)) else some (.Cx x)
 | .pick c a b=>some (.pick c a b)
 | .binOp op t x y _=>H6 P op t x y
 | .unOp op _ x=>some (.un op x)
 | .convert s d x=>MB P s d x
 | .alloc t=>match zeroOf P t (P.cellsOf t) with
  | some [.pointer none,.slice none 0 0]=>some (.uV t)
  | some z=>some (.alloc (tE z))
  | none=>none
 | .box t x=>(iG P t).map fun n=> .box n x
 | .build t ps=>match P.underlying t with
  | some (.struct fs)=>(match places P fs.toList,zeroOf P t (P.cellsOf t) with
   | some pl,some z=>(lu (fun i=>pl[i]?) ps.toList).map fun q=> .build (tE z) q
   | _,_=>none)
  | some (.array _ e)=>(match iG P e,zeroOf P t (P.cellsOf t) with
   | some k,some z=>(lu (fun i=>some (i*k,k)) ps.toList).map fun q=> .build (tE z) q
   | _,_=>none)
  | _=>none
 | .buildSlice t n ps=>match P.underlying t with
  | some (.slice e)=>(match iG P e with
   | some k=>(match zeroOf P e k with
    | some z=>if 0<k∧n*k≤65536 then (lu (fun i=>some (i*k,k)) ps.toList).map fun q=> .wU e k n (tE ((List.range n).flatMap fun _=>z)) q else none
    | none=>none)
   | none=>none)
  | _=>none
 | .load t x=>match P.underlying t,iG P t with
  | some _,some n=>if f_ P t=false→n=1 then some (.load (f_ P t) n x) else none
  | _,_=>none
 | .store t x y=>match iG P t with
  | some n=>if 0<n then some (.store n x y) else none
  | none=>none
 | .nilCheck x=>some (.Mw x)
 | .makeFunc (.func f) first cs=>if first.size=0 then some (.mkF f cs.toList) else none
 | .slice t x lo hi mx=>match P.underlying t with
  | some .string=>if mx.isNone then some (.uX x lo hi) else none
  | some (.array len e)=>(match iG P e with
   | some k=>if mx.isNone then some (.Ox len k x lo hi) else none
   | none=>none)
  | some (.slice e)=>(match iG P e with
   | some k=>if 0<k then (match mx with
    | none=>if (lo.isNone&&br.any (Nat.beq 200000) || br.any (Nat.beq 300000))=true then some (.HP e k x lo hi) else some (.uW e k x lo hi)
    | some m=>if lo.isNone&&HZ hi&&HZ (some m) then some (.Rm e k x) else none) else none
   | none=>none)
  | _=>none
 | .fieldAddr t x f=>match P.underlying t with
  | some (.struct fs)=>(match fs[f]? with
   | some fd=>if P.cellsOf fd.type=0 then none else (match iG P fd.type with | some _=>some (.Rk fd.offset x) | none=>none)
   | none=>none)
  | _=>none
 | .field t x f=>match P.underlying t with
  | some (.struct fs)=>(match fs[f]? with
   | some fd=>(match P.underlying fd.type,iG P fd.type with
    | some _,some n=>if f_ P fd.type=false→n=1 then some (.Rl (f_ P fd.type) fd.offset n x) else none
    | _,_=>none)
   | none=>none)
  | _=>none
 | .indexAddr t x i=>match P.underlying t with
  | some (.array len e)=>(match iG P e with | some k=>some (.sN len k x i) | none=>none)
  | some (.slice e)=>(match iG P e with | some k=>if 0<k then some (.jz e k x i) else none | none=>none)
  | _=>none
 | .index t x i=>match P.underlying t with
  | some (.array len e)=>(match P.underlying e,iG P e with
   | some _,some k=>if f_ P e=false→k=1 then some (.GH (f_ P e) len k x i) else none
   | _,_=>none)
  | some .string=>some (.iw x i)
  | _=>none
 | .extract x i=>some (.ext x i)
 | .range t x=>match P.underlying t with
  | some .string=>some (.Vj x)
  | _=>none
 | .next x true=>some (.OA x)
 | .makeSlice t l c=>match P.underlying t with
  | some (.slice e)=>(match P.info? e with
   | some i=>(match zeroOf P e i.size with
    | some z=>if 0<i.size∧1≤i.bytes then some (.Oz e i.size i.bytes (tE z) l c) else none
    | none=>none)
   | none=>none)
  | _=>none
 | .panic _=>some (.mx [])
 | .makeInterface .. =>some (.mx [])
 | .call c=>MC P br c
 | _=>none

def gB(P:Program)(f:Nat):Prop:= ∀(args:Array Value) (w:World),(callFunc f args).run P w= .ok (.enter f args) w
def H0(bs:List bH)(i:Nat):cq:=⟨0,bs[i]?⟩
structure Passed (E:Nat→Prop) (w:World) (aP:Nat→cg) (bs:List bH):Prop where
 lt8:bs.length≤8
 dom: ∀i b c,aP i= .blk b c→i<bs.length∧E b
 inj: ∀i j b c c',aP i= .blk b c→aP j= .blk b c'→i=j
 rep: ∀i b,bs[i]?=some b→Mu E w aP (H0 bs) (aP i) b
def gI(dA:Nat→cg)(bs:List bH)(β:Nat→cg):Ref→Value→Prop
 | .own j _ k n cs,v=>0<k∧cs.length=n*k∧match β j with
  | .nil a=>v= .slice a 0 0∧cs= []
  | .blk b c=>v= .slice (some ⟨b,off c,none⟩) n (cp c)∧n≤cp c
 | r,v=>bh dA (H0 bs) r v
def Yo(E:Nat→Prop)(dA β:Nat→cg)(b:Nat):Prop:=E b∨(∃i c,dA i= .blk b c)∨ ∃j c,β j= .blk b c
structure OE (E:Nat→Prop) (w w':World) (aP:Nat→cg) (bs:List bH) (r:PV) (bJ:List bH) (v:Value) (dA β:Nat→cg):Prop where
 rep:cJ (Yo E dA β) w' (gI dA bJ β) r v
 aAZ: ∀i b,i<bs.length→bJ[i]?=some b→uT (Yo E dA β) w' (gI dA bJ β) (dA i) b
 own: ∀x∈cA r bJ,uT (Yo E dA β) w' (fun _ _=>False) (β x.1) x.2
 len:bJ.length=bs.length∨bJ.length=bs.length+1
 kind: ∀i b,bs[i]?=some b→wT b bJ[i]?∧(Vh b=true∨bJ.length=bs.length+1→dA i=aP i)
 dom: ∀i b c,dA i= .blk b c→i<bs.length∧b<w'.heap.size∧(w.heap.size≤b∨ ∃c',aP i= .blk b c')
 inj1: ∀i j b c c',dA i= .blk b c→dA j= .blk b c'→i=j
 inj: ∀i j b c c',β i= .blk b c→β j= .blk b c'→i=j
 parted: ∀i j b c c',dA i= .blk b c→β j= .blk b c'→False
 new: ∀j b c,β j= .blk b c→w.heap.size≤b∧b<w'.heap.size
structure Chg (aP:Nat→cg) (w w':World):Prop where
 os:w'.os=w.os
 tape:w'.tape=w.tape
 out:w'.output=w.output
 size:w.heap.size≤w'.heap.size
 blk: ∀b,b<w.heap.size→(∀i c,aP i≠ .blk b c)→w'.heap[b]?=w.heap[b]?
structure gV (W:World) (Φ:Nat→cg) (w:World) (φ:Nat→cg):Prop where
 sz:W.heap.size≤w.heap.size
 keep: ∀b,b<W.heap.size→(∀i c,Φ i≠ .blk b c)→w.heap[b]?=W.heap[b]?∧ ∀i c,φ i≠ .blk b c
theorem gV.refl{W:World}{Φ:Nat→cg}:gV W Φ W Φ:=⟨Nat.le_refl _,fun _ _ h=>⟨rfl,h⟩⟩
theorem gV.trans{W w w':World}{Φ φ bp:Nat→cg}(h:gV W Φ w φ)(k:gV w φ w' bp):gV W Φ w' bp:=
 ⟨Nat.le_trans h.sz k.sz,fun b hb hn=>by
  obtain ⟨h1,h2⟩:=h.keep b hb hn
  obtain ⟨k1,k2⟩:=k.keep b (Nat.lt_of_lt_of_le hb h.sz) h2
  exact ⟨k1.trans h1,k2⟩⟩
theorem gV.sub{W w:World}{Φ φ bp:Nat→cg}(h:gV W Φ w φ)(hs: ∀i b c,bp i= .blk b c→ ∃j c',φ j= .blk b c'):gV W Φ w bp:=
 ⟨h.sz,fun b hb hn=>⟨(h.keep b hb hn).1,fun i c e=>by
  obtain ⟨j,c',e'⟩:=hs i b c e
  exact (h.keep b hb hn).2 j c' e'⟩⟩
theorem Mem.later{E:Nat→Prop}{m:List bH}{aP φ:Nat→cg}{H:Nat→cq}{w0 w:World}(hm:Mem E m aP w0 φ H w):gV w0 aP w φ:=
 ⟨hm.sz,fun b hb hn=>⟨hm.fr b hb fun i c _=>hn i c,fun i c e=>by
  rcases (hm.lt i b c e).2 with h | ⟨_,c',h⟩
  ·omega
  ·exact hn i c' h⟩⟩
def nS(P:Program)(γ:ek)(W:World)(Φ:Nat→cg):Prop:=
 ∀f args bs r bJ,γ f args bs=some (r,bJ)→gB P f∧ ∀(E:Nat→Prop) (w:World) (aP:Nat→cg) (vs:List Value),gV W Φ w aP→(∀b,E b→b<w.heap.size)→Passed E w aP bs→aY E w (bh aP (H0 bs)) args vs→
  Calls P f vs.toArray w fun e w'=> ∃v dA β,e= .returned v∧Chg aP w w'∧OE E w w' aP bs r bJ v dA β
theorem nS.at{P:Program}{γ:ek}{W w:World}{Φ φ:Nat→cg}(h:nS P γ W Φ)(hl:gV W Φ w φ):nS P γ w φ:=
 fun f args bs r bJ hr=>⟨(h f args bs r bJ hr).1,fun E w' aP vs hl'=>(h f args bs r bJ hr).2 E w' aP vs (hl.trans hl')⟩
theorem ahm{γ:ek}{f:Nat}{args:List PV}{r:PV}(h:Mx γ f args=some r):γ f args []=some (r,[]):=by
 unfold Mx at h
 split at h
 ·rename_i r' h2;cases h;exact h2
 ·cases h

section
variable {P : Program} {E : Nat → Prop} {m : List bH} {aP φ : Nat → cg} {H : Nat → cq} {w0 w : World}
def Post(E:Nat→Prop)(m:List bH)(aP:Nat→cg)(w0:World)(φ:Nat→cg)(H:Nat→cq)(w:World)(p:PV)(aD:eu)(v:Value)(w':World):Prop:=
 ∃bp,Mem E m aP w0 bp (eJ H aD) w'∧Tr E φ H w bp (eJ H aD) w'∧cJ (cV E bp) w' (bh bp (eJ H aD)) p v
def Does(P:Program)(E:Nat→Prop)(m:List bH)(aP:Nat→cg)(w0:World)(φ:Nat→cg)(H:Nat→cq)(w:World)(p:PV)(aD:eu)(x:Sem Next):Prop:=
 (∃v w',x.run P w= .ok (.value v) w'∧Post E m aP w0 φ H w p aD v w')∨(∃w',x.run P w= .ok .skip w'∧Post E m aP w0 φ H w p aD undef w')∨
 ∃f args,x.run P w= .ok (.enter f args) w∧Calls P f args w fun e w'=> ∃v,e= .returned v∧Post E m aP w0 φ H w p aD v w'
theorem EI(hm:Mem E m aP w0 φ H w){x:Sem Next}{p:PV}{v:Value}(hr:x.run P w= .ok (.value v) w)(hv:cJ (cV E φ) w (bh φ H) p v):Does P E m aP w0 φ H w p [] x:=
 .inl ⟨v,w,hr,φ,hm,Tr.refl,hv⟩
end
end Go.Proofs.YtimbfadnabfabaaGreatDoor.Pm
