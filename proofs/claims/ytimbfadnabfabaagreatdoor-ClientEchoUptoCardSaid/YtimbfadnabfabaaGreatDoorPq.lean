/- The small machine: an operation of the language, read as one of the small machine's. No program is named here. -/
import Derived.Test.YtimbfadnabfabaaGreatDoorPp
namespace Go.Proofs.YtimbfadnabfabaaGreatDoor.Pm
open Go.RowKit

def gm(P:Program)(t:TypeId):Bool:=match P.underlying t with | some (.struct _) | some (.array _ _)=>true | _=>false
def iI(P:Program)(t:TypeId):Option Nat:=(P.info? t).map (·.size)
def eqV:Value→Value→Bool
 | .int k n,.int k' n'=>decide (k=k')&&decide (n=n')
 | .bool a,.bool b=>decide (a=b)
 | .string a,.string b=>decide (a.data=b.data)
 | _,_=>false
theorem asG{u v:Value}(h:eqV u v=true):u=v:=by
 unfold eqV at h
 split at h
 ·simp at h;rw [h.1,h.2]
 ·simp at h;rw [h]
 ·rename_i a b
  simp at h
  obtain ⟨⟨a⟩⟩:=a
  obtain ⟨⟨b⟩⟩:=b
  simp at h;rw [h]
 ·cases h
def uz:List Value→List (Nat×Value)
 | []=> []
 | v::r=>match uz r with
  | (n,u)::q=>if eqV v u then (n+1,u)::q else (1,v)::(n,u)::q
  | []=> [(1,v)]
theorem mq: ∀l:List Value,jm (uz l)=l.map ofConst
 | []=>rfl
 | v::r=>by
  have ih:=mq r
  unfold uz
  split
  ·rename_i n u q hq
   rw [hq] at ih
   split
   ·rename_i he
    rw [asG he,List.map_cons,←ih]
    simp [jm,List.replicate_succ]
   ·rw [List.map_cons,←ih]
    simp [jm]
  ·rename_i hq
   rw [hq] at ih
   rw [List.map_cons,←ih]
   simp [jm]
def zeroOf(P:Program)(t:TypeId)(n:Nat):Option (List Value):=
 match P.info? t with
 | some i=>match i.zero with
  | some z=>if z.cells.size=n then some z.cells.toList else none
  | none=>none
 | none=>none
def places(P:Program):List Field→Option (List (Nat×Nat))
 | fs=>fs.mapM (fun f=>(P.info? f.type).map fun i=>(f.offset,i.size))
def lY(pl:Nat→Option (Nat×Nat)):List (Nat×Operand)→Option (List (Nat×Nat×Operand))
 | []=>some []
 | (i,x)::r=>match pl i,lY pl r with
  | some (o,n),some q=>some ((o,n,x)::q)
  | _,_=>none
def ZO:Operand→Bool
 | .const .nilIface=>true
 | _=>false
def Dn:Operand→Bool
 | .const (.slice none 0 0)=>true
 | _=>false
def I_:Option Operand→Bool
 | some (.const (.int _ 0))=>true
 | _=>false
def Nn:List LK→List (Nat×LK)
 | []=> []
 | v::r=>match Nn r with
  | (n,u)::q=>if v=u then (n+1,u)::q else (1,v)::(n,u)::q
  | []=> [(1,v)]
theorem Gw: ∀l:List LK,wm (Nn l)=l
 | []=>rfl
 | v::r=>by
  have ih:=Gw r
  unfold Nn
  split
  ·rename_i n u q hq
   rw [hq] at ih
   split
   ·rename_i he
    rw [he,←ih]
    simp [wm,List.replicate_succ]
   ·rw [←ih]
    simp [wm]
  ·rename_i hq
   rw [hq] at ih
   rw [←ih]
   simp [wm]
def yB(K:TypeId→Option (List LK)):List Field→Nat→Option (List LK)
 | [],_=>some []
 | f::r,off=>if f.name≠ "_" ∧f.offset=off then (match K f.type with
  | some ks=>(match yB K r (off+ks.length) with
   | some l=>some (ks++l)
   | none=>none)
  | none=>none) else none
def jd(P:Program):Nat→TypeId→Option (List LK)
 | 0,_=>none
 | d+1,t=>match (match P.underlying t with
   | some (.int _)=>some [LK.int]
   | some .bool=>some [LK.bool]
   | some .string=>some [LK.str]
   | some (.struct fs)=>if P.stoodInHeld t=false then yB (jd P d) fs.toList 0 else none
   | some (.array n e)=>(match jd P d e with
    | some ks=>some ((List.range n).flatMap fun _=>ks)
    | none=>none)
   | _=>none) with
  | some ks=>if iI P t=some ks.length then some ks else none
  | none=>none
def Ja(P:Program)(op:BinOp)(t:TypeId)(x y:Operand):Option kA:=
 match P.underlying t with
 | some (.int _)=>match op with
  | .shl | .shr=>some (.sh op x y)
  | .add | .sub | .mul | .quo | .rem | .and | .or | .xor | .andNot=>some (.rL op x y)
  | _=>some (.tH op x y)
 | some .string=>some (.jJ op x y)
 | some .bool=>match op with
  | .eql=>some (.eqB false x y)
  | .neq=>some (.eqB true x y)
  | _=>none
 | some (.slice _)=>if Dn y then (match op with
  | .eql=>some (.isN false x)
  | .neq=>some (.isN true x)
  | _=>none) else none
 | some (.interface _)=>if ZO y then (match op with
  | .eql=>some (.isE false x)
  | .neq=>some (.isE true x)
  | _=>none) else none
 | some (.struct _) | some (.array _ _)=>(match jd P 40 t with
  | some ks=>if P.eqGuardType P.depth t=false then (match op with
   | .eql=>some (.L9 false (Nn ks) x y)
   | .neq=>some (.L9 true (Nn ks) x y)
   | _=>none) else none
  | none=>none)
 | _=>none
def Np(P:Program)(src dst:TypeId)(x:Operand):Option kA:=
 match P.underlying src,P.underlying dst with
 | some (.int _),some (.int k)=>some (.kF k x)
 | some (.int _),some .string=>some (.RX x)
 | some .string,some .string=>some (.RY x)
 | some .string,some (.slice e)=>match P.underlying e with
  | some (.int .u8)=>some (.I2 e x)
  | _=>none
 | some (.slice e),some .string=>match P.underlying e with
  | some (.int .u8)=>if iI P e=some 1 then some (.tI x) else none
  | _=>none
 | _,_=>none
def isStr:Option TypeDesc→Bool
 | some .string=>true
 | _=>false
theorem ae0{d:Option TypeDesc}(h:isStr d=true):d=some .string:=by
 unfold isStr at h
 split at h
 ·rfl
 ·cases h
def Nq(P:Program)(br:List Nat)(c:Call):Option kA:=
 match c.callee with
 | .value (.func f)=>if br.any (Nat.beq f) then some (.fU f c.args.toList) else if br.any (Nat.beq (f+100000)) then some (.jn f c.args.toList) else some (.call f c.args.toList)
 | .value x=>some (.lM x c.args.toList)
 | .builtin .append=>match c.args.toList,c.argTypes.toList with
  | [x,y],[t,t']=>if (decide (t=t') || isStr (P.underlying t'))=true then (match P.underlying t with
   | some (.slice e)=>(match P.info? e with
    | some i=>(match i.zero with
     | some z=>if z.cells.size=i.size∧0<i.size∧1≤i.bytes then some (.app e i.size i.bytes x y) else none
     | none=>none)
    | none=>none)
   | _=>none) else none
  | _,_=>none
 | .builtin .len=>match c.args.toList,c.argTypes.toList with
  | [x],[t]=>(match P.underlying t with
   | some .string=>some (.len true x)
   | some (.slice _)=>some (.len false x)
   | _=>none)
  | _,_=>none
 | .builtin .copy=>match c.args.toList,c.argTypes.toList with
  | [x,y],[t,_]=>(match P.underlying t with
   | some (.slice e)=>(match iI P e with
    | some k=>if 0<k then some (.Di k x y) else none
    | none=>none)
   | _=>none)
  | _,_=>none
 | .builtin .clear=>match c.args.toList,c.argTypes.toList with
  | [x],[t]=>(match P.underlying t with
   | some (.slice e)=>(match P.info? e with
    | some i=>(match zeroOf P e i.size with
     | some z=>if 0<i.size then some (.Pk i.size (uz z) x) else none
     | none=>none)
    | none=>none)
   | _=>none)
  | _,_=>none
 | .builtin .max=>some (.mx c.args.toList)
 | .builtin .min=>some (.mn c.args.toList)
 | _=>none
def comp(P:Program)(br:List Nat)(o:Oper):Option kA:=
 match o.op with
 | .move x | .assign x=>if Dn x then (match P.underlying o.type with
   | some (.slice e)=>if 0<P.cellsOf e then some (.Gu e (P.cellsOf e)) else some (.Dh x)
   | _=>some (.Dh x)) else some (.Dh x)
 | .pick c a b=>some (.pick c a b)
 | .binOp op t x y _=>Ja P op t x y
 | .unOp op _ x=>some (.un op x)
 | .convert s d x=>Np P s d x
 | .alloc t=>match zeroOf P t (P.cellsOf t) with
  | some [.pointer none,.slice none 0 0]=>some (.wo t)
  | some z=>some (.alloc (uz z))
  | none=>none
 | .box t x=>(iI P t).map fun n=> .box n x
 | .build t ps=>match P.underlying t with
  | some (.struct fs)=>(match places P fs.toList,zeroOf P t (P.cellsOf t) with
   | some pl,some z=>(lY (fun i=>pl[i]?) ps.toList).map fun q=> .build (uz z) q
   | _,_=>none)
  | some (.array _ e)=>(match iI P e,zeroOf P t (P.cellsOf t) with
   | some k,some z=>(lY (fun i=>some (i*k,k)) ps.toList).map fun q=> .build (uz z) q
   | _,_=>none)
  | _=>none
 | .buildSlice t n ps=>match P.underlying t with
  | some (.slice e)=>(match iI P e with
   | some k=>(match zeroOf P e k with
    | some z=>if 0<k∧n*k≤65536 then (lY (fun i=>some (i*k,k)) ps.toList).map fun q=> .yy e k n (uz ((List.range n).flatMap fun _=>z)) q else none
    | none=>none)
   | none=>none)
  | _=>none
 | .load t x=>match P.underlying t,iI P t with
  | some _,some n=>if gm P t=false→n=1 then some (.load (gm P t) n x) else none
  | _,_=>none
 | .store t x y=>match iI P t with
  | some n=>if 0<n then some (.store n x y) else none
  | none=>none
 | .nilCheck x=>some (.Ni x)
 | .makeFunc (.func f) first cs=>if first.size=0 then some (.mkF f cs.toList) else none
 | .slice t x lo hi mx=>match P.underlying t with
  | some .string=>if mx.isNone then some (.wu x lo hi) else none
  | some (.array len e)=>(match iI P e with
   | some k=>if mx.isNone then some (.Pj len k x lo hi) else none
   | none=>none)
  | some (.slice e)=>(match iI P e with
   | some k=>if 0<k then (match mx with
    | none=>if (lo.isNone&&br.any (Nat.beq 200000) || br.any (Nat.beq 300000))=true then some (.I3 e k x lo hi) else some (.wq e k x lo hi)
    | some m=>if lo.isNone&&I_ hi&&I_ (some m) then some (.R2 e k x) else none) else none
   | none=>none)
  | _=>none
 | .fieldAddr t x f=>match P.underlying t with
  | some (.struct fs)=>(match fs[f]? with
   | some fd=>if P.cellsOf fd.type=0 then none else (match iI P fd.type with | some _=>some (.RZ fd.offset x) | none=>none)
   | none=>none)
  | _=>none
 | .field t x f=>match P.underlying t with
  | some (.struct fs)=>(match fs[f]? with
   | some fd=>(match P.underlying fd.type,iI P fd.type with
    | some _,some n=>if gm P fd.type=false→n=1 then some (.R1 (gm P fd.type) fd.offset n x) else none
    | _,_=>none)
   | none=>none)
  | _=>none
 | .indexAddr t x i=>match P.underlying t with
  | some (.array len e)=>(match iI P e with | some k=>some (.tA len k x i) | none=>none)
  | some (.slice e)=>(match iI P e with | some k=>if 0<k then some (.jc e k x i) else none | none=>none)
  | _=>none
 | .index t x i=>match P.underlying t with
  | some (.array len e)=>(match P.underlying e,iI P e with
   | some _,some k=>if gm P e=false→k=1 then some (.HE (gm P e) len k x i) else none
   | _,_=>none)
  | some .string=>some (.iy x i)
  | _=>none
 | .extract x i=>some (.ext x i)
 | .range t x=>match P.underlying t with
  | some .string=>some (.VP x)
  | _=>none
 | .next x true=>some (.Po x)
 | .makeSlice t l c=>match P.underlying t with
  | some (.slice e)=>(match P.info? e with
   | some i=>(match zeroOf P e i.size with
    | some z=>if 0<i.size∧1≤i.bytes then some (.Pn e i.size i.bytes (uz z) l c) else none
    | none=>none)
   | none=>none)
  | _=>none
 | .panic _=>some (.mx [])
 | .makeInterface .. =>some (.mx [])
 | .call c=>Nq P br c
 | _=>none

def gI(P:Program)(f:Nat):Prop:= ∀(args:Array Value) (w:World),(callFunc f args).run P w= .ok (.enter f args) w
def H0(bs:List bM)(i:Nat):cw:=⟨0,bs[i]?⟩
structure Passed (E:Nat→Prop) (w:World) (aQ:Nat→cr) (bs:List bM):Prop where
 lt8:bs.length≤8
 dom: ∀i b c,aQ i= .blk b c→i<bs.length∧E b
 inj: ∀i j b c c',aQ i= .blk b c→aQ j= .blk b c'→i=j
 rep: ∀i b,bs[i]?=some b→Ng E w aQ (H0 bs) (aQ i) b
def gO(dz:Nat→cr)(bs:List bM)(β:Nat→cr):Ref→Value→Prop
 | .own j _ k n cs,v=>0<k∧cs.length=n*k∧match β j with
  | .nil a=>v= .slice a 0 0∧cs= []
  | .blk b c=>v= .slice (some ⟨b,off c,none⟩) n (cp c)∧n≤cp c
 | r,v=>bk dz (H0 bs) r v
def Yo(E:Nat→Prop)(dz β:Nat→cr)(b:Nat):Prop:=E b∨(∃i c,dz i= .blk b c)∨ ∃j c,β j= .blk b c
structure Pu (E:Nat→Prop) (w w':World) (aQ:Nat→cr) (bs:List bM) (r:PV) (bL:List bM) (v:Value) (dz β:Nat→cr):Prop where
 rep:cK (Yo E dz β) w' (gO dz bL β) r v
 aCg: ∀i b,i<bs.length→bL[i]?=some b→wj (Yo E dz β) w' (gO dz bL β) (dz i) b
 own: ∀x∈cE r bL,wj (Yo E dz β) w' (fun _ _=>False) (β x.1) x.2
 len:bL.length=bs.length∨bL.length=bs.length+1
 kind: ∀i b,bs[i]?=some b→yx b bL[i]?∧(VO b=true∨bL.length=bs.length+1→dz i=aQ i)
 dom: ∀i b c,dz i= .blk b c→i<bs.length∧b<w'.heap.size∧(w.heap.size≤b∨ ∃c',aQ i= .blk b c')
 inj1: ∀i j b c c',dz i= .blk b c→dz j= .blk b c'→i=j
 inj: ∀i j b c c',β i= .blk b c→β j= .blk b c'→i=j
 parted: ∀i j b c c',dz i= .blk b c→β j= .blk b c'→False
 new: ∀j b c,β j= .blk b c→w.heap.size≤b∧b<w'.heap.size
structure Chg (aQ:Nat→cr) (w w':World):Prop where
 os:w'.os=w.os
 tape:w'.tape=w.tape
 out:w'.output=w.output
 size:w.heap.size≤w'.heap.size
 blk: ∀b,b<w.heap.size→(∀i c,aQ i≠ .blk b c)→w'.heap[b]?=w.heap[b]?
structure gY (W:World) (Φ:Nat→cr) (w:World) (φ:Nat→cr):Prop where
 sz:W.heap.size≤w.heap.size
 keep: ∀b,b<W.heap.size→(∀i c,Φ i≠ .blk b c)→w.heap[b]?=W.heap[b]?∧ ∀i c,φ i≠ .blk b c
theorem gY.refl{W:World}{Φ:Nat→cr}:gY W Φ W Φ:=⟨Nat.le_refl _,fun _ _ h=>⟨rfl,h⟩⟩
theorem gY.trans{W w w':World}{Φ φ bq:Nat→cr}(h:gY W Φ w φ)(k:gY w φ w' bq):gY W Φ w' bq:=
 ⟨Nat.le_trans h.sz k.sz,fun b hb hn=>by
  obtain ⟨h1,h2⟩:=h.keep b hb hn
  obtain ⟨k1,k2⟩:=k.keep b (Nat.lt_of_lt_of_le hb h.sz) h2
  exact ⟨k1.trans h1,k2⟩⟩
theorem gY.sub{W w:World}{Φ φ bq:Nat→cr}(h:gY W Φ w φ)(hs: ∀i b c,bq i= .blk b c→ ∃j c',φ j= .blk b c'):gY W Φ w bq:=
 ⟨h.sz,fun b hb hn=>⟨(h.keep b hb hn).1,fun i c e=>by
  obtain ⟨j,c',e'⟩:=hs i b c e
  exact (h.keep b hb hn).2 j c' e'⟩⟩
theorem Mem.later{E:Nat→Prop}{m:List bM}{aQ φ:Nat→cr}{H:Nat→cw}{w0 w:World}(hm:Mem E m aQ w0 φ H w):gY w0 aQ w φ:=
 ⟨hm.sz,fun b hb hn=>⟨hm.fr b hb fun i c _=>hn i c,fun i c e=>by
  rcases (hm.lt i b c e).2 with h | ⟨_,c',h⟩
  ·omega
  ·exact hn i c' h⟩⟩
def oo(P:Program)(γ:dZ)(W:World)(Φ:Nat→cr):Prop:=
 ∀f args bs r bL,γ f args bs=some (r,bL)→gI P f∧ ∀(E:Nat→Prop) (w:World) (aQ:Nat→cr) (vs:List Value),gY W Φ w aQ→(∀b,E b→b<w.heap.size)→Passed E w aQ bs→aY E w (bk aQ (H0 bs)) args vs→
  Calls P f vs.toArray w fun e w'=> ∃v dz β,e= .returned v∧Chg aQ w w'∧Pu E w w' aQ bs r bL v dz β
theorem oo.at{P:Program}{γ:dZ}{W w:World}{Φ φ:Nat→cr}(h:oo P γ W Φ)(hl:gY W Φ w φ):oo P γ w φ:=
 fun f args bs r bL hr=>⟨(h f args bs r bL hr).1,fun E w' aQ vs hl'=>(h f args bs r bL hr).2 E w' aQ vs (hl.trans hl')⟩
theorem ai0{γ:dZ}{f:Nat}{args:List PV}{r:PV}(h:Nj γ f args=some r):γ f args []=some (r,[]):=by
 unfold Nj at h
 split at h
 ·rename_i r' h2;cases h;exact h2
 ·cases h

section
variable {P : Program} {E : Nat → Prop} {m : List bM} {aQ φ : Nat → cr} {H : Nat → cw} {w0 w : World}
def Post(E:Nat→Prop)(m:List bM)(aQ:Nat→cr)(w0:World)(φ:Nat→cr)(H:Nat→cw)(w:World)(p:PV)(aD:eu)(v:Value)(w':World):Prop:=
 ∃bq,Mem E m aQ w0 bq (eJ H aD) w'∧Tr E φ H w bq (eJ H aD) w'∧cK (cW E bq) w' (bk bq (eJ H aD)) p v
def Does(P:Program)(E:Nat→Prop)(m:List bM)(aQ:Nat→cr)(w0:World)(φ:Nat→cr)(H:Nat→cw)(w:World)(p:PV)(aD:eu)(x:Sem Next):Prop:=
 (∃v w',x.run P w= .ok (.value v) w'∧Post E m aQ w0 φ H w p aD v w')∨(∃w',x.run P w= .ok .skip w'∧Post E m aQ w0 φ H w p aD undef w')∨
 ∃f args,x.run P w= .ok (.enter f args) w∧Calls P f args w fun e w'=> ∃v,e= .returned v∧Post E m aQ w0 φ H w p aD v w'
theorem Fv(hm:Mem E m aQ w0 φ H w){x:Sem Next}{p:PV}{v:Value}(hr:x.run P w= .ok (.value v) w)(hv:cK (cW E φ) w (bk φ H) p v):Does P E m aQ w0 φ H w p [] x:=
 .inl ⟨v,w,hr,φ,hm,Tr.refl,hv⟩
end
end Go.Proofs.YtimbfadnabfabaaGreatDoor.Pm
