/- The small machine: an operation of the language, read as one of the small machine's. No program is named here. -/
import Derived.Test.YtobkkblijfhpoaaGreatDoorPp
namespace Go.Proofs.YtobkkblijfhpoaaGreatDoor.Pm
open Go.RowKit

def gb(P:Program)(t:TypeId):Bool:=match P.underlying t with | some (.struct _) | some (.array _ _)=>true | _=>false
def gS(P:Program)(t:TypeId):Option Nat:=(P.info? t).map (·.size)
def eqV:Value→Value→Bool
 | .int k n,.int k' n'=>decide (k=k')&&decide (n=n')
 | .bool a,.bool b=>decide (a=b)
 | .string a,.string b=>decide (a.data=b.data)
 | _,_=>false
theorem asn{u v:Value}(h:eqV u v=true):u=v:=by
 unfold eqV at h
 split at h
 ·simp at h;rw [h.1,h.2]
 ·simp at h;rw [h]
 ·rename_i a b
  simp at h
  obtain ⟨⟨a⟩⟩:=a
  obtain ⟨⟨b⟩⟩:=b
  simp at h;rw [h]
 ·cases h
def tH:List Value→List (Nat×Value)
 | []=> []
 | v::r=>match tH r with
  | (n,u)::q=>if eqV v u then (n+1,u)::q else (1,v)::(n,u)::q
  | []=> [(1,v)]
theorem l7: ∀l:List Value,iV (tH l)=l.map ofConst
 | []=>rfl
 | v::r=>by
  have ih:=l7 r
  unfold tH
  split
  ·rename_i n u q hq
   rw [hq] at ih
   split
   ·rename_i he
    rw [asn he,List.map_cons,←ih]
    simp [iV,List.replicate_succ]
   ·rw [List.map_cons,←ih]
    simp [iV]
  ·rename_i hq
   rw [hq] at ih
   rw [List.map_cons,←ih]
   simp [iV]
def zeroOf(P:Program)(t:TypeId)(n:Nat):Option (List Value):=
 match P.info? t with
 | some i=>match i.zero with
  | some z=>if z.cells.size=n then some z.cells.toList else none
  | none=>none
 | none=>none
def places(P:Program):List Field→Option (List (Nat×Nat))
 | fs=>fs.mapM (fun f=>(P.info? f.type).map fun i=>(f.offset,i.size))
def lJ(pl:Nat→Option (Nat×Nat)):List (Nat×Operand)→Option (List (Nat×Nat×Operand))
 | []=>some []
 | (i,x)::r=>match pl i,lJ pl r with
  | some (o,n),some q=>some ((o,n,x)::q)
  | _,_=>none
def aaE:Operand→Bool
 | .const .nilIface=>true
 | _=>false
def Dz:Operand→Bool
 | .const (.slice none 0 0)=>true
 | _=>false
def JV:Option Operand→Bool
 | some (.const (.int _ 0))=>true
 | _=>false
def Ok:List LK→List (Nat×LK)
 | []=> []
 | v::r=>match Ok r with
  | (n,u)::q=>if v=u then (n+1,u)::q else (1,v)::(n,u)::q
  | []=> [(1,v)]
theorem HL: ∀l:List LK,vK (Ok l)=l
 | []=>rfl
 | v::r=>by
  have ih:=HL r
  unfold Ok
  split
  ·rename_i n u q hq
   rw [hq] at ih
   split
   ·rename_i he
    rw [he,←ih]
    simp [vK,List.replicate_succ]
   ·rw [←ih]
    simp [vK]
  ·rename_i hq
   rw [hq] at ih
   rw [←ih]
   simp [vK]
def x8(K:TypeId→Option (List LK)):List Field→Nat→Option (List LK)
 | [],_=>some []
 | f::r,off=>if f.name≠ "_" ∧f.offset=off then (match K f.type with
  | some ks=>(match x8 K r (off+ks.length) with
   | some l=>some (ks++l)
   | none=>none)
  | none=>none) else none
def iI(P:Program):Nat→TypeId→Option (List LK)
 | 0,_=>none
 | d+1,t=>match (match P.underlying t with
   | some (.int _)=>some [LK.int]
   | some .bool=>some [LK.bool]
   | some .string=>some [LK.str]
   | some (.struct fs)=>if P.stoodInHeld t=false then x8 (iI P d) fs.toList 0 else none
   | some (.array n e)=>(match iI P d e with
    | some ks=>some ((List.range n).flatMap fun _=>ks)
    | none=>none)
   | _=>none) with
  | some ks=>if gS P t=some ks.length then some ks else none
  | none=>none
def JW(P:Program)(op:BinOp)(t:TypeId)(x y:Operand):Option gP:=
 match P.underlying t with
 | some (.int _)=>match op with
  | .shl | .shr=>some (.sh op x y)
  | .add | .sub | .mul | .quo | .rem | .and | .or | .xor | .andNot=>some (.WT op x y)
  | _=>some (.a_ op x y)
 | some .string=>some (.lI op x y)
 | some .bool=>match op with
  | .eql=>some (.eqB false x y)
  | .neq=>some (.eqB true x y)
  | _=>none
 | some (.slice _)=>if Dz y then (match op with
  | .eql=>some (.isN false x)
  | .neq=>some (.isN true x)
  | _=>none) else none
 | some (.interface _)=>if aaE y then (match op with
  | .eql=>some (.isE false x)
  | .neq=>some (.isE true x)
  | _=>none) else none
 | some (.struct _) | some (.array _ _)=>(match iI P 40 t with
  | some ks=>if P.eqGuardType P.depth t=false then (match op with
   | .eql=>some (.CD false (Ok ks) x y)
   | .neq=>some (.CD true (Ok ks) x y)
   | _=>none) else none
  | none=>none)
 | _=>none
def Ol(P:Program)(src dst:TypeId)(x:Operand):Option gP:=
 match P.underlying src,P.underlying dst with
 | some (.int _),some (.int k)=>some (.xY k x)
 | some (.int _),some .string=>some (.SC x)
 | some .string,some .string=>some (.SD x)
 | some .string,some (.slice e)=>match P.underlying e with
  | some (.int .u8)=>some (.Ds e x)
  | _=>none
 | some (.slice e),some .string=>match P.underlying e with
  | some (.int .u8)=>if gS P e=some 1 then some (.su x) else none
  | _=>none
 | _,_=>none
def isStr:Option TypeDesc→Bool
 | some .string=>true
 | _=>false
theorem aeI{d:Option TypeDesc}(h:isStr d=true):d=some .string:=by
 unfold isStr at h
 split at h
 ·rfl
 ·cases h
def Om(P:Program)(br:List Nat)(c:Call):Option gP:=
 match c.callee with
 | .value (.func f)=>if br.any (Nat.beq f) then some (.er f c.args.toList) else if br.any (Nat.beq (f+100000)) then some (.eR f c.args.toList) else some (.call f c.args.toList)
 | .value x=>some (.nQ x c.args.toList)
 | .builtin .append=>match c.args.toList,c.argTypes.toList with
  | [x,y],[t,t']=>if (decide (t=t') || isStr (P.underlying t'))=true then (match P.underlying t with
   | some (.slice e)=>(match P.info? e with
    | some i=>(match i.zero with
     | some z=>if z.cells.size=i.size∧0<i.size∧1≤i.bytes then some (.app e i.size i.bytes x y) else none
     | none=>none)
    | none=>none)
   | _=>none) else none
  | _,_=>none
 | .builtin .len=>match c.args.toList,c.argTypes.toList with
  | [x],[t]=>(match P.underlying t with
   | some .string=>some (.len true x)
   | some (.slice _)=>some (.len false x)
   | _=>none)
  | _,_=>none
 | .builtin .copy=>match c.args.toList,c.argTypes.toList with
  | [x,y],[t,_]=>(match P.underlying t with
   | some (.slice e)=>(match gS P e with
    | some k=>if 0<k then some (.Dt k x y) else none
    | none=>none)
   | _=>none)
  | _,_=>none
 | .builtin .clear=>match c.args.toList,c.argTypes.toList with
  | [x],[t]=>(match P.underlying t with
   | some (.slice e)=>(match P.info? e with
    | some i=>(match zeroOf P e i.size with
     | some z=>if 0<i.size then some (.Qc i.size (tH z) x) else none
     | none=>none)
    | none=>none)
   | _=>none)
  | _,_=>none
 | .builtin .max=>some (.mx c.args.toList)
 | .builtin .min=>some (.mn c.args.toList)
 | _=>none
def comp(P:Program)(br:List Nat)(o:Oper):Option gP:=
 match o.op with
 | .move x | .assign x=>if Dz x then (match P.underlying o.type with
   | some (.slice e)=>if 0<P.cellsOf e then some (.HF e (P.cellsOf e)) else some (.jG x)
   | _=>some (.jG x)) else some (.jG x)
 | .pick c a b=>some (.pick c a b)
 | .binOp op t x y _=>JW P op t x y
 | .unOp op _ x=>some (.un op x)
 | .convert s d x=>Ol P s d x
 | .alloc t=>match zeroOf P t (P.cellsOf t) with
  | some [.pointer none,.slice none 0 0]=>some (.vL t)
  | some z=>some (.alloc (tH z))
  | none=>none
 | .box t x=>(gS P t).map fun n=> .box n x
 | .build t ps=>match P.underlying t with
  | some (.struct fs)=>(match places P fs.toList,zeroOf P t (P.cellsOf t) with
   | some pl,some z=>(lJ (fun i=>pl[i]?) ps.toList).map fun q=> .build (tH z) q
   | _,_=>none)
  | some (.array _ e)=>(match gS P e,zeroOf P t (P.cellsOf t) with
   | some k,some z=>(lJ (fun i=>some (i*k,k)) ps.toList).map fun q=> .build (tH z) q
   | _,_=>none)
  | _=>none
 | .buildSlice t n ps=>match P.underlying t with
  | some (.slice e)=>(match gS P e with
   | some k=>(match zeroOf P e k with
    | some z=>if 0<k∧n*k≤65536 then (lJ (fun i=>some (i*k,k)) ps.toList).map fun q=> .tC e k n (tH ((List.range n).flatMap fun _=>z)) q else none
    | none=>none)
   | none=>none)
  | _=>none
 | .load t x=>match P.underlying t,gS P t with
  | some _,some n=>if gb P t=false→n=1 then some (.load (gb P t) n x) else none
  | _,_=>none
 | .store t x y=>match gS P t with
  | some n=>if 0<n then some (.store n x y) else none
  | none=>none
 | .nilCheck x=>some (.Og x)
 | .makeFunc (.func f) first cs=>if first.size=0 then some (.mkF f cs.toList) else none
 | .slice t x lo hi mx=>match P.underlying t with
  | some .string=>if mx.isNone then some (.tE x lo hi) else none
  | some (.array len e)=>(match gS P e with
   | some k=>if mx.isNone then some (.Qb len k x lo hi) else none
   | none=>none)
  | some (.slice e)=>(match gS P e with
   | some k=>if 0<k then (match mx with
    | none=>if (lo.isNone&&br.any (Nat.beq 200000) || br.any (Nat.beq 300000))=true then some (.JO e k x lo hi) else some (.tD e k x lo hi)
    | some m=>if lo.isNone&&JV hi&&JV (some m) then some (.SF e k x) else none) else none
   | none=>none)
  | _=>none
 | .fieldAddr t x f=>match P.underlying t with
  | some (.struct fs)=>(match fs[f]? with
   | some fd=>if P.cellsOf fd.type=0 then none else (match gS P fd.type with | some _=>some (.Qa fd.offset x) | none=>none)
   | none=>none)
  | _=>none
 | .field t x f=>match P.underlying t with
  | some (.struct fs)=>(match fs[f]? with
   | some fd=>(match P.underlying fd.type,gS P fd.type with
    | some _,some n=>if gb P fd.type=false→n=1 then some (.SE (gb P fd.type) fd.offset n x) else none
    | _,_=>none)
   | none=>none)
  | _=>none
 | .indexAddr t x i=>match P.underlying t with
  | some (.array len e)=>(match gS P e with | some k=>some (.xZ len k x i) | none=>none)
  | some (.slice e)=>(match gS P e with | some k=>if 0<k then some (.fQ e k x i) else none | none=>none)
  | _=>none
 | .index t x i=>match P.underlying t with
  | some (.array len e)=>(match P.underlying e,gS P e with
   | some _,some k=>if gb P e=false→k=1 then some (.M_ (gb P e) len k x i) else none
   | _,_=>none)
  | some .string=>some (.j9 x i)
  | _=>none
 | .extract x i=>some (.ext x i)
 | .range t x=>match P.underlying t with
  | some .string=>some (.WU x)
  | _=>none
 | .next x true=>some (.Qd x)
 | .makeSlice t l c=>match P.underlying t with
  | some (.slice e)=>(match P.info? e with
   | some i=>(match zeroOf P e i.size with
    | some z=>if 0<i.size∧1≤i.bytes then some (.JP e i.size i.bytes (tH z) l c) else none
    | none=>none)
   | none=>none)
  | _=>none
 | .panic _=>some (.mx [])
 | .makeInterface .. =>some (.mx [])
 | .call c=>Om P br c
 | _=>none

def gZ(P:Program)(f:Nat):Prop:= ∀(args:Array Value) (w:World),(callFunc f args).run P w= .ok (.enter f args) w
def H0(bs:List cj)(i:Nat):cL:=⟨0,bs[i]?⟩
structure Passed (E:Nat→Prop) (w:World) (aS:Nat→cJ) (bs:List cj):Prop where
 lt8:bs.length≤8
 dom: ∀i b c,aS i= .blk b c→i<bs.length∧E b
 inj: ∀i j b c c',aS i= .blk b c→aS j= .blk b c'→i=j
 rep: ∀i b,bs[i]?=some b→Od E w aS (H0 bs) (aS i) b
def gu(dz:Nat→cJ)(bs:List cj)(β:Nat→cJ):Ref→Value→Prop
 | .own j _ k n cs,v=>0<k∧cs.length=n*k∧match β j with
  | .nil a=>v= .slice a 0 0∧cs= []
  | .blk b c=>v= .slice (some ⟨b,off c,none⟩) n (cp c)∧n≤cp c
 | r,v=>bu dz (H0 bs) r v
def Yo(E:Nat→Prop)(dz β:Nat→cJ)(b:Nat):Prop:=E b∨(∃i c,dz i= .blk b c)∨ ∃j c,β j= .blk b c
structure JX (E:Nat→Prop) (w w':World) (aS:Nat→cJ) (bs:List cj) (r:PV) (b_:List cj) (v:Value) (dz β:Nat→cJ):Prop where
 rep:cT (Yo E dz β) w' (gu dz b_ β) r v
 azC: ∀i b,i<bs.length→b_[i]?=some b→vI (Yo E dz β) w' (gu dz b_ β) (dz i) b
 own: ∀x∈cY r b_,vI (Yo E dz β) w' (fun _ _=>False) (β x.1) x.2
 len:b_.length=bs.length∨b_.length=bs.length+1
 kind: ∀i b,bs[i]?=some b→Bd b b_[i]?∧(ajd b=true∨b_.length=bs.length+1→dz i=aS i)
 dom: ∀i b c,dz i= .blk b c→i<bs.length∧b<w'.heap.size∧(w.heap.size≤b∨ ∃c',aS i= .blk b c')
 inj1: ∀i j b c c',dz i= .blk b c→dz j= .blk b c'→i=j
 inj: ∀i j b c c',β i= .blk b c→β j= .blk b c'→i=j
 parted: ∀i j b c c',dz i= .blk b c→β j= .blk b c'→False
 new: ∀j b c,β j= .blk b c→w.heap.size≤b∧b<w'.heap.size
structure Chg (aS:Nat→cJ) (w w':World):Prop where
 os:w'.os=w.os
 tape:w'.tape=w.tape
 out:w'.output=w.output
 size:w.heap.size≤w'.heap.size
 blk: ∀b,b<w.heap.size→(∀i c,aS i≠ .blk b c)→w'.heap[b]?=w.heap[b]?
structure jg (W:World) (Φ:Nat→cJ) (w:World) (φ:Nat→cJ):Prop where
 sz:W.heap.size≤w.heap.size
 keep: ∀b,b<W.heap.size→(∀i c,Φ i≠ .blk b c)→w.heap[b]?=W.heap[b]?∧ ∀i c,φ i≠ .blk b c
theorem jg.refl{W:World}{Φ:Nat→cJ}:jg W Φ W Φ:=⟨Nat.le_refl _,fun _ _ h=>⟨rfl,h⟩⟩
theorem jg.trans{W w w':World}{Φ φ bK:Nat→cJ}(h:jg W Φ w φ)(k:jg w φ w' bK):jg W Φ w' bK:=
 ⟨Nat.le_trans h.sz k.sz,fun b hb hn=>by
  obtain ⟨h1,h2⟩:=h.keep b hb hn
  obtain ⟨k1,k2⟩:=k.keep b (Nat.lt_of_lt_of_le hb h.sz) h2
  exact ⟨k1.trans h1,k2⟩⟩
theorem jg.sub{W w:World}{Φ φ bK:Nat→cJ}(h:jg W Φ w φ)(hs: ∀i b c,bK i= .blk b c→ ∃j c',φ j= .blk b c'):jg W Φ w bK:=
 ⟨h.sz,fun b hb hn=>⟨(h.keep b hb hn).1,fun i c e=>by
  obtain ⟨j,c',e'⟩:=hs i b c e
  exact (h.keep b hb hn).2 j c' e'⟩⟩
theorem Mem.later{E:Nat→Prop}{m:List cj}{aS φ:Nat→cJ}{H:Nat→cL}{w0 w:World}(hm:Mem E m aS w0 φ H w):jg w0 aS w φ:=
 ⟨hm.sz,fun b hb hn=>⟨hm.fr b hb fun i c _=>hn i c,fun i c e=>by
  rcases (hm.lt i b c e).2 with h | ⟨_,c',h⟩
  ·omega
  ·exact hn i c' h⟩⟩
def nI(P:Program)(γ:cX)(W:World)(Φ:Nat→cJ):Prop:=
 ∀f args bs r b_,γ f args bs=some (r,b_)→gZ P f∧ ∀(E:Nat→Prop) (w:World) (aS:Nat→cJ) (vs:List Value),jg W Φ w aS→(∀b,E b→b<w.heap.size)→Passed E w aS bs→aZ E w (bu aS (H0 bs)) args vs→
  Calls P f vs.toArray w fun e w'=> ∃v dz β,e= .returned v∧Chg aS w w'∧JX E w w' aS bs r b_ v dz β
theorem nI.at{P:Program}{γ:cX}{W w:World}{Φ φ:Nat→cJ}(h:nI P γ W Φ)(hl:jg W Φ w φ):nI P γ w φ:=
 fun f args bs r b_ hr=>⟨(h f args bs r b_ hr).1,fun E w' aS vs hl'=>(h f args bs r b_ hr).2 E w' aS vs (hl.trans hl')⟩
theorem ajo{γ:cX}{f:Nat}{args:List PV}{r:PV}(h:Oh γ f args=some r):γ f args []=some (r,[]):=by
 unfold Oh at h
 split at h
 ·rename_i r' h2;cases h;exact h2
 ·cases h

section
variable {P : Program} {E : Nat → Prop} {m : List cj} {aS φ : Nat → cJ} {H : Nat → cL} {w0 w : World}
def Post(E:Nat→Prop)(m:List cj)(aS:Nat→cJ)(w0:World)(φ:Nat→cJ)(H:Nat→cL)(w:World)(p:PV)(aH:eo)(v:Value)(w':World):Prop:=
 ∃bK,Mem E m aS w0 bK (eO H aH) w'∧Tr E φ H w bK (eO H aH) w'∧cT (dr E bK) w' (bu bK (eO H aH)) p v
def Does(P:Program)(E:Nat→Prop)(m:List cj)(aS:Nat→cJ)(w0:World)(φ:Nat→cJ)(H:Nat→cL)(w:World)(p:PV)(aH:eo)(x:Sem Next):Prop:=
 (∃v w',x.run P w= .ok (.value v) w'∧Post E m aS w0 φ H w p aH v w')∨(∃w',x.run P w= .ok .skip w'∧Post E m aS w0 φ H w p aH undef w')∨
 ∃f args,x.run P w= .ok (.enter f args) w∧Calls P f args w fun e w'=> ∃v,e= .returned v∧Post E m aS w0 φ H w p aH v w'
theorem Gv(hm:Mem E m aS w0 φ H w){x:Sem Next}{p:PV}{v:Value}(hr:x.run P w= .ok (.value v) w)(hv:cT (dr E φ) w (bu φ H) p v):Does P E m aS w0 φ H w p [] x:=
 .inl ⟨v,w,hr,φ,hm,Tr.refl,hv⟩
end
end Go.Proofs.YtobkkblijfhpoaaGreatDoor.Pm
