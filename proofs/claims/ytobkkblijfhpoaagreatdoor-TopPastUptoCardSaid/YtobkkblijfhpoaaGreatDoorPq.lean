/- The small machine: an operation of the language, read as one of the small machine's. No program is named here. -/
import Derived.Test.YtobkkblijfhpoaaGreatDoorPp
namespace Go.Proofs.YtobkkblijfhpoaaGreatDoor.Pm
open Go.RowKit

def aggT (P : Program) (t : TypeId) : Bool := match P.underlying t with | some (.struct _) | some (.array _ _) => true | _ => false
def sz? (P : Program) (t : TypeId) : Option Nat := (P.info? t).map (·.size)
def eqV : Value → Value → Bool
 | .int k n, .int k' n' => decide (k = k') && decide (n = n')
 | .bool a, .bool b => decide (a = b)
 | .string a, .string b => decide (a.data = b.data)
 | _, _ => false
theorem eqV_eq {u v : Value} (h : eqV u v = true) : u = v := by
 unfold eqV at h
 split at h
 ·simp at h; rw [h.1, h.2]
 ·simp at h; rw [h]
 ·rename_i a b
  simp at h
  obtain ⟨⟨a⟩⟩ := a
  obtain ⟨⟨b⟩⟩ := b
  simp at h; rw [h]
 ·cases h
def rle : List Value → List (Nat × Value)
 | [] => []
 | v :: r => match rle r with
  | (n, u) :: q => if eqV v u then (n + 1, u) :: q else (1, v) :: (n, u) :: q
  | [] => [(1, v)]
theorem unrle_rle : ∀ l : List Value, unrle (rle l) = l.map ofConst
 | [] => rfl
 | v :: r => by
  have ih := unrle_rle r
  unfold rle
  split
  ·rename_i n u q hq
   rw [hq] at ih
   split
   ·rename_i he
    rw [eqV_eq he, List.map_cons, ← ih]
    simp [unrle, List.replicate_succ]
   ·rw [List.map_cons, ← ih]
    simp [unrle]
  ·rename_i hq
   rw [hq] at ih
   rw [List.map_cons, ← ih]
   simp [unrle]
def zeroOf (P : Program) (t : TypeId) (n : Nat) : Option (List Value) :=
 match P.info? t with
 | some i => match i.zero with
  | some z => if z.cells.size = n then some z.cells.toList else none
  | none => none
 | none => none
def places (P : Program) : List Field → Option (List (Nat × Nat))
 | fs => fs.mapM (fun f => (P.info? f.type).map fun i => (f.offset, i.size))
def partsAt (pl : Nat → Option (Nat × Nat)) : List (Nat × Operand) → Option (List (Nat × Nat × Operand))
 | [] => some []
 | (i, x) :: r => match pl i, partsAt pl r with
  | some (o, n), some q => some ((o, n, x) :: q)
  | _, _ => none
def isNilE : Operand → Bool
 | .const .nilIface => true
 | _ => false
def isNilK : Operand → Bool
 | .const (.slice none 0 0) => true
 | _ => false
def isZeroK : Option Operand → Bool
 | some (.const (.int _ 0)) => true
 | _ => false
def rleK : List LK → List (Nat × LK)
 | [] => []
 | v :: r => match rleK r with
  | (n, u) :: q => if v = u then (n + 1, u) :: q else (1, v) :: (n, u) :: q
  | [] => [(1, v)]
theorem unrleK_rle : ∀ l : List LK, unrleK (rleK l) = l
 | [] => rfl
 | v :: r => by
  have ih := unrleK_rle r
  unfold rleK
  split
  ·rename_i n u q hq
   rw [hq] at ih
   split
   ·rename_i he
    rw [he, ← ih]
    simp [unrleK, List.replicate_succ]
   ·rw [← ih]
    simp [unrleK]
  ·rename_i hq
   rw [hq] at ih
   rw [← ih]
   simp [unrleK]
def kindsGo (K : TypeId → Option (List LK)) : List Field → Nat → Option (List LK)
 | [], _ => some []
 | f :: r, off => if f.name ≠ "_" ∧ f.offset = off then (match K f.type with
  | some ks => (match kindsGo K r (off + ks.length) with
   | some l => some (ks ++ l)
   | none => none)
  | none => none) else none
def kindsOf (P : Program) : Nat → TypeId → Option (List LK)
 | 0, _ => none
 | d + 1, t => match (match P.underlying t with
   | some (.int _) => some [LK.int]
   | some .bool => some [LK.bool]
   | some .string => some [LK.str]
   | some (.struct fs) => if P.stoodInHeld t = false then kindsGo (kindsOf P d) fs.toList 0 else none
   | some (.array n e) => (match kindsOf P d e with
    | some ks => some ((List.range n).flatMap fun _ => ks)
    | none => none)
   | _ => none) with
  | some ks => if sz? P t = some ks.length then some ks else none
  | none => none
def compBin (P : Program) (op : BinOp) (t : TypeId) (x y : Operand) : Option POp :=
 match P.underlying t with
 | some (.int _) => match op with
  | .shl | .shr => some (.sh op x y)
  | .add | .sub | .mul | .quo | .rem | .and | .or | .xor | .andNot => some (.arI op x y)
  | _ => some (.cmpI op x y)
 | some .string => some (.strO op x y)
 | some .bool => match op with
  | .eql => some (.eqB false x y)
  | .neq => some (.eqB true x y)
  | _ => none
 | some (.slice _) => if isNilK y then (match op with
  | .eql => some (.isN false x)
  | .neq => some (.isN true x)
  | _ => none) else none
 | some (.interface _) => if isNilE y then (match op with
  | .eql => some (.isE false x)
  | .neq => some (.isE true x)
  | _ => none) else none
 | some (.struct _) | some (.array _ _) => (match kindsOf P 40 t with
  | some ks => if P.eqGuardType P.depth t = false then (match op with
   | .eql => some (.eqA false (rleK ks) x y)
   | .neq => some (.eqA true (rleK ks) x y)
   | _ => none) else none
  | none => none)
 | _ => none
def compConv (P : Program) (src dst : TypeId) (x : Operand) : Option POp :=
 match P.underlying src, P.underlying dst with
 | some (.int _), some (.int k) => some (.cvI k x)
 | some (.int _), some .string => some (.cvIS x)
 | some .string, some .string => some (.cvSS x)
 | some .string, some (.slice e) => match P.underlying e with
  | some (.int .u8) => some (.cvSO e x)
  | _ => none
 | some (.slice e), some .string => match P.underlying e with
  | some (.int .u8) => if sz? P e = some 1 then some (.cvBS x) else none
  | _ => none
 | _, _ => none
def isStr : Option TypeDesc → Bool
 | some .string => true
 | _ => false
theorem isStr_eq {d : Option TypeDesc} (h : isStr d = true) : d = some .string := by
 unfold isStr at h
 split at h
 ·rfl
 ·cases h
def compCall (P : Program) (br : List Nat) (c : Call) : Option POp :=
 match c.callee with
 | .value (.func f) => if br.any (Nat.beq f) then some (.callr f c.args.toList) else if br.any (Nat.beq (f + 100000)) then some (.callf f c.args.toList) else some (.call f c.args.toList)
 | .value x => some (.callv x c.args.toList)
 | .builtin .append => match c.args.toList, c.argTypes.toList with
  | [x, y], [t, t'] => if (decide (t = t') || isStr (P.underlying t')) = true then (match P.underlying t with
   | some (.slice e) => (match P.info? e with
    | some i => (match i.zero with
     | some z => if z.cells.size = i.size ∧ 0 < i.size ∧ 1 ≤ i.bytes then some (.app e i.size i.bytes x y) else none
     | none => none)
    | none => none)
   | _ => none) else none
  | _, _ => none
 | .builtin .len => match c.args.toList, c.argTypes.toList with
  | [x], [t] => (match P.underlying t with
   | some .string => some (.len true x)
   | some (.slice _) => some (.len false x)
   | _ => none)
  | _, _ => none
 | .builtin .copy => match c.args.toList, c.argTypes.toList with
  | [x, y], [t, _] => (match P.underlying t with
   | some (.slice e) => (match sz? P e with
    | some k => if 0 < k then some (.cpy k x y) else none
    | none => none)
   | _ => none)
  | _, _ => none
 | .builtin .clear => match c.args.toList, c.argTypes.toList with
  | [x], [t] => (match P.underlying t with
   | some (.slice e) => (match P.info? e with
    | some i => (match zeroOf P e i.size with
     | some z => if 0 < i.size then some (.clr i.size (rle z) x) else none
     | none => none)
    | none => none)
   | _ => none)
  | _, _ => none
 | .builtin .max => some (.mx c.args.toList)
 | .builtin .min => some (.mn c.args.toList)
 | _ => none
def comp (P : Program) (br : List Nat) (o : Oper) : Option POp :=
 match o.op with
 | .move x | .assign x => if isNilK x then (match P.underlying o.type with
   | some (.slice e) => if 0 < P.cellsOf e then some (.nilS e (P.cellsOf e)) else some (.mov x)
   | _ => some (.mov x)) else some (.mov x)
 | .pick c a b => some (.pick c a b)
 | .binOp op t x y _ => compBin P op t x y
 | .unOp op _ x => some (.un op x)
 | .convert s d x => compConv P s d x
 | .alloc t => match zeroOf P t (P.cellsOf t) with
  | some [.pointer none, .slice none 0 0] => some (.allocB t)
  | some z => some (.alloc (rle z))
  | none => none
 | .box t x => (sz? P t).map fun n => .box n x
 | .build t ps => match P.underlying t with
  | some (.struct fs) => (match places P fs.toList, zeroOf P t (P.cellsOf t) with
   | some pl, some z => (partsAt (fun i => pl[i]?) ps.toList).map fun q => .build (rle z) q
   | _, _ => none)
  | some (.array _ e) => (match sz? P e, zeroOf P t (P.cellsOf t) with
   | some k, some z => (partsAt (fun i => some (i * k, k)) ps.toList).map fun q => .build (rle z) q
   | _, _ => none)
  | _ => none
 | .buildSlice t n ps => match P.underlying t with
  | some (.slice e) => (match sz? P e with
   | some k => (match zeroOf P e k with
    | some z => if 0 < k ∧ n * k ≤ 65536 then (partsAt (fun i => some (i * k, k)) ps.toList).map fun q => .bsl e k n (rle ((List.range n).flatMap fun _ => z)) q else none
    | none => none)
   | none => none)
  | _ => none
 | .load t x => match P.underlying t, sz? P t with
  | some _, some n => if aggT P t = false → n = 1 then some (.load (aggT P t) n x) else none
  | _, _ => none
 | .store t x y => match sz? P t with
  | some n => if 0 < n then some (.store n x y) else none
  | none => none
 | .nilCheck x => some (.nilC x)
 | .makeFunc (.func f) first cs => if first.size = 0 then some (.mkF f cs.toList) else none
 | .slice t x lo hi mx => match P.underlying t with
  | some .string => if mx.isNone then some (.slStr x lo hi) else none
  | some (.array len e) => (match sz? P e with
   | some k => if mx.isNone then some (.slA len k x lo hi) else none
   | none => none)
  | some (.slice e) => (match sz? P e with
   | some k => if 0 < k then (match mx with
    | none => if (lo.isNone && br.any (Nat.beq 200000)) = true then some (.slC e k x lo hi) else some (.slS e k x lo hi)
    | some m => if lo.isNone && isZeroK hi && isZeroK (some m) then some (.slE e k x) else none) else none
   | none => none)
  | _ => none
 | .fieldAddr t x f => match P.underlying t with
  | some (.struct fs) => (match fs[f]? with
   | some fd => if P.cellsOf fd.type = 0 then none else (match sz? P fd.type with | some _ => some (.fld fd.offset x) | none => none)
   | none => none)
  | _ => none
 | .field t x f => match P.underlying t with
  | some (.struct fs) => (match fs[f]? with
   | some fd => (match P.underlying fd.type, sz? P fd.type with
    | some _, some n => if aggT P fd.type = false → n = 1 then some (.fldV (aggT P fd.type) fd.offset n x) else none
    | _, _ => none)
   | none => none)
  | _ => none
 | .indexAddr t x i => match P.underlying t with
  | some (.array len e) => (match sz? P e with | some k => some (.ixA len k x i) | none => none)
  | some (.slice e) => (match sz? P e with | some k => if 0 < k then some (.ixS e k x i) else none | none => none)
  | _ => none
 | .index t x i => match P.underlying t with
  | some (.array len e) => (match P.underlying e, sz? P e with
   | some _, some k => if aggT P e = false → k = 1 then some (.ixV (aggT P e) len k x i) else none
   | _, _ => none)
  | some .string => some (.ixStr x i)
  | _ => none
 | .extract x i => some (.ext x i)
 | .range t x => match P.underlying t with
  | some .string => some (.rng x)
  | _ => none
 | .next x true => some (.nxt x)
 | .makeSlice t l c => match P.underlying t with
  | some (.slice e) => (match P.info? e with
   | some i => (match zeroOf P e i.size with
    | some z => if 0 < i.size ∧ 1 ≤ i.bytes then some (.mks e i.size i.bytes (rle z) l c) else none
    | none => none)
   | none => none)
  | _ => none
 | .panic _ => some (.mx [])
 | .makeInterface .. => some (.mx [])
 | .call c => compCall P br c
 | _ => none

def canEnter (P : Program) (f : Nat) : Prop := ∀ (args : Array Value) (w : World), (callFunc f args).run P w = .ok (.enter f args) w
def H0 (bs : List Blk) (i : Nat) : Cel := ⟨0, bs[i]?⟩
structure Passed (E : Nat → Prop) (w : World) (φ0 : Nat → Phys) (bs : List Blk) : Prop where
 lt8 : bs.length ≤ 8
 dom : ∀ i b c, φ0 i = .blk b c → i < bs.length ∧ E b
 inj : ∀ i j b c c', φ0 i = .blk b c → φ0 j = .blk b c' → i = j
 rep : ∀ i b, bs[i]? = some b → RepB E w φ0 (H0 bs) (φ0 i) b
def RefOut (φ1 : Nat → Phys) (bs : List Blk) (β : Nat → Phys) : Ref → Value → Prop
 | .own j _ k n cs, v => 0 < k ∧ cs.length = n * k ∧ match β j with
  | .nil a => v = .slice a 0 0 ∧ cs = []
  | .blk b c => v = .slice (some ⟨b, 0, none⟩) n c ∧ n ≤ c
 | r, v => RefAt φ1 (H0 bs) r v
def Yo (E : Nat → Prop) (φ1 β : Nat → Phys) (b : Nat) : Prop := E b ∨ (∃ i c, φ1 i = .blk b c) ∨ ∃ j c, β j = .blk b c
structure OutOk (E : Nat → Prop) (w w' : World) (φ0 : Nat → Phys) (bs : List Blk) (r : PV) (bs' : List Blk) (v : Value) (φ1 β : Nat → Phys) : Prop where
 rep : RepV (Yo E φ1 β) w' (RefOut φ1 bs' β) r v
 brep : ∀ i b, i < bs.length → bs'[i]? = some b → RepBg (Yo E φ1 β) w' (RefOut φ1 bs' β) (φ1 i) b
 own : ∀ x ∈ ownsAll r bs', RepBg (Yo E φ1 β) w' (fun _ _ => False) (β x.1) x.2
 len : bs'.length = bs.length ∨ bs'.length = bs.length + 1
 kind : ∀ i b, bs[i]? = some b → kin b bs'[i]? ∧ (isBox b = true ∨ bs'.length = bs.length + 1 → φ1 i = φ0 i)
 dom : ∀ i b c, φ1 i = .blk b c → i < bs.length ∧ b < w'.heap.size ∧ (w.heap.size ≤ b ∨ ∃ c', φ0 i = .blk b c')
 inj1 : ∀ i j b c c', φ1 i = .blk b c → φ1 j = .blk b c' → i = j
 inj : ∀ i j b c c', β i = .blk b c → β j = .blk b c' → i = j
 parted : ∀ i j b c c', φ1 i = .blk b c → β j = .blk b c' → False
 new : ∀ j b c, β j = .blk b c → w.heap.size ≤ b ∧ b < w'.heap.size
structure Chg (φ0 : Nat → Phys) (w w' : World) : Prop where
 os : w'.os = w.os
 tape : w'.tape = w.tape
 out : w'.output = w.output
 size : w.heap.size ≤ w'.heap.size
 blk : ∀ b, b < w.heap.size → (∀ i c, φ0 i ≠ .blk b c) → w'.heap[b]? = w.heap[b]?
structure Later (W : World) (Φ : Nat → Phys) (w : World) (φ : Nat → Phys) : Prop where
 sz : W.heap.size ≤ w.heap.size
 keep : ∀ b, b < W.heap.size → (∀ i c, Φ i ≠ .blk b c) → w.heap[b]? = W.heap[b]? ∧ ∀ i c, φ i ≠ .blk b c
theorem Later.refl {W : World} {Φ : Nat → Phys} : Later W Φ W Φ := ⟨Nat.le_refl _, fun _ _ h => ⟨rfl, h⟩⟩
theorem Later.trans {W w w' : World} {Φ φ φ' : Nat → Phys} (h : Later W Φ w φ) (k : Later w φ w' φ') : Later W Φ w' φ' :=
 ⟨Nat.le_trans h.sz k.sz, fun b hb hn => by
  obtain ⟨h1, h2⟩ := h.keep b hb hn
  obtain ⟨k1, k2⟩ := k.keep b (Nat.lt_of_lt_of_le hb h.sz) h2
  exact ⟨k1.trans h1, k2⟩⟩
theorem Later.sub {W w : World} {Φ φ φ' : Nat → Phys} (h : Later W Φ w φ) (hs : ∀ i b c, φ' i = .blk b c → ∃ j c', φ j = .blk b c') : Later W Φ w φ' :=
 ⟨h.sz, fun b hb hn => ⟨(h.keep b hb hn).1, fun i c e => by
  obtain ⟨j, c', e'⟩ := hs i b c e
  exact (h.keep b hb hn).2 j c' e'⟩⟩
theorem Mem.later {E : Nat → Prop} {m : List Blk} {φ0 φ : Nat → Phys} {H : Nat → Cel} {w0 w : World} (hm : Mem E m φ0 w0 φ H w) : Later w0 φ0 w φ :=
 ⟨hm.sz, fun b hb hn => ⟨hm.fr b hb fun i c _ => hn i c, fun i c e => by
  rcases (hm.lt i b c e).2 with h | ⟨_, c', h⟩
  ·omega
  ·exact hn i c' h⟩⟩
def Snd (P : Program) (γ : Orc) (W : World) (Φ : Nat → Phys) : Prop :=
 ∀ f args bs r bs', γ f args bs = some (r, bs') → canEnter P f ∧ ∀ (E : Nat → Prop) (w : World) (φ0 : Nat → Phys) (vs : List Value), Later W Φ w φ0 → (∀ b, E b → b < w.heap.size) → Passed E w φ0 bs → RepL E w (RefAt φ0 (H0 bs)) args vs →
  Calls P f vs.toArray w fun e w' => ∃ v φ1 β, e = .returned v ∧ Chg φ0 w w' ∧ OutOk E w w' φ0 bs r bs' v φ1 β
theorem Snd.at {P : Program} {γ : Orc} {W w : World} {Φ φ : Nat → Phys} (h : Snd P γ W Φ) (hl : Later W Φ w φ) : Snd P γ w φ :=
 fun f args bs r bs' hr => ⟨(h f args bs r bs' hr).1, fun E w' φ0 vs hl' => (h f args bs r bs' hr).2 E w' φ0 vs (hl.trans hl')⟩
theorem val1_of {γ : Orc} {f : Nat} {args : List PV} {r : PV} (h : val1 γ f args = some r) : γ f args [] = some (r, []) := by
 unfold val1 at h
 split at h
 ·rename_i r' h2; cases h; exact h2
 ·cases h

section
variable {P : Program} {E : Nat → Prop} {m : List Blk} {φ0 φ : Nat → Phys} {H : Nat → Cel} {w0 w : World}
def Post (E : Nat → Prop) (m : List Blk) (φ0 : Nat → Phys) (w0 : World) (φ : Nat → Phys) (H : Nat → Cel) (w : World) (p : PV) (ups : Ups) (v : Value) (w' : World) : Prop :=
 ∃ φ', Mem E m φ0 w0 φ' (setH H ups) w' ∧ Tr E φ H w φ' (setH H ups) w' ∧ RepV (Xof E φ') w' (RefAt φ' (setH H ups)) p v
def Does (P : Program) (E : Nat → Prop) (m : List Blk) (φ0 : Nat → Phys) (w0 : World) (φ : Nat → Phys) (H : Nat → Cel) (w : World) (p : PV) (ups : Ups) (x : Sem Next) : Prop :=
 (∃ v w', x.run P w = .ok (.value v) w' ∧ Post E m φ0 w0 φ H w p ups v w') ∨ (∃ w', x.run P w = .ok .skip w' ∧ Post E m φ0 w0 φ H w p ups undef w') ∨
 ∃ f args, x.run P w = .ok (.enter f args) w ∧ Calls P f args w fun e w' => ∃ v, e = .returned v ∧ Post E m φ0 w0 φ H w p ups v w'
theorem doesP (hm : Mem E m φ0 w0 φ H w) {x : Sem Next} {p : PV} {v : Value} (hr : x.run P w = .ok (.value v) w) (hv : RepV (Xof E φ) w (RefAt φ H) p v) : Does P E m φ0 w0 φ H w p [] x :=
 .inl ⟨v, w, hr, φ, hm, Tr.refl, hv⟩
end
end Go.Proofs.YtobkkblijfhpoaaGreatDoor.Pm
