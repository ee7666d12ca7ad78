/- The small machine itself: what an operation does to plain data. No program is named here. -/
import Derived.Test.YtobkkblijfhpoaaGreatDoorPm
namespace Go.Proofs.YtobkkblijfhpoaaGreatDoor.Pm

def PV.int? : PV → Option (IntKind × Int) | .d (.int k n) => some (k, n) | _ => none
def PV.bool? : PV → Option Bool | .d (.bool b) => some b | _ => none
def PV.str? : PV → Option (List UInt8) | .d (.str s) => some s | _ => none
def PV.cells? : PV → Option (List PV)
 | .agg cs => some cs
 | .d x => some [.d x]
 | .r x => some [.r x]
 | .fn f cs => some [.fn f cs]
 | .nil => some [.nil]
 | .rptr cs => some [.rptr cs]
 | .slz z n cs => some [.slz z n cs]
 | _ => none
def isCell : PV → Bool
 | .agg _ | .tup _ | .un => false
 | _ => true
def ofConst : Value → PV
 | .int k n => .d (.int k n)
 | .bool b => .d (.bool b)
 | .string s => .d (.str s.data.toList)
 | .slice none 0 0 => .nil
 | .nilIface => .d (.err false)
 | _ => .un
def look (H : Nat → Cel) (i g : Nat) : Option Blk := if g = (H i).g then (H i).b else none
def bid (d j : Nat) : Nat := 8 * d + 8 + j
def nw (H : Nat → Cel) (i : Nat) (b : Blk) : Nat × Cel := (i, ⟨(H i).g + 1, some b⟩)
def toD : PV → Option PD
 | .d x => some x
 | .nil => some (.sl 0 [])
 | .slz _ n cs => some (.sl n cs)
 | _ => none
def allD : List PV → Option (List PD)
 | [] => some []
 | p :: ps => match toD p, allD ps with
  | some x, some xs => some (x :: xs)
  | _, _ => none
def asL (H : Nat → Cel) : PV → Option (Nat × List PD)
 | .d (.sl n cs) => some (n, cs)
 | .nil => some (0, [])
 | .slz _ n cs => some (n, cs)
 | .r (.msl i g l n) => match look H i g with
  | some (.own _ k cs) => some (n, (cs.drop (l * k)).take (n * k))
  | _ => none
 | _ => none
def bytesD : List UInt8 → List PD
 | [] => []
 | b :: t => .int .u8 (b.toNat : Int) :: bytesD t
def asB (H : Nat → Cel) (k : Nat) : PV → Option (Nat × List PD)
 | .d (.str s) => if k = 1 then some (s.length, bytesD s) else none
 | v => asL H v
theorem asB_of {H : Nat → Cel} {k : Nat} {p : PV} {r : Nat × List PD} (h : asL H p = some r) : asB H k p = some r := by
 unfold asB
 split
 ·simp [asL] at h
 ·exact h
def bitI (op : BinOp) (k : IntKind) (x y : Int) : Int :=
 let a := BitVec.ofInt k.bits x
 let b := BitVec.ofInt k.bits y
 match op with
 | .and => k.wrap (a &&& b).toNat
 | .or => k.wrap (a ||| b).toNat
 | .xor => k.wrap (a ^^^ b).toNat
 | _ => k.wrap (a &&& ~~~b).toNat
def arith (op : BinOp) (k : IntKind) (x y : Int) : Option Int :=
 match op with
 | .add => some (k.wrap (x + y))
 | .sub => some (k.wrap (x - y))
 | .mul => some (k.wrap (x * y))
 | .quo => if y = 0 then none else some (k.wrap (x.tdiv y))
 | .rem => if y = 0 then none else some (x.tmod y)
 | .and => some (bitI .and k x y)
 | .or => some (bitI .or k x y)
 | .xor => some (bitI .xor k x y)
 | .andNot => some (bitI .andNot k x y)
 | _ => none
def shI (op : BinOp) (k : IntKind) (x y : Int) : Option Int :=
 match op with
 | .shl => if 0 ≤ y then some (k.wrap (x * 2 ^ (min y.toNat k.bits))) else none
 | .shr => if 0 ≤ y then some (x.fdiv (2 ^ (min y.toNat k.bits))) else none
 | _ => none
def cmpZ (op : BinOp) (x y : Int) : Option Bool :=
 match op with
 | .eql => some (decide (x = y))
 | .neq => some (!decide (x = y))
 | .lss => some (decide (x < y))
 | .leq => some (decide (x ≤ y))
 | .gtr => some (decide (y < x))
 | .geq => some (decide (y ≤ x))
 | _ => none
def cmpS (op : BinOp) (x y : List UInt8) : Option Bool :=
 match op with
 | .eql => some (decide (x = y))
 | .neq => some (!decide (x = y))
 | .lss => some (Op.bytesLess x y)
 | .leq => some (Op.bytesLess x y || decide (x = y))
 | .gtr => some (!(Op.bytesLess x y || decide (x = y)))
 | .geq => some (!Op.bytesLess x y)
 | _ => none
inductive LK where
 | int | bool | str
 deriving DecidableEq, Inhabited
def eqC : LK → PV → PV → Option Bool
 | .int, .d (.int k a), .d (.int k' b) => if k = k' then some (decide (a = b)) else none
 | .bool, .d (.bool a), .d (.bool b) => some (decide (a = b))
 | .str, .d (.str a), .d (.str b) => some (decide (a = b))
 | _, _, _ => none
def eqL : List LK → List PV → List PV → Option Bool
 | [], [], [] => some true
 | k :: ks, x :: xs, y :: ys => match eqC k x y, eqL ks xs ys with
  | some a, some b => some (a && b)
  | _, _ => none
 | _, _, _ => none
def splice {α : Type} (cs : List α) (o : Nat) (new : List α) : List α := cs.take o ++ new ++ cs.drop (o + new.length)
def part (agg : Bool) (cs : List PV) (o n : Nat) : Option PV :=
 if agg then (if o + n ≤ cs.length then some (.agg ((cs.drop o).take n)) else none) else cs[o]?
def partD (agg : Bool) (cs : List PD) (o n : Nat) : Option PV :=
 if agg then (if o + n ≤ cs.length then some (.agg (((cs.drop o).take n).map .d)) else none) else cs[o]?.map .d
def unrle : List (Nat × Value) → List PV
 | [] => []
 | (n, v) :: r => List.replicate n (ofConst v) ++ unrle r
def fillP (ρ : Operand → PV) : List PV → List (Nat × Nat × Operand) → Option (List PV)
 | cs, [] => some cs
 | cs, (o, n, x) :: r => match (ρ x).cells? with
  | some new => if new.length = n ∧ o + n ≤ cs.length then fillP ρ (splice cs o new) r else none
  | none => none

def okU : PV → Bool
 | .un => false
 | .tup _ => false
 | .agg _ => false
 | _ => true
def blkU : Blk → Option (List PD)
 | .box cs => if cs.all okU = true then some (cs.map fun p => (toD p).getD .un) else none
 | .own _ _ cs => some cs
mutual
def lendV (H : Nat → Cel) : PV → Option PV
 | .d x => some (.d x)
 | .agg cs => (lendL H cs).map .agg
 | .fn f cs => (lendL H cs).map (.fn f)
 | .rptr cs => some (.rptr cs)
 | .nil => some (.d (.sl 0 []))
 | .slz _ n cs => some (.d (.sl n cs))
 | .un => some .un
 | .tup _ => none
 | .r (.ptr i g o) => match look H i g with
  | some b => (blkU b).map fun cs => .rptr (cs.drop o)
  | none => none
 | .r (.msl i g l n) => match look H i g with
  | some (.own _ k cs) => some (.d (.sl n ((cs.drop (l * k)).take (n * k))))
  | _ => none
 | .r (.own ..) => none
def lendL (H : Nat → Cel) : List PV → Option (List PV)
 | [] => some []
 | p :: ps => match lendV H p, lendL H ps with
  | some x, some xs => some (x :: xs)
  | _, _ => none
end
mutual
def refsV : PV → List Nat
 | .agg cs => refsL cs
 | .tup cs => refsL cs
 | .fn _ cs => refsL cs
 | .r (.ptr i _ _) => [i]
 | .r (.msl i _ _ _) => [i]
 | _ => []
def refsL : List PV → List Nat
 | [] => []
 | p :: ps => refsV p ++ refsL ps
end
mutual
def freeV : PV → Bool
 | .d (.sl _ cs) => cs.isEmpty
 | .d _ => true
 | .agg cs => freeL cs
 | .tup cs => freeL cs
 | .fn _ cs => freeL cs
 | .r (.own _ _ _ _ cs) => cs.all fun | .sl _ ds => ds.isEmpty | _ => true
 | .r _ => true
 | .rptr cs => false
 | .slz _ _ cs => cs.isEmpty
 | .nil => true
 | .un => true
def freeL : List PV → Bool
 | [] => true
 | p :: ps => freeV p && freeL ps
end
mutual
def adV (H : Nat → Cel) (d : Nat) : PV → PV
 | .agg cs => .agg (adL H d cs)
 | .tup cs => .tup (adL H d cs)
 | .fn f cs => .fn f (adL H d cs)
 | .r (.own j _ _ n _) => .r (.msl (bid d j) ((H (bid d j)).g + 1) 0 n)
 | .r _ => .un
 | p => p
def adL (H : Nat → Cel) (d : Nat) : List PV → List PV
 | [] => []
 | p :: ps => adV H d p :: adL H d ps
end
mutual
def owns : PV → List (Nat × Blk)
 | .agg cs => ownsL cs
 | .tup cs => ownsL cs
 | .fn _ cs => ownsL cs
 | .r (.own j e k _ cs) => [(j, .own e k cs)]
 | _ => []
def ownsL : List PV → List (Nat × Blk)
 | [] => []
 | p :: ps => owns p ++ ownsL ps
end
mutual
def frzV (D : Nat → Bool) (H : Nat → Cel) : PV → PV
 | .agg cs => .agg (frzL D H cs)
 | .tup cs => .tup (frzL D H cs)
 | .fn f cs => .fn f (frzL D H cs)
 | .r (.msl i g l n) => if D i then (match look H i g with
  | some (.own _ k cs) => .d (.sl n ((cs.drop (l * k)).take (n * k)))
  | _ => .un) else .r (.msl i g l n)
 | .r (.ptr i g o) => if D i then .un else .r (.ptr i g o)
 | p => p
def frzL (D : Nat → Bool) (H : Nat → Cel) : List PV → List PV
 | [] => []
 | p :: ps => frzV D H p :: frzL D H ps
end
def frzB (D : Nat → Bool) (H : Nat → Cel) : Option Blk → Option Blk
 | some (.box cs) => some (.box (frzL D H cs))
 | b => b
def inL (l : List Nat) (i : Nat) : Bool := l.any (Nat.beq i)
def distinct : List Nat → Bool
 | [] => true
 | x :: xs => xs.all (fun y => !Nat.beq x y) && distinct xs

def unrleK : List (Nat × LK) → List LK
 | [] => []
 | (n, k) :: r => List.replicate n k ++ unrleK r
inductive POp where
 | mov (x : Operand)
 | nilS (e k : Nat)
 | pick (c a b : Operand)
 | arI (op : BinOp) (x y : Operand)
 | sh (op : BinOp) (x y : Operand)
 | cmpI (op : BinOp) (x y : Operand)
 | strO (op : BinOp) (x y : Operand)
 | eqB (neg : Bool) (x y : Operand)
 | eqA (neg : Bool) (ks : List (Nat × LK)) (x y : Operand)
 | isN (neg : Bool) (x : Operand)
 | isE (neg : Bool) (x : Operand)
 | cvSB (x : Operand)
 | cvSO (e : Nat) (x : Operand)
 | un (op : UnOp) (x : Operand)
 | cvI (k : IntKind) (x : Operand)
 | cvBS (x : Operand)
 | cvIS (x : Operand)
 | cvSS (x : Operand)
 | box (n : Nat) (x : Operand)
 | alloc (zero : List (Nat × Value))
 | allocB (T : Nat)
 | build (zero : List (Nat × Value)) (ps : List (Nat × Nat × Operand))
 | bsl (e k n : Nat) (zero : List (Nat × Value)) (ps : List (Nat × Nat × Operand))
 | load (agg : Bool) (n : Nat) (x : Operand)
 | store (n : Nat) (x y : Operand)
 | nilC (x : Operand)
 | fld (o : Nat) (x : Operand)
 | fldV (agg : Bool) (o n : Nat) (x : Operand)
 | ixA (len k : Nat) (x i : Operand)
 | ixS (e k : Nat) (x i : Operand)
 | ixV (agg : Bool) (len k : Nat) (x i : Operand)
 | ixStr (x i : Operand)
 | slS (e k : Nat) (x : Operand) (lo hi : Option Operand)
 | slStr (x : Operand) (lo hi : Option Operand)
 | slE (e k : Nat) (x : Operand)
 | ext (x : Operand) (i : Nat)
 | mkF (f : Nat) (cs : List Operand)
 | call (f : Nat) (xs : List Operand)
 | callv (x : Operand) (xs : List Operand)
 | callr (f : Nat) (xs : List Operand)
 | callf (f : Nat) (xs : List Operand)
 | app (e k bytes : Nat) (x y : Operand)
 | len (str : Bool) (x : Operand)
 | slA (len k : Nat) (x : Operand) (lo hi : Option Operand)
 | clr (k : Nat) (zero : List (Nat × Value)) (x : Operand)
 | slC (e k : Nat) (x : Operand) (lo hi : Option Operand)
 | mks (e k bytes : Nat) (zero : List (Nat × Value)) (l c : Operand)
 | cpy (k : Nat) (x y : Operand)
 | rng (x : Operand)
 | nxt (x : Operand)
 | mx (xs : List Operand)
 | mn (xs : List Operand)
 deriving Inhabited

def bnd (ρ : Operand → PV) (dflt : Nat) : Option Operand → Option Nat
 | none => some dflt
 | some x => match (ρ x).int? with
  | some (_, i) => if 0 ≤ i then some i.toNat else none
  | none => none
def ints (ρ : Operand → PV) : List Operand → Option (List (IntKind × Int))
 | [] => some []
 | x :: xs => match (ρ x).int?, ints ρ xs with
  | some a, some l => some (a :: l)
  | _, _ => none
abbrev Ups := List (Nat × Cel)
abbrev Orc := Nat → List PV → List Blk → Option (PV × List Blk)
def val1 (γ : Orc) (f : Nat) (args : List PV) : Option PV := match γ f args [] with
 | some (r, []) => some r
 | _ => none
def posOf : List Nat → Nat → Option Nat
 | [], _ => none
 | x :: xs, i => if x = i then some 0 else match posOf xs i with
  | some p => some (p + 1)
  | none => none
mutual
def trV (ids : List Nat) (H : Nat → Cel) : PV → PV
 | .agg cs => .agg (trL ids H cs)
 | .tup cs => .tup (trL ids H cs)
 | .fn f cs => .fn f (trL ids H cs)
 | .r (.ptr i g o) => match look H i g, posOf ids i with
  | some _, some p => .r (.ptr p 0 o)
  | _, _ => .un
 | .r (.msl i g l n) => match look H i g, posOf ids i with
  | some _, some p => .r (.msl p 0 l n)
  | _, _ => .un
 | .r (.own ..) => .un
 | p => p
def trL (ids : List Nat) (H : Nat → Cel) : List PV → List PV
 | [] => []
 | p :: ps => trV ids H p :: trL ids H ps
end
def trB (ids : List Nat) (H : Nat → Cel) : Blk → Blk
 | .box cs => .box (trL ids H cs)
 | b => b
def dedup : List Nat → List Nat
 | [] => []
 | x :: xs => if (dedup xs).any (Nat.beq x) then dedup xs else x :: dedup xs
def refsB : Option Blk → List Nat
 | some (.box cs) => refsL cs
 | _ => []
def idsOf (H : Nat → Cel) (args : List PV) : List Nat := dedup (refsL args ++ (refsL args).flatMap fun i => refsB (H i).b)
def blksOf (H : Nat → Cel) : List Nat → Option (List Blk)
 | [] => some []
 | i :: r => match (H i).b, blksOf H r with
  | some b, some l => some (b :: l)
  | _, _ => none
def newg (fx : Bool) (H : Nat → Cel) (i : Nat) : Nat := match fx, (H i).b with
 | false, some (.own ..) => (H i).g + 1
 | _, _ => (H i).g
mutual
def bkV (fx : Bool) (ids : List Nat) (H : Nat → Cel) (d : Nat) : PV → PV
 | .agg cs => .agg (bkL fx ids H d cs)
 | .tup cs => .tup (bkL fx ids H d cs)
 | .fn f cs => .fn f (bkL fx ids H d cs)
 | .r (.ptr p _ o) => match ids[p]? with
  | some i => .r (.ptr i (newg fx H i) o)
  | none => .un
 | .r (.msl p _ l n) => match ids[p]? with
  | some i => .r (.msl i (newg fx H i) l n)
  | none => .un
 | .r (.own j _ _ n _) => .r (.msl (bid d j) ((H (bid d j)).g + 1) 0 n)
 | p => p
def bkL (fx : Bool) (ids : List Nat) (H : Nat → Cel) (d : Nat) : List PV → List PV
 | [] => []
 | p :: ps => bkV fx ids H d p :: bkL fx ids H d ps
end
def bkB (fx : Bool) (ids : List Nat) (H : Nat → Cel) (d : Nat) : Blk → Blk
 | .box cs => .box (bkL fx ids H d cs)
 | b => b
def ownsB : Blk → List (Nat × Blk)
 | .box cs => ownsL cs
 | _ => []
def ownsAll (r : PV) (bs : List Blk) : List (Nat × Blk) := owns r ++ bs.flatMap ownsB
def upsP (fx : Bool) (H : Nat → Cel) (ids : List Nat) (d : Nat) : List Nat → List Blk → Ups
 | i :: is, b :: bs => (i, ⟨newg fx H i, some (bkB fx ids H d b)⟩) :: upsP fx H ids d is bs
 | _, _ => []
def nz1 : PV → PV
 | .nil => .d (.sl 0 [])
 | v => v
def nzA : PV → PV
 | .agg cs => .agg (cs.map nz1)
 | v => v
theorem nz1_rep {X : Nat → Prop} {w : World} {R : Ref → Value → Prop} {p : PV} {v : Value} (h : RepV X w R p v) : RepV X w R (nz1 p) v := by
 unfold nz1
 split
 ·obtain ⟨a, rfl⟩ := h
  exact ⟨a, 0, rfl, Nat.le_refl _, Nat.zero_le _, fun _ => rfl, .inl rfl⟩
 ·exact h
theorem nzL_rep {X : Nat → Prop} {w : World} {R : Ref → Value → Prop} : ∀ (ps : List PV) (vs : List Value), RepL X w R ps vs → RepL X w R (ps.map nz1) vs
 | [], _, h => h
 | p :: ps, _, ⟨v, r, e, h1, h2⟩ => ⟨v, r, e, nz1_rep h1, nzL_rep ps r h2⟩
theorem nzA_rep {X : Nat → Prop} {w : World} {R : Ref → Value → Prop} {p : PV} {v : Value} (h : RepV X w R p v) : RepV X w R (nzA p) v := by
 unfold nzA
 split
 ·obtain ⟨vs, e, h⟩ := h
  exact ⟨vs, e, nzL_rep _ _ h⟩
 ·exact h
theorem nzAL_rep {X : Nat → Prop} {w : World} {R : Ref → Value → Prop} : ∀ (ps : List PV) (vs : List Value), RepL X w R ps vs → RepL X w R (ps.map nzA) vs
 | [], _, h => h
 | p :: ps, _, ⟨v, r, e, h1, h2⟩ => ⟨v, r, e, nzA_rep h1, nzAL_rep ps r h2⟩
def sameL (H : Nat → Cel) : List Nat → List Blk → Bool
 | i :: is, b :: bs => (match (H i).b, b with
  | some (.own _ _ cs), .own _ _ cs' => decide (cs'.length = cs.length)
  | _, _ => true) && sameL H is bs
 | _, _ => true
def fxOf (ids : List Nat) (bs' : List Blk) : Bool := Nat.beq bs'.length (ids.length + 1)
def okL (H : Nat → Cel) (ids : List Nat) (bs' : List Blk) : Bool := if fxOf ids bs' = true then sameL H ids bs' else decide (bs'.length = ids.length)
def doCallR (γ : Orc) (H : Nat → Cel) (d : Nat) (f : Nat) (args : List PV) : Option (PV × Ups) :=
 match blksOf H (idsOf H args) with
 | none => none
 | some bs => match γ f (trL (idsOf H args) H args) (bs.map (trB (idsOf H args) H)) with
  | none => none
  | some (r, bs') =>
   if (okL H (idsOf H args) bs' && decide ((idsOf H args).length ≤ 8) && distinct ((ownsAll r bs').map (·.1)) && (ownsAll r bs').all (fun x => decide (x.1 < 8) && !(idsOf H args).any (Nat.beq (bid d x.1)))) = true then
    some (bkV (fxOf (idsOf H args) bs') (idsOf H args) H d r, upsP (fxOf (idsOf H args) bs') H (idsOf H args) d (idsOf H args) bs' ++ (ownsAll r bs').map fun x => nw H (bid d x.1) x.2)
   else none
def up' {α : Type} (f : Nat → α) (i : Nat) (x : α) : Nat → α := fun j => if j = i then x else f j
def setH' : (Nat → Cel) → Ups → (Nat → Cel)
 | H, [] => H
 | H, x :: r => setH' (up' H x.1 x.2) r
def doCall (γ : Orc) (H : Nat → Cel) (d : Nat) (f : Nat) (args : List PV) : Option (PV × Ups) :=
 match lendL H args with
 | none => none
 | some l => match val1 γ f l with
  | none => none
  | some r =>
   if ((refsL args).isEmpty || freeV r) && distinct ((owns r).map (·.1)) && (owns r).all (fun x => decide (x.1 < 8)) then
    some (adV H d r, (owns r).map fun x => nw H (bid d x.1) x.2)
   else none

def dropUps (H : Nat → Cel) (l : List Nat) : Ups := l.map fun i => (i, ⟨(H i).g + 1, none⟩)
def doCallF (γ : Orc) (H : Nat → Cel) (d : Nat) (f : Nat) (args : List PV) : Option (PV × Ups) :=
 if (refsL args).all (fun i => Nat.ble 8 i && (List.range 8).all fun j => !Nat.beq i (bid d j)) = true then
  match doCall γ (setH' H (dropUps H (refsL args))) d f (frzL (inL (refsL args)) H args) with
  | some (p, ups) => some (p, dropUps H (refsL args) ++ ups)
  | none => none
 else none

def peval (γ : Orc) (H : Nat → Cel) (d : Nat) (ρ : Operand → PV) : POp → Option (PV × Ups)
 | .mov x => some (ρ x, [])
 | .nilS e k => some (.r (.msl (bid d 0) ((H (bid d 0)).g + 1) 0 0), [nw H (bid d 0) (.own e k [])])
 | .pick c a b => match (ρ c).bool? with
  | some t => some (if t then ρ a else ρ b, [])
  | none => none
 | .arI op x y => match (ρ x).int?, (ρ y).int? with
  | some (k, a), some (k', b) => if k = k' then (match arith op k a b with | some n => some (.d (.int k n), []) | none => none) else none
  | _, _ => none
 | .sh op x y => match (ρ x).int?, (ρ y).int? with
  | some (k, a), some (_, b) => (match shI op k a b with | some n => some (.d (.int k n), []) | none => none)
  | _, _ => none
 | .cmpI op x y => match (ρ x).int?, (ρ y).int? with
  | some (k, a), some (k', b) => if k = k' then (match cmpZ op a b with | some t => some (.d (.bool t), []) | none => none) else none
  | _, _ => none
 | .strO op x y => match (ρ x).str?, (ρ y).str? with
  | some a, some b => (match op with
   | .add => if ((a.length + b.length : Nat) : Int) ≤ IntKind.i64.max then some (.d (.str (a ++ b)), []) else none
   | _ => (match cmpS op a b with | some t => some (.d (.bool t), []) | none => none))
  | _, _ => none
 | .eqB neg x y => match (ρ x).bool?, (ρ y).bool? with
  | some a, some b => some (.d (.bool (if neg then !decide (a = b) else decide (a = b))), [])
  | _, _ => none
 | .cvSO e x => match (ρ x).str? with
  | some s => if s.length ≤ 140737488355328 then some (.r (.msl (bid d 0) ((H (bid d 0)).g + 1) 0 s.length), [nw H (bid d 0) (.own e 1 (s.map fun b => .int .u8 (b.toNat : Int)))]) else none
  | none => none
 | .cvSB x => match (ρ x).str? with
  | some s => if s.length ≤ 140737488355328 then some (.d (.sl s.length (s.map fun b => .int .u8 (b.toNat : Int))), []) else none
  | none => none
 | .isE neg x => match ρ x with
  | .d (.err b) => some (.d (.bool (if neg then b else !b)), [])
  | _ => none
 | .isN neg x => match ρ x with
  | .slz z _ _ => some (.d (.bool (if neg then !z else z)), [])
  | .d (.sl n _) => if 0 < n then some (.d (.bool neg), []) else none
  | _ => none
 | .eqA neg ks x y => match ρ x, ρ y with
  | .agg a, .agg b => (match eqL (unrleK ks) a b with | some t => some (.d (.bool (if neg then !t else t)), []) | none => none)
  | _, _ => none
 | .un op x => match op, ρ x with
  | .neg, .d (.int k n) => some (.d (.int k (k.wrap (0 - n))), [])
  | .xor, .d (.int k n) => some (.d (.int k (bitI .xor k (if k.signed then -1 else k.max) n)), [])
  | .not, .d (.bool b) => some (.d (.bool (!b)), [])
  | _, _ => none
 | .cvI k x => match (ρ x).int? with
  | some (_, n) => some (.d (.int k (k.wrap n)), [])
  | none => none
 | .cvBS x => match asL H (ρ x) with
  | some (n, cs) => (match allB cs with | some l => if l.length = n then some (.d (.str l), []) else none | none => none)
  | none => none
 | .cvIS x => match (ρ x).int? with
  | some (_, n) => some (.d (.str (Utf8.encode n).data.toList), [])
  | none => none
 | .cvSS x => match (ρ x).str? with
  | some s => some (.d (.str s), [])
  | none => none
 | .box n x => match (ρ x).cells? with
  | some cs => if cs.length = n ∧ okBox cs = true then some (.r (.ptr (bid d 0) ((H (bid d 0)).g + 1) 0), [nw H (bid d 0) (.box cs)]) else none
  | none => none
 | .allocB T => some (.r (.ptr (bid d 0) ((H (bid d 0)).g + 1) 0), [nw H (bid d 0) (.box (blC T .nil))])
 | .alloc z => if okBox (unrle z) = true then some (.r (.ptr (bid d 0) ((H (bid d 0)).g + 1) 0), [nw H (bid d 0) (.box (unrle z))]) else none
 | .build z ps => match fillP ρ (unrle z) ps with
  | some cs => some (.agg cs, [])
  | none => none
 | .bsl e k n z ps => match fillP ρ (unrle z) ps with
  | some cs => if (refsL cs).all (fun i => Nat.ble 8 i && !Nat.beq i (bid d 0)) = true then (match allD (frzL (inL (refsL cs)) H cs) with
   | some ds => if ds.length = n * k then some (.r (.msl (bid d 0) ((H (bid d 0)).g + 1) 0 n), ((refsL cs).map fun i => (i, ⟨(H i).g + 1, none⟩)) ++ [nw H (bid d 0) (.own e k ds)]) else none
   | none => none) else none
  | none => none
 | .load agg n x => match ρ x with
  | .r (.ptr i g o) => (match look H i g with
   | some (.box cs) => if okBox cs = true then (match part agg cs o n with | some p => some (p, []) | none => none) else none
   | some (.own _ _ cs) => (match partD agg cs o n with | some p => some (p, []) | none => none)
   | none => none)
  | .rptr cs => (match partD agg cs 0 n with | some p => some (p, []) | none => none)
  | _ => none
 | .store n x y => match ρ x, (ρ y).cells? with
  | .r (.ptr i g o), some new => (match look H i g with
   | some (.box cs) => if new.length = n ∧ o + n ≤ cs.length ∧ new.all isCell = true ∧ okBox cs = true ∧ okBox (splice cs o new) = true then some (.un, [(i, ⟨g, some (.box (splice cs o new))⟩)]) else none
   | some (.own e k cs) => (match allD new with
    | some ds => if ds.length = n ∧ o + n ≤ cs.length then some (.un, [(i, ⟨g, some (.own e k (splice cs o ds))⟩)]) else none
    | none => none)
   | none => none)
  | _, _ => none
 | .nilC x => match ρ x with
  | .r (.ptr i g o) => some (.r (.ptr i g o), [])
  | .rptr cs => some (.rptr cs, [])
  | _ => none
 | .fld o x => match ρ x with
  | .r (.ptr i g o') => some (.r (.ptr i g (o' + o)), [])
  | .rptr cs => some (.rptr (cs.drop o), [])
  | _ => none
 | .fldV agg o n x => match ρ x with
  | .agg cs => (match part agg cs o n with | some p => some (p, []) | none => none)
  | _ => none
 | .ixA len k x i => match ρ x, (ρ i).int? with
  | .r (.ptr b g o), some (_, j) => if 0 ≤ j ∧ j < len then some (.r (.ptr b g (o + j.toNat * k)), []) else none
  | .rptr cs, some (_, j) => if 0 ≤ j ∧ j < len then some (.rptr (cs.drop (j.toNat * k)), []) else none
  | _, _ => none
 | .ixS e k x i => match ρ x, (ρ i).int? with
  | .d (.sl n cs), some (_, j) => if 0 ≤ j ∧ j < n ∧ cs ≠ [] then some (.rptr (cs.drop (j.toNat * k)), []) else none
  | .r (.msl b g l n), some (_, j) => if 0 ≤ j ∧ j < n then (match look H b g with
   | some (.own _ k' _) => if k' = k then some (.r (.ptr b g ((l + j.toNat) * k)), []) else none
   | _ => none) else none
  | _, _ => none
 | .ixV agg len k x i => match ρ x, (ρ i).int? with
  | .agg cs, some (_, j) => if 0 ≤ j ∧ j < len then (match part agg cs (j.toNat * k) k with | some p => some (p, []) | none => none) else none
  | _, _ => none
 | .ixStr x i => match (ρ x).str?, (ρ i).int? with
  | some s, some (_, j) => if 0 ≤ j ∧ j < s.length then some (.d (.int .u8 ((s.getD j.toNat 0).toNat : Int)), []) else none
  | _, _ => none
 | .slS e k x lo hi => match ρ x with
  | .d (.sl n cs) => (match bnd ρ 0 lo, bnd ρ n hi with
   | some l, some h => if l ≤ h ∧ h ≤ n then some (.d (.sl (h - l) ((cs.take (h * k)).drop (l * k))), []) else none
   | _, _ => none)
  | .r (.msl i g l0 n) => (match bnd ρ 0 lo, bnd ρ n hi with
   | some l, some h => if l ≤ h ∧ h ≤ n then (match look H i g with
    | some (.own _ k' _) => if k' = k then some (.r (.msl i g (l0 + l) (h - l)), []) else none
    | _ => none) else none
   | _, _ => none)
  | .nil => (match bnd ρ 0 lo, bnd ρ 0 hi with
   | some 0, some 0 => some (.nil, [])
   | _, _ => none)
  | _ => none
 | .slStr x lo hi => match (ρ x).str? with
  | some s => (match bnd ρ 0 lo, bnd ρ s.length hi with
   | some l, some h => if l ≤ h ∧ h ≤ s.length then some (.d (.str ((s.take h).drop l)), []) else none
   | _, _ => none)
  | none => none
 | .slE e k x => match asL H (ρ x) with
  | some _ => some (.r (.msl (bid d 0) ((H (bid d 0)).g + 1) 0 0), [nw H (bid d 0) (.own e k [])])
  | none => none
 | .ext x i => match ρ x with
  | .tup cs => (match cs[i]? with | some p => some (p, []) | none => none)
  | _ => none
 | .mkF f cs => some (.fn f (cs.map ρ), [])
 | .call f xs => doCall γ H d f (xs.map ρ)
 | .callr f xs => doCallR γ H d f ((xs.map ρ).map nzA)
 | .callf f xs => doCallF γ H d f (xs.map ρ)
 | .callv x xs => match ρ x with
  | .fn f cs => doCall γ H d f (xs.map ρ ++ cs)
  | _ => none
 | .app e k bytes x y => match asB H k (ρ y) with
  | none => none
  | some (m, ys) => if ys.length = m * k then (match ρ x with
   | .r (.msl i g 0 n) => (match look H i g with
    | some (.own e' k' cs) => if e' = e ∧ k' = k ∧ cs.length = n * k ∧ (n + m) * bytes ≤ 140737488355328 then
      some (.r (.msl i (g + 1) 0 (n + m)), [(i, ⟨g + 1, some (.own e k (cs ++ ys))⟩)]) else none
    | _ => none)
   | .nil => if m * bytes ≤ 140737488355328 then some (.r (.msl (bid d 0) ((H (bid d 0)).g + 2) 0 m), [(bid d 0, ⟨(H (bid d 0)).g + 2, some (.own e k ys)⟩)]) else none
   | _ => none) else none
 | .len true x => match (ρ x).str? with
  | some s => some (.d (.int .i64 s.length), [])
  | none => none
 | .len false x => match ρ x with
  | .d (.sl n _) => some (.d (.int .i64 n), [])
  | .nil => some (.d (.int .i64 0), [])
  | .r (.msl i g _ n) => (match look H i g with | some (.own ..) => some (.d (.int .i64 n), []) | _ => none)
  | _ => none
 | .slA len k x lo hi => match ρ x with
  | .r (.ptr i g 0) => (match look H i g with
   | some (.box cs) => (match allD cs, bnd ρ 0 lo, bnd ρ len hi with
    | some ds, some l, some h => if 8 ≤ i ∧ 0 < k ∧ ds.length = len * k ∧ len ≤ 65536 ∧ l ≤ h ∧ h ≤ len then some (.d (.sl (h - l) ((ds.take (h * k)).drop (l * k))), [(i, ⟨g + 1, none⟩)]) else none
    | _, _, _ => none)
   | _ => none)
  | _ => none
 | .slC _ k x lo hi => match ρ x with
  | .r (.msl i g 0 n) => (match bnd ρ 0 lo, bnd ρ n hi with
   | some l, some h => if l ≤ h ∧ h ≤ n ∧ l = 0 then (match look H i g with
    | some (.own e k' cs) => if k' = k then some (.r (.msl i (g + 1) 0 h), [(i, ⟨g + 1, some (.own e k' (cs.take (h * k')))⟩)]) else none
    | _ => none) else none
   | _, _ => none)
  | _ => none
 | .clr k z x => match allD (unrle z), ρ x with
  | some ds, .r (.msl i g l n) => (match look H i g with
   | some (.own e k' cs) => if k' = k then some (.tup [], [(i, ⟨g, some (.own e k' (splice cs (l * k') ((List.replicate n ds).flatten)))⟩)]) else none
   | _ => none)
  | _, _ => none
 | .mks e k bytes z l c => match (ρ l).int?, (ρ c).int?, allD (unrle z) with
  | some (_, a), some (_, b), some ds => if 0 ≤ a ∧ a ≤ b ∧ b.toNat * bytes ≤ 140737488355328 then
    some (.r (.msl (bid d 0) ((H (bid d 0)).g + 1) 0 a.toNat), [nw H (bid d 0) (.own e k ((List.replicate a.toNat ds).flatten))]) else none
  | _, _, _ => none
 | .cpy k x y => match ρ x, asL H (ρ y) with
  | .r (.msl i g l n), some (m, ys) => (match look H i g with
   | some (.own e k' cs) => if k' = k ∧ ys.length = m * k then some (.d (.int .i64 (min m n : Nat)), [(i, ⟨g, some (.own e k (splice cs (l * k) (ys.take (min m n * k))))⟩)]) else none
   | _ => none)
  | _, _ => none
 | .rng x => match (ρ x).str? with
  | some s => some (.r (.ptr (bid d 0) ((H (bid d 0)).g + 1) 0), [nw H (bid d 0) (.box [itC s 0])])
  | none => none
 | .nxt x => match ρ x with
  | .r (.ptr i g 0) => (match look H i g with
   | some (.box [.tup [.d (.str s), .d (.int .i64 p)]]) => if 0 ≤ p then (if p.toNat < s.length then
     some (.tup [.d (.bool true), .d (.int .i64 p), .d (.int .i32 (Utf8.decode ⟨s.toArray⟩ p.toNat).1)], [(i, ⟨g, some (.box [itC s ((p.toNat + (Utf8.decode ⟨s.toArray⟩ p.toNat).2 : Nat) : Int)])⟩)])
    else some (.tup [.d (.bool false)], [])) else none
   | _ => none)
  | _ => none
 | .mx xs => match ints ρ xs with
  | some ((k, a) :: r) => some (.d (.int k (r.foldl (fun x y => if y.2 > x then y.2 else x) a)), [])
  | _ => none
 | .mn xs => match ints ρ xs with
  | some ((k, a) :: r) => some (.d (.int k (r.foldl (fun x y => if y.2 < x then y.2 else x) a)), [])
  | _ => none
where
 allB : List PD → Option (List UInt8)
  | [] => some []
  | .int .u8 n :: r => if 0 ≤ n ∧ n < 256 then (match allB r with | some l => some (UInt8.ofNat n.toNat :: l) | none => none) else none
  | _ => none
end Go.Proofs.YtobkkblijfhpoaaGreatDoor.Pm
