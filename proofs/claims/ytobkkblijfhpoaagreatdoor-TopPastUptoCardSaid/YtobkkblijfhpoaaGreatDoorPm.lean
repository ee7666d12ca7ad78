/- A small machine on plain data, and what it has to do with the language's own: what its values stand for. No program is named here. -/
import Derived.Test.YtobkkblijfhpoaaGreatDoorRows
import Derived.WalkKit
import Derived.ProofKit
import Derived.Orders
import Derived.WalkLawsBesides
import Derived.Laws.AppendOwn
import Derived.Laws.RangeString
import Derived.Lib.OthersKept
namespace Go.Proofs.YtobkkblijfhpoaaGreatDoor.Pm
open Go.RowKit

inductive PD where
 | int (k : IntKind) (n : Int)
 | bool (b : Bool)
 | str (s : List UInt8)
 | sl (n : Nat) (cs : List PD)
 | un
 | err (b : Bool)
 deriving Inhabited
inductive Ref where
 | ptr (i g o : Nat)
 | msl (i g l n : Nat)
 | own (j : Nat) (e : TypeId) (k n : Nat) (cs : List PD)
 deriving Inhabited
inductive PV where
 | d (x : PD)
 | agg (cs : List PV)
 | tup (cs : List PV)
 | r (x : Ref)
 | rptr (cs : List PD)
 | nil
 | fn (f : Nat) (cs : List PV)
 | slz (z : Bool) (n : Nat) (cs : List PD)
 | un
 deriving Inhabited
inductive Blk where
 | box (cs : List PV)
 | own (e : TypeId) (k : Nat) (cs : List PD)
 deriving Inhabited
structure Cel where
 g : Nat
 b : Option Blk
 deriving Inhabited
inductive Phys where
 | nil (a : Option Addr)
 | blk (b c : Nat)

mutual
def RepD (X : Nat → Prop) (w : World) : PD → Value → Prop
 | .int k n, v => v = .int k n
 | .bool b, v => v = .bool b
 | .str s, v => v = .string ⟨s.toArray⟩
 | .un, v => v.oneCell' = true
 | .err b, v => (b = false ∧ v = .nilIface) ∨ (b = true ∧ ∃ t p, v = .iface t p)
 | .sl n cs, v => ∃ a c, v = .slice a n c ∧ n ≤ c ∧ c ≤ maxLen ∧ (a = none → c = 0) ∧ (cs = [] ∨ ∃ b o, a = some ⟨b, o, none⟩ ∧ ¬ X b ∧ b < w.heap.size ∧ RepC X w cs b o)
def RepC (X : Nat → Prop) (w : World) : List PD → Nat → Nat → Prop
 | [], _, _ => True
 | x :: xs, b, o => (∃ v, w.cell? ⟨b, o, none⟩ = some v ∧ RepD X w x v) ∧ RepC X w xs b (o+1)
end
mutual
def RepV (X : Nat → Prop) (w : World) (R : Ref → Value → Prop) : PV → Value → Prop
 | .d x, v => RepD X w x v
 | .agg cs, v => ∃ vs, v = .agg vs ∧ RepL X w R cs vs.toList
 | .tup cs, v => ∃ vs, v = .tuple vs ∧ RepL X w R cs vs.toList
 | .r x, v => R x v
 | .rptr cs, v => ∃ b o, v = .pointer (some ⟨b, o, none⟩) ∧ ¬ X b ∧ b < w.heap.size ∧ RepC X w cs b o
 | .nil, v => ∃ a, v = .slice a 0 0
 | .fn f cs, v => ∃ vs, v = .func (.func f) #[] vs ∧ RepL X w R cs vs.toList
 | .slz z n cs, v => RepD X w (.sl n cs) v ∧ ∃ a c, v = .slice a n c ∧ a.isNone = z
 | .un, _ => True
def RepL (X : Nat → Prop) (w : World) (R : Ref → Value → Prop) : List PV → List Value → Prop
 | [], vs => vs = []
 | p :: ps, vs => ∃ v r, vs = v :: r ∧ RepV X w R p v ∧ RepL X w R ps r
end

structure Ch (X X' : Nat → Prop) (w w' : World) : Prop where
 size : w.heap.size ≤ w'.heap.size
 blk : ∀ b, b < w.heap.size → ¬ X b → w'.heap[b]? = w.heap[b]? ∧ ¬ X' b
theorem Ch.refl (X : Nat → Prop) (w : World) : Ch X X w w := ⟨Nat.le_refl _, fun _ _ h => ⟨rfl, h⟩⟩
theorem Ch.trans {X Y Z : Nat → Prop} {a b c : World} (h : Ch X Y a b) (k : Ch Y Z b c) : Ch X Z a c :=
 ⟨Nat.le_trans h.size k.size, fun i hi hx => ⟨((k.blk i (Nat.lt_of_lt_of_le hi h.size) (h.blk i hi hx).2).1).trans (h.blk i hi hx).1, (k.blk i (Nat.lt_of_lt_of_le hi h.size) (h.blk i hi hx).2).2⟩⟩
section
variable {X X' : Nat → Prop} {w w' : World}
mutual
theorem RepD.keep (h : Ch X X' w w') : ∀ (p : PD) (v : Value), RepD X w p v → RepD X' w' p v
 | .int _ _, _, q => q
 | .bool _, _, q => q
 | .str _, _, q => q
 | .un, _, q => q
 | .err _, _, q => q
 | .sl _ cs, _, ⟨a, c, h1, h2, h3, h4, h5⟩ => ⟨a, c, h1, h2, h3, h4, h5.imp id fun ⟨b, o, e, hx, hl, hc⟩ => ⟨b, o, e, (h.blk b hl hx).2, Nat.lt_of_lt_of_le hl h.size, RepC.keep h cs b o hx hl hc⟩⟩
theorem RepC.keep (h : Ch X X' w w') : ∀ (cs : List PD) (b o : Nat), ¬ X b → b < w.heap.size → RepC X w cs b o → RepC X' w' cs b o
 | [], _, _, _, _, _ => trivial
 | x :: xs, b, o, hx, hl, ⟨⟨v, h1, h2⟩, h3⟩ => ⟨⟨v, by rw [← h1]; exact World.cell?_of_block (w := w) (h.blk b hl hx).1, RepD.keep h x v h2⟩, RepC.keep h xs b (o+1) hx hl h3⟩
end
variable {R R' : Ref → Value → Prop}
mutual
theorem RepV.keep (h : Ch X X' w w') (hr : ∀ r v, R r v → R' r v) : ∀ (p : PV) (v : Value), RepV X w R p v → RepV X' w' R' p v
 | .d x, v, q => RepD.keep h x v q
 | .agg cs, _, ⟨vs, e, q⟩ => ⟨vs, e, RepL.keep h hr cs _ q⟩
 | .tup cs, _, ⟨vs, e, q⟩ => ⟨vs, e, RepL.keep h hr cs _ q⟩
 | .r _, _, q => hr _ _ q
 | .rptr cs, _, ⟨b, o, e, hx, hl, hc⟩ => ⟨b, o, e, (h.blk b hl hx).2, Nat.lt_of_lt_of_le hl h.size, RepC.keep h cs b o hx hl hc⟩
 | .nil, _, q => q
 | .fn _ cs, _, ⟨vs, e, q⟩ => ⟨vs, e, RepL.keep h hr cs _ q⟩
 | .slz _ n cs, v, ⟨q1, q2⟩ => ⟨RepD.keep h (.sl n cs) v q1, q2⟩
 | .un, _, _ => trivial
theorem RepL.keep (h : Ch X X' w w') (hr : ∀ r v, R r v → R' r v) : ∀ (ps : List PV) (vs : List Value), RepL X w R ps vs → RepL X' w' R' ps vs
 | [], _, q => q
 | p :: ps, _, ⟨v, r, e, q1, q2⟩ => ⟨v, r, e, RepV.keep h hr p v q1, RepL.keep h hr ps r q2⟩
end
end

def RefAt (φ : Nat → Phys) (H : Nat → Cel) : Ref → Value → Prop
 | .ptr i g o, v => (∃ b, v = .pointer (some ⟨b, o, none⟩)) ∧ g ≤ (H i).g ∧ (g = (H i).g → (H i).b.isSome → ∃ b c, φ i = .blk b c ∧ v = .pointer (some ⟨b, o, none⟩))
 | .msl i g l n, v => (∃ a n c, v = .slice a n c) ∧ g ≤ (H i).g ∧ (g = (H i).g → ∀ e k cs, (H i).b = some (.own e k cs) → 0 < k ∧ (l + n) * k ≤ cs.length ∧
   match φ i with
   | .nil a => v = .slice a 0 0 ∧ l = 0 ∧ n = 0
   | .blk b c => ∃ a c', v = .slice a n c' ∧ n ≤ c' ∧ c' + l = c ∧ (0 < n → a = some ⟨b, l * k, none⟩) ∧ (l = 0 → a = some ⟨b, 0, none⟩) ∧ a ≠ none)
 | .own .., _ => False
def RowAt (w : World) (b : Nat) (cur : Array Value) (e : TypeId) : Prop := ∃ f : Nat × Nat, w.heap[b]? = some (.cells cur e f) ∧ (f = (0, 0) ∨ cur.size ≤ f.1)
theorem RowAt.of {w : World} {b : Nat} {cur : Array Value} {e : TypeId} (h : w.heap[b]? = some (.cells cur e (0, 0))) : RowAt w b cur e := ⟨_, h, .inl rfl⟩
theorem RowAt.keep {w w' : World} {b : Nat} {cur : Array Value} {e : TypeId} (h : RowAt w b cur e) (he : w'.heap[b]? = w.heap[b]?) : RowAt w' b cur e := by
 obtain ⟨f, h1, h2⟩ := h
 exact ⟨f, he.trans h1, h2⟩
theorem RowAt.cell {w : World} {b : Nat} {cur : Array Value} {e : TypeId} (h : RowAt w b cur e) (j : Nat) : w.cell? ⟨b, j, none⟩ = cur[j]? := by
 obtain ⟨f, h1, _⟩ := h
 exact cell_of_row w b j cur e f h1
theorem RowAt.free {w : World} {b : Nat} {cur : Array Value} {e : TypeId} (h : RowAt w b cur e) (j : Nat) (hj : j < cur.size) : w.frozen? ⟨b, j, none⟩ = false := by
 obtain ⟨f, h1, h2⟩ := h
 unfold World.frozen?
 simp only [h1]
 rcases h2 with rfl | h2
 ·simp
 ·have : ¬ f.1 ≤ j := by omega
  simp [this]
theorem RowAt.set {w : World} {b : Nat} {cur : Array Value} {e : TypeId} (h : RowAt w b cur e) (new : Array Value) (hs : new.size = cur.size) : RowAt (w.setRow b new) b new e := by
 obtain ⟨f, h1, h2⟩ := h
 exact ⟨f, setRow_heap w b cur new e f h1, by rw [hs]; exact h2⟩
def isIt : List Value → Option (ByteArray × Int)
 | [.tuple q] => match q.toList with
  | [.string s, .int .i64 p] => some (s, p)
  | _ => none
 | _ => none
def fixS : Value → Value
 | .slice _ _ 0 => .slice none 0 0
 | v => v
def isBl (b : Nat) : List Value → Option (Value × Value × Nat)
 | [.tuple q, v] => match q.toList with
  | [.bool true, .int .i64 T] => some (.pointer none, fixS v, T.toNat)
  | [_, .int .i64 T] => some (.pointer (some ⟨b, 0, none⟩), fixS v, T.toNat)
  | _ => none
 | _ => none
def boxObj (b : Nat) (vs : Array Value) (T : TypeId) : Obj := match isIt vs.toList with
 | some (s, p) => .stringIter s p.toNat
 | none => match isBl b vs.toList with
  | some (p, v, U) => .cells #[p, v] U (0, 0)
  | none => .cells vs T (0, 0)
def okBox : List PV → Bool
 | [.un] => false
 | [.tup _] => false
 | [.un, _] => false
 | [.tup _, _] => false
 | _ => true
def blC (T : Nat) (p : PV) : List PV := [.tup [.un, .d (.int .i64 T)], p]
def itC (s : List UInt8) (p : Int) : PV := .tup [.d (.str s), .d (.int .i64 p)]
def RepBg (X : Nat → Prop) (w : World) (R : Ref → Value → Prop) : Phys → Blk → Prop
 | .blk b _, .box cs => ∃ vs T, w.heap[b]? = some (boxObj b vs T) ∧ RepL X w R cs vs.toList
 | .blk b c, .own e k cs => 0 < k ∧ ∃ cur xs, RowAt w b cur e ∧ cur.size = c * k ∧ c ≤ maxLen ∧ (∃ n, cs.length = n * k) ∧ cs.length ≤ c * k ∧ cur.toList.take cs.length = xs ∧ RepL X w R (cs.map .d) xs
 | .nil a, .own _ k cs => 0 < k ∧ cs = []
 | .nil _, .box _ => False
abbrev RepB (X : Nat → Prop) (w : World) (φ : Nat → Phys) (H : Nat → Cel) : Phys → Blk → Prop := RepBg X w (RefAt φ H)
theorem tup_cell {X : Nat → Prop} {w : World} {φ : Nat → Phys} {H : Nat → Cel} {p : PV} {q : Array Value} (h1 : RepV X w (RefAt φ H) p (.tuple q)) : p = .un ∨ ∃ cs, p = .tup cs := by
 cases p with
 | un => exact .inl rfl
 | tup cs => exact .inr ⟨cs, rfl⟩
 | d x => cases x with
  | sl n cs => obtain ⟨a, c, e, _⟩ := h1; cases e
  | un => cases h1
  | err b => rcases h1 with ⟨_, h1⟩ | ⟨_, _, _, h1⟩ <;> cases h1
  | _ => cases h1
 | agg _ => obtain ⟨_, e, _⟩ := h1; cases e
 | r x => cases x with
  | own => exact h1.elim
  | ptr => obtain ⟨⟨_, e⟩, _⟩ := h1; cases e
  | msl => obtain ⟨⟨_, _, _, e⟩, _⟩ := h1; cases e
 | rptr _ => obtain ⟨_, _, e, _⟩ := h1; cases e
 | nil => obtain ⟨_, e⟩ := h1; cases e
 | fn => obtain ⟨_, e, _⟩ := h1; cases e
 | slz => obtain ⟨⟨_, _, e, _⟩, _⟩ := h1; cases e
theorem okBox_it {X : Nat → Prop} {w : World} {φ : Nat → Phys} {H : Nat → Cel} {cs : List PV} {vs : List Value} (h : okBox cs = true) (hr : RepL X w (RefAt φ H) cs vs) : isIt vs = none := by
 unfold isIt
 split
 ·rename_i q
  exfalso
  cases cs with
  | nil => cases hr
  | cons p ps =>
   obtain ⟨v, r, e, h1, h2⟩ := hr
   cases e
   cases ps with
   | cons a b => obtain ⟨v2, r2, e2, _⟩ := h2; cases e2
   | nil => rcases tup_cell h1 with rfl | ⟨_, rfl⟩ <;> cases h
 ·rfl
theorem okBox_bl {X : Nat → Prop} {w : World} {φ : Nat → Phys} {H : Nat → Cel} {cs : List PV} {vs : List Value} (b : Nat) (h : okBox cs = true) (hr : RepL X w (RefAt φ H) cs vs) : isBl b vs = none := by
 unfold isBl
 split
 ·rename_i q v
  exfalso
  cases cs with
  | nil => cases hr
  | cons p ps =>
   obtain ⟨v1, r, e, h1, h2⟩ := hr
   cases e
   cases ps with
   | nil => cases h2
   | cons a ps =>
    obtain ⟨v2, r2, e2, h3, h4⟩ := h2
    cases e2
    cases ps with
    | cons a b => obtain ⟨_, _, e3, _⟩ := h4; cases e3
    | nil => rcases tup_cell h1 with rfl | ⟨_, rfl⟩ <;> cases h
 ·rfl
theorem boxObj_ok {X : Nat → Prop} {w : World} {φ : Nat → Phys} {H : Nat → Cel} {cs : List PV} {vs : Array Value} {b : Nat} (T : TypeId) (h : okBox cs = true) (hr : RepL X w (RefAt φ H) cs vs.toList) : boxObj b vs T = .cells vs T (0, 0) := by
 unfold boxObj; rw [okBox_it h hr]; simp only [okBox_bl b h hr]
theorem bl_rep {X : Nat → Prop} {w : World} {R : Ref → Value → Prop} {U : Nat} {p : PV} {x v : Value} (h : RepV X w R p v) : RepL X w R (blC U p) [.tuple #[x, .int .i64 (U : Int)], v] :=
 ⟨_, _, rfl, ⟨_, rfl, _, _, rfl, trivial, _, _, rfl, rfl, rfl⟩, _, _, rfl, h, rfl⟩
theorem okBox_of {cs : List PV} (h : ∃ x, .d x ∈ cs) (h2 : cs.length ≠ 2 ∨ ∃ x y, cs = [.d x, y]) : okBox cs = true := by
 obtain ⟨x, hx⟩ := h
 unfold okBox
 split
 ·simp at hx
 ·simp at hx
 ·rcases h2 with h2 | ⟨_, _, h2⟩
  ·exact absurd rfl h2
  ·cases h2
 ·rcases h2 with h2 | ⟨_, _, h2⟩
  ·exact absurd rfl h2
  ·cases h2
 ·rfl
def kin : Blk → Option Blk → Prop
 | .box _, some (.box _) => True
 | .own e k _, some (.own e' k' _) => e = e' ∧ k = k'
 | _, _ => False
def isBox : Blk → Bool
 | .box _ => true
 | _ => false
def Xof (E : Nat → Prop) (φ : Nat → Phys) (b : Nat) : Prop := E b ∨ ∃ i c, φ i = .blk b c

structure Mem (E : Nat → Prop) (m : List Blk) (φ0 : Nat → Phys) (w0 : World) (φ : Nat → Phys) (H : Nat → Cel) (w : World) : Prop where
 rep : ∀ i b, (H i).b = some b → RepB (Xof E φ) w φ H (φ i) b
 inj : ∀ i j b c c', φ i = .blk b c → φ j = .blk b c' → i = j
 lt : ∀ i b c, φ i = .blk b c → b < w.heap.size ∧ (w0.heap.size ≤ b ∨ (i < m.length ∧ ∃ c', φ0 i = .blk b c'))
 ext : ∀ b, E b → b < w0.heap.size
 m8 : m.length ≤ 8
 pass : ∀ i b0, m[i]? = some b0 → kin b0 (H i).b ∧ (isBox b0 = true ∨ (H i).g = 0 → φ i = φ0 i)
 sz : w0.heap.size ≤ w.heap.size
 os : w.os = w0.os
 tape : w.tape = w0.tape
 out : w.output = w0.output
 fr : ∀ b, b < w0.heap.size → (∀ i c, i < m.length → φ0 i ≠ .blk b c) → w.heap[b]? = w0.heap[b]?
structure Tr (E : Nat → Prop) (φ : Nat → Phys) (H : Nat → Cel) (w : World) (φ' : Nat → Phys) (H' : Nat → Cel) (w' : World) : Prop where
 ch : Ch (Xof E φ) (Xof E φ') w w'
 ref : ∀ r v, RefAt φ H r v → RefAt φ' H' r v
section
variable {E : Nat → Prop} {m : List Blk} {φ0 φ φ' : Nat → Phys} {H H' : Nat → Cel} {w0 w w' : World}
theorem Tr.refl : Tr E φ H w φ H w := ⟨Ch.refl _ _, fun _ _ h => h⟩
theorem Tr.trans {φ'' : Nat → Phys} {H'' : Nat → Cel} {w'' : World} (h : Tr E φ H w φ' H' w') (k : Tr E φ' H' w' φ'' H'' w'') : Tr E φ H w φ'' H'' w'' :=
 ⟨h.ch.trans k.ch, fun r v q => k.ref r v (h.ref r v q)⟩
theorem Tr.v (h : Tr E φ H w φ' H' w') {p : PV} {v : Value} (q : RepV (Xof E φ) w (RefAt φ H) p v) : RepV (Xof E φ') w' (RefAt φ' H') p v := RepV.keep h.ch h.ref p v q
theorem Tr.l (h : Tr E φ H w φ' H' w') {p : List PV} {v : List Value} (q : RepL (Xof E φ) w (RefAt φ H) p v) : RepL (Xof E φ') w' (RefAt φ' H') p v := RepL.keep h.ch h.ref p v q
def like : Option Blk → Option Blk → Prop
 | some (.box _), some (.box _) => True
 | some (.own e k cs), some (.own e' k' cs') => e = e' ∧ k = k' ∧ cs.length = cs'.length
 | _, none => True
 | _, _ => False
theorem Mem.upd (h : Mem E m φ0 w0 φ H w) (I : Nat → Prop)
  (h1 : ∀ j, ¬ I j → φ' j = φ j ∧ H' j = H j)
  (h2 : ∀ j, I j → (H j).g < (H' j).g ∨ (φ' j = φ j ∧ (H' j).g = (H j).g ∧ like (H j).b (H' j).b))
  (h3 : ∀ b, b < w.heap.size → (∀ i c, I i → φ i ≠ .blk b c) → w'.heap[b]? = w.heap[b]?)
  (h4 : ∀ j b c, I j → φ' j = .blk b c → b < w'.heap.size ∧ (w.heap.size ≤ b ∨ ∃ c', φ j = .blk b c'))
  (h5 : ∀ i j b c c', I i → I j → φ' i = .blk b c → φ' j = .blk b c' → i = j)
  (h9 : ∀ j, I j → j < m.length → (∀ b0, kin b0 (H j).b → kin b0 (H' j).b) ∧ (φ' j = φ j ∨ ∃ e k cs, (H j).b = some (.own e k cs)))
  (h6 : w.heap.size ≤ w'.heap.size) (h7 : w'.os = w.os ∧ w'.tape = w.tape ∧ w'.output = w.output)
  (h8 : Tr E φ H w φ' H' w' → ∀ j b, I j → (H' j).b = some b → RepB (Xof E φ') w' φ' H' (φ' j) b) :
  Mem E m φ0 w0 φ' H' w' ∧ Tr E φ H w φ' H' w' := by
 have hX : ∀ b, b < w.heap.size → ¬ Xof E φ b → ¬ Xof E φ' b := by
  intro b hb hx hx'
  rcases hx' with hx' | ⟨i, c, hi⟩
  ·exact hx (.inl hx')
  ·by_cases hI : I i
   ·rcases (h4 i b c hI hi).2 with h' | ⟨c', h'⟩
    ·omega
    ·exact hx (.inr ⟨i, c', h'⟩)
   ·rw [(h1 i hI).1] at hi; exact hx (.inr ⟨i, c, hi⟩)
 have tr : Tr E φ H w φ' H' w' := by
  refine ⟨⟨h6, fun b hb hx => ⟨h3 b hb fun i c _ hi => hx (.inr ⟨i, c, hi⟩), hX b hb hx⟩⟩, ?_⟩
  intro r v hr
  cases r with
  | own => exact hr
  | ptr i g o =>
   obtain ⟨q0, q1, q2⟩ := hr
   by_cases hI : I i
   ·rcases h2 i hI with hg | ⟨e1, e2, e3⟩
    ·exact ⟨q0, by omega, fun e => by omega⟩
    ·refine ⟨q0, by omega, fun e hs => ?_⟩
     rw [e1]
     refine q2 (by omega) ?_
     cases hb : (H i).b with
     | some => rfl
     | none => cases hb' : (H' i).b with
      | none => rw [hb'] at hs; cases hs
      | some x => rw [hb, hb'] at e3; cases x <;> exact e3.elim
   ·refine ⟨q0, ?_⟩
    rw [(h1 i hI).2, (h1 i hI).1]; exact ⟨q1, q2⟩
  | msl i g l n =>
   obtain ⟨q0, q1, q2⟩ := hr
   by_cases hI : I i
   ·rcases h2 i hI with hg | ⟨e1, e2, e3⟩
    ·exact ⟨q0, by omega, fun e => by omega⟩
    ·refine ⟨q0, by omega, fun e e' k cs' hs => ?_⟩
     rw [e1]
     rw [hs] at e3
     cases hb : (H i).b with
     | none => rw [hb] at e3; exact e3.elim
     | some x =>
      rw [hb] at e3
      cases x with
      | box => exact e3.elim
      | own e1 k1 cs1 =>
       obtain ⟨rfl, rfl, hl⟩ := e3
       rw [← hl]
       exact q2 (by omega) _ _ _ hb
   ·refine ⟨q0, ?_⟩
    rw [(h1 i hI).2, (h1 i hI).1]; exact ⟨q1, q2⟩
 refine ⟨⟨?_, ?_, ?_, h.ext, h.m8, (fun i b0 hi => by
  obtain ⟨p1, p2⟩ := h.pass i b0 hi
  have hil := (List.getElem?_eq_some_iff.1 hi).1
  by_cases hI : I i
  ·obtain ⟨q1, q2⟩ := h9 i hI hil
   refine ⟨q1 b0 p1, fun hb => ?_⟩
   have g0 : (H' i).g = 0 → φ' i = φ i ∧ (H i).g = 0 := fun hg => by
    rcases h2 i hI with h | ⟨h, h', _⟩
    ·omega
    ·exact ⟨h, by omega⟩
   rcases hb with hb | hb
   ·rcases q2 with q2 | ⟨e, k, cs, q2⟩
    ·rw [q2]; exact p2 (.inl hb)
    ·rw [q2] at p1; cases b0 <;> first | exact p1.elim | cases hb
   ·obtain ⟨h, h'⟩ := g0 hb
    rw [h]; exact p2 (.inr h')
  ·rw [(h1 i hI).1, (h1 i hI).2]; exact ⟨p1, p2⟩), Nat.le_trans h.sz h6, h7.1.trans h.os, h7.2.1.trans h.tape, h7.2.2.trans h.out, ?_⟩, tr⟩
 ·intro i b hb
  by_cases hI : I i
  ·exact h8 tr i b hI hb
  ·rw [(h1 i hI).2] at hb
   have q := h.rep i b hb
   rw [(h1 i hI).1]
   have same : ∀ k c, φ i = .blk k c → w'.heap[k]? = w.heap[k]? := fun k c hk => h3 k (h.lt i k c hk).1 fun i' c' hI' hk' => by
    have := h.inj i i' k c c' hk hk'
    subst this; exact hI hI'
   generalize hp : φ i = p at *
   cases p with
   | nil a => cases b <;> exact q
   | blk k c =>
    cases b with
    | box cs =>
     obtain ⟨vs, T, q1, q2⟩ := q
     exact ⟨vs, T, (same k c rfl).trans q1, tr.l q2⟩
    | own e kk cs =>
     obtain ⟨q0, cur, xs, q1, q2, q3, q4, q5, q6, q7⟩ := q
     exact ⟨q0, cur, xs, q1.keep (same k c rfl), q2, q3, q4, q5, q6, tr.l q7⟩
 ·intro i j b c c' hi hj
  by_cases hI : I i
  ·by_cases hJ : I j
   ·exact h5 i j b c c' hI hJ hi hj
   ·rw [(h1 j hJ).1] at hj
    have := (h.lt j b c' hj).1
    rcases (h4 i b c hI hi).2 with h' | ⟨c2, h'⟩
    ·omega
    ·exact h.inj i j b c2 c' h' hj
  ·rw [(h1 i hI).1] at hi
   by_cases hJ : I j
   ·have := (h.lt i b c hi).1
    rcases (h4 j b c' hJ hj).2 with h' | ⟨c2, h'⟩
    ·omega
    ·exact h.inj i j b c c2 hi h'
   ·rw [(h1 j hJ).1] at hj
    exact h.inj i j b c c' hi hj
 ·intro i b c hi
  by_cases hI : I i
  ·have := (h4 i b c hI hi)
   refine ⟨this.1, ?_⟩
   rcases this.2 with h' | ⟨c', h'⟩
   ·exact .inl (Nat.le_trans h.sz h')
   ·exact (h.lt i b c' h').2
  ·rw [(h1 i hI).1] at hi
   exact ⟨Nat.lt_of_lt_of_le (h.lt i b c hi).1 h6, (h.lt i b c hi).2⟩
 ·intro b hb hn
  rw [h3 b (Nat.lt_of_lt_of_le hb h.sz) ?_]
  ·exact h.fr b hb hn
  ·intro i c _ hi
   rcases (h.lt i b c hi).2 with h' | ⟨him, c', h'⟩
   ·omega
   ·exact hn i c' him h'
theorem Mem.drew (h : Mem E m φ0 w0 φ H w) : Mem E m φ0 w0 φ H w.drew ∧ Tr E φ H w φ H w.drew :=
 h.upd (fun _ => False) (fun _ _ => ⟨rfl, rfl⟩) (fun _ q => q.elim) (fun _ _ _ => rfl) (fun _ _ _ q => q.elim) (fun _ _ _ _ _ q => q.elim) (fun _ q => q.elim) (Nat.le_refl _) ⟨rfl, rfl, rfl⟩ (fun _ _ _ q => q.elim)
end
end Go.Proofs.YtobkkblijfhpoaaGreatDoor.Pm
