/- Laws of the walk on aggregates whose cells stay unopened (large structs and arrays), and a frame relation for calls that write into one block. No program is named here. -/
import Derived.Test.YtioikkmmjljedaaGreatDoorCom
namespace Go.Proofs.YtioikkmmjljedaaGreatDoor.Row
open Go.ChangeShapes Go.WideShapes Go.ChangeAt Go.RowKit
open Go.Proofs.YtioikkmmjljedaaGreatDoor.Com

section
variable {P : Program} {ops : Array Oper} {rest : List Oper} {o : Oper} {a : Act} {w : World} {Q : Exit → Act → World → Prop}

def aggD : TypeDesc → Bool | .struct _ | .array _ _ => true | _ => false

theorem run_isAgg {ty : TypeId} {d : TypeDesc} (hu : P.underlying ty = some d) : (isAgg ty).run P w = .ok (aggD d) w := by
  unfold isAgg
  rw [Sem.run_bind, run_underlying hu w]
  cases d <;> simp_all [aggD]
theorem run_loadVar_part (ty : TypeId) (ad : Addr) (d : TypeDesc) (hu : P.underlying ty = some d) (hd : aggD d = true) (cs : List Value)
    (hi : (P.info? ty).map (·.size) = some cs.length) (h : ∀ j v, cs[j]? = some v → w.cell? (ad.add j) = some v) : (loadVar ty ad).run P w = .ok (.agg cs.toArray) w := by
  have hl := run_loadCells_list (P := P) w ad cs h
  cases hq : P.info? ty with
  | none => simp [hq] at hi
  | some i =>
    have hs : i.size = cs.length := by simpa [hq] using hi
    have hagg := run_isAgg (P := P) (w := w) hu
    rw [hd] at hagg
    simp [loadVar, Sem.run_bind, hagg, sizeOf, typeInfo, hq, hs, hl]
theorem wpList_load_part (hgd : o.guard = none) (ty : TypeId) (x : Operand) (ho : o.op = .load ty x) (ad : Addr) (hx : a.eval x = .pointer (some ad))
    (d : TypeDesc) (hu : P.underlying ty = some d) (hd : aggD d = true) (cs : List Value) (hi : (P.info? ty).map (·.size) = some cs.length)
    (hc : ∀ j v, cs[j]? = some v → w.cell? (ad.add j) = some v)
    (h : wpList P ops Q rest (a.put o.dst (.agg cs.toArray)) w) : wpList P ops Q (o :: rest) a w :=
  wpList_plain hgd fun K hK => by
    unfold Oper.wp execOp
    simp only [ho, hx, Instr.loadAt, Instr.sureAddr, Sem.run_bind, Sem.run_pure, Result.andThen_ok, run_loadVar_part ty ad d hu hd cs hi hc]
    exact hK _ _ h

/-- A new variable of a large type: its zero stays unopened. -/
theorem wpList_alloc_row (hgd : o.guard = none) (t : TypeId) (ho : o.op = .alloc t) (dst : Option Tmp) (hdst : o.dst = dst) (z : Array Value) (hz : (P.info? t).bind (·.zero) = some (.agg z))
    (h : wpList P ops Q rest (a.put dst (.pointer (some ⟨w.heap.size, 0, none⟩))) (w.alloc (.cells z t))) : wpList P ops Q (o :: rest) a w :=
  wpList_plain hgd fun K hK => by
    subst hdst
    obtain ⟨i, hi, hz'⟩ := Option.bind_eq_some_iff.1 hz
    unfold Oper.wp execOp
    simp only [ho, Sem.run_bind, Instr.alloc, zeroValue, typeInfo, newVar, newRow, run_newObj_alloc, Sem.run_pure, Result.andThen_ok, hi, hz', Value.cells]
    simp [Sem.run_bind, hi, hz', Oper.upon]
    exact hK _ _ h

/-- An element, of one cell, of an array value. -/
theorem run_index_agg (t e : TypeId) (len : Nat) (cs : Array Value) (k : IntKind) (n : Int) (v : Value) (d : TypeDesc) (hu : P.underlying t = some (.array len e)) (he : P.underlying e = some d) (hd : aggD d = false)
    (hs : (P.info? e).map (·.size) = some 1) (h0 : 0 ≤ n) (h1 : n < len) (hv : cs[n.toNat]? = some v) : (Instr.index t (.agg cs) (.int k n)).run P w = .ok v w := by
  cases hq : P.info? e with
  | none => simp [hq] at hs
  | some i =>
    have hs' : i.size = 1 := by simpa [hq] using hs
    have hagg := run_isAgg (P := P) (w := w) he
    rw [hd] at hagg
    simp [Instr.index, asIntOf, Sem.run_bind, run_underlying hu, h0, h1, sizeOf, typeInfo, hq, hs', part, hagg, hv]
end

/-! ### one block is written, nothing else -/
/-- Nothing that was there has turned, but for block g. -/
structure But (g : Nat) (w w' : World) : Prop where
  os : w'.os = w.os
  tape : w'.tape = w.tape
  output : w'.output = w.output
  size : w.heap.size ≤ w'.heap.size
  block : ∀ k, k < w.heap.size → k ≠ g → w'.heap[k]? = w.heap[k]?
theorem But.refl (g : Nat) (w : World) : But g w w := ⟨rfl, rfl, rfl, Nat.le_refl _, fun _ _ _ => rfl⟩
theorem But.trans {g : Nat} {a b c : World} (h : But g a b) (k : But g b c) : But g a c :=
  ⟨k.os.trans h.os, k.tape.trans h.tape, k.output.trans h.output, Nat.le_trans h.size k.size, fun i hi hg => (k.block i (Nat.lt_of_lt_of_le hi h.size) hg).trans (h.block i hi hg)⟩
theorem But.of_below {g : Nat} {a b : World} (h : Below a.heap.size a b) : But g a b := ⟨h.os, h.tape, h.output, h.size, fun k hk _ => h.block k hk⟩
theorem But.below {g B : Nat} {a b : World} (h : But g a b) (hB : B ≤ g) (hs : B ≤ a.heap.size) : Below B a b := ⟨h.os, h.tape, h.output, h.size, fun k hk => h.block k (by omega) (by omega)⟩
theorem But.cell {g : Nat} {a b : World} (h : But g a b) {k o : Nat} {v : Value} (hc : a.cell? ⟨k, o, none⟩ = some v) (hg : k ≠ g) : b.cell? ⟨k, o, none⟩ = some v :=
  (World.cell?_of_block (w := a) (h.block k (cell_lt hc) hg)).trans hc
theorem But.set (g o : Nat) (w : World) (v : Value) : But g w (w.setCell ⟨g, o, none⟩ v) :=
  ⟨rfl, rfl, rfl, by simp [World.setCell], fun k _ hg => Below.heap_setCell _ _ _ _ hg⟩
theorem But.own {g : Nat} {a b : World} (h : But g a b) {B : Nat} {e : TypeId} {v : Value} {xs : List Value} (ho : Own a B e v xs) (hg : g < B) : Own b B e v xs := by
  obtain ⟨h1, ho⟩ := ho
  refine ⟨h1, ?_⟩
  rcases ho with ho | ⟨k, cap, cur, h2, h3, h4, h5⟩
  · exact .inl ho
  · refine .inr ⟨k, cap, cur, h2, h3, ?_, h5⟩
    have hk : k < a.heap.size := by
      rcases Nat.lt_or_ge k a.heap.size with h' | h'
      · exact h'
      · rw [Array.getElem?_eq_none h'] at h4; cases h4
    rw [h.block k hk (by omega)]; exact h4
theorem below_heap {B k : Nat} {w w' : World} {o : Obj} (hb : Below B w w') (hk : k < B) (h : w.heap[k]? = some o) : w'.heap[k]? = some o := by rw [hb.block k hk]; exact h
theorem heap_lt {k : Nat} {w : World} {o : Obj} (h : w.heap[k]? = some o) : k < w.heap.size := by
  rcases Nat.lt_or_ge k w.heap.size with h' | h'
  · exact h'
  · rw [Array.getElem?_eq_none h'] at h; cases h
theorem heap_keep {k : Nat} {w w' : World} {o : Obj} (hb : Below w.heap.size w w') (h : w.heap[k]? = some o) : w'.heap[k]? = some o := below_heap hb (heap_lt h) h

/-! ### rows made from a function -/
def rowF (n : Nat) (f : Nat → Value) : List Value := (List.range n).map f
theorem rowF_len (n : Nat) (f : Nat → Value) : (rowF n f).length = n := by simp [rowF]
theorem rowF_get (n : Nat) (f : Nat → Value) (i : Nat) (h : i < n) : (rowF n f)[i]? = some (f i) := by simp [rowF, h]
def upd {α : Type} (f : Nat → α) (i : Nat) (v : α) : Nat → α := fun j => if j = i then v else f j
theorem rowF_set (n : Nat) (f : Nat → Value) (i : Nat) (v : Value) : (rowF n f).set i v = rowF n (upd f i v) := by
  apply List.ext_getElem?
  intro j
  by_cases hj : j < n
  · rw [rowF_get n _ j hj]
    by_cases e : i = j
    · subst e; simp [rowF, hj, upd]
    · rw [List.getElem?_set_ne e, rowF_get n _ j hj]; simp [upd, Ne.symm e]
  · rw [List.getElem?_eq_none (by simp [rowF]; omega), List.getElem?_eq_none (by simp [rowF]; omega)]
theorem rowF_congr (n : Nat) (f g : Nat → Value) (h : ∀ i, i < n → f i = g i) : rowF n f = rowF n g := List.map_congr_left fun i hi => h i (List.mem_range.1 hi)
theorem rowF_inj (n : Nat) (f g : Nat → Value) (h : rowF n f = rowF n g) (i : Nat) (hi : i < n) : f i = g i := by
  have := rowF_get n f i hi
  rw [h, rowF_get n g i hi] at this
  exact (Option.some.inj this).symm
/-- A list of so many cells is the row of its own cells. -/
theorem rowF_self (l : List Value) : l = rowF l.length (fun i => l.getD i undef) := by
  apply List.ext_getElem?
  intro j
  by_cases hj : j < l.length
  · rw [rowF_get _ _ j hj]; simp [List.getD, hj]
  · rw [List.getElem?_eq_none (by omega), List.getElem?_eq_none (by simp [rowF]; omega)]
theorem drewN_heap (w : World) (n : Nat) : (w.drewN n).heap = w.heap := rfl

/-! ### loads and stores of whole rows under names that simp does not open -/
section
variable {P : Program}
def rowLoad (t : TypeId) (v : Value) : Sem Value := Instr.loadAt t v
def rowStore (t : TypeId) (p v : Value) : Sem Unit := Instr.storeAt t p v
def rowAlloc (t : TypeId) (b : Bool) (v : Value) : Sem Value := Instr.alloc t b v
theorem rowLoad_eq (t : TypeId) (v : Value) : Instr.loadAt t v = rowLoad t v := rfl
theorem rowStore_eq (t : TypeId) (p v : Value) : Instr.storeAt t p v = rowStore t p v := rfl
theorem rowAlloc_eq (t : TypeId) (b : Bool) (v : Value) : Instr.alloc t b v = rowAlloc t b v := rfl
theorem run_rowLoad (ty : TypeId) (g : Nat) (w : World) (t : TypeId) (cs : Array Value) (fr : Nat × Nat) (d : TypeDesc) (hg : w.heap[g]? = some (.cells cs t fr))
    (hu : P.underlying ty = some d) (hd : aggD d = true) (hi : (P.info? ty).map (·.size) = some cs.size) : (rowLoad ty (.pointer (some ⟨g, 0, none⟩))).run P w = .ok (.agg cs) w := by
  unfold rowLoad
  simp only [Instr.loadAt, Instr.sureAddr, Sem.run_bind, Sem.run_pure, Result.andThen_ok]
  exact run_loadVar_row w g t ty cs fr d hg hu (by cases d <;> simp_all [aggD]) hi
theorem run_rowLoad_part (ty : TypeId) (ad : Addr) (w : World) (d : TypeDesc) (hu : P.underlying ty = some d) (hd : aggD d = true) (cs : List Value)
    (hi : (P.info? ty).map (·.size) = some cs.length) (h : ∀ j v, cs[j]? = some v → w.cell? (ad.add j) = some v) : (rowLoad ty (.pointer (some ad))).run P w = .ok (.agg cs.toArray) w := by
  unfold rowLoad
  simp only [Instr.loadAt, Instr.sureAddr, Sem.run_bind, Sem.run_pure, Result.andThen_ok]
  exact run_loadVar_part ty ad d hu hd cs hi h
theorem run_rowStore (ty : TypeId) (g : Nat) (w : World) (t : TypeId) (old cells : Array Value) (hg : w.heap[g]? = some (.cells old t (0, 0))) (hi : (P.info? ty).map (·.size) = some cells.size)
    (ho : old.size = cells.size) (h1 : cells.all (·.oneCell') = true) : (rowStore ty (.pointer (some ⟨g, 0, none⟩)) (.agg cells)).run P w = .ok () (w.setRow g cells) := by
  unfold rowStore
  simp only [Instr.storeAt, Instr.sureAddr, Sem.run_bind, Sem.run_pure, Result.andThen_ok]
  exact run_storeVar_row w g t ty old cells hg hi ho h1
theorem run_rowAlloc (t : TypeId) (w : World) (v : Value) (z : Array Value) (hz : (P.info? t).bind (·.zero) = some (.agg z)) :
    (rowAlloc t true v).run P w = .ok (.pointer (some ⟨w.heap.size, 0, none⟩)) (w.alloc (.cells z t)) := by
  obtain ⟨i, hi, hz'⟩ := Option.bind_eq_some_iff.1 hz
  unfold rowAlloc
  simp [Sem.run_bind, Instr.alloc, zeroValue, typeInfo, newVar, newRow, run_newObj_alloc, Sem.run_pure, Result.andThen_ok, hi, hz', Value.cells]
theorem results_row2 {fn : Func} {p q : Tmp} {ty : TypeId} (h : fn.results = #[.cell p ty, .tmp q]) (tmps : Array Value) (w : World) (g : Nat) (t : TypeId) (cs : Array Value) (fr : Nat × Nat) (d : TypeDesc)
    (hp : tmps.getD p undef = .pointer (some ⟨g, 0, none⟩)) (hg : w.heap[g]? = some (.cells cs t fr)) (hu : P.underlying ty = some d) (hd : aggD d = true) (hi : (P.info? ty).map (·.size) = some cs.size) :
    (results fn tmps).run P w = .ok (.tuple #[.agg cs, tmps.getD q undef]) w := by
  have hp' : tmps[p]?.getD undef = .pointer (some ⟨g, 0, none⟩) := by simpa using hp
  simp [results, h, hp', asAddr, run_loadVar_row w g t ty cs fr d hg hu (by cases d <;> simp_all [aggD]) hi]
theorem results_row3 {fn : Func} {p q r : Tmp} {ty : TypeId} (h : fn.results = #[.cell p ty, .tmp q, .tmp r]) (tmps : Array Value) (w : World) (g : Nat) (t : TypeId) (cs : Array Value) (fr : Nat × Nat) (d : TypeDesc)
    (hp : tmps.getD p undef = .pointer (some ⟨g, 0, none⟩)) (hg : w.heap[g]? = some (.cells cs t fr)) (hu : P.underlying ty = some d) (hd : aggD d = true) (hi : (P.info? ty).map (·.size) = some cs.size) :
    (results fn tmps).run P w = .ok (.tuple #[.agg cs, tmps.getD q undef, tmps.getD r undef]) w := by
  have hp' : tmps[p]?.getD undef = .pointer (some ⟨g, 0, none⟩) := by simpa using hp
  simp [results, h, hp', asAddr, run_loadVar_row w g t ty cs fr d hg hu (by cases d <;> simp_all [aggD]) hi]
theorem But.setRow (g : Nat) (w : World) (cs : Array Value) : But g w (w.setRow g cs) :=
  ⟨rfl, rfl, rfl, by simp [World.setRow], fun k _ hg => setRow_other _ _ _ _ hg⟩
end
end Go.Proofs.YtioikkmmjljedaaGreatDoor.Row
