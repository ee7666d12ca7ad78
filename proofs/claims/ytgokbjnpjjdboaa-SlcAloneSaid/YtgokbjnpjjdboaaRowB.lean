/- Laws on rows, more: an array of arrays built of its parts; a part of an array value. No program is named here. -/
import Derived.Test.YtgokbjnpjjdboaaRow
import Derived.Great.BuildSlice
namespace Go.Proofs.Ytgokbjnpjjdboaa.Row
open Go.ChangeShapes Go.WideShapes Go.ChangeAt Go.RowKit
open Go.Proofs.Ytgokbjnpjjdboaa.Com

theorem foldl_seg (v : List Value) : ∀ (j off : Nat) (cells : Array Value), off + j + v.length ≤ cells.size →
    (v.zipIdx j).foldl (fun cs (x : Value × Nat) => cs.setIfInBounds (off + x.2) x.1) cells = (cells.toList.take (off + j) ++ v ++ cells.toList.drop (off + j + v.length)).toArray := by
  induction v with
  | nil => intro j off cells _; simp
  | cons x r ih =>
    intro j off cells h
    simp only [List.length_cons] at h
    rw [List.zipIdx_cons, List.foldl_cons, ih (j+1) off _ (by simp; omega)]
    apply congrArg List.toArray
    simp only [Array.toList_setIfInBounds, List.length_cons]
    have e := list_seg_step cells.toList (off + j) x r (by simp; omega)
    simpa [Nat.add_assoc] using e
theorem fill_step (place : Nat → Option (Nat × Nat)) (i off : Nat) (u : List Value) (cells : Array Value) (rest : List (Nat × Value)) (hp : place i = some (off, u.length)) (hle : off + u.length ≤ cells.size) :
    Instr.fill place cells ((i, .agg u.toArray) :: rest) = Instr.fill place (cells.toList.take off ++ u ++ cells.toList.drop (off + u.length)).toArray rest := by
  have e1 : (Value.agg u.toArray).cells = u.toArray := rfl
  have f1 := foldl_seg u 0 off cells (by omega)
  simp only [Instr.fill, hp, e1, List.size_toArray]
  rw [if_neg (by simp; omega)]
  rw [← Array.foldl_toList, Array.toList_zipIdx]
  simp only [Nat.add_zero] at f1
  rw [f1]
/-- Two parts of n cells each make a row. -/
theorem fill_two (n : Nat) (zero : Array Value) (u v : List Value) (hz : zero.size = n + n) (hu : u.length = n) (hv : v.length = n) :
    Instr.fill (fun i => some (i * n, n)) zero [(0, .agg u.toArray), (1, .agg v.toArray)] = some (u ++ v).toArray := by
  rw [fill_step _ 0 0 u zero _ (by simp [hu]) (by omega), fill_step _ 1 n v _ _ (by simp [hv]) (by simp; omega)]
  simp only [Instr.fill, Option.some.injEq]
  apply congrArg List.toArray
  simp only [List.take_zero, List.nil_append, Nat.zero_add]
  rw [List.take_left' hu, List.drop_of_length_le (by simp; omega), List.append_nil]
section
variable {P : Program} {w : World}
theorem built_two (t e : TypeId) (n : Nat) (u v : List Value) (z : Array Value) (hu : P.underlying t = some (.array 2 e)) (he : (P.info? e).map (·.size) = some n) (hz : (P.info? t).bind (·.zero) = some (.agg z)) (hzs : z.size = n + n)
    (h1 : u.length = n) (h2 : v.length = n) : P.built t [(0, .agg u.toArray), (1, .agg v.toArray)] = some (u ++ v).toArray := by
  obtain ⟨i, hi, hz'⟩ := Option.bind_eq_some_iff.1 hz
  cases hq : P.info? e with
  | none => simp [hq] at he
  | some ie =>
    have hs : ie.size = n := by simpa [hq] using he
    unfold Program.built
    simp only [hi, hu, hz', hq, hs, Value.cells]
    exact fill_two n z u v hzs h1 h2
/-- A part, of many cells, of an array value. -/
theorem run_index_part (t e : TypeId) (len n : Nat) (cs : List Value) (k : IntKind) (j : Nat) (d : TypeDesc) (hu : P.underlying t = some (.array len e)) (he : P.underlying e = some d) (hd : aggD d = true)
    (hs : (P.info? e).map (·.size) = some n) (h1 : j < len) (u : List Value) (hv : (cs.drop (j * n)).take n = u) : (Instr.index t (.agg cs.toArray) (.int k j)).run P w = .ok (.agg u.toArray) w := by
  cases hq : P.info? e with
  | none => simp [hq] at hs
  | some i =>
    have hs' : i.size = n := by simpa [hq] using hs
    have hagg := run_isAgg (P := P) (w := w) he
    rw [hd] at hagg
    have hlt : (j : Int) < len := by omega
    subst hv
    simp [Instr.index, asIntOf, Sem.run_bind, run_underlying hu, hlt, sizeOf, typeInfo, hq, hs', part, hagg, List.extract_eq_take_drop]
    exact fun h => absurd h1 (by omega)
end
end Go.Proofs.Ytgokbjnpjjdboaa.Row
