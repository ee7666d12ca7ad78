/- environ.Answer, walked: a range over a function in a loop. -/
import Derived.Test.YtdphimcpcclifaaLb0
import Derived.RangeFuncNested
import Derived.RangeFuncBound
import Derived.RangeFuncCalls
import Derived.RangeFuncLeaves
import Derived.RangeFuncFrom
import Derived.RangeFuncBox
import Derived.Shelf.Abstract
import Derived.Shelf.RegionOpen
import Derived.OwnWalkIn
import Derived.TacticsInMore
import Derived.LoopNIn
import Derived.LoopIn
import Derived.Maps.AppendAt
import Derived.Test.YtdphimcpcclifaaProg
namespace Go.Proofs.Ytdphimcpcclifaa.An
open Go Go.Proofs Go.RowKit Go.Shelf
attribute [local go_sem] Oper.semAt_some
set_option linter.unusedVariables false
/-- A variable's cells. -/
structure V where
  n : ByteArray
  v : ByteArray
  u : Bool
  s : Bool
def V.cs (x : V) : List Value := [.string x.n, .string x.v, .bool x.u, .bool x.s]
def V.agg (x : V) : Value := .agg #[.string x.n, .string x.v, .bool x.u, .bool x.s]
/-- A slice of variables, somewhere below B. -/
def Vs (W : World) (B : Nat) (a : Option Addr) (l : List V) : Prop :=
  ∀ (j : Nat) (x : V), l[j]? = some x → ∃ b o, a = some ⟨b, o, none⟩ ∧ b < B ∧ ∀ (k : Nat) (u : Value), x.cs[k]? = some u → W.cell? ⟨b, o + j * 4 + k, none⟩ = some u
theorem Vs.keep {W W' : World} {B : Nat} {a : Option Addr} {l : List V} (h : Vs W B a l) (hB : Below B W W') : Vs W' B a l := fun j x hj => by
  obtain ⟨b, o, e, hb, hc⟩ := h j x hj
  exact ⟨b, o, e, hb, fun k u hu => (hB.cell (p := ⟨b, o + j * 4 + k, none⟩) hb).trans (hc k u hu)⟩
/-- The marks of loops that are over: nothing was deferred there. -/
def Marks (B : Nat) (ds : List Deferred) (W : World) : Prop := ∀ d ∈ ds, ∃ D, d = { target := .collected D, args := #[] } ∧ B ≤ D ∧ W.heap[D]? = some (.deferred (some []))
set_option maxRecDepth 100000 in
set_option maxHeartbeats 1000000 in
/-- slices.Backward(s): the slice is boxed. -/
theorem backward (a : Option Addr) (len cap : Nat) (w : World) :
    Calls Go.Proofs.Try.prog 13 #[.slice a len cap] w fun e w' => e = .returned (.func (.func 20) #[] #[.pointer (some ⟨w.heap.size, 0, none⟩)]) ∧ w' = w.alloc (.cells #[.slice a len cap] 22) := by
  go_enter Go.Proofs.Try.func13, Go.Proofs.Try.ntmps13
  go_wp2
  go_ret
  exact ⟨rfl, rfl⟩
def V0 : V := ⟨⟨#[]⟩, ⟨#[]⟩, false, false⟩
/-- What comes: from the last one to the first. -/
def encs (hv : List V) (i : Nat) : Array Value := #[.int .i64 (i : Int), (hv.getD i V0).agg]
def down (n : Nat) : Nat → List Nat
  | 0 => []
  | k + 1 => down n k ++ [n - 1 - k]
theorem down_len (n : Nat) : ∀ k, (down n k).length = k
  | 0 => rfl
  | k + 1 => by unfold down; rw [List.length_append, down_len n k]; rfl
/-- Blocks below n, and one more, are as they were. -/
def KpB (n bs : Nat) (W W' : World) : Prop := Below n W W' ∧ W'.heap[bs]? = W.heap[bs]?
theorem KpB.refl (n bs : Nat) (W : World) : KpB n bs W W := ⟨Below.refl _ _, rfl⟩
theorem KpB.trans {n bs : Nat} {A B C : World} (h : KpB n bs A B) (k : KpB n bs B C) : KpB n bs A C := ⟨h.1.trans k.1, k.2.trans h.2⟩
set_option maxRecDepth 100000 in
set_option maxHeartbeats 4000000 in
theorem backIter (w : World) (bs : Nat) (hbs : bs < w.heap.size) (pa : Option Addr) (pc : Nat) (hv : List V) (hl : hv.length ≤ 2000000) (n₀ : Nat) (hn₀ : n₀ ≤ w.heap.size) (hh : Vs w n₀ pa hv) (hbox : w.cell? ⟨bs, 0, none⟩ = some (.slice pa hv.length pc)) :
    SeqStopsK Fence.wide 11 Go.Proofs.Try.prog 20 #[.pointer (some ⟨bs, 0, none⟩)] (encs hv) (KpB n₀ bs) (fun xs => xs = down hv.length hv.length) (fun _ => True) hv.length w := by
  intro l J Jx W hW hJ hJx hY hJ0
  have hbox' := (hW.cell (p := ⟨bs, 0, none⟩) hbs).trans hbox
  have hh' : Vs W n₀ pa hv := hh.keep (hW.mono hn₀)
  refine callsIn_of_wp Go.Proofs.Try.func20 rfl trivial ?_ rfl
  simp only [Go.Proofs.Try.ntmps20, List.size_toArray, List.length_cons, List.length_nil, Nat.reduceAdd, Nat.reduceSub, Array.replicate_succ, Array.replicate_zero, List.push_toArray, List.append_toArray, List.nil_append, List.cons_append]
  gi_wp2
  gi_loopw [3] (fun i wr => ∃ k : Nat, k ≤ hv.length ∧ i = .int .i64 ((hv.length : Int) - 1 - k) ∧ J (down hv.length k) wr ∧ KpB n₀ bs W wr)
    (fun i _ => ((intOf i) + 1).toNat)
  case atStart => exact ⟨0, Nat.zero_le _, by simp; try omega, hJ0, KpB.refl _ _ _⟩
  case round =>
    obtain ⟨k, hk, rfl, hJs, hbr⟩ := hrel
    by_cases hlt : k < hv.length
    · obtain ⟨m, hm⟩ : ∃ m : Nat, (hv.length : Int) - 1 - (k : Int) = (m : Int) := ⟨hv.length - 1 - k, by omega⟩
      have hmk : hv.length - 1 - k = m := by omega
      have hml : m < hv.length := by omega
      obtain ⟨pb, po, rfl, hpb, hcs⟩ := hh' m _ (List.getElem?_eq_getElem hml)
      have hgd : hv.getD m V0 = hv[m] := by rw [List.getD_eq_getElem?_getD, List.getElem?_eq_getElem hml]; rfl
      generalize hx : hv[m] = x at hcs hgd
      have k0 := (hbr.1.cell (p := ⟨pb, po + m * 4 + 0, none⟩) hpb).trans (hcs 0 _ rfl)
      have k1 := (hbr.1.cell (p := ⟨pb, po + m * 4 + 1, none⟩) hpb).trans (hcs 1 _ rfl)
      have k2 := (hbr.1.cell (p := ⟨pb, po + m * 4 + 2, none⟩) hpb).trans (hcs 2 _ rfl)
      have k3 := (hbr.1.cell (p := ⟨pb, po + m * 4 + 3, none⟩) hpb).trans (hcs 3 _ rfl)
      have kb := (World.cell?_of_block (w := W) (a := ⟨bs, 0, none⟩) hbr.2).trans hbox'
      obtain ⟨fn, tmps, assign, body, hy, hR⟩ := hY _ m wr hJs (by rw [down_len]; exact hlt)
      have he : encs hv m = #[.int .i64 (m : Int), .agg #[.string x.n, .string x.v, .bool x.u, .bool x.s]] := by unfold encs; rw [hgd]; rfl
      rw [he] at hy
      rw [hm]
      rw [Nat.add_zero] at k0
      gi_wp2_with fail
      refine hR.mono ?_
      rintro e W3 (⟨rfl, hJ3, hk3⟩ | ⟨rfl, hJx3⟩)
      · gi_wp2
        go_roundw
        case rel => exact ⟨k + 1, by omega, congrArg (Value.int .i64) (by omega), by unfold down; rw [hmk]; exact hJ3, hbr.trans hk3⟩
        case measure => simp [intOf]
      · gi_wp2
        refine bodyPost_ret (results_none rfl _ _ _) rfl ?_
        exact ⟨⟨_, rfl⟩, .inr ⟨_, trivial, hJx3⟩⟩
    · obtain rfl : k = hv.length := by omega
      gi_wp2
      go_end0
      exact ⟨⟨_, rfl⟩, .inl ⟨_, rfl, hJs⟩⟩
/-- What is told of a name that is wanted. -/
def foundF (hv : List V) (x : V) : V := hv.foldr (fun v f => if v.u = x.u ∧ v.n = x.n then v else f) x
def pickF (hv : List V) (x : V) : List V := if x.n.toList ≠ [] then [foundF hv x] else hv.filter fun v => v.u == x.u
def outF (hv l : List V) : List V := l.flatMap (pickF hv)
def flat (l : List V) : List Value := l.flatMap V.cs
theorem flat_app (a b : List V) : flat (a ++ b) = flat a ++ flat b := by unfold flat; rw [List.flatMap_append]
theorem flat_len : ∀ l : List V, (flat l).length = l.length * 4
  | [] => rfl
  | x :: l => by show (x.cs ++ flat l).length = _; rw [List.length_append, flat_len l]; simp [V.cs]; omega
end Go.Proofs.Ytdphimcpcclifaa.An
