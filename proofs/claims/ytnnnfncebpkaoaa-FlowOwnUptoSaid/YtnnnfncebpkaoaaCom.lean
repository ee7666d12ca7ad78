/- Small lemmas that every walk of this seat may use: slices that are read, slices that the call owns. No program is named here. -/
import Derived.Test.YtnnnfncebpkaoaaRows
import Derived.WalkKit
import Derived.ProofKit
import Derived.OpenShut
import Derived.Deep.QuietTactic
import Derived.Lib.Hide
import Derived.WalkSpells
import Derived.WalkLawsBesides
import Derived.Deep.DeepCutAuto
import Derived.Lib.SmallJoins
namespace Go.Proofs.Ytnnnfncebpkaoaa.Com
open Go.ChangeShapes Go.WideShapes Go.ChangeAt Go.RowKit

theorem bcell {B : Nat} {W w1 : World} (hb : Below B W w1) (b o : Nat) (h : b < B) : w1.cell? ⟨b, o, none⟩ = W.cell? ⟨b, o, none⟩ :=
  hb.cell (p := ⟨b, o, none⟩) h
theorem cell_lt {w : World} {b o : Nat} {v : Value} (h : w.cell? ⟨b, o, none⟩ = some v) : b < w.heap.size := block_lt_of_cell h
/-- A cell that was there is there still. -/
theorem cell_keep {w w' : World} {b o : Nat} {v : Value} (h : w.cell? ⟨b, o, none⟩ = some v) (hb : Below w.heap.size w w') : w'.cell? ⟨b, o, none⟩ = some v :=
  (bcell hb b o (cell_lt h)).trans h

/-- The value v is a slice whose elements (of one cell each) are xs, in the world w. -/
def Rs (w : World) (v : Value) (xs : List Value) : Prop :=
  (xs = [] ∧ ∃ a cap, v = .slice a 0 cap) ∨
  ∃ b off cap, v = .slice (some ⟨b, off, none⟩) xs.length cap ∧ xs.length ≤ cap ∧ cap ≤ maxLen ∧ ∀ i x, xs[i]? = some x → w.cell? ⟨b, off + i, none⟩ = some x
theorem Rs.keep {w w' : World} {v : Value} {xs : List Value} (h : Rs w v xs) (hb : Below w.heap.size w w') : Rs w' v xs := by
  rcases h with h | ⟨b, off, cap, h1, h2, h3, h4⟩
  · exact .inl h
  · exact .inr ⟨b, off, cap, h1, h2, h3, fun i x hx => cell_keep (h4 i x hx) hb⟩
theorem Rs.len {w : World} {v : Value} {xs : List Value} (h : Rs w v xs) : xs.length ≤ maxLen := by
  rcases h with ⟨rfl, _⟩ | ⟨b, off, cap, h1, h2, h3, h4⟩
  · simp
  · omega

/-- The value v is a slice of the call's own (made from block B on) whose elements are xs. -/
def Own (w : World) (B : Nat) (e : TypeId) (v : Value) (xs : List Value) : Prop := w.ownsRow B e 1 v xs.length xs
theorem Own.rs {w : World} {B : Nat} {e : TypeId} {v : Value} {xs : List Value} (h : Own w B e v xs) : Rs w v xs := by
  obtain ⟨_, h⟩ := h
  rcases h with ⟨rfl, h2⟩ | ⟨g, cap, cur, rfl, h2, h3, h4, h5, h6, h7⟩
  · exact .inl ⟨List.eq_nil_of_length_eq_zero h2, none, 0, rfl⟩
  · refine .inr ⟨g, 0, cap, rfl, h4, h5, fun i x hx => ?_⟩
    simp only [Nat.mul_one] at h6 h7
    rw [cell_of_row w g (0 + i) cur e (0, 0) h3, Nat.zero_add]
    have hi : i < xs.length := by
      rcases Nat.lt_or_ge i xs.length with h' | h'
      · exact h'
      · rw [List.getElem?_eq_none h'] at hx; cases hx
    have : xs[i]? = cur.toList[i]? := by rw [← h7]; simp [hi]
    rw [← hx, this]; simp
theorem Own.nil (w : World) (B : Nat) (e : TypeId) : Own w B e (.slice none 0 0) [] := ⟨by simp, .inl ⟨rfl, rfl⟩⟩
theorem Own.mono {w : World} {B B' : Nat} {e : TypeId} {v : Value} {xs : List Value} (h : Own w B e v xs) (hB : B' ≤ B) : Own w B' e v xs := by
  obtain ⟨h1, h⟩ := h
  refine ⟨h1, ?_⟩
  rcases h with h | ⟨g, cap, cur, h2, h3, h4⟩
  · exact .inl h
  · exact .inr ⟨g, cap, cur, h2, by omega, h4⟩
/-- What is owned stays owned while another call makes memory of its own. -/
theorem Own.keep {w w' : World} {B : Nat} {e : TypeId} {v : Value} {xs : List Value} (h : Own w B e v xs) (hb : Below w.heap.size w w') : Own w' B e v xs := by
  obtain ⟨h1, h⟩ := h
  refine ⟨h1, ?_⟩
  rcases h with h | ⟨g, cap, cur, h2, h3, h4, h5⟩
  · exact .inl h
  · refine .inr ⟨g, cap, cur, h2, h3, ?_, h5⟩
    have hg : g < w.heap.size := by
      rcases Nat.lt_or_ge g w.heap.size with h' | h'
      · exact h'
      · rw [Array.getElem?_eq_none h'] at h4; cases h4
    rw [hb.block g hg]; exact h4
theorem Own.alloc {w : World} {B : Nat} {e : TypeId} {v : Value} {xs : List Value} (h : Own w B e v xs) (o : Obj) : Own (w.alloc o) B e v xs :=
  h.keep ((Below.refl _ _).alloc (Nat.le_refl _) o)

/-- Behind an append to a slice of the call's own: nothing below B has turned. -/
theorem below_app {B : Nat} {w0 w w1 : World} {o : Obj} {e : TypeId} {v : Value} {xs : List Value} (hb : Below B w0 w) (hB : B ≤ w0.heap.size) (hown : Own w B e v xs)
    (hg : (w.alloc o).grownBy w1 v.ownBlock) : Below B w0 w1 :=
  have hle : B ≤ w.heap.size := Nat.le_trans hB hb.size
  Below.grown (hb.alloc hle o) hg (Nat.le_trans hle (by simp)) (fun k hk => ((World.ownsRow.lt (h := hown)) k hk).1)
theorem grown_size {w w1 : World} {o : Obj} {row : Option Nat} (hg : (w.alloc o).grownBy w1 row) : w.heap.size ≤ w1.heap.size := by
  have := hg.size; simp at this; omega

theorem wf_u8 {n : Int} (h : (Lit.int .u8 n).wf = true) : 0 ≤ n ∧ n ≤ 255 := by
  simpa [Lit.wf, IntKind.min, IntKind.max, IntKind.signed, IntKind.bits] using h
theorem wf_i64 {n : Int} (h : (Lit.int .i64 n).wf = true) : -9223372036854775808 ≤ n ∧ n ≤ 9223372036854775807 := by
  simpa [Lit.wf, IntKind.min, IntKind.max, IntKind.signed, IntKind.bits] using h

/-- Bytes as cells. -/
def bytesV (l : List UInt8) : List Value := l.map fun b => .int .u8 (b.toNat : Int)
theorem bytesV_len (l : List UInt8) : (bytesV l).length = l.length := by simp [bytesV]
theorem bytesV_app (l m : List UInt8) : bytesV (l ++ m) = bytesV l ++ bytesV m := by simp [bytesV]
theorem conv_bytes {P : Program} (w : World) (src dst e : TypeId) (hs : P.underlying src = some (.slice e)) (he : P.underlying e = some (.int .u8)) (hd : P.underlying dst = some .string)
    (v : Value) (l : List UInt8) (h : Rs w v (bytesV l)) : (convert src dst v).run P w = .ok (.string ⟨l.toArray⟩) w := by
  rcases h with ⟨hx, a, cap, rfl⟩ | ⟨b, off, cap, rfl, _, _, h4⟩
  · have : l = [] := by simpa [bytesV] using hx
    subst this
    cases a with
    | none => exact run_convert_bytes_nil w src e hs he 0 cap dst hd
    | some a => exact run_convert_bytes_back w src dst e a cap [] hs he hd (fun j hj => absurd hj (Nat.not_lt_zero j))
  · rw [bytesV_len]
    refine run_convert_bytes_back w src dst e ⟨b, off, none⟩ cap l hs he hd fun j hj => ?_
    have := h4 j (.int .u8 (l[j].toNat : Int)) (by simp [bytesV, hj])
    have hp : (⟨b, off, none⟩ : Addr).add j = ⟨b, off + j, none⟩ := by unfold Addr.add; split <;> simp_all
    rw [hp]; exact this
theorem take_snocB (s : ByteArray) (k : Nat) (h : k < s.size) : s.data.toList.take (k + 1) = s.data.toList.take k ++ [s[k]] := by
  rw [List.take_succ_eq_append_getElem (by simpa using h)]; rfl
theorem take_all (s : ByteArray) : s.data.toList.take s.size = s.data.toList := List.take_of_length_le (by simp)
/-- A slice that has just been laid out. -/
theorem Rs.new (w : World) (T : TypeId) (l : List Value) (n : Nat) (hn : n = l.length) (hm : l.length ≤ maxLen) : Rs (w.alloc (.cells l.toArray T)) (.slice (some ⟨w.heap.size, 0, none⟩) n n) l := by
  subst hn
  refine .inr ⟨_, 0, _, rfl, Nat.le_refl _, hm, fun i x hx => ?_⟩
  rw [World.cell?_alloc_mark, Nat.zero_add]
  simpa using hx
theorem below_alloc (w : World) (o : Obj) : Below w.heap.size w (w.alloc o) := (Below.refl _ _).alloc (Nat.le_refl _) o
theorem Rs.shape {w : World} {v : Value} {xs : List Value} (h : Rs w v xs) : ∃ a c, v = .slice a xs.length c := by
  rcases h with ⟨rfl, a, c, rfl⟩ | ⟨b, o, c, rfl, _⟩
  · exact ⟨a, c, rfl⟩
  · exact ⟨_, c, rfl⟩
/-- 'append(out, x, ..)' to a slice of the call's own: what it holds then, and that nothing below B has turned. -/
theorem wpList_app {P : Program} {ops : Array Oper} {rest : List Oper} {o : Oper} {a : Act} {Q : Exit → Act → World → Prop} {w : World} (hgd : o.guard = none) (s x : Operand) (t e : TypeId)
    (ho : o.op = .call { callee := .builtin .append, args := #[s, x], argTypes := #[t, t] }) (B : Nat) (i : TypeInfo) (z : Value) (bytes : Nat)
    (ht : P.underlying t = some (.slice e)) (hi : P.info? e = some i) (hz : i.zero = some z) (hsize : i.size = 1) (hby : i.bytes = bytes) (hzs : z.cells.size = 1)
    (v : Value) (xs : List Value) (hs : a.eval s = v) (hown : Own w B e v xs) (l : List Value) (n : Nat) (hn : n = l.length) (hx : a.eval x = .slice (some ⟨w.heap.size, 0, none⟩) n n)
    (h1 : ∀ u ∈ l, u.oneCell' = true) (hb1 : 1 ≤ bytes) (hbytes : (xs.length + l.length) * bytes ≤ 140737488355328) (w0 : World) (hbel : Below B w0 w) (hB : B ≤ w0.heap.size)
    (h : ∀ v' w', Own w' B e v' (xs ++ l) → Below B w0 w' → wpList P ops Q rest (a.put o.dst v') w') : wpList P ops Q (o :: rest) a (w.alloc (.cells l.toArray e)) := by
  subst hn
  have hle : xs.length + l.length ≤ 140737488355328 := Nat.le_trans (by have := Nat.mul_le_mul_left (xs.length + l.length) hb1; simpa using this) hbytes
  refine wpList_append_own _ hgd s x t ho B e i z 1 bytes ht hi hz hsize hby hzs (by decide) v xs.length xs hs (hown.alloc _) ⟨w.heap.size, 0, none⟩ l.length l.length l hx (by simp) (fun j u hj => ?_) h1 (by unfold maxLen; omega) hbytes (by have := hbel.size; simp; omega) ?_
  · have hp : (⟨w.heap.size, 0, none⟩ : Addr).add j = ⟨w.heap.size, j, none⟩ := by unfold Addr.add; split <;> simp_all
    rw [hp, World.cell?_alloc_mark]
    simpa using hj
  · intro v' w' hown' hg _
    exact h v' w' (by unfold Own; rw [List.length_append]; exact hown') (below_app hbel hB hown hg)
end Go.Proofs.Ytnnnfncebpkaoaa.Com
