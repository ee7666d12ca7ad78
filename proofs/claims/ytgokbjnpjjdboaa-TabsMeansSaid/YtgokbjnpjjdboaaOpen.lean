/- How an argument that can be read as data looks, type by type; used to open the arguments of every law. No program is named here. -/
import Derived.Test.YtgokbjnpjjdboaaRows
import Derived.WalkKit
import Derived.ProofKit
import Derived.OpenShut
import Derived.Deep.Slices
namespace Go.Proofs.Ytgokbjnpjjdboaa.Open
open Go.ChangeShapes Go.WideShapes Go.ChangeAt Go.RowKit

/-- The cells 'cs' read, in the world 'w', as a datum of type 't'. -/
def Rd (P : Program) (w : World) (t : TypeId) (cs : List Value) : Prop :=
  ∃ (H : Type) (enc : TypeId × Value → H) (fuel : Nat) (x : DataW H × List MemPlace), DataW.trod enc P w 0 (fun _ => true) true fuel t cs = some x
/-- A whole argument: it has its type's shape, and reads. -/
def Arg (P : Program) (w : World) (t : TypeId) (v : Value) : Prop :=
  Rd P w t v.cells.toList ∧ ∃ r b, Value.okWide P w r b t v

theorem Arg.mk {P : Program} {w : World} {t : TypeId} {v : Value} {r : Reach} {b : Nat} {H : Type} {enc : TypeId × Value → H} {d : DataW H} {ps : List MemPlace}
    (hv : Value.okWide P w r b t v) (h : DataW.Trod enc P w 0 (fun _ => true) true t v d ps) : Arg P w t v :=
  ⟨let ⟨f, hf⟩ := h; ⟨H, enc, f, _, hf⟩, r, b, hv⟩

variable {P : Program} {w : World} {t e : TypeId} {k : IntKind} {v : Value} {cs : List Value}

theorem Rd.int (ht : P.underlying t = some (.int k)) (h : Rd P w t cs) : ∃ n, cs = [.int k n] ∧ (Lit.int k n).wf = true := by
  obtain ⟨H, enc, f, x, h⟩ := h
  obtain ⟨n, h1, _, h2⟩ := DataW.trod_int ht h
  exact ⟨n, h1, h2⟩
theorem Rd.bool (ht : P.underlying t = some .bool) (h : Rd P w t cs) : ∃ b, cs = [.bool b] := by
  obtain ⟨H, enc, f, x, h⟩ := h
  obtain ⟨n, h1, _⟩ := DataW.trod_bool ht h
  exact ⟨n, h1⟩
theorem Rd.string (ht : P.underlying t = some .string) (h : Rd P w t cs) : ∃ s, cs = [.string s] ∧ s.size ≤ maxLen := by
  obtain ⟨H, enc, f, x, h⟩ := h
  obtain ⟨n, h1, _, h2⟩ := DataW.trod_string ht h
  exact ⟨n, h1, h2⟩
theorem Rd.array {n : Nat} (ht : P.underlying t = some (.array n e)) (h : Rd P w t cs) :
    cs.length = P.cellsOf t ∧ ∀ i, i < n → Rd P w e ((cs.drop (i * P.cellsOf e)).take (P.cellsOf e)) := by
  obtain ⟨H, enc, f, x, h⟩ := h
  obtain ⟨xs, m, _, _, hl, hx, hi⟩ := DataW.trod_array ht h
  refine ⟨hl, fun i hn => ⟨H, enc, m, xs[i], ?_⟩⟩
  rw [hi i hn]; simp [hx, hn]
theorem Rd.struct {fs : Array Field} (ht : P.underlying t = some (.struct fs)) (h : Rd P w t cs) :
    cs.length = P.cellsOf t ∧ ∀ (i : Nat) (f : Field), fs[i]? = some f → Rd P w f.type ((cs.drop f.offset).take (P.cellsOf f.type)) := by
  obtain ⟨H, enc, f, x, h⟩ := h
  obtain ⟨xs, m, _, _, hl, hx, hi⟩ := DataW.trod_struct ht h
  refine ⟨hl, fun i f hf => ?_⟩
  have hlt : i < fs.size := by
    rcases Nat.lt_or_ge i fs.size with h' | h'
    · exact h'
    · simp [h'] at hf
  refine ⟨H, enc, m, xs[i], ?_⟩
  rw [hi i f hf]; simp [hx, hlt]
theorem Rd.slice (ht : P.underlying t = some (.slice e)) (h : Rd P w t cs) :
    cs = [.slice none 0 0] ∨ ∃ (a : Addr) (len cap : Nat), cs = [.slice (some a) len cap] ∧ len ≤ cap ∧ cap ≤ maxLen ∧
      ∀ i, i < cap → ∃ cs', (List.range (P.cellsOf e)).mapM (fun j => w.cell? ((a.add (i * P.cellsOf e)).add j)) = some cs' ∧ Rd P w e cs' := by
  obtain ⟨H, enc, f, x, h⟩ := h
  rcases Go.Deep.open_slice ht h with ⟨h1, _⟩ | ⟨a, len, cap, m, n, D, Pl, h1, _, h2, h3, h4, _, h5⟩
  · exact .inl h1
  · refine .inr ⟨a, len, cap, h1, h2, h3, fun i hi => ?_⟩
    simp at h4; subst h4
    obtain ⟨cs', hc, hr⟩ := h5 i hi
    exact ⟨cs', by simpa [World.cells?] using hc, H, enc, n, _, hr⟩

theorem Arg.int (ht : P.underlying t = some (.int k)) (h : Arg P w t v) : ∃ n, v = .int k n ∧ (Lit.int k n).wf = true := by
  obtain ⟨h, r, b, hv⟩ := h
  obtain ⟨n, rfl⟩ := okWide_int ht hv
  obtain ⟨n', h1, h2⟩ := h.int ht
  simp [Value.cells] at h1; subst h1
  exact ⟨n, rfl, h2⟩
theorem Arg.bool (ht : P.underlying t = some .bool) (h : Arg P w t v) : ∃ b, v = .bool b := by
  obtain ⟨h, r, b, hv⟩ := h
  exact okWide_bool ht hv
theorem Arg.string (ht : P.underlying t = some .string) (h : Arg P w t v) : ∃ s, v = .string s ∧ s.size ≤ maxLen := by
  obtain ⟨h, r, b, hv⟩ := h
  obtain ⟨n, rfl⟩ := okWide_string ht hv
  obtain ⟨n', h1, h2⟩ := h.string ht
  simp [Value.cells] at h1; subst h1
  exact ⟨n, rfl, h2⟩
theorem Arg.agg (ht : (∃ fs, P.underlying t = some (.struct fs)) ∨ ∃ n e, P.underlying t = some (.array n e)) (h : Arg P w t v) : ∃ cs, v = .agg cs ∧ Rd P w t cs.toList := by
  obtain ⟨h, r, b, hv⟩ := h
  rcases ht with ⟨fs, ht⟩ | ⟨n, e, ht⟩ <;>
  · simp only [Value.okWide, ht] at hv
    obtain ⟨cs, rfl, _⟩ := hv
    exact ⟨cs, rfl, h⟩
theorem Arg.slice (ht : P.underlying t = some (.slice e)) (h : Arg P w t v) : v = .slice none 0 0 ∨ ∃ (a : Addr) (len cap : Nat), v = .slice (some a) len cap ∧ len ≤ cap ∧ cap ≤ maxLen ∧
      ∀ i, i < cap → ∃ cs', (List.range (P.cellsOf e)).mapM (fun j => w.cell? ((a.add (i * P.cellsOf e)).add j)) = some cs' ∧ Rd P w e cs' := by
  obtain ⟨h, r, b, hv⟩ := h
  obtain ⟨a, len, cap, rfl⟩ := okWide_slice ht hv
  rcases h.slice ht with h1 | ⟨a', len', cap', h1, h2⟩
  · simp [Value.cells] at h1
    obtain ⟨rfl, rfl, rfl⟩ := h1
    exact .inl rfl
  · simp [Value.cells] at h1
    obtain ⟨rfl, rfl, rfl⟩ := h1
    exact .inr ⟨a', _, _, rfl, h2⟩
end Go.Proofs.Ytgokbjnpjjdboaa.Open
