/- The law FindCuts. -/
import Derived.Test.YtepegjihlppkcaaFindI
namespace Go.Proofs.Ytepegjihlppkcaa.Find
open Go.ChangeShapes Go.WideShapes Go.ChangeAt Go.RowKit
open Go.Proofs.Ytepegjihlppkcaa.Com Go.Proofs.Ytepegjihlppkcaa.Slices Go.Proofs.Ytepegjihlppkcaa.FindP Go.Proofs.Ytepegjihlppkcaa.Args
set_option maxRecDepth 100000

theorem ints_slU {w : World} {v : Value} (h : Arg (some 1048576) Try.prog w 22 v) : ∃ a c xs, v = .slice a xs.length c ∧ Sl w 1 a xs.length c (iv xs) ∧ xs.length ≤ 1048576 := by
  obtain ⟨v', rfl, hr, _⟩ := h.slice Try.underlying22
  have hm : (∀ c, v = .slice none 0 c → c = 0) ∧ ∀ a c, v = .slice a 0 c → c ≤ maxLen := by
    rcases hr.slice Try.underlying22 with q | ⟨a', l, c', q, _, q3, _⟩
    · simp at q; subst q
      exact ⟨fun c e => by injection e with _ _ e; omega, fun a c e => by injection e with _ _ e; omega⟩
    · simp at q; subst q
      exact ⟨fun c e => by simp at e, fun a c e => by injection e with _ _ e; omega⟩
  obtain ⟨xs, h1, _, h2⟩ := hr.ints Try.underlying22 Try.underlying3 cInt
  obtain ⟨a, c, e, hs⟩ := Sl.of_rs h1 hm.1 hm.2
  have e1 : (xs.map (Value.int .i64)).length = xs.length := by simp
  rw [e1] at e hs
  exact ⟨a, c, xs, e, hs, h2⟩
theorem cuts_walk (v0 v1 v2 : Value) (w : World) (h0 : Arg (some 1048576) Try.prog w 22 v0) (h1 : Arg (some 1048576) Try.prog w 22 v1) (h2 : Arg (some 1048576) Try.prog w 22 v2) :
    Calls Try.prog 11 #[v0, v1, v2] w fun e w' => e = .returned (.bool true) ∧ Below w.heap.size w w' := by
  obtain ⟨a1, c1, ta, rfl, hA, f1⟩ := ints_slU h0
  obtain ⟨a2, c2, tb, rfl, hB, f2⟩ := ints_slU h1
  obtain ⟨a3, c3, p, rfl, hP, _⟩ := ints_slU h2
  have hkm : ((iv ta).length + (iv tb).length) * 8 ≤ 140737488355328 := by rw [iv_len, iv_len]; omega
  by_cases hm : p.length < 1 ∨ 200 < p.length
  · exact cuts_no ta tb p a1 a2 a3 _ _ _ c1 c2 c3 w rfl rfl rfl hA hB hP (by omega) (by omega) hkm hm
  · by_cases hb : 100000 < ta.length + tb.length
    · exact cuts_large ta tb p a1 a2 a3 _ _ _ c1 c2 c3 w rfl rfl rfl hA hB hP (by omega) (by omega) hkm (by omega) (by omega) hb
    · exact cuts_ok ta tb p a1 a2 a3 _ _ _ c1 c2 c3 w rfl rfl rfl hA hB hP (by omega) (by omega) hkm (by omega) (by omega) (by omega)
end Go.Proofs.Ytepegjihlppkcaa.Find
