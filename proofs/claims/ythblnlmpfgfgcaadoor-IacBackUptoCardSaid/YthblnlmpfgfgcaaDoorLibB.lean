/- strings.Builder: copyCheck and String, walked with all that they leave as it was, and told to the small machine. -/
import Derived.Test.YthblnlmpfgfgcaaDoorLb0
import Derived.Shelf.Strings.Builder1
namespace Go.Proofs.YthblnlmpfgfgcaaDoor.Lb
open Go Go.Proofs Go.Shelf Go.RowKit Go.Lib
variable {P : Program} {ρ : Ren}
theorem grownBy_refl (w : World) (row : Option Nat) : w.grownBy w row := ⟨rfl, rfl, rfl, Nat.le_refl _, fun _ _ _ => rfl⟩
theorem grownBy_drew {w w' : World} {row : Option Nat} (h : w.grownBy w' row) : w.grownBy w'.drew row := ⟨h.os, h.tape, h.output, h.size, h.block⟩
theorem grownBy_trans {a w w' : World} {row : Option Nat} (h : a.grownBy w row) (k : w.grownBy w' row) : a.grownBy w' row :=
  ⟨k.os.trans h.os, k.tape.trans h.tape, k.output.trans h.output, Nat.le_trans h.size k.size, fun i hi hr => (k.block i (Nat.lt_of_lt_of_le hi h.size) hr).trans (h.block i hi hr)⟩
theorem grownBy_allocR {a w : World} {row : Option Nat} (h : a.grownBy w row) (o : Obj) : a.grownBy (w.alloc o) row := grownBy_trans h (World.grownBy_alloc w o row)
theorem grown_freeze {a w : World} {g : Nat} (h : a.grownBy w (some g)) (n : Nat) : a.grownBy (w.freeze ⟨g, 0, none⟩ n) (some g) := by
  refine grownBy_trans h ?_
  unfold World.freeze
  split
  · exact grownBy_refl _ _
  · exact ⟨rfl, rfl, rfl, by simp, fun k _ hk => by
      simp only [Array.getElem?_modify]
      rw [if_neg (fun e => hk (by rw [← e]))]⟩
set_option maxHeartbeats 1000000 in
set_option maxRecDepth 100000 in
/-- String of a builder that holds a byte or more. -/
theorem String_some (L : Lays.n169 P ρ) (X : Builder.Extra P ρ) (b g cap : Nat) (p : Value) (cur : Array Value) (fz : Nat × Nat) (l : List UInt8) (w : World) (hbk : w.heap[b]? = some (.cells #[p, .slice (some ⟨g, 0, none⟩) l.length cap] (ρ.t 72) (0, 0)))
    (hg : w.heap[g]? = some (.cells cur (ρ.t 5) fz)) (hcells : ∀ j x, l[j]? = some x → w.cell? ⟨g, j, none⟩ = some (.int .u8 x.toNat)) (h0 : l ≠ []) (hcap : l.length ≤ cap) (hcm : cap ≤ maxLen) (hcs : l.length ≤ cur.size) :
    Calls P (ρ.f 169) #[.pointer (some ⟨b, 0, none⟩)] w fun e w' => e = .returned (.string ⟨l.toArray⟩) ∧ w.grownBy w' (some g) := by
  have hl0 : l.length ≠ 0 := by simpa using h0
  have c1 : w.drew.cell? ⟨b, 1, none⟩ = some (.slice (some ⟨g, 0, none⟩) l.length cap) := by
    have : w.drew.heap[b]? = some (.cells #[p, .slice (some ⟨g, 0, none⟩) l.length cap] (ρ.t 72) (0, 0)) := hbk
    rw [Lib.cell_of_heap this]; rfl
  have hSD : (Builtin.unsafeSliceData_ #[(ρ.t 37)] (ρ.t 127) #[.slice (some ⟨g, 0, none⟩) l.length cap]).run P w.drew = .ok (.pointer (some ⟨g, 0, none⟩)) w.drew :=
    Lib.run_unsafeSliceData_row _ _ _ _ _ _ (by omega)
  have hUS : (Builtin.unsafeString_ #[(ρ.t 127), (ρ.t 3)] (ρ.t 9) #[.pointer (some ⟨g, 0, none⟩), .int .i64 l.length]).run P w.drew = .ok (.string ⟨l.toArray⟩) (w.drew.freeze ⟨g, 0, none⟩ l.length) := by
    refine Lib.run_unsafeString_row w.drew (ρ.t 127) (ρ.t 3) (ρ.t 9) (ρ.t 5) L.t127 X.cellsByte g cur.size (by have hg' : w.drew.heap[g]? = some (.cells cur (ρ.t 5) fz) := hg; simp [World.shape?, hg']) l h0 (by omega) (by unfold maxLen at hcm; omega) ?_
    intro j x hx
    have h' := hcells j x hx
    have e : (Addr.add ⟨g, 0, none⟩ j) = ⟨g, j, none⟩ := by unfold Addr.add; split <;> simp_all
    rw [e]; exact h'
  clear hcells hg hcap hcm hcs
  have mixed := L.mixed
  have t72 := L.t72; have a72 := L.a72; have z72 := L.z72; have v72 := L.v72; have u72 := run_underlying L.t72
  have t70 := L.t70; have a70 := L.a70; have z70 := L.z70; have v70 := L.v70; have u70 := run_underlying L.t70
  have t37 := L.t37; have a37 := L.a37; have z37 := L.z37; have v37 := L.v37; have u37 := run_underlying L.t37
  have t127 := L.t127; have a127 := L.a127; have z127 := L.z127; have v127 := L.v127; have u127 := run_underlying L.t127
  have t3 := L.t3; have a3 := L.a3; have z3 := L.z3; have v3 := L.v3; have u3 := run_underlying L.t3
  have t9 := L.t9; have a9 := L.a9; have z9 := L.z9; have v9 := L.v9; have u9 := run_underlying L.t9
  have t5 := X.t5; have a5 := X.a5; have z5 := X.z5; have v5 := X.v5; have u5 := run_underlying X.t5
  go_enter L.f169, Body.n169_ntmps ρ
  go_wp2
  go_region_o
  all_goals (go_wp2; go_ret; exact ⟨rfl, grown_freeze (grownBy_drew (grownBy_refl w _)) _⟩)
theorem unsafeString_none (L : Lays.n169 P ρ) (X : Builder.Extra P ρ) (W : World) (q : Option Addr) : (Builtin.unsafeString_ #[(ρ.t 127), (ρ.t 3)] (ρ.t 9) #[.pointer q, .int .i64 0]).run P W = .ok (.string .empty) W :=
  Lib.run_unsafeString_none W _ _ _ q
set_option maxHeartbeats 2000000 in
set_option maxRecDepth 100000 in
theorem String_nil (L : Lays.n169 P ρ) (X : Builder.Extra P ρ) (b : Nat) (p : Value) (w : World) (row : Option Nat) (hbk : w.heap[b]? = some (.cells #[p, .slice none 0 0] (ρ.t 72) (0, 0))) :
    Calls P (ρ.f 169) #[.pointer (some ⟨b, 0, none⟩)] w fun e w' => e = .returned (.string ⟨#[]⟩) ∧ w.grownBy w' row := by
  have hUS := unsafeString_none L X
  have c1 : w.drew.cell? ⟨b, 1, none⟩ = some (.slice none 0 0) := by
    have : w.drew.heap[b]? = some (.cells #[p, .slice none 0 0] (ρ.t 72) (0, 0)) := hbk
    rw [Lib.cell_of_heap this]; rfl
  have hSD : (Builtin.unsafeSliceData_ #[(ρ.t 37)] (ρ.t 127) #[.slice none 0 0]).run P w.drew = .ok (.pointer none) w.drew := rfl
  have mixed := L.mixed
  have t72 := L.t72; have a72 := L.a72; have z72 := L.z72; have v72 := L.v72; have u72 := run_underlying L.t72
  have t70 := L.t70; have a70 := L.a70; have z70 := L.z70; have v70 := L.v70; have u70 := run_underlying L.t70
  have t37 := L.t37; have a37 := L.a37; have z37 := L.z37; have v37 := L.v37; have u37 := run_underlying L.t37
  have t127 := L.t127; have a127 := L.a127; have z127 := L.z127; have v127 := L.v127; have u127 := run_underlying L.t127
  have t3 := L.t3; have a3 := L.a3; have z3 := L.z3; have v3 := L.v3; have u3 := run_underlying L.t3
  have t9 := L.t9; have a9 := L.a9; have z9 := L.z9; have v9 := L.v9; have u9 := run_underlying L.t9
  have t5 := X.t5; have a5 := X.a5; have z5 := X.z5; have v5 := X.v5; have u5 := run_underlying X.t5
  go_enter L.f169, Body.n169_ntmps ρ
  go_wp2
  go_region_o
  all_goals (go_wp2; go_ret; exact ⟨rfl, grownBy_drew (grownBy_refl w _)⟩)
set_option maxHeartbeats 2000000 in
set_option maxRecDepth 100000 in
theorem String_noroom (L : Lays.n169 P ρ) (X : Builder.Extra P ρ) (b g : Nat) (p : Value) (cur : Array Value) (fz : Nat × Nat) (w : World) (row : Option Nat) (hbk : w.heap[b]? = some (.cells #[p, .slice (some ⟨g, 0, none⟩) 0 0] (ρ.t 72) (0, 0))) (hg : w.heap[g]? = some (.cells cur (ρ.t 5) fz)) :
    Calls P (ρ.f 169) #[.pointer (some ⟨b, 0, none⟩)] w fun e w' => e = .returned (.string ⟨#[]⟩) ∧ w.grownBy w' row := by
  have hUS := unsafeString_none L X
  have hlt : b < w.heap.size := by
    rcases Nat.lt_or_ge b w.heap.size with h' | h'
    · exact h'
    · simp [Array.getElem?_eq_none h'] at hbk
  have c1 : w.drew.cell? ⟨b, 1, none⟩ = some (.slice (some ⟨g, 0, none⟩) 0 0) := by
    have : w.drew.heap[b]? = some (.cells #[p, .slice (some ⟨g, 0, none⟩) 0 0] (ρ.t 72) (0, 0)) := hbk
    rw [Lib.cell_of_heap this]; rfl
  have hSD : (Builtin.unsafeSliceData_ #[(ρ.t 37)] (ρ.t 127) #[.slice (some ⟨g, 0, none⟩) 0 0]).run P w.drew = .ok (.pointer (some ⟨w.drew.heap.size, 0, none⟩)) (w.drew.alloc (.view ⟨g, 0, none⟩ (ρ.t 5))) :=
    Lib.run_unsafeSliceData_zero w.drew _ _ (ρ.t 5) L.t127 ⟨g, 0, none⟩ 0 ((ρ.t 5), cur.size) (by have hg' : w.drew.heap[g]? = some (.cells cur (ρ.t 5) fz) := hg; simp [World.shape?, hg'])
  have c2 : (w.drew.alloc (.view ⟨g, 0, none⟩ (ρ.t 5))).cell? ⟨b, 1, none⟩ = some (.slice (some ⟨g, 0, none⟩) 0 0) := by
    have : (w.drew.alloc (.view ⟨g, 0, none⟩ (ρ.t 5))).heap[b]? = _ := (Lib.alloc_old w.drew _ b hlt).trans hbk
    rw [Lib.cell_of_heap this]; rfl
  have c3 : (w.alloc (.view ⟨g, 0, none⟩ (ρ.t 5))).drew.cell? ⟨b, 1, none⟩ = some (.slice (some ⟨g, 0, none⟩) 0 0) := c2
  have c0 : w.cell? ⟨b, 1, none⟩ = some (.slice (some ⟨g, 0, none⟩) 0 0) := c1
  have mixed := L.mixed
  have t72 := L.t72; have a72 := L.a72; have z72 := L.z72; have v72 := L.v72; have u72 := run_underlying L.t72
  have t70 := L.t70; have a70 := L.a70; have z70 := L.z70; have v70 := L.v70; have u70 := run_underlying L.t70
  have t37 := L.t37; have a37 := L.a37; have z37 := L.z37; have v37 := L.v37; have u37 := run_underlying L.t37
  have t127 := L.t127; have a127 := L.a127; have z127 := L.z127; have v127 := L.v127; have u127 := run_underlying L.t127
  have t3 := L.t3; have a3 := L.a3; have z3 := L.z3; have v3 := L.v3; have u3 := run_underlying L.t3
  have t9 := L.t9; have a9 := L.a9; have z9 := L.z9; have v9 := L.v9; have u9 := run_underlying L.t9
  have t5 := X.t5; have a5 := X.a5; have z5 := X.z5; have v5 := X.v5; have u5 := run_underlying X.t5
  go_enter L.f169, Body.n169_ntmps ρ
  go_wp2
  go_region_o
  all_goals (go_wp2; go_ret; exact ⟨rfl, grownBy_allocR (grownBy_drew (grownBy_refl w _)) _⟩)
set_option maxHeartbeats 2000000 in
set_option maxRecDepth 100000 in
theorem String_room (L : Lays.n169 P ρ) (X : Builder.Extra P ρ) (b g cap : Nat) (p : Value) (w : World) (row : Option Nat) (hc0 : cap ≠ 0) (hbk : w.heap[b]? = some (.cells #[p, .slice (some ⟨g, 0, none⟩) 0 cap] (ρ.t 72) (0, 0))) :
    Calls P (ρ.f 169) #[.pointer (some ⟨b, 0, none⟩)] w fun e w' => e = .returned (.string ⟨#[]⟩) ∧ w.grownBy w' row := by
  have hUS := unsafeString_none L X
  have c1 : w.drew.cell? ⟨b, 1, none⟩ = some (.slice (some ⟨g, 0, none⟩) 0 cap) := by
    have : w.drew.heap[b]? = some (.cells #[p, .slice (some ⟨g, 0, none⟩) 0 cap] (ρ.t 72) (0, 0)) := hbk
    rw [Lib.cell_of_heap this]; rfl
  have hSD : (Builtin.unsafeSliceData_ #[(ρ.t 37)] (ρ.t 127) #[.slice (some ⟨g, 0, none⟩) 0 cap]).run P w.drew = .ok (.pointer (some ⟨g, 0, none⟩)) w.drew :=
    Lib.run_unsafeSliceData_row _ _ _ _ _ _ hc0
  clear hc0
  have mixed := L.mixed
  have t72 := L.t72; have a72 := L.a72; have z72 := L.z72; have v72 := L.v72; have u72 := run_underlying L.t72
  have t70 := L.t70; have a70 := L.a70; have z70 := L.z70; have v70 := L.v70; have u70 := run_underlying L.t70
  have t37 := L.t37; have a37 := L.a37; have z37 := L.z37; have v37 := L.v37; have u37 := run_underlying L.t37
  have t127 := L.t127; have a127 := L.a127; have z127 := L.z127; have v127 := L.v127; have u127 := run_underlying L.t127
  have t3 := L.t3; have a3 := L.a3; have z3 := L.z3; have v3 := L.v3; have u3 := run_underlying L.t3
  have t9 := L.t9; have a9 := L.a9; have z9 := L.z9; have v9 := L.v9; have u9 := run_underlying L.t9
  have t5 := X.t5; have a5 := X.a5; have z5 := X.z5; have v5 := X.v5; have u5 := run_underlying X.t5
  go_enter L.f169, Body.n169_ntmps ρ
  go_wp2
  go_region_o
  all_goals (go_wp2; go_ret; exact ⟨rfl, grownBy_drew (grownBy_refl w _)⟩)
/-- String, whatever the builder holds. -/
theorem String_any (L : Lays.n169 P ρ) (X : Builder.Extra P ρ) (b g cap : Nat) (p : Value) (cur : Array Value) (fz : Nat × Nat) (l : List UInt8) (w : World) (hbk : w.heap[b]? = some (.cells #[p, .slice (some ⟨g, 0, none⟩) l.length cap] (ρ.t 72) (0, 0)))
    (hg : w.heap[g]? = some (.cells cur (ρ.t 5) fz)) (hcells : ∀ j x, l[j]? = some x → w.cell? ⟨g, j, none⟩ = some (.int .u8 x.toNat)) (hcap : l.length ≤ cap) (hcm : cap ≤ maxLen) (hcs : l.length ≤ cur.size) :
    Calls P (ρ.f 169) #[.pointer (some ⟨b, 0, none⟩)] w fun e w' => e = .returned (.string ⟨l.toArray⟩) ∧ w.grownBy w' (some g) := by
  cases l with
  | nil =>
    by_cases hc : cap = 0
    · subst hc; exact String_noroom L X b g p cur fz w _ hbk hg
    · exact String_room L X b g cap p w _ hc hbk
  | cons x r => exact String_some L X b g cap p cur fz (x :: r) w hbk hg hcells (by simp) hcap hcm hcs
/-- copyCheck, at a builder fresh or used. -/
theorem copyCheck_any (L : Lays.n240 P ρ) (X : Builder.X72 P ρ) (b : Nat) (c0 v : Value) (w : World) (hbk : w.heap[b]? = some (.cells #[c0, v] (ρ.t 72) (0, 0))) (h : c0 = .pointer none ∨ c0 = .pointer (some ⟨b, 0, none⟩)) :
    Calls P (ρ.f 240) #[.pointer (some ⟨b, 0, none⟩)] w fun e w' => e = .returned (.tuple #[]) ∧ w'.heap[b]? = some (.cells #[.pointer (some ⟨b, 0, none⟩), v] (ρ.t 72) (0, 0)) ∧ w.grownBy w' (some b) := by
  have c0' : w.cell? ⟨b, 0, none⟩ = some c0 := by rw [Lib.cell_of_heap hbk]; rfl
  rcases h with rfl | rfl
  · refine (Any.Builder_copyCheck_fresh L X b w c0' (by simp [World.shape?, hbk]) (Lib.frozen_of_heap hbk 0)).mono ?_
    rintro e w' ⟨rfl, rfl⟩
    refine ⟨rfl, by simp [World.setCell, Array.getElem?_modify, hbk], rfl, rfl, rfl, by simp [World.setCell], fun k _ hk => Below.heap_setCell _ _ _ _ (fun e => hk (by simp [e]))⟩
  · refine (Any.Builder_copyCheck_used L X b w c0').mono ?_
    rintro e w' ⟨rfl, rfl⟩
    exact ⟨rfl, hbk, grownBy_refl _ _⟩
/-- A builder's buffer: nil, or a row with room. -/
def BufAt (w : World) (e : TypeId) (u : Value) (l : List UInt8) : Prop :=
  (u = .slice none 0 0 ∧ l = []) ∨ ∃ g c cur, u = .slice (some ⟨g, 0, none⟩) l.length c ∧ Pm.RowAt w g cur e ∧ cur.size = c ∧ 0 < c ∧ c ≤ maxLen ∧ l.length ≤ c ∧ cur.toList.take l.length = (l.map fun b => Value.int .u8 b.toNat)
theorem BufAt.keep {w w' : World} {e : TypeId} {u : Value} {l : List UInt8} (h : BufAt w e u l) (hk : ∀ g, u.ownBlock = some g → w'.heap[g]? = w.heap[g]?) : BufAt w' e u l := by
  rcases h with h | ⟨g, c, cur, rfl, h1, h2⟩
  · exact .inl h
  · exact .inr ⟨g, c, cur, rfl, h1.keep (hk g rfl), h2⟩
theorem BufAt.lt {w : World} {e : TypeId} {u : Value} {l : List UInt8} (h : BufAt w e u l) : ∀ g, u.ownBlock = some g → g < w.heap.size := by
  rcases h with ⟨rfl, _⟩ | ⟨g, c, cur, rfl, h1, h2⟩
  · intro g hg; cases hg
  · intro k hk
    cases hk
    obtain ⟨f, h1, _⟩ := h1
    rcases Nat.lt_or_ge g w.heap.size with h' | h'
    · exact h'
    · rw [Array.getElem?_eq_none h'] at h1; cases h1
theorem run_app (w : World) (t tx ty e : TypeId) (i : TypeInfo) (ht : P.underlying t = some (.slice e)) (htx : P.underlying tx = some .string) (hi : P.info? e = some i) (hz : i.zero = some (.int .u8 0)) (hsz : i.size = 1) (hby : i.bytes = 1)
    (u : Value) (l : List UInt8) (hu : BufAt w e u l) (s : ByteArray) (hlen : l.length + s.size ≤ 140737488355328) :
    ∃ u' w', (Builtin.append_ #[t, tx] ty #[u, .string s]).run P w = .ok u' w' ∧ BufAt w' e u' (l ++ s.data.toList) ∧ w.grownBy w' u.ownBlock ∧ (u'.ownBlock = u.ownBlock ∨ ∃ g, u'.ownBlock = some g ∧ w.heap.size ≤ g) := by
  have hsrc : Src P i.size tx (.string s) s.size (byteCells s) w := by rw [hsz]; exact Src.ofString _ htx s
  have hsl : s.data.toList.length = s.size := by rw [Array.length_toList]; rfl
  have hbl0 : (byteCells s).length = s.size := byteCells_length s
  have hbc : byteCells s = s.data.toList.map fun b => Value.int .u8 b.toNat := rfl
  have hmax : l.length + s.size ≤ maxLen := by unfold maxLen; omega
  have grown : ∀ (base : Option Addr) (old : Nat) (olds : List Value), old < l.length + s.size → olds = (l.map fun b => Value.int .u8 b.toNat) → u.ownBlock = u.ownBlock →
      (Builtin.append_ #[t, tx] ty #[u, .string s]).run P w = .ok (.slice (some ⟨w.heap.size, 0, none⟩) (l.length + s.size) (grownCap w (l.length + s.size) old e)) (w.drew.alloc (.cells ((olds ++ byteCells s).toArray ++ Builtin.zeroCells (Value.cells (.int .u8 0)) (grownCap w (l.length + s.size) old e - (l.length + s.size))) e)) →
      ∃ u' w', (Builtin.append_ #[t, tx] ty #[u, .string s]).run P w = .ok u' w' ∧ BufAt w' e u' (l ++ s.data.toList) ∧ w.grownBy w' u.ownBlock ∧ (u'.ownBlock = u.ownBlock ∨ ∃ g, u'.ownBlock = some g ∧ w.heap.size ≤ g) := by
    intro base old olds ho holds _ hr
    have hge := grownCap_ge w (l.length + s.size) old e
    have hcm := grownCap_le_maxLen w (l.length + s.size) old e hmax
    have hol : olds.length = l.length := by rw [holds, List.length_map]
    have hbl : (byteCells s).length = s.size := byteCells_length s
    refine ⟨_, _, hr, .inr ⟨w.heap.size, _, _, by rw [List.length_append, hsl], .of (heap_alloc_new w.drew _), ?_, by omega, hcm, by rw [List.length_append, hsl]; exact hge, ?_⟩, ?_, .inr ⟨_, rfl, Nat.le_refl _⟩⟩
    · have hz1 : (Value.cells (.int .u8 0)).size = 1 := rfl
      simp only [Array.size_append, List.size_toArray, size_zeroCells, hz1, List.length_append, hol, hbl, Nat.mul_one]
      omega
    · simp only [Array.toList_append, List.map_append]
      rw [List.take_left' (by simp [hol, hbl, hsl]), holds, hbc]
    · exact grownBy_allocR (grownBy_drew (grownBy_refl w _)) _
  by_cases h0 : s.size = 0
  · have hs0 : s.data.toList = [] := List.eq_nil_of_length_eq_zero (by rw [hsl]; exact h0)
    have hb0 : byteCells s = [] := by rw [hbc, hs0]; rfl
    rw [h0, hb0] at hsrc
    have key : ∀ a n c, u = .slice a n c → n ≤ c → (Builtin.append_ #[t, tx] ty #[u, .string s]).run P w = .ok u w := by
      rintro a n c rfl hnc
      exact Pm.run_append_zero P w t tx ty e i ht hi a n c hnc hsrc
    refine ⟨u, w, ?_, by rw [hs0, List.append_nil]; exact hu, grownBy_refl w _, .inl rfl⟩
    rcases hu with ⟨rfl, _⟩ | ⟨g, c, cur, rfl, _, _, _, _, hc, _⟩
    · exact key _ _ _ rfl (Nat.le_refl _)
    · exact key _ _ _ rfl hc
  · rcases hu with ⟨rfl, rfl⟩ | ⟨g, c, cur, rfl, h1, h2, h3, h4, h5, h6⟩
    · refine grown none 0 [] (by simp; omega) rfl rfl ?_
      have hr := run_append_grow_src (P := P) w t tx ty e i (.int .u8 0) ht hi hz none 0 0 [] (run_firstCells_none _ _ _ _ _) (.string s) s.size (byteCells s) hsrc (by omega) (by simp at hlen; omega) (growslice_fits (by omega) (by rw [hby]; simpa using hlen))
      simpa using hr
    · by_cases hroom : l.length + s.size ≤ c
      · have hfit : l.length * i.size + (byteCells s).length ≤ cur.size := by rw [byteCells_length, hsz, h2]; omega
        have hr := Pm.run_append_row (P := P) w t tx ty e i ht hi g l.length c cur h1 hsrc hroom hfit
        rw [hsz] at hr hfit
        have hcl : cur.toList.length = c := by rw [Array.length_toList, h2]
        have hnl : (cur.toList.take (l.length * 1) ++ byteCells s ++ cur.toList.drop (l.length * 1 + (byteCells s).length)).length = cur.size := by
          rw [List.length_append, List.length_append, List.length_take, List.length_drop, hcl]; omega
        have hnt : (cur.toList.take (l.length * 1) ++ byteCells s ++ cur.toList.drop (l.length * 1 + (byteCells s).length)).take (l ++ s.data.toList).length = ((l ++ s.data.toList).map fun b => Value.int .u8 b.toNat) := by
          rw [Nat.mul_one, h6, List.map_append, List.take_left' (by rw [List.length_append, List.length_append, List.length_map, hsl, byteCells_length]), hbc]
        generalize cur.toList.take (l.length * 1) ++ byteCells s ++ cur.toList.drop (l.length * 1 + (byteCells s).length) = nl at hr hnl hnt
        refine ⟨_, _, hr, .inr ⟨g, c, nl.toArray, by rw [List.length_append, hsl], h1.set _ (by rw [List.size_toArray, hnl]), by rw [List.size_toArray, hnl, h2], h3, h4, by rw [List.length_append, hsl]; exact hroom, by rw [List.toList_toArray]; exact hnt⟩, ?_, .inl rfl⟩
        exact ⟨rfl, rfl, rfl, by rw [setRow_size]; exact Nat.le_refl _, fun k _ hk => setRow_other w g k _ (fun e => hk (by rw [e]; rfl))⟩
      · refine grown (some ⟨g, 0, none⟩) c _ (by omega) rfl rfl ?_
        have hr := run_append_grow_src (P := P) w t tx ty e i (.int .u8 0) ht hi hz (some ⟨g, 0, none⟩) l.length c (l.map fun b => Value.int .u8 b.toNat) (run_firstCells_some _ _ l.length ⟨g, 0, none⟩ l.length c _ (by rw [List.length_map, hsz, Nat.mul_one]) (fun j u hu => by
          have e2 : (Addr.add ⟨g, 0, none⟩ j) = ⟨g, j, none⟩ := by unfold Addr.add; split <;> simp_all
          rw [e2]
          show w.cell? _ = _
          rw [h1.cell]
          rw [← h6, List.getElem?_take] at hu
          split at hu
          · simpa using hu
          · cases hu)) (.string s) s.size (byteCells s) hsrc (by omega) (by omega) (growslice_fits (by omega) (by rw [hby]; omega))
        exact hr
theorem wpList_appB {ops : Array Oper} {rest : List Oper} {o : Oper} {a : Act} {Q : Exit → Act → World → Prop} {w : World} (hgd : o.guard = none) (sl x : Operand) (t tx : TypeId)
    (ho : o.op = .call { callee := .builtin .append, args := #[sl, x], argTypes := #[t, tx] })
    (e : TypeId) (i : TypeInfo) (ht : P.underlying t = some (.slice e)) (htx : P.underlying tx = some .string) (hi : P.info? e = some i) (hz : i.zero = some (.int .u8 0)) (hsz : i.size = 1) (hby : i.bytes = 1)
    (u : Value) (l : List UInt8) (hs : a.eval sl = u) (hu : BufAt w e u l) (s : ByteArray) (hx : a.eval x = .string s) (hlen : l.length + s.size ≤ 140737488355328)
    (h : ∀ u' w', BufAt w' e u' (l ++ s.data.toList) → w.grownBy w' u.ownBlock → (u'.ownBlock = u.ownBlock ∨ ∃ g, u'.ownBlock = some g ∧ w.heap.size ≤ g) → wpList P ops Q rest (a.put o.dst u') w') : wpList P ops Q (o :: rest) a w := by
  refine wpList_plain hgd fun K hK => ?_
  obtain ⟨v', w', hr, h2, h3, h4⟩ := run_app (P := P) w t tx o.type e i ht htx hi hz hsz hby u l hu s hlen
  unfold Oper.wp execOp
  simp only [ho, resolve, invoke, builtin, Sem.run_bind, Sem.run_pure, Result.andThen_ok, List.map_toArray, List.map_cons, List.map_nil, hs, hx, hr]
  exact hK _ _ (h v' w' h2 h3 h4)
set_option maxHeartbeats 2000000 in
set_option maxRecDepth 100000 in
/-- WriteString, with all that it leaves as it was. -/
theorem WriteString_any (L : Lays.n166 P ρ) (X : Builder.Extra P ρ) (b : Nat) (c0 u : Value) (l : List UInt8) (s : ByteArray) (w : World) (hbk : w.heap[b]? = some (.cells #[c0, u] (ρ.t 72) (0, 0))) (h : c0 = .pointer none ∨ c0 = .pointer (some ⟨b, 0, none⟩)) (hu : BufAt w (ρ.t 5) u l) (hne : u.ownBlock ≠ some b) (hlen : l.length + s.size ≤ 140737488355328) :
    Calls P (ρ.f 166) #[.pointer (some ⟨b, 0, none⟩), .string s] w fun e w' => e = .returned (.tuple #[.int .i64 s.size, .nilIface]) ∧ ∃ u', w'.heap[b]? = some (.cells #[.pointer (some ⟨b, 0, none⟩), u'] (ρ.t 72) (0, 0)) ∧ BufAt w' (ρ.t 5) u' (l ++ s.data.toList) ∧ (u'.ownBlock = u.ownBlock ∨ ∃ g, u'.ownBlock = some g ∧ w.heap.size ≤ g) ∧
      w'.os = w.os ∧ w'.tape = w.tape ∧ w'.output = w.output ∧ w.heap.size ≤ w'.heap.size ∧ ∀ k, k < w.heap.size → k ≠ b → some k ≠ u.ownBlock → w'.heap[k]? = w.heap[k]? := by
  obtain ⟨i0, hi, hz0, hz1, hz2⟩ := info_parts X.infoByte
  have mixed := L.mixed
  have t72 := L.t72; have a72 := L.a72; have z72 := L.z72; have v72 := L.v72; have u72 := run_underlying L.t72
  have t70 := L.t70; have a70 := L.a70; have z70 := L.z70; have v70 := L.v70; have u70 := run_underlying L.t70
  have t37 := L.t37; have a37 := L.a37; have z37 := L.z37; have v37 := L.v37; have u37 := run_underlying L.t37
  have t3 := L.t3; have a3 := L.a3; have z3 := L.z3; have v3 := L.v3; have u3 := run_underlying L.t3
  have t9 := L.t9; have a9 := L.a9; have z9 := L.z9; have v9 := L.v9; have u9 := run_underlying L.t9
  have t4 := L.t4; have a4 := L.a4; have z4 := L.z4; have v4 := L.v4; have u4 := run_underlying L.t4
  have t164 := L.t164; have a164 := L.a164; have z164 := L.z164; have v164 := L.v164; have u164 := run_underlying L.t164
  have t5 := X.t5; have a5 := X.a5; have z5 := X.z5; have v5 := X.v5; have u5 := run_underlying X.t5
  have e240 : ∀ args w, (callFunc (ρ.f 240) args).run P w = .ok (.enter (ρ.f 240) args) w := enters_of L.f240 (by kernel_rfl) rfl
  have hlt : b < w.heap.size := by
    rcases Nat.lt_or_ge b w.heap.size with h' | h'
    · exact h'
    · rw [Array.getElem?_eq_none h'] at hbk; cases hbk
  go_enter L.f166, Body.n166_ntmps ρ
  go_wp2_with (go_at_fn (ρ.f 240); refine (copyCheck_any { L with } X.toX72 b c0 u _ hbk h).mono ?_)
  rintro e w1 ⟨rfl, hb1, hg1⟩
  have hu1 : BufAt w1 (ρ.t 5) u l := hu.keep fun g hg => hg1.block g (hu.lt g hg) (fun e => hne (by rw [hg, e]))
  have c0' : w1.cell? ⟨b, 0, none⟩ = some (.pointer (some ⟨b, 0, none⟩)) := by rw [Lib.cell_of_heap hb1]; rfl
  have c1' : w1.cell? ⟨b, 1, none⟩ = some u := by rw [Lib.cell_of_heap hb1]; rfl
  go_wp2_with (at_builtin; refine wpList_appB rfl _ _ (ρ.t 37) (ρ.t 9) rfl (ρ.t 5) i0 L.t37 L.t9 hi hz0 hz1 hz2 u l rfl hu1 s rfl hlen ?_)
  intro u' w2 hu2 hg2 ho2
  have hb2 : w2.heap[b]? = some (.cells #[.pointer (some ⟨b, 0, none⟩), u] (ρ.t 72) (0, 0)) := by
    rw [hg2.block b (Nat.lt_of_lt_of_le hlt hg1.size) (fun e => hne e.symm)]
    exact hb1
  have d0 : w2.cell? ⟨b, 0, none⟩ = some (.pointer (some ⟨b, 0, none⟩)) := by rw [Lib.cell_of_heap hb2]; rfl
  have d1 : w2.cell? ⟨b, 1, none⟩ = some u := by rw [Lib.cell_of_heap hb2]; rfl
  have f1 : w2.frozen? ⟨b, 1, none⟩ = false := Lib.frozen_of_heap hb2 1
  have hne' : u'.ownBlock ≠ some b := by
    rcases ho2 with h | ⟨g, h, hg⟩
    · rw [h]; exact hne
    · rw [h]; intro e; cases e; have := hg1.size; omega
  obtain ⟨ao, n', cap, rfl⟩ : ∃ ao n' cap, u' = .slice ao n' cap := by
    rcases hu2 with ⟨rfl, _⟩ | ⟨g, c, cur, rfl, _⟩ <;> exact ⟨_, _, _, rfl⟩
  go_wp2
  go_ret2
  refine ⟨rfl, _, ?_, hu2.keep (fun g hg => Below.heap_setCell _ _ _ _ (fun e => hne' (by rw [hg, e]))), ?_, hg2.os.trans hg1.os, hg2.tape.trans hg1.tape, hg2.output.trans hg1.output, ?_, ?_⟩
  · simp [World.setCell, Array.getElem?_modify, hb2]
  · rcases ho2 with h | ⟨g, h, hg⟩
    · exact .inl h
    · exact .inr ⟨g, h, Nat.le_trans hg1.size hg⟩
  · have := hg1.size; have := hg2.size; simp [World.setCell]; omega
  · intro k hk hkb hku
    rw [Below.heap_setCell _ _ _ _ (fun e => hkb e), hg2.block k (Nat.lt_of_lt_of_le hk hg1.size) hku, hg1.block k hk (fun e => hkb (by cases e; rfl))]
/-- String of a buffer. -/
theorem String_buf (L : Lays.n169 P ρ) (X : Builder.Extra P ρ) (b : Nat) (c0 u : Value) (l : List UInt8) (w : World) (hbk : w.heap[b]? = some (.cells #[c0, u] (ρ.t 72) (0, 0))) (hu : BufAt w (ρ.t 5) u l) :
    Calls P (ρ.f 169) #[.pointer (some ⟨b, 0, none⟩)] w fun ex w' => ex = .returned (.string ⟨l.toArray⟩) ∧ w.grownBy w' u.ownBlock := by
  rcases hu with ⟨rfl, rfl⟩ | ⟨g, c, cur, rfl, h1, h2, h3, h4, h5, h6⟩
  · exact String_nil L X b c0 w _ hbk
  · have hc : ∀ j x, l[j]? = some x → w.cell? ⟨g, j, none⟩ = some (.int .u8 x.toNat) := fun j x hj => by
      rw [h1.cell]
      have hj' : j < l.length := (List.getElem?_eq_some_iff.1 hj).1
      have : (cur.toList.take l.length)[j]? = some (Value.int .u8 x.toNat) := by rw [h6, List.getElem?_map, hj]; rfl
      rw [List.getElem?_take, if_pos hj'] at this
      simpa using this
    obtain ⟨fz, hg, _⟩ := h1
    exact String_any L X b g c c0 cur fz l w hbk hg hc h5 h4 (by omega)
end Go.Proofs.YthblnlmpfgfgcaaDoor.Lb
namespace Go.Proofs.YthblnlmpfgfgcaaDoor.Pm
open Go.RowKit
set_option linter.unusedVariables false
/-- The bytes that cells hold. -/
def bytesP : List PD → Option (List UInt8)
  | [] => some []
  | .int .u8 n :: r => if 0 ≤ n ∧ n < 256 then (bytesP r).map (UInt8.ofNat n.toNat :: ·) else none
  | _ => none
/-- A builder as it is handed over: with a slice of its own. -/
def blIn (T e : Nat) : List Blk → Option (List PD)
  | [.box cs, .own e' k ds] => match bl1 cs with
    | some (U, .r (.msl 1 0 0 n)) => if U = T ∧ e' = e ∧ k = 1 ∧ ds.length = n then some ds else none
    | _ => none
  | _ => none
/-- WriteString (fw) and String (fs) of a builder of type T, its bytes' type e. -/
def blO (fw fs T e : Nat) (γ : Orc) : Orc := fun f args bs =>
  if f = fw then (match args, blIn T e bs with
    | [.r (.ptr 0 0 0), .d (.str s)], some ds => if (bytesP ds).isSome = true ∧ ds.length + s.length ≤ 140737488355328 then
        some (.tup [.d (.int .i64 s.length), .d (.err false)], [.box (blC T (.r (.msl 1 0 0 (ds.length + s.length)))), .own e 1 (ds ++ bytesD s)]) else none
    | _, _ => none)
  else if f = fs then (match args, blIn T e bs with
    | [.r (.ptr 0 0 0)], some ds => (match bytesP ds with
      | some l => some (.d (.str l), [.box (blC T .un), .own e 1 []])
      | none => none)
    | _, _ => none)
  else γ f args bs
theorem bytesP_cells {X : Nat → Prop} {w : World} {R : Ref → Value → Prop} : ∀ {ds : List PD} {l : List UInt8} {us : List Value}, bytesP ds = some l → RepL X w R (ds.map .d) us → ds.length = l.length ∧ ∀ (j : Nat) (x : UInt8), l[j]? = some x → us[j]? = some (Value.int .u8 (x.toNat : Int))
  | [], l, us, h, hr => by
    cases h
    exact ⟨rfl, fun j x hx => by simp at hx⟩
  | .int .u8 n :: r, l, us, h, hr => by
    unfold bytesP at h
    split at h
    · rename_i hn
      simp only [Option.map_eq_some_iff] at h
      obtain ⟨l', h1, rfl⟩ := h
      obtain ⟨u, r', rfl, q1, q2⟩ := hr
      have q1 : u = _ := q1
      subst q1
      obtain ⟨k1, k2⟩ := bytesP_cells h1 q2
      refine ⟨by simp [k1], fun j x hx => ?_⟩
      cases j with
      | zero =>
        simp at hx; subst hx
        have : (UInt8.ofNat n.toNat).toNat = n.toNat := by simp; omega
        simp only [List.getElem?_cons_zero, this]
        rw [Int.toNat_of_nonneg hn.1]
      | succ j => simpa using k2 j x (by simpa using hx)
    · cases h
  | .bool _ :: _, _, _, h, _ => by simp [bytesP] at h
  | .str _ :: _, _, _, h, _ => by simp [bytesP] at h
  | .sl _ _ :: _, _, _, h, _ => by simp [bytesP] at h
  | .un :: _, _, _, h, _ => by simp [bytesP] at h
  | .err _ :: _, _, _, h, _ => by simp [bytesP] at h
  | .int .i8 _ :: _, _, _, h, _ => by simp [bytesP] at h
  | .int .i16 _ :: _, _, _, h, _ => by simp [bytesP] at h
  | .int .i32 _ :: _, _, _, h, _ => by simp [bytesP] at h
  | .int .i64 _ :: _, _, _, h, _ => by simp [bytesP] at h
  | .int .u16 _ :: _, _, _, h, _ => by simp [bytesP] at h
  | .int .u32 _ :: _, _, _, h, _ => by simp [bytesP] at h
  | .int .u64 _ :: _, _, _, h, _ => by simp [bytesP] at h
theorem blIn_cases {T e : Nat} {bs : List Blk} {ds : List PD} (h : blIn T e bs = some ds) : bs = [.box (blC T (.r (.msl 1 0 0 ds.length))), .own e 1 ds] := by
  unfold blIn at h
  split at h
  · split at h
    · rename_i U n hb
      split at h
      · rename_i hh
        obtain ⟨rfl, rfl, rfl, hn⟩ := hh
        cases h
        rw [bl1_eq hb, hn]
      · cases h
    · cases h
  · cases h
theorem bytesP_take {X : Nat → Prop} {w : World} {R : Ref → Value → Prop} {ds : List PD} {l : List UInt8} {us : List Value} (h : bytesP ds = some l) (hr : RepL X w R (ds.map .d) us) : us = l.map fun b => Value.int .u8 b.toNat := by
  obtain ⟨h1, h2⟩ := bytesP_cells h hr
  have h3 : us.length = l.length := by
    have : ∀ (ps : List PV) (vs : List Value), RepL X w R ps vs → vs.length = ps.length := fun ps => by
      induction ps with
      | nil => intro vs h; have h : vs = [] := h; rw [h]; rfl
      | cons p ps ih =>
        rintro vs ⟨v, r, rfl, _, h⟩
        simp [ih r h]
    rw [this _ _ hr, List.length_map, h1]
  refine List.ext_getElem? fun j => ?_
  rw [List.getElem?_map]
  cases hj : l[j]? with
  | none => rw [List.getElem?_eq_none]; · rfl
            rw [h3]; simpa using hj
  | some x => rw [h2 j x hj]; rfl
theorem repL_bytesD {X : Nat → Prop} {w : World} {R : Ref → Value → Prop} : ∀ s : List UInt8, RepL X w R ((bytesD s).map .d) (s.map fun b => Value.int .u8 b.toNat)
  | [] => rfl
  | b :: s => ⟨_, _, rfl, rfl, repL_bytesD s⟩
theorem repL_app {X : Nat → Prop} {w : World} {R : Ref → Value → Prop} : ∀ {ps qs : List PV} {us vs : List Value}, RepL X w R ps us → RepL X w R qs vs → RepL X w R (ps ++ qs) (us ++ vs)
  | [], _, _, _, h, k => by have h : _ = [] := h; subst h; exact k
  | _ :: _, _, _, _, ⟨v, r, e, h1, h2⟩, k => by subst e; exact ⟨v, _, rfl, h1, repL_app h2 k⟩
theorem repL_bytesP {X X' : Nat → Prop} {w w' : World} {R R' : Ref → Value → Prop} {ds : List PD} {l : List UInt8} {us : List Value} (h : bytesP ds = some l) (hr : RepL X w R (ds.map .d) us) : RepL X' w' R' (ds.map .d) us := by
  induction ds generalizing l us with
  | nil => exact hr
  | cons d r ih =>
    obtain ⟨v, r', rfl, q1, q2⟩ := hr
    unfold bytesP at h
    split at h
    · rename_i h'; cases h'
    · rename_i n r2 h'
      cases h'
      split at h
      · simp only [Option.map_eq_some_iff] at h
        obtain ⟨l', h1, rfl⟩ := h
        exact ⟨v, r', rfl, q1, ih h1 q2⟩
      · cases h
    · cases h
theorem bytesD_len : ∀ s : List UInt8, (bytesD s).length = s.length
  | [] => rfl
  | _ :: s => congrArg (· + 1) (bytesD_len s)
theorem fixS_slice (a : Option Addr) (n c : Nat) : fixS (.slice a n c) = if c = 0 then .slice none 0 0 else .slice a n c := by
  unfold fixS
  split
  · rename_i h; cases h; rfl
  · rename_i h; rw [if_neg]; intro hc; subst hc; exact h _ _ rfl
/-- What is known of a builder that is handed over: the buffer as Go has it. -/
theorem bl_at {E : Nat → Prop} {w : World} {φ0 : Nat → Phys} {T e : Nat} {ds : List PD} {l : List UInt8} (hl : bytesP ds = some l) (hp : Passed E w φ0 [.box (blC T (.r (.msl 1 0 0 ds.length))), .own e 1 ds]) :
    ∃ b c u c0, φ0 0 = .blk b c ∧ w.heap[b]? = some (.cells #[c0, u] T (0, 0)) ∧ (c0 = .pointer none ∨ c0 = .pointer (some ⟨b, 0, none⟩)) ∧ Lb.BufAt w e u l ∧ ds.length = l.length ∧ (∀ g, u.ownBlock = some g → ∃ c, φ0 1 = .blk g c) ∧ ∃ us, RepL E w (RefAt φ0 (H0 [.box (blC T (.r (.msl 1 0 0 ds.length))), .own e 1 ds])) (ds.map .d) us := by
  have hrep := hp.rep 0 _ rfl
  have hrep1 := hp.rep 1 _ rfl
  cases hφ : φ0 0 with
  | nil a => rw [hφ] at hrep; exact hrep.elim
  | blk b c =>
    rw [hφ] at hrep
    obtain ⟨vs, U, r1, r2⟩ := hrep
    obtain ⟨x, v, c0, rfl, e1, k1, r3, e2⟩ := boxObj_bl (b := b) (T := U) r2
    rw [e1] at r1
    obtain ⟨⟨a, n, c', q0⟩, _, q1⟩ := r3
    obtain ⟨_, _, q2⟩ := q1 rfl _ _ _ rfl
    cases hφ1 : φ0 1 with
    | nil a =>
      rw [hφ1] at q2 hrep1
      obtain ⟨rfl, _, hn⟩ := q2
      obtain ⟨_, rfl⟩ := hrep1
      cases hl
      refine ⟨b, c, _, c0, rfl, r1, k1.imp (·.1) id, .inl ⟨by rw [fixS_slice, if_pos rfl], rfl⟩, rfl, ?_, [], rfl⟩
      intro g hg
      rw [fixS_slice, if_pos rfl] at hg; cases hg
    | blk g cc =>
      rw [hφ1] at q2 hrep1
      obtain ⟨a, c', rfl, h1, h2, h3, h4, h5⟩ := q2
      obtain ⟨_, cur, xs, p1, p2, p3, p4, p5, p6, p7⟩ := hrep1
      have ha := h4 rfl
      subst ha
      rw [Nat.mul_one] at p2 p5
      have hxs := bytesP_take hl p7
      obtain ⟨hdl, _⟩ := bytesP_cells hl p7
      refine ⟨b, c, _, c0, rfl, r1, k1.imp (·.1) id, ?_, hdl, ?_, xs, p7⟩
      · rw [fixS_slice]
        by_cases hc : c' = 0
        · rw [if_pos hc]
          refine .inl ⟨rfl, List.eq_nil_of_length_eq_zero (by omega)⟩
        · rw [if_neg hc, hdl]
          exact .inr ⟨g, c', cur, rfl, p1, by omega, by omega, by omega, by omega, by rw [← hdl, p6]; exact hxs⟩
      · intro g' hg
        rw [fixS_slice] at hg
        split at hg
        · cases hg
        · cases hg; exact ⟨_, rfl⟩
theorem blO_snd {P : Program} {W : World} {Φ : Nat → Phys} {γ : Orc} {fw fs T e : Nat} (hγ : Snd P γ W Φ) (hw : canEnter P fw) (hs : canEnter P fs)
    (kW : ∀ (b : Nat) (c0 u : Value) (l : List UInt8) (s : ByteArray) (w : World), w.heap[b]? = some (.cells #[c0, u] T (0, 0)) → c0 = .pointer none ∨ c0 = .pointer (some ⟨b, 0, none⟩) → Lb.BufAt w e u l → u.ownBlock ≠ some b → l.length + s.size ≤ 140737488355328 →
      Calls P fw #[.pointer (some ⟨b, 0, none⟩), .string s] w fun ex w' => ex = .returned (.tuple #[.int .i64 s.size, .nilIface]) ∧ ∃ u', w'.heap[b]? = some (.cells #[.pointer (some ⟨b, 0, none⟩), u'] T (0, 0)) ∧ Lb.BufAt w' e u' (l ++ s.data.toList) ∧ (u'.ownBlock = u.ownBlock ∨ ∃ g, u'.ownBlock = some g ∧ w.heap.size ≤ g) ∧
        w'.os = w.os ∧ w'.tape = w.tape ∧ w'.output = w.output ∧ w.heap.size ≤ w'.heap.size ∧ ∀ k, k < w.heap.size → k ≠ b → some k ≠ u.ownBlock → w'.heap[k]? = w.heap[k]?)
    (kS : ∀ (b : Nat) (c0 u : Value) (l : List UInt8) (w : World), w.heap[b]? = some (.cells #[c0, u] T (0, 0)) → Lb.BufAt w e u l → Calls P fs #[.pointer (some ⟨b, 0, none⟩)] w fun ex w' => ex = .returned (.string ⟨l.toArray⟩) ∧ w.grownBy w' u.ownBlock) :
    Snd P (blO fw fs T e γ) W Φ := by
  intro f args bs r bs' hr
  unfold blO at hr
  split at hr
  · rename_i hf
    subst hf
    split at hr
    · rename_i s ds hbl
      split at hr
      · rename_i hok
        obtain ⟨hl, hlen⟩ := hok
        obtain ⟨l, hl⟩ := Option.isSome_iff_exists.1 hl
        cases hr
        have hbs := blIn_cases hbl
        subst hbs
        refine ⟨hw, fun E w φ0 vs hL hE hp ha => ?_⟩
        obtain ⟨b, c, u, c0, hφ, hbk, hc0, hu, hdl, hub, us, hus⟩ := bl_at hl hp
        obtain ⟨va, r1, rfl, hva, va2, r2, rfl, hva2, hr2⟩ := ha
        have hr2 : r2 = [] := hr2
        subst hr2
        have hva2 : va2 = .string ⟨s.toArray⟩ := hva2
        subst hva2
        obtain ⟨_, _, q3⟩ := hva
        obtain ⟨b1, c1, e1, rfl⟩ := q3 rfl rfl
        rw [hφ] at e1; cases e1
        have hsz : (⟨s.toArray⟩ : ByteArray).size = s.length := rfl
        have hne : u.ownBlock ≠ some b := fun h => by
          obtain ⟨c', h'⟩ := hub b h
          exact absurd (hp.inj 0 1 b c c' hφ h') (by decide)
        refine (kW b c0 u l ⟨s.toArray⟩ w hbk hc0 hu hne (by rw [hsz]; omega)).mono ?_
        rintro ex w' ⟨rfl, u', hb', hu', hou, ho1, ho2, ho3, hsz', hfr⟩
        have hbl : b < w.heap.size := hE b (hp.dom 0 b c hφ).2
        have hll : (l ++ s).length = ds.length + s.length := by rw [List.length_append, hdl]
        have hu' : Lb.BufAt w' e u' (l ++ s) := hu'
        -- where the buffer lies now
        obtain ⟨p1, hp1, hp1', hv'⟩ : ∃ p1 : Phys, ((∃ a, p1 = .nil a) ∨ ∃ g c, p1 = .blk g c ∧ u'.ownBlock = some g) ∧ (∀ X R, RepBg X w' R p1 (.own e 1 (ds ++ bytesD s))) ∧ fixS u' = u' ∧ (match p1 with
            | .nil a => u' = .slice a 0 0 ∧ ds.length + s.length = 0
            | .blk g c => u' = .slice (some ⟨g, 0, none⟩) (ds.length + s.length) c ∧ ds.length + s.length ≤ c) := by
          rcases hu' with ⟨rfl, hnil⟩ | ⟨g, c, cur, rfl, k1, k2, k3, k4, k5, k6⟩
          · have h0 : ds.length + s.length = 0 := by rw [← hll, hnil]; rfl
            refine ⟨.nil none, .inl ⟨_, rfl⟩, fun X R => ⟨Nat.one_pos, List.eq_nil_of_length_eq_zero (by rw [List.length_append, bytesD_len]; exact h0)⟩, rfl, rfl, h0⟩
          · refine ⟨.blk g c, .inr ⟨g, c, rfl, rfl⟩, fun X R => ⟨Nat.one_pos, cur, _, k1, by rw [Nat.mul_one]; exact k2, k4, ⟨_, (Nat.mul_one _).symm⟩, by rw [List.length_append, bytesD_len, Nat.mul_one, ← hll]; exact k5, rfl, ?_⟩, by rw [fixS_slice, if_neg (by omega)], by rw [hll], by rw [← hll]; exact k5⟩
            rw [List.length_append, bytesD_len, ← hll, k6, List.map_append, List.map_append]
            refine repL_app ?_ (repL_bytesD s)
            rw [← bytesP_take hl hus]
            exact repL_bytesP hl hus
        have hg1 : ∀ g c, p1 = .blk g c → g < w'.heap.size ∧ (w.heap.size ≤ g ∨ ∃ c', φ0 1 = .blk g c') ∧ g ≠ b := by
          intro g c' hg
          rcases hp1 with ⟨a, rfl⟩ | ⟨g', c2, rfl, ho⟩
          · cases hg
          · cases hg
            refine ⟨hu'.lt g ho, ?_⟩
            rcases hou with h | ⟨g2, h, hg2⟩
            · obtain ⟨c3, h3⟩ := hub g (h ▸ ho)
              exact ⟨.inr ⟨c3, h3⟩, fun h4 => by subst h4; exact absurd (hp.inj 0 1 g c c3 hφ h3) (by decide)⟩
            · rw [ho] at h; cases h
              exact ⟨.inl hg2, by omega⟩
        refine ⟨.tuple #[.int .i64 s.length, .nilIface], fun i => if i = 0 then .blk b c else if i = 1 then p1 else .nil none, fun _ => .nil none, rfl, ⟨ho1, ho2, ho3, hsz', fun k hk hn => hfr k hk (fun h => hn 0 c (by subst h; exact hφ)) (fun h => by obtain ⟨c', h'⟩ := hub k h.symm; exact hn 1 c' h')⟩, ?_⟩
        refine ⟨⟨_, rfl, _, _, rfl, rfl, _, _, rfl, .inl ⟨rfl, rfl⟩, rfl⟩, ?_, (fun x hx => by cases hx), .inl rfl, ?_, ?_, ?_, (fun i j b c c' hi => by cases hi), (fun i j b c c' _ hi => by cases hi), fun j b c hi => by cases hi⟩
        · intro i bl hil hi
          match i, hil with
          | 0, _ =>
            cases hi
            show RepBg _ w' _ (.blk b c) _
            refine ⟨#[.tuple #[.bool false, .int .i64 (T : Int)], u'], T, ?_, bl_rep ?_⟩
            · rw [hb']
              unfold boxObj; simp [isIt, isBl, hv'.1]
            · refine ⟨?_, Nat.le_refl _, fun _ e' k' cs' hcs => ?_⟩
              · rcases hu' with ⟨rfl, _⟩ | ⟨g, c, cur, rfl, _⟩ <;> exact ⟨_, _, _, rfl⟩
              · have hcs : some (Blk.own e 1 (ds ++ bytesD s)) = some (.own e' k' cs') := hcs
                cases hcs
                refine ⟨Nat.one_pos, by rw [List.length_append, bytesD_len]; omega, ?_⟩
                have hv2 := hv'.2
                show (match (if (1 : Nat) = 0 then Phys.blk b c else if (1 : Nat) = 1 then p1 else .nil none) with | .nil a => u' = .slice a 0 0 ∧ 0 = 0 ∧ ds.length + s.length = 0 | .blk b c => ∃ a c', u' = .slice a (ds.length + s.length) c' ∧ (ds.length + s.length) ≤ c' ∧ c' + 0 = c ∧ (0 < ds.length + s.length → a = some ⟨b, 0 * 1, none⟩) ∧ (0 = 0 → a = some ⟨b, 0, none⟩) ∧ a ≠ none)
                rw [if_neg (by decide), if_pos rfl]
                cases p1 with
                | nil a => exact ⟨hv2.1, rfl, hv2.2⟩
                | blk g cc => exact ⟨_, cc, hv2.1, hv2.2, rfl, fun _ => rfl, fun _ => rfl, nofun⟩
          | 1, _ =>
            cases hi
            exact hp1' _ _
          | n + 2, h => exact absurd h (by simp)
        · intro i b0 hi
          match i with
          | 0 => cases hi; exact ⟨trivial, fun _ => hφ.symm⟩
          | 1 => cases hi; exact ⟨⟨rfl, rfl⟩, fun h => by rcases h with h | h <;> cases h⟩
          | n + 2 => cases hi
        · intro i k c' hi
          match i with
          | 0 => cases hi; exact ⟨Nat.lt_of_lt_of_le Nat.zero_lt_two (Nat.le_refl _), Nat.lt_of_lt_of_le hbl hsz', .inr ⟨c, hφ⟩⟩
          | 1 =>
            obtain ⟨h1, h2, _⟩ := hg1 k c' hi
            exact ⟨Nat.lt_of_lt_of_le Nat.one_lt_two (Nat.le_refl _), h1, h2⟩
          | n + 2 => cases hi
        · intro i j k c1 c2 hi hj
          match i, j with
          | 0, 0 => rfl
          | 1, 1 => rfl
          | 0, 1 => cases hi; exact absurd rfl (hg1 _ _ hj).2.2
          | 1, 0 => cases hj; exact absurd rfl (hg1 _ _ hi).2.2
          | n + 2, _ => cases hi
          | _, n + 2 => cases hj
      · cases hr
    · cases hr
  · split at hr
    · rename_i hf
      subst hf
      split at hr
      · rename_i ds hbl
        split at hr
        · rename_i l hl
          cases hr
          have hbs := blIn_cases hbl
          subst hbs
          refine ⟨hs, fun E w φ0 vs hL hE hp ha => ?_⟩
          obtain ⟨b, c, u, c0, hφ, hbk, hc0, hu, hdl, hub, us, hus⟩ := bl_at hl hp
          obtain ⟨va, r1, rfl, hva, hr1⟩ := ha
          have hr1 : r1 = [] := hr1
          subst hr1
          obtain ⟨_, _, q3⟩ := hva
          obtain ⟨b1, c1, e1, rfl⟩ := q3 rfl rfl
          rw [hφ] at e1; cases e1
          have hne : u.ownBlock ≠ some b := fun h => by
            obtain ⟨c', h'⟩ := hub b h
            exact absurd (hp.inj 0 1 b c c' hφ h') (by decide)
          refine (kS b c0 u l w hbk hu).mono ?_
          rintro ex w' ⟨rfl, hg⟩
          have hbl : b < w.heap.size := hE b (hp.dom 0 b c hφ).2
          have hb' : w'.heap[b]? = some (.cells #[c0, u] T (0, 0)) := (hg.block b hbl (fun h => hne h.symm)).trans hbk
          have hfu : fixS u = u := by
            rcases hu with ⟨rfl, _⟩ | ⟨g, c, cur, rfl, _, _, k3, _⟩
            · rfl
            · rw [fixS_slice, if_neg (by omega)]
          refine ⟨.string ⟨l.toArray⟩, fun i => if i = 0 then .blk b c else .nil none, fun _ => .nil none, rfl, ⟨hg.os, hg.tape, hg.output, hg.size, fun k hk hn => hg.block k hk (fun h => by obtain ⟨c', h'⟩ := hub k h.symm; exact hn 1 c' h')⟩, ?_⟩
          refine ⟨rfl, ?_, (fun x hx => by cases hx), .inl rfl, ?_, ?_, ?_, (fun i j b c c' hi => by cases hi), (fun i j b c c' _ hi => by cases hi), fun j b c hi => by cases hi⟩
          · intro i bl hil hi
            match i, hil with
            | 0, _ =>
              cases hi
              show RepBg _ w' _ (.blk b c) _
              rcases hc0 with rfl | rfl
              · refine ⟨#[.tuple #[.bool true, .int .i64 (T : Int)], u], T, ?_, bl_rep trivial⟩
                rw [hb']; unfold boxObj; simp [isIt, isBl, hfu]
              · refine ⟨#[.tuple #[.bool false, .int .i64 (T : Int)], u], T, ?_, bl_rep trivial⟩
                rw [hb']; unfold boxObj; simp [isIt, isBl, hfu]
            | 1, _ => cases hi; exact ⟨Nat.one_pos, rfl⟩
            | n + 2, h => exact absurd h (by simp)
          · intro i b0 hi
            match i with
            | 0 => cases hi; exact ⟨trivial, fun _ => hφ.symm⟩
            | 1 => cases hi; exact ⟨⟨rfl, rfl⟩, fun h => by rcases h with h | h <;> cases h⟩
            | n + 2 => cases hi
          · intro i k c' hi
            match i with
            | 0 => cases hi; exact ⟨Nat.lt_of_lt_of_le Nat.zero_lt_two (Nat.le_refl _), Nat.lt_of_lt_of_le hbl hg.size, .inr ⟨c, hφ⟩⟩
            | n + 1 => cases hi
          · intro i j k c1 c2 hi hj
            match i, j with
            | 0, 0 => rfl
            | n + 1, _ => cases hi
            | _, n + 1 => cases hj
        · cases hr
      · cases hr
    · exact hγ f args bs r bs' hr
/-- The small machine's calls of a builder, for typed functions. -/
def blw? (x s : List UInt8) : Option (List UInt8) := if x.length + s.length ≤ 140737488355328 then some (x ++ s) else none
theorem blw_some {x s z : List UInt8} (h : blw? x s = some z) : x.length + s.length ≤ 140737488355328 ∧ z = x ++ s := by
  unfold blw? at h
  split at h
  · rename_i h'; cases h; exact ⟨h', rfl⟩
  · cases h
theorem bytesP_u8 : ∀ x : List UInt8, bytesP (eU8.cells x) = some x
  | [] => rfl
  | b :: x => by
    have e : eU8.cells (b :: x) = .int .u8 (b.toNat : Int) :: eU8.cells x := by simp [Enc.cells, eU8]
    rw [e]
    unfold bytesP
    have hb := b.toNat_lt
    rw [if_pos ⟨by omega, by omega⟩, bytesP_u8 x]
    simp
theorem u8_bytesD : ∀ s : List UInt8, bytesD s = eU8.cells s
  | [] => rfl
  | b :: s => by
    have e : eU8.cells (b :: s) = .int .u8 (b.toNat : Int) :: eU8.cells s := by simp [Enc.cells, eU8]
    rw [e, ← u8_bytesD s]; rfl
theorem u8_len (x : List UInt8) : (eU8.cells x).length = x.length := by rw [← u8_bytesD, bytesD_len]
theorem u8_app (x s : List UInt8) : eU8.cells x ++ bytesD s = eU8.cells (x ++ s) := by
  rw [u8_bytesD, ← u8_cells, ← u8_cells, ← u8_cells, List.map_append]
theorem blIn_own (T e : Nat) (x : List UInt8) : blIn T e [.box (blC T (.r (.msl 1 0 0 x.length))), .own e 1 (eU8.cells x)] = some (eU8.cells x) := by
  unfold blIn
  have h : bl1 (blC T (.r (.msl 1 0 0 x.length))) = some (T, .r (.msl 1 0 0 x.length)) := by
    show (if 0 ≤ (T : Int) then some ((T : Int).toNat, PV.r (Ref.msl 1 0 0 x.length)) else none) = _
    rw [if_pos (Int.natCast_nonneg T)]; rfl
  simp only [h]
  rw [if_pos ⟨trivial, trivial, trivial, u8_len x⟩]
theorem blW_call {codes : Nat → Option FCode} {γ : Orc} {fw fs T e : Nat} (hc : codes fw = none) {x s z : List UInt8} (h : blw? x s = some z) :
    ∀ n, lev codes (blO fw fs T e γ) n fw [.r (.ptr 0 0 0), .d (.str s)] [.box (blC T (.r (.msl 1 0 0 x.length))), .own e 1 (eU8.cells x)] = some (.tup [.d (.int .i64 s.length), .d (.err false)], [.box (blC T (.r (.msl 1 0 0 z.length))), .own e 1 (eU8.cells z)]) := by
  obtain ⟨h1, rfl⟩ := blw_some h
  have hb : blO fw fs T e γ fw [.r (.ptr 0 0 0), .d (.str s)] [.box (blC T (.r (.msl 1 0 0 x.length))), .own e 1 (eU8.cells x)] = some (.tup [.d (.int .i64 s.length), .d (.err false)], [.box (blC T (.r (.msl 1 0 0 (x ++ s).length))), .own e 1 (eU8.cells (x ++ s))]) := by
    unfold blO
    rw [if_pos rfl]
    simp only [blIn_own, bytesP_u8, u8_len, Option.isSome_some]
    rw [if_pos ⟨trivial, h1⟩, u8_app, List.length_append]
  intro n
  cases n with
  | zero => exact hb
  | succ n => simp only [lev, hc]; exact hb
theorem blS_call {codes : Nat → Option FCode} {γ : Orc} {fw fs T e : Nat} (hne : Nat.beq fs fw = false) (hc : codes fs = none) (x : List UInt8) :
    ∀ n, lev codes (blO fw fs T e γ) n fs [.r (.ptr 0 0 0)] [.box (blC T (.r (.msl 1 0 0 x.length))), .own e 1 (eU8.cells x)] = some (.d (.str x), [.box (blC T .un), .own e 1 []]) := by
  have hb : blO fw fs T e γ fs [.r (.ptr 0 0 0)] [.box (blC T (.r (.msl 1 0 0 x.length))), .own e 1 (eU8.cells x)] = some (.d (.str x), [.box (blC T .un), .own e 1 []]) := by
    unfold blO
    rw [if_neg (Nat.ne_of_beq_eq_false hne), if_pos rfl]
    simp only [blIn_own, bytesP_u8]
  intro n
  cases n with
  | zero => exact hb
  | succ n => simp only [lev, hc]; exact hb
theorem lib_callB {codes : Nat → Option FCode} {l : List (Nat × (List PV → Option PV))} {f fw fs T e : Nat} {o : List PV → Option PV} {args : List PV} {r : PV} (h1 : Nat.beq f fw = false) (h2 : Nat.beq f fs = false) (hc : codes f = none) (hf : l.find? (fun x => Nat.beq x.1 f) = some (f, o)) (hp : pl r = true) (ho : o args = some r) : ∀ n, lev codes (blO fw fs T e (libO l)) n f args [] = some (r, []) := by
  have hb : blO fw fs T e (libO l) f args [] = some (r, []) := by
    unfold blO
    rw [if_neg (Nat.ne_of_beq_eq_false h1), if_neg (Nat.ne_of_beq_eq_false h2)]
    unfold libO
    rw [hf]; simp only [ho]; rw [if_pos hp]
  intro n
  cases n with
  | zero => exact hb
  | succ n => simp only [lev, hc]; exact hb
end Go.Proofs.YthblnlmpfgfgcaaDoor.Pm
