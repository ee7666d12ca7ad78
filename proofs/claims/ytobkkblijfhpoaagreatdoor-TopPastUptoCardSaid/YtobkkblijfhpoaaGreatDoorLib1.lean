/- The library's functions by their contracts: what the small machine is told of them. -/
import Derived.Test.YtobkkblijfhpoaaGreatDoorLb0
import Derived.Lib.Strings
import Derived.Lib.TrimByte
import Derived.Lib.Repeat
import Derived.Lib.ItoaNum
import Derived.Lib.LastIndexByte
import Derived.Lib.Join
import Derived.Lib.Bytealg
import Derived.Lib.Replace
import Derived.Lib.CountLaws
import Derived.Lib.SplitLaws
import Derived.Lib.AppendIntMem
import Derived.Lib.SlTrimSet
import Derived.Shelf.Vars
namespace Go.Proofs.YtobkkblijfhpoaaGreatDoor.Pm
open Go.RowKit
set_option linter.unusedVariables false
set_option linter.unusedSimpArgs false
def ossS (g : List UInt8 → List UInt8 → Option (List UInt8)) : List PV → Option PV
 | [.d (.str s), .d (.str t)] => (g s t).map fun z => .d (.str z)
 | _ => none
def osssS (g : List UInt8 → List UInt8 → List UInt8 → Option (List UInt8)) : List PV → Option PV
 | [.d (.str s), .d (.str t), .d (.str u)] => (g s t u).map fun z => .d (.str z)
 | _ => none
theorem ossS_ {g : List UInt8 → List UInt8 → Option (List UInt8)} {s t z : List UInt8} (h : g s t = some z) : ossS g [.d (.str s), .d (.str t)] = some (.d (.str z)) := by simp [ossS, h]
def ossL (g : List UInt8 → List UInt8 → Option (List (List UInt8))) : List PV → Option PV
 | [.d (.str s), .d (.str t)] => (g s t).map fun xs => .d (.sl xs.length (eStr.cells xs))
 | _ => none
theorem ossL_ {g : List UInt8 → List UInt8 → Option (List (List UInt8))} {s t : List UInt8} {z : List (List UInt8)} (h : g s t = some z) : ossL g [.d (.str s), .d (.str t)] = some (.d (.sl z.length (eStr.cells z))) := by simp [ossL, h]
section
variable {P : Program} {W : World} {Φ : Nat → Phys} {f : Nat}
theorem strs_rep {w' : World} {B : Nat} {l : List (List UInt8)} {T : TypeId} (hb : w'.heap[B]? = some (.cells (l.map fun x => Value.string ⟨x.toArray⟩).toArray T (0, 0))) (hl : l.length ≤ maxLen) : RepD (fun b => b < B) w' (.sl l.length (eStr.cells l)) (.slice (some ⟨B, 0, none⟩) l.length l.length) := by
 refine ⟨_, _, rfl, Nat.le_refl _, hl, (fun h => by cases h), .inr ⟨B, 0, rfl, by omega, ?_, RepC.of fun j x hx => ?_⟩⟩
 ·have := (Array.getElem?_eq_some_iff.1 hb).1; exact this
 ·have hc : ∀ l : List (List UInt8), eStr.cells l = l.map PD.str := fun l => by induction l with
   | nil => rfl
   | cons a l ih => simp only [Enc.cells, List.map_cons]; rw [ih]; rfl
  rw [hc] at hx
  simp only [List.getElem?_map, Option.map_eq_some_iff] at hx
  obtain ⟨s, hs, rfl⟩ := hx
  refine ⟨.string ⟨s.toArray⟩, ?_, rfl⟩
  have : (RowAt w' B (l.map fun x => Value.string ⟨x.toArray⟩).toArray T) := .of hb
  rw [Nat.zero_add, this.cell j]
  simp [hs]
theorem libok_ossL {g : List UInt8 → List UInt8 → Option (List (List UInt8))} {T : TypeId} (he : canEnter P f) (h : ∀ s t z, g s t = some z → ∀ w φ0, Later W Φ w φ0 → Calls P f #[.string ⟨s.toArray⟩, .string ⟨t.toArray⟩] w fun e w' => z.length ≤ maxLen ∧ e = .returned (.slice (some ⟨w.heap.size, 0, none⟩) z.length z.length) ∧ w' = w.alloc (.cells (z.map fun x => Value.string ⟨x.toArray⟩).toArray T)) : LibOk P W Φ (f, ossL g) := by
 refine ⟨he, fun args r hr => ?_⟩
 unfold ossL at hr
 simp only at hr
 split at hr
 ·rename_i s t
  simp only [Option.map_eq_some_iff] at hr
  obtain ⟨z, hz, rfl⟩ := hr
  refine fun E w φ0 R vs hL hE ha => ?_
  obtain ⟨v1, r1, rfl, e1, v2, r2, rfl, e2, rfl⟩ := ha
  have e1 : v1 = _ := e1; have e2 : v2 = _ := e2
  subst e1; subst e2
  refine (h s t z hz w φ0 hL).mono ?_
  rintro e w' ⟨h0, h1, rfl⟩
  exact ⟨_, h1, strs_rep (T := T) (by show (w.heap.push _)[_]? = _; simp) h0, (Below.refl _ _).alloc (Nat.le_refl _) _⟩
 ·cases hr
theorem libok_ossS {g : List UInt8 → List UInt8 → Option (List UInt8)} (he : canEnter P f) (h : ∀ s t z, g s t = some z → ∀ w φ0, Later W Φ w φ0 → Calls P f #[.string ⟨s.toArray⟩, .string ⟨t.toArray⟩] w fun e w' => e = .returned (.string ⟨z.toArray⟩) ∧ Below w.heap.size w w') : LibOk P W Φ (f, ossS g) := by
 refine ⟨he, fun args r hr => ?_⟩
 unfold ossS at hr
 simp only at hr
 split at hr
 ·rename_i s t
  simp only [Option.map_eq_some_iff] at hr
  obtain ⟨z, hz, rfl⟩ := hr
  refine fun E w φ0 R vs hL hE ha => ?_
  obtain ⟨v1, r1, rfl, e1, v2, r2, rfl, e2, rfl⟩ := ha
  have e1 : v1 = _ := e1; have e2 : v2 = _ := e2
  subst e1; subst e2
  exact (h s t z hz w φ0 hL).mono fun e w' ⟨h1, h2⟩ => ⟨_, h1, rfl, h2⟩
 ·cases hr
theorem libok_osssS {g : List UInt8 → List UInt8 → List UInt8 → Option (List UInt8)} (he : canEnter P f) (h : ∀ s t u z, g s t u = some z → ∀ w φ0, Later W Φ w φ0 → Calls P f #[.string ⟨s.toArray⟩, .string ⟨t.toArray⟩, .string ⟨u.toArray⟩] w fun e w' => e = .returned (.string ⟨z.toArray⟩) ∧ Below w.heap.size w w') : LibOk P W Φ (f, osssS g) := by
 refine ⟨he, fun args r hr => ?_⟩
 unfold osssS at hr
 simp only at hr
 split at hr
 ·rename_i s t u
  simp only [Option.map_eq_some_iff] at hr
  obtain ⟨z, hz, rfl⟩ := hr
  refine fun E w φ0 R vs hL hE ha => ?_
  obtain ⟨v1, r1, rfl, e1, v2, r2, rfl, e2, v3, r3, rfl, e3, rfl⟩ := ha
  have e1 : v1 = _ := e1; have e2 : v2 = _ := e2; have e3 : v3 = _ := e3
  subst e1; subst e2; subst e3
  exact (h s t u z hz w φ0 hL).mono fun e w' ⟨h1, h2⟩ => ⟨_, h1, rfl, h2⟩
 ·cases hr
def canB (P : Program) (f : Nat) : Bool := match P.funcs[f]? with
 | some fn => match fn.body with
  | some _ => !(fn.name == "runtime.NumGoroutine")
  | none => false
 | none => false
theorem canEnter_b {P : Program} {f : Nat} (h : canB P f = true) : canEnter P f := by
 unfold canB at h
 split at h
 ·rename_i fn hfn
  split at h
  ·rename_i c hbody
   intro args w
   have hname : (fn.name == "runtime.NumGoroutine") = false := by simpa using h
   simp only [callFunc, Sem.run_bind, run_program, Result.andThen_ok, hfn, hbody]
   simp [hname]
  ·cases h
 ·cases h
noncomputable def libTrimRight (s t : List UInt8) : Option (List UInt8) := match t with
 | [c] => if c.toNat < 128 ∧ s.length ≤ 9223372036854775807 then some (Lib.trimRightB s c) else none
 | _ => none
noncomputable def libSplit (s t : List UInt8) : Option (List (List UInt8)) := if s.length < 4294967281 ∧ 1 ≤ t.length then some (Lib.splitK t 0 (Lib.countB ⟨s.toArray⟩ ⟨t.toArray⟩) s) else none
noncomputable def libTrim (s t : List UInt8) : Option (List UInt8) := if s.length ≤ 9223372036854775807 ∧ t.length < 4294967281 ∧ t.all (fun b => decide (b.toNat < 128)) = true then some (Lib.trimS s t) else none
theorem lok_TrimRight (he : canEnter P f) (h : ∀ (s : ByteArray) (c : UInt8), c.toNat < 128 → ∀ w, s.size ≤ 9223372036854775807 → Calls P f #[.string s, .string ⟨#[c]⟩] w fun e w' => e = .returned (.string ⟨(Lib.trimRightB s.data.toList c).toArray⟩) ∧ w' = w) : LibOk P W Φ (f, ossS libTrimRight) :=
 libok_ossS he fun s t z hz w φ0 _ => by
  unfold libTrimRight at hz
  split at hz
  ·rename_i c
   split at hz
   ·rename_i hc
    cases hz
    exact (h ⟨s.toArray⟩ c hc.1 w (by show s.toArray.size ≤ _; simpa using hc.2)).mono fun e w' ⟨h1, h2⟩ => ⟨h1, h2 ▸ Below.refl _ _⟩
   ·cases hz
  ·cases hz
theorem lok_Trim (he : canEnter P f) (h : ∀ (s cutset : ByteArray) (w : World), s.size ≤ 9223372036854775807 → cutset.size < 4294967281 → (∀ (j : Nat) b, cutset.data.toList[j]? = some b → b.toNat < 128) → Calls P f #[.string s, .string cutset] w fun e w' => e = .returned (.string ⟨(Lib.trimS s.data.toList cutset.data.toList).toArray⟩) ∧ Below w.heap.size w w') : LibOk P W Φ (f, ossS libTrim) :=
 libok_ossS he fun s t z hz w φ0 _ => by
  unfold libTrim at hz
  split at hz
  ·rename_i hc
   cases hz
   exact h ⟨s.toArray⟩ ⟨t.toArray⟩ w (by show s.toArray.size ≤ _; simpa using hc.1) (by show t.toArray.size < _; simpa using hc.2.1) (fun j b hb => of_decide_eq_true (List.all_eq_true.1 hc.2.2 b (List.mem_of_getElem? hb)))
  ·cases hz
noncomputable def libReplaceAll (s t u : List UInt8) : Option (List UInt8) := if s.length < 4294967281 ∧ 1 ≤ t.length ∧ s.length + Lib.countB ⟨s.toArray⟩ ⟨t.toArray⟩ * u.length ≤ 140737488355328 then some (Lib.replaceAll s t u) else none
theorem later_cell {w : World} {φ0 : Nat → Phys} {g o : Nat} {v : Value} (hL : Later W Φ w φ0) (hΦ : ∀ i c, Φ i ≠ .blk g c) (hm : W.cell? ⟨g, o, none⟩ = some v) : w.cell? ⟨g, o, none⟩ = some v := by
 have hlt : g < W.heap.size := by
  by_cases h : g < W.heap.size
  ·exact h
  ·have : W.heap[g]? = none := Array.getElem?_eq_none (by omega)
   simp [World.cell?, this] at hm
 have := (hL.keep g hlt hΦ).1
 simp only [World.cell?, this] at hm ⊢
 exact hm
theorem lok_ReplaceAll (g : Nat) (hΦ : ∀ i c, Φ i ≠ .blk g c) (hm : ∃ m, W.cell? ⟨g, 0, none⟩ = some (.int .i64 m)) (he : canEnter P f) (h : ∀ (s old new : ByteArray) (m : Int) (w : World), s.size < 4294967281 → w.cell? ⟨g, 0, none⟩ = some (.int .i64 m) → 1 ≤ old.size → s.size + Lib.countB s old * new.size ≤ 140737488355328 →
   Calls P f #[.string s, .string old, .string new] w fun e w' => e = .returned (.string ⟨(Lib.replaceAll s.data.toList old.data.toList new.data.toList).toArray⟩) ∧ Below w.heap.size w w') : LibOk P W Φ (f, osssS libReplaceAll) :=
 libok_osssS he fun s t u z hz w φ0 hL => by
  unfold libReplaceAll at hz
  split at hz
  ·rename_i hc
   cases hz
   obtain ⟨m, hm⟩ := hm
   exact h ⟨s.toArray⟩ ⟨t.toArray⟩ ⟨u.toArray⟩ m w (by show s.toArray.size < _; simpa using hc.1) (later_cell hL hΦ hm) (by show 1 ≤ t.toArray.size; simpa using hc.2.1) (by show s.toArray.size + _ * u.toArray.size ≤ _; simpa using hc.2.2)
  ·cases hz
theorem lok_Split {T : TypeId} (g : Nat) (hΦ : ∀ i c, Φ i ≠ .blk g c) (hm : ∃ m, W.cell? ⟨g, 0, none⟩ = some (.int .i64 m)) (he : canEnter P f) (h : ∀ (s sep : ByteArray) (m : Int) (w : World), s.size < 4294967281 → w.cell? ⟨g, 0, none⟩ = some (.int .i64 m) → 1 ≤ sep.size →
   Calls P f #[.string s, .string sep] w fun e w' => e = .returned (.slice (some ⟨w.heap.size, 0, none⟩) (Lib.countB s sep + 1) (Lib.countB s sep + 1)) ∧ w' = w.alloc (.cells ((Lib.splitB sep 0 (Lib.countB s sep) s).map Value.string).toArray T)) : LibOk P W Φ (f, ossL libSplit) :=
 libok_ossL he fun s t z hz w φ0 hL => by
  unfold libSplit at hz
  split at hz
  ·rename_i hc
   cases hz
   obtain ⟨m, hm⟩ := hm
   have hs : (⟨s.toArray⟩ : ByteArray).size < 4294967281 := by show s.toArray.size < _; simpa using hc.1
   have ht : 1 ≤ (⟨t.toArray⟩ : ByteArray).size := by show 1 ≤ t.toArray.size; simpa using hc.2
   have hd := Lib.splitB_data ⟨t.toArray⟩ 0 (Lib.countB ⟨s.toArray⟩ ⟨t.toArray⟩) ⟨s.toArray⟩
   have hlen := Lib.splitB_all ⟨t.toArray⟩ ht 0 _ ⟨s.toArray⟩ rfl
   have hle := Lib.countB_le ⟨t.toArray⟩ ht _ ⟨s.toArray⟩ (Nat.le_refl _)
   have hz : Lib.splitK t 0 (Lib.countB ⟨s.toArray⟩ ⟨t.toArray⟩) s = (Lib.splitB ⟨t.toArray⟩ 0 (Lib.countB ⟨s.toArray⟩ ⟨t.toArray⟩) ⟨s.toArray⟩).map (·.data.toList) := hd.symm
   refine (h ⟨s.toArray⟩ ⟨t.toArray⟩ m w hs (later_cell hL hΦ hm) ht).mono ?_
   rintro e w' ⟨h1, h2⟩
   have hl : (Lib.splitK t 0 (Lib.countB ⟨s.toArray⟩ ⟨t.toArray⟩) s).length = Lib.countB ⟨s.toArray⟩ ⟨t.toArray⟩ + 1 := by rw [hz, List.length_map, hlen]
   refine ⟨by rw [hl]; unfold maxLen; omega, by rw [hl]; exact h1, ?_⟩
   rw [h2, hz, List.map_map]
   congr 3
  ·cases hz
end
end Go.Proofs.YtobkkblijfhpoaaGreatDoor.Pm
