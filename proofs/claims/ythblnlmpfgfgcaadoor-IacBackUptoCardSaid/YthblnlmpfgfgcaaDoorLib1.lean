/- The library's functions by their contracts: what the small machine is told of them. -/
import Derived.Test.YthblnlmpfgfgcaaDoorLb0
import Derived.Lib.Strings
import Derived.Lib.TrimByte
import Derived.Lib.Repeat
import Derived.Lib.ItoaNum
import Derived.Lib.LastIndexByte
import Derived.Lib.Join
import Derived.Lib.Bytealg
import Derived.Lib.Replace
import Derived.Lib.CountLaws
import Derived.Lib.SplitLaws
import Derived.Lib.AppendIntMem
import Derived.Lib.SlTrimSet
import Derived.Shelf.Vars
namespace Go.Proofs.YthblnlmpfgfgcaaDoor.Pm
open Go.RowKit
set_option linter.unusedVariables false
set_option linter.unusedSimpArgs false
/-- Two strings to a string, to a truth; a string and a number; a number. -/
def ossS (g : List UInt8 → List UInt8 → Option (List UInt8)) : List PV → Option PV
  | [.d (.str s), .d (.str t)] => (g s t).map fun z => .d (.str z)
  | _ => none
def ossB (g : List UInt8 → List UInt8 → Option Bool) : List PV → Option PV
  | [.d (.str s), .d (.str t)] => (g s t).map fun z => .d (.bool z)
  | _ => none
def osiS (g : List UInt8 → Int → Option (List UInt8)) : List PV → Option PV
  | [.d (.str s), .d (.int .i64 n)] => (g s n).map fun z => .d (.str z)
  | _ => none
def osuI (g : List UInt8 → UInt8 → Option Int) : List PV → Option PV
  | [.d (.str s), .d (.int .u8 n)] => if 0 ≤ n ∧ n < 256 then ((g s (UInt8.ofNat n.toNat)).map fun z => .d (.int .i64 z)) else none
  | _ => none
def oiS (g : Int → Option (List UInt8)) : List PV → Option PV
  | [.d (.int .i64 n)] => (g n).map fun z => .d (.str z)
  | _ => none
def osssS (g : List UInt8 → List UInt8 → List UInt8 → Option (List UInt8)) : List PV → Option PV
  | [.d (.str s), .d (.str t), .d (.str u)] => (g s t u).map fun z => .d (.str z)
  | _ => none
/-- A list of strings out of its cells. -/
def strsD : List PD → Option (List (List UInt8))
  | [] => some []
  | .str s :: t => (strsD t).map (s :: ·)
  | _ :: _ => none
def oSsS (g : List (List UInt8) → List UInt8 → Option (List UInt8)) : List PV → Option PV
  | [.d (.sl n cs), .d (.str t)] => (strsD cs).bind fun xs => if xs.length = n then ((g xs t).map fun z => .d (.str z)) else none
  | _ => none
theorem ossS_ {g : List UInt8 → List UInt8 → Option (List UInt8)} {s t z : List UInt8} (h : g s t = some z) : ossS g [.d (.str s), .d (.str t)] = some (.d (.str z)) := by simp [ossS, h]
theorem ossB_ {g : List UInt8 → List UInt8 → Option Bool} {s t : List UInt8} {z : Bool} (h : g s t = some z) : ossB g [.d (.str s), .d (.str t)] = some (.d (.bool z)) := by simp [ossB, h]
theorem osiS_ {g : List UInt8 → Int → Option (List UInt8)} {s : List UInt8} {n : Int} {z : List UInt8} (h : g s n = some z) : osiS g [.d (.str s), .d (.int .i64 n)] = some (.d (.str z)) := by simp [osiS, h]
theorem osuI_ {g : List UInt8 → UInt8 → Option Int} {s : List UInt8} {c : UInt8} {z : Int} (h : g s c = some z) : osuI g [.d (.str s), .d (.int .u8 (c.toNat : Int))] = some (.d (.int .i64 z)) := by
  have := c.toNat_lt
  unfold osuI
  simp only
  rw [if_pos (by omega)]
  simp [h]
theorem oiS_ {g : Int → Option (List UInt8)} {n : Int} {z : List UInt8} (h : g n = some z) : oiS g [.d (.int .i64 n)] = some (.d (.str z)) := by simp [oiS, h]
theorem osssS_ {g : List UInt8 → List UInt8 → List UInt8 → Option (List UInt8)} {s t u z : List UInt8} (h : g s t u = some z) : osssS g [.d (.str s), .d (.str t), .d (.str u)] = some (.d (.str z)) := by simp [osssS, h]
theorem strsD_ : ∀ xs : List (List UInt8), strsD (eStr.cells xs) = some xs
  | [] => rfl
  | x :: xs => by
    have : eStr.cells (x :: xs) = .str x :: eStr.cells xs := rfl
    rw [this]
    unfold strsD
    rw [strsD_ xs]; rfl
theorem oSsS_ {g : List (List UInt8) → List UInt8 → Option (List UInt8)} {xs : List (List UInt8)} {t z : List UInt8} (h : g xs t = some z) : oSsS g [.d (.sl xs.length (eStr.cells xs)), .d (.str t)] = some (.d (.str z)) := by
  simp [oSsS, strsD_, h]
/-- Two strings to a list of strings, to a number; a number that may be refused. -/
def ossL (g : List UInt8 → List UInt8 → Option (List (List UInt8))) : List PV → Option PV
  | [.d (.str s), .d (.str t)] => (g s t).map fun xs => .d (.sl xs.length (eStr.cells xs))
  | _ => none
theorem ossL_ {g : List UInt8 → List UInt8 → Option (List (List UInt8))} {s t : List UInt8} {z : List (List UInt8)} (h : g s t = some z) : ossL g [.d (.str s), .d (.str t)] = some (.d (.sl z.length (eStr.cells z))) := by simp [ossL, h]
/-- A string to a rune and a number. -/
def osT (g : List UInt8 → Option (Int × Int)) : List PV → Option PV
  | [.d (.str s)] => (g s).map fun z => .tup [.d (.int .i32 z.1), .d (.int .i64 z.2)]
  | _ => none
theorem osT_ {g : List UInt8 → Option (Int × Int)} {s : List UInt8} {z : Int × Int} (h : g s = some z) : osT g [.d (.str s)] = some (.tup [.d (.int .i32 z.1), .d (.int .i64 z.2)]) := by simp [osT, h]
/-- A string to a truth. -/
def osB (g : List UInt8 → Option Bool) : List PV → Option PV
  | [.d (.str s)] => (g s).map fun z => .d (.bool z)
  | _ => none
theorem osB_ {g : List UInt8 → Option Bool} {s : List UInt8} {z : Bool} (h : g s = some z) : osB g [.d (.str s)] = some (.d (.bool z)) := by simp [osB, h]
section
variable {P : Program} {W : World} {Φ : Nat → Phys} {f : Nat}
theorem libok_osT {g : List UInt8 → Option (Int × Int)} (he : canEnter P f) (h : ∀ s z, g s = some z → ∀ w φ0, Later W Φ w φ0 → Calls P f #[.string ⟨s.toArray⟩] w fun e w' => e = .returned (.tuple #[.int .i32 z.1, .int .i64 z.2]) ∧ Below w.heap.size w w') : LibOk P W Φ (f, osT g) := by
  refine ⟨he, fun args r hr => ?_⟩
  unfold osT at hr
  simp only at hr
  split at hr
  · rename_i s
    simp only [Option.map_eq_some_iff] at hr
    obtain ⟨z, hz, rfl⟩ := hr
    refine fun E w φ0 R vs hL hE ha => ?_
    obtain ⟨v1, r1, rfl, e1, rfl⟩ := ha
    have e1 : v1 = _ := e1
    subst e1
    exact (h s z hz w φ0 hL).mono fun e w' ⟨h1, h2⟩ => ⟨_, h1, ⟨_, rfl, _, _, rfl, rfl, _, _, rfl, rfl, rfl⟩, h2⟩
  · cases hr
theorem libok_osB {g : List UInt8 → Option Bool} (he : canEnter P f) (h : ∀ s z, g s = some z → ∀ w φ0, Later W Φ w φ0 → Calls P f #[.string ⟨s.toArray⟩] w fun e w' => e = .returned (.bool z) ∧ Below w.heap.size w w') : LibOk P W Φ (f, osB g) := by
  refine ⟨he, fun args r hr => ?_⟩
  unfold osB at hr
  simp only at hr
  split at hr
  · rename_i s
    simp only [Option.map_eq_some_iff] at hr
    obtain ⟨z, hz, rfl⟩ := hr
    refine fun E w φ0 R vs hL hE ha => ?_
    obtain ⟨v1, r1, rfl, e1, rfl⟩ := ha
    have e1 : v1 = _ := e1
    subst e1
    exact (h s z hz w φ0 hL).mono fun e w' ⟨h1, h2⟩ => ⟨_, h1, rfl, h2⟩
  · cases hr
/-- utf8.DecodeRuneInString. -/
noncomputable def libDecodeRune (s : List UInt8) : Option (Int × Int) := some (if s.length = 0 then (65533, 0) else (((Utf8.decode ⟨s.toArray⟩ 0).1 : Int), ((Utf8.decode ⟨s.toArray⟩ 0).2 : Int)))
theorem lok_DecodeRune {T : World → Prop} (hT : ∀ w φ0, Later W Φ w φ0 → T w) (he : canEnter P f) (h : ∀ (s : ByteArray) (w : World), T w → Calls P f #[.string s] w fun e w' => e = .returned (.tuple #[.int .i32 (if s.size = 0 then (65533, 0) else Utf8.decode s 0 : Nat × Nat).1, .int .i64 (if s.size = 0 then (65533, 0) else Utf8.decode s 0 : Nat × Nat).2]) ∧ Below w.heap.size w w') : LibOk P W Φ (f, osT libDecodeRune) :=
  libok_osT he fun s z hz w φ0 hL => by
    unfold libDecodeRune at hz
    cases hz
    have := h ⟨s.toArray⟩ w (hT w φ0 hL)
    have hs : (⟨s.toArray⟩ : ByteArray).size = s.length := by show s.toArray.size = _; simp
    rw [hs] at this
    refine this.mono fun e w' ⟨h1, h2⟩ => ⟨?_, h2⟩
    rw [h1]
    split <;> rfl
/-- A fresh row of strings. -/
theorem strs_rep {w' : World} {B : Nat} {l : List (List UInt8)} {T : TypeId} (hb : w'.heap[B]? = some (.cells (l.map fun x => Value.string ⟨x.toArray⟩).toArray T (0, 0))) (hl : l.length ≤ maxLen) : RepD (fun b => b < B) w' (.sl l.length (eStr.cells l)) (.slice (some ⟨B, 0, none⟩) l.length l.length) := by
  refine ⟨_, _, rfl, Nat.le_refl _, hl, (fun h => by cases h), .inr ⟨B, 0, rfl, by omega, ?_, RepC.of fun j x hx => ?_⟩⟩
  · have := (Array.getElem?_eq_some_iff.1 hb).1; exact this
  · have hc : ∀ l : List (List UInt8), eStr.cells l = l.map PD.str := fun l => by induction l with
      | nil => rfl
      | cons a l ih => simp only [Enc.cells, List.map_cons]; rw [ih]; rfl
    rw [hc] at hx
    simp only [List.getElem?_map, Option.map_eq_some_iff] at hx
    obtain ⟨s, hs, rfl⟩ := hx
    refine ⟨.string ⟨s.toArray⟩, ?_, rfl⟩
    have : (RowAt w' B (l.map fun x => Value.string ⟨x.toArray⟩).toArray T) := .of hb
    rw [Nat.zero_add, this.cell j]
    simp [hs]
theorem libok_ossL {g : List UInt8 → List UInt8 → Option (List (List UInt8))} {T : TypeId} (he : canEnter P f) (h : ∀ s t z, g s t = some z → ∀ w φ0, Later W Φ w φ0 → Calls P f #[.string ⟨s.toArray⟩, .string ⟨t.toArray⟩] w fun e w' => z.length ≤ maxLen ∧ e = .returned (.slice (some ⟨w.heap.size, 0, none⟩) z.length z.length) ∧ w' = w.alloc (.cells (z.map fun x => Value.string ⟨x.toArray⟩).toArray T)) : LibOk P W Φ (f, ossL g) := by
  refine ⟨he, fun args r hr => ?_⟩
  unfold ossL at hr
  simp only at hr
  split at hr
  · rename_i s t
    simp only [Option.map_eq_some_iff] at hr
    obtain ⟨z, hz, rfl⟩ := hr
    refine fun E w φ0 R vs hL hE ha => ?_
    obtain ⟨v1, r1, rfl, e1, v2, r2, rfl, e2, rfl⟩ := ha
    have e1 : v1 = _ := e1; have e2 : v2 = _ := e2
    subst e1; subst e2
    refine (h s t z hz w φ0 hL).mono ?_
    rintro e w' ⟨h0, h1, rfl⟩
    exact ⟨_, h1, strs_rep (T := T) (by show (w.heap.push _)[_]? = _; simp) h0, (Below.refl _ _).alloc (Nat.le_refl _) _⟩
  · cases hr
theorem libok_ossS {g : List UInt8 → List UInt8 → Option (List UInt8)} (he : canEnter P f) (h : ∀ s t z, g s t = some z → ∀ w φ0, Later W Φ w φ0 → Calls P f #[.string ⟨s.toArray⟩, .string ⟨t.toArray⟩] w fun e w' => e = .returned (.string ⟨z.toArray⟩) ∧ Below w.heap.size w w') : LibOk P W Φ (f, ossS g) := by
  refine ⟨he, fun args r hr => ?_⟩
  unfold ossS at hr
  simp only at hr
  split at hr
  · rename_i s t
    simp only [Option.map_eq_some_iff] at hr
    obtain ⟨z, hz, rfl⟩ := hr
    refine fun E w φ0 R vs hL hE ha => ?_
    obtain ⟨v1, r1, rfl, e1, v2, r2, rfl, e2, rfl⟩ := ha
    have e1 : v1 = _ := e1; have e2 : v2 = _ := e2
    subst e1; subst e2
    exact (h s t z hz w φ0 hL).mono fun e w' ⟨h1, h2⟩ => ⟨_, h1, rfl, h2⟩
  · cases hr
theorem libok_ossB {g : List UInt8 → List UInt8 → Option Bool} (he : canEnter P f) (h : ∀ s t z, g s t = some z → ∀ w φ0, Later W Φ w φ0 → Calls P f #[.string ⟨s.toArray⟩, .string ⟨t.toArray⟩] w fun e w' => e = .returned (.bool z) ∧ Below w.heap.size w w') : LibOk P W Φ (f, ossB g) := by
  refine ⟨he, fun args r hr => ?_⟩
  unfold ossB at hr
  simp only at hr
  split at hr
  · rename_i s t
    simp only [Option.map_eq_some_iff] at hr
    obtain ⟨z, hz, rfl⟩ := hr
    refine fun E w φ0 R vs hL hE ha => ?_
    obtain ⟨v1, r1, rfl, e1, v2, r2, rfl, e2, rfl⟩ := ha
    have e1 : v1 = _ := e1; have e2 : v2 = _ := e2
    subst e1; subst e2
    exact (h s t z hz w φ0 hL).mono fun e w' ⟨h1, h2⟩ => ⟨_, h1, rfl, h2⟩
  · cases hr
theorem libok_osiS {g : List UInt8 → Int → Option (List UInt8)} (he : canEnter P f) (h : ∀ s n z, g s n = some z → ∀ w φ0, Later W Φ w φ0 → Calls P f #[.string ⟨s.toArray⟩, .int .i64 n] w fun e w' => e = .returned (.string ⟨z.toArray⟩) ∧ Below w.heap.size w w') : LibOk P W Φ (f, osiS g) := by
  refine ⟨he, fun args r hr => ?_⟩
  unfold osiS at hr
  simp only at hr
  split at hr
  · rename_i s n
    simp only [Option.map_eq_some_iff] at hr
    obtain ⟨z, hz, rfl⟩ := hr
    refine fun E w φ0 R vs hL hE ha => ?_
    obtain ⟨v1, r1, rfl, e1, v2, r2, rfl, e2, rfl⟩ := ha
    have e1 : v1 = _ := e1; have e2 : v2 = _ := e2
    subst e1; subst e2
    exact (h s n z hz w φ0 hL).mono fun e w' ⟨h1, h2⟩ => ⟨_, h1, rfl, h2⟩
  · cases hr
theorem libok_osuI {g : List UInt8 → UInt8 → Option Int} (he : canEnter P f) (h : ∀ s c z, g s c = some z → ∀ w φ0, Later W Φ w φ0 → Calls P f #[.string ⟨s.toArray⟩, .int .u8 (c.toNat : Int)] w fun e w' => e = .returned (.int .i64 z) ∧ Below w.heap.size w w') : LibOk P W Φ (f, osuI g) := by
  refine ⟨he, fun args r hr => ?_⟩
  unfold osuI at hr
  simp only at hr
  split at hr
  · rename_i s n
    split at hr
    · rename_i hn
      simp only [Option.map_eq_some_iff] at hr
      obtain ⟨z, hz, rfl⟩ := hr
      refine fun E w φ0 R vs hL hE ha => ?_
      obtain ⟨v1, r1, rfl, e1, v2, r2, rfl, e2, rfl⟩ := ha
      have e1 : v1 = _ := e1; have e2 : v2 = _ := e2
      subst e1; subst e2
      have hc : ((UInt8.ofNat n.toNat).toNat : Int) = n := by
        simp only [UInt8.toNat_ofNat']; omega
      have := h s _ z hz w φ0 hL
      rw [hc] at this
      exact this.mono fun e w' ⟨h1, h2⟩ => ⟨_, h1, rfl, h2⟩
    · cases hr
  · cases hr
theorem libok_oiS {g : Int → Option (List UInt8)} (he : canEnter P f) (h : ∀ n z, g n = some z → ∀ w φ0, Later W Φ w φ0 → Calls P f #[.int .i64 n] w fun e w' => e = .returned (.string ⟨z.toArray⟩) ∧ Below w.heap.size w w') : LibOk P W Φ (f, oiS g) := by
  refine ⟨he, fun args r hr => ?_⟩
  unfold oiS at hr
  simp only at hr
  split at hr
  · rename_i n
    simp only [Option.map_eq_some_iff] at hr
    obtain ⟨z, hz, rfl⟩ := hr
    refine fun E w φ0 R vs hL hE ha => ?_
    obtain ⟨v1, r1, rfl, e1, rfl⟩ := ha
    have e1 : v1 = _ := e1
    subst e1
    exact (h n z hz w φ0 hL).mono fun e w' ⟨h1, h2⟩ => ⟨_, h1, rfl, h2⟩
  · cases hr
theorem libok_osssS {g : List UInt8 → List UInt8 → List UInt8 → Option (List UInt8)} (he : canEnter P f) (h : ∀ s t u z, g s t u = some z → ∀ w φ0, Later W Φ w φ0 → Calls P f #[.string ⟨s.toArray⟩, .string ⟨t.toArray⟩, .string ⟨u.toArray⟩] w fun e w' => e = .returned (.string ⟨z.toArray⟩) ∧ Below w.heap.size w w') : LibOk P W Φ (f, osssS g) := by
  refine ⟨he, fun args r hr => ?_⟩
  unfold osssS at hr
  simp only at hr
  split at hr
  · rename_i s t u
    simp only [Option.map_eq_some_iff] at hr
    obtain ⟨z, hz, rfl⟩ := hr
    refine fun E w φ0 R vs hL hE ha => ?_
    obtain ⟨v1, r1, rfl, e1, v2, r2, rfl, e2, v3, r3, rfl, e3, rfl⟩ := ha
    have e1 : v1 = _ := e1; have e2 : v2 = _ := e2; have e3 : v3 = _ := e3
    subst e1; subst e2; subst e3
    exact (h s t u z hz w φ0 hL).mono fun e w' ⟨h1, h2⟩ => ⟨_, h1, rfl, h2⟩
  · cases hr
/-- Cells that stand for strings. -/
theorem strsD_cells {X : Nat → Prop} {w : World} : ∀ {cs : List PD} {xs : List (List UInt8)} {b o : Nat}, strsD cs = some xs → RepC X w cs b o → ∀ (j : Nat) (x : List UInt8), xs[j]? = some x → w.cell? ⟨b, o + j, none⟩ = some (.string ⟨x.toArray⟩)
  | [], xs, b, o, h, _, j, x, hx => by cases h; simp at hx
  | .str s :: t, xs, b, o, h, hr, j, x, hx => by
    unfold strsD at h
    simp only [Option.map_eq_some_iff] at h
    obtain ⟨ys, hy, rfl⟩ := h
    obtain ⟨⟨v, h1, h2⟩, h3⟩ := hr
    have h2 : v = _ := h2
    subst h2
    cases j with
    | zero => simp at hx; subst hx; exact h1
    | succ j =>
      have := strsD_cells hy h3 j x (by simpa using hx)
      rw [show o + (j + 1) = o + 1 + j by omega]; exact this
  | .int .. :: _, xs, b, o, h, _, j, x, hx => by cases h
  | .bool _ :: _, xs, b, o, h, _, j, x, hx => by cases h
  | .sl .. :: _, xs, b, o, h, _, j, x, hx => by cases h
theorem libok_oSsS {g : List (List UInt8) → List UInt8 → Option (List UInt8)} (he : canEnter P f)
    (h0 : ∀ t z, g [] t = some z → ∀ w φ0 a c, Later W Φ w φ0 → Calls P f #[.slice a 0 c, .string ⟨t.toArray⟩] w fun e w' => e = .returned (.string ⟨z.toArray⟩) ∧ Below w.heap.size w w')
    (h : ∀ x xs t z, g (x :: xs) t = some z → ∀ w φ0 b o c, Later W Φ w φ0 → b < w.heap.size → (x :: xs).length ≤ c → (∀ (j : Nat) (y : List UInt8), (x :: xs)[j]? = some y → w.cell? ⟨b, o + j, none⟩ = some (.string ⟨y.toArray⟩)) →
      Calls P f #[.slice (some ⟨b, o, none⟩) (x :: xs).length c, .string ⟨t.toArray⟩] w fun e w' => e = .returned (.string ⟨z.toArray⟩) ∧ Below w.heap.size w w') : LibOk P W Φ (f, oSsS g) := by
  refine ⟨he, fun args r hr => ?_⟩
  unfold oSsS at hr
  simp only at hr
  split at hr
  · rename_i n cs t
    obtain ⟨xs, hxs, hr⟩ := Option.bind_eq_some_iff.1 hr
    split at hr
    · rename_i hn
      simp only [Option.map_eq_some_iff] at hr
      obtain ⟨z, hz, rfl⟩ := hr
      refine fun E w φ0 R vs hL hE ha => ?_
      obtain ⟨v1, r1, rfl, e1, v2, r2, rfl, e2, rfl⟩ := ha
      have e2 : v2 = _ := e2
      subst e2
      have e1 : RepD E w (.sl n cs) v1 := e1
      obtain ⟨a, c, rfl, hc1, hc2, hc3, hc4⟩ := e1
      subst hn
      cases xs with
      | nil => exact (h0 t z hz w φ0 a c hL).mono fun e w' ⟨h1, h2⟩ => ⟨_, h1, rfl, h2⟩
      | cons x xs =>
        rcases hc4 with rfl | ⟨b, o, rfl, _, hb, hr⟩
        · cases hxs
        · exact (h x xs t z hz w φ0 b o c hL hb hc1 (strsD_cells hxs hr)).mono fun e w' ⟨h1, h2⟩ => ⟨_, h1, rfl, h2⟩
    · cases hr
  · cases hr
/-- A function with a body is entered. -/
def canB (P : Program) (f : Nat) : Bool := match P.funcs[f]? with
  | some fn => match fn.body with
    | some _ => !(fn.name == "runtime.NumGoroutine")
    | none => false
  | none => false
theorem canEnter_b {P : Program} {f : Nat} (h : canB P f = true) : canEnter P f := by
  unfold canB at h
  split at h
  · rename_i fn hfn
    split at h
    · rename_i c hbody
      intro args w
      have hname : (fn.name == "runtime.NumGoroutine") = false := by simpa using h
      simp only [callFunc, Sem.run_bind, run_program, Result.andThen_ok, hfn, hbody]
      simp [hname]
    · cases h
  · cases h
noncomputable def libTrimRight (s t : List UInt8) : Option (List UInt8) := match t with
  | [c] => if c.toNat < 128 ∧ s.length ≤ 9223372036854775807 then some (Lib.trimRightB s c) else none
  | _ => none
noncomputable def libContains (s t : List UInt8) : Option Bool := match t with
  | [c] => some (decide (0 ≤ Lib.indexByte s c))
  | _ => none
noncomputable def libHasSuffix (s t : List UInt8) : Option Bool := if s.length ≤ 9223372036854775807 then some (Lib.hasSuffix s t) else none
noncomputable def libHasPrefix (s t : List UInt8) : Option Bool := some (Lib.hasPrefix s t)
noncomputable def libRepeat (s : List UInt8) (n : Int) : Option (List UInt8) := if 0 ≤ n ∧ n ≤ 9223372036854775807 ∧ s.length * n.toNat ≤ 140737488355328 then some (Lib.repeatL s n.toNat) else none
noncomputable def libLastIndexByte (s : List UInt8) (c : UInt8) : Option Int := if s.length < 4611686018427387904 then some (Lib.lastIndexByte ⟨s.toArray⟩ (c.toNat : Int)) else none
/-- s cut at each t. -/
noncomputable def libSplit (s t : List UInt8) : Option (List (List UInt8)) := if s.length < 4294967281 ∧ 1 ≤ t.length then some (Lib.splitK t 0 (Lib.countB ⟨s.toArray⟩ ⟨t.toArray⟩) s) else none
noncomputable def libTrim (s t : List UInt8) : Option (List UInt8) := if s.length ≤ 9223372036854775807 ∧ t.length < 4294967281 ∧ t.all (fun b => decide (b.toNat < 128)) = true then some (Lib.trimS s t) else none
noncomputable def libItoa (n : Int) : Option (List UInt8) := if 0 ≤ n ∧ n < 100 then some (Lib.decDigits n.toNat) else none
noncomputable def libJoin (xs : List (List UInt8)) (t : List UInt8) : Option (List UInt8) := if xs.length ≤ 140737488355328 ∧ (Lib.join xs t).length ≤ 140737488355328 then some (Lib.join xs t) else none
theorem lok_TrimRight (he : canEnter P f) (h : ∀ (s : ByteArray) (c : UInt8), c.toNat < 128 → ∀ w, s.size ≤ 9223372036854775807 → Calls P f #[.string s, .string ⟨#[c]⟩] w fun e w' => e = .returned (.string ⟨(Lib.trimRightB s.data.toList c).toArray⟩) ∧ w' = w) : LibOk P W Φ (f, ossS libTrimRight) :=
  libok_ossS he fun s t z hz w φ0 _ => by
    unfold libTrimRight at hz
    split at hz
    · rename_i c
      split at hz
      · rename_i hc
        cases hz
        exact (h ⟨s.toArray⟩ c hc.1 w (by show s.toArray.size ≤ _; simpa using hc.2)).mono fun e w' ⟨h1, h2⟩ => ⟨h1, h2 ▸ Below.refl _ _⟩
      · cases hz
    · cases hz
theorem lok_Trim (he : canEnter P f) (h : ∀ (s cutset : ByteArray) (w : World), s.size ≤ 9223372036854775807 → cutset.size < 4294967281 → (∀ (j : Nat) b, cutset.data.toList[j]? = some b → b.toNat < 128) → Calls P f #[.string s, .string cutset] w fun e w' => e = .returned (.string ⟨(Lib.trimS s.data.toList cutset.data.toList).toArray⟩) ∧ Below w.heap.size w w') : LibOk P W Φ (f, ossS libTrim) :=
  libok_ossS he fun s t z hz w φ0 _ => by
    unfold libTrim at hz
    split at hz
    · rename_i hc
      cases hz
      exact h ⟨s.toArray⟩ ⟨t.toArray⟩ w (by show s.toArray.size ≤ _; simpa using hc.1) (by show t.toArray.size < _; simpa using hc.2.1) (fun j b hb => of_decide_eq_true (List.all_eq_true.1 hc.2.2 b (List.mem_of_getElem? hb)))
    · cases hz
theorem lok_Contains (he : canEnter P f) (h : ∀ (s : ByteArray) (c : UInt8) (w : World), Calls P f #[.string s, .string ⟨#[c]⟩] w fun e w' => e = .returned (.bool (decide (0 ≤ Lib.indexByte s.data.toList c))) ∧ w' = w) : LibOk P W Φ (f, ossB libContains) :=
  libok_ossB he fun s t z hz w φ0 _ => by
    unfold libContains at hz
    split at hz
    · rename_i c
      cases hz
      exact (h ⟨s.toArray⟩ c w).mono fun e w' ⟨h1, h2⟩ => ⟨h1, h2 ▸ Below.refl _ _⟩
    · cases hz
theorem lok_HasSuffix (he : canEnter P f) (h : ∀ (s p : ByteArray) (w : World), s.size ≤ 9223372036854775807 → Calls P f #[.string s, .string p] w fun e w' => e = .returned (.bool (Lib.hasSuffix s.data.toList p.data.toList)) ∧ w' = w) : LibOk P W Φ (f, ossB libHasSuffix) :=
  libok_ossB he fun s t z hz w φ0 _ => by
    unfold libHasSuffix at hz
    split at hz
    · rename_i hc
      cases hz
      exact (h ⟨s.toArray⟩ ⟨t.toArray⟩ w (by show s.toArray.size ≤ _; simpa using hc)).mono fun e w' ⟨h1, h2⟩ => ⟨h1, h2 ▸ Below.refl _ _⟩
    · cases hz
theorem lok_HasPrefix (he : canEnter P f) (h : ∀ (s p : ByteArray) (w : World), Calls P f #[.string s, .string p] w fun e w' => e = .returned (.bool (Lib.hasPrefix s.data.toList p.data.toList)) ∧ w' = w) : LibOk P W Φ (f, ossB libHasPrefix) :=
  libok_ossB he fun s t z hz w φ0 _ => by
    cases hz
    exact (h ⟨s.toArray⟩ ⟨t.toArray⟩ w).mono fun e w' ⟨h1, h2⟩ => ⟨h1, h2 ▸ Below.refl _ _⟩
theorem lok_Repeat (he : canEnter P f) (h : ∀ (s : ByteArray) (c : Nat) (w : World), c ≤ 9223372036854775807 → s.size * c ≤ 140737488355328 → Calls P f #[.string s, .int .i64 c] w fun e w' => e = .returned (.string ⟨(Lib.repeatL s.data.toList c).toArray⟩) ∧ Below w.heap.size w w') : LibOk P W Φ (f, osiS libRepeat) :=
  libok_osiS he fun s n z hz w φ0 _ => by
    unfold libRepeat at hz
    split at hz
    · rename_i hc
      cases hz
      have hn : ((n.toNat : Nat) : Int) = n := Int.toNat_of_nonneg hc.1
      have := h ⟨s.toArray⟩ n.toNat w (by omega) (by show s.toArray.size * _ ≤ _; simpa using hc.2.2)
      rw [hn] at this
      exact this
    · cases hz
theorem lok_LastIndexByte (he : canEnter P f) (h : ∀ (s : ByteArray) (c : Int), s.size < 4611686018427387904 → ∀ w, Calls P f #[.string s, .int .u8 c] w fun e w' => e = .returned (.int .i64 (Lib.lastIndexByte s c)) ∧ w' = w) : LibOk P W Φ (f, osuI libLastIndexByte) :=
  libok_osuI he fun s c z hz w φ0 _ => by
    unfold libLastIndexByte at hz
    split at hz
    · rename_i hc
      cases hz
      exact (h ⟨s.toArray⟩ (c.toNat : Int) (by show s.toArray.size < _; simpa using hc) w).mono fun e w' ⟨h1, h2⟩ => ⟨h1, h2 ▸ Below.refl _ _⟩
    · cases hz
noncomputable def libIndexByte (s : List UInt8) (c : UInt8) : Option Int := some (Lib.indexByte s c)
theorem lok_IndexByte (he : canEnter P f) (h : ∀ (s : ByteArray) (c : UInt8) (w : World), Calls P f #[.string s, .int .u8 (c.toNat : Int)] w fun e w' => e = .returned (.int .i64 (Lib.indexByte s.data.toList c)) ∧ Below w.heap.size w w') : LibOk P W Φ (f, osuI libIndexByte) :=
  libok_osuI he fun s c z hz w φ0 _ => by
    cases hz
    exact h ⟨s.toArray⟩ c w
theorem lok_Itoa (he : canEnter P f) (h : ∀ (i : Nat), i < 100 → ∀ w, Calls P f #[.int .i64 i] w fun e w' => e = .returned (.string ⟨(Lib.decDigits i).toArray⟩) ∧ w' = w) : LibOk P W Φ (f, oiS libItoa) :=
  libok_oiS he fun n z hz w φ0 _ => by
    unfold libItoa at hz
    split at hz
    · rename_i hc
      cases hz
      have hn : ((n.toNat : Nat) : Int) = n := Int.toNat_of_nonneg hc.1
      have := h n.toNat (by omega) w
      rw [hn] at this
      exact this.mono fun e w' ⟨h1, h2⟩ => ⟨h1, h2 ▸ Below.refl _ _⟩
    · cases hz
theorem lok_Join (he : canEnter P f) (h0 : ∀ (a : Option Addr) (c : Nat) (sep : ByteArray) (w : World), Calls P f #[.slice a 0 c, .string sep] w fun e w' => e = .returned (.string ⟨#[]⟩) ∧ w' = w)
    (h : ∀ (bk o c : Nat) (xs : List ByteArray) (sep : ByteArray) (w : World), (∀ (j : Nat) x, xs[j]? = some x → w.cell? ⟨bk, o + j, none⟩ = some (.string x)) → bk < w.heap.size → xs.length ≤ 140737488355328 → xs.length ≤ c → (Lib.join (xs.map (·.data.toList)) sep.data.toList).length ≤ 140737488355328 →
      Calls P f #[.slice (some ⟨bk, o, none⟩) xs.length c, .string sep] w fun e w' => e = .returned (.string ⟨(Lib.join (xs.map (·.data.toList)) sep.data.toList).toArray⟩) ∧ Below w.heap.size w w') : LibOk P W Φ (f, oSsS libJoin) :=
  libok_oSsS he (fun t z hz w φ0 a c _ => by
    unfold libJoin at hz
    split at hz
    · cases hz
      exact (h0 a c ⟨t.toArray⟩ w).mono fun e w' ⟨h1, h2⟩ => ⟨h1, h2 ▸ Below.refl _ _⟩
    · cases hz) fun x xs t z hz w φ0 b o c _ hb hc hcells => by
    unfold libJoin at hz
    split at hz
    · rename_i hl
      cases hz
      have e : ((x :: xs).map fun (s : List UInt8) => (⟨s.toArray⟩ : ByteArray)).map (·.data.toList) = x :: xs := by rw [List.map_map]; exact List.map_id _
      have := h b o c ((x :: xs).map fun (s : List UInt8) => (⟨s.toArray⟩ : ByteArray)) ⟨t.toArray⟩ w (fun j y hy => by
        simp only [List.getElem?_map, Option.map_eq_some_iff] at hy
        obtain ⟨s, hs, rfl⟩ := hy
        exact hcells j s hs) hb (by rw [List.length_map]; exact hl.1) (by rw [List.length_map]; exact hc) (by rw [e]; exact hl.2)
      rw [e, List.length_map] at this
      exact this
    · cases hz
noncomputable def libReplaceAll (s t u : List UInt8) : Option (List UInt8) := if s.length < 4294967281 ∧ 1 ≤ t.length ∧ s.length + Lib.countB ⟨s.toArray⟩ ⟨t.toArray⟩ * u.length ≤ 140737488355328 then some (Lib.replaceAll s t u) else none
theorem later_cell {w : World} {φ0 : Nat → Phys} {g o : Nat} {v : Value} (hL : Later W Φ w φ0) (hΦ : ∀ i c, Φ i ≠ .blk g c) (hm : W.cell? ⟨g, o, none⟩ = some v) : w.cell? ⟨g, o, none⟩ = some v := by
  have hlt : g < W.heap.size := by
    by_cases h : g < W.heap.size
    · exact h
    · have : W.heap[g]? = none := Array.getElem?_eq_none (by omega)
      simp [World.cell?, this] at hm
  have := (hL.keep g hlt hΦ).1
  simp only [World.cell?, this] at hm ⊢
  exact hm
theorem tab_later {P : Program} {w : World} {φ0 : Nat → Phys} {name : String} {k : IntKind} {zs : List Int} (hL : Later W Φ w φ0) (hΦ : ∀ i b c, Φ i ≠ .blk b c) (h : Lib.TabIs P W name k zs) : Lib.TabIs P w name k zs := by
  unfold Lib.TabIs World.var? at h ⊢
  cases hg : P.globalNamed name with
  | none => rw [hg] at h; cases h
  | some g =>
    rw [hg] at h
    simp only [Option.bind_some] at h ⊢
    have hlt : g < W.heap.size := by
      by_cases h' : g < W.heap.size
      · exact h'
      · have : W.heap[g]? = none := Array.getElem?_eq_none (by omega)
        rw [this] at h; cases h
    rw [(hL.keep g hlt (fun i c => hΦ i g c)).1]
    exact h
noncomputable def libItoaL (n : Int) : Option (List UInt8) := if -9223372036854775808 ≤ n ∧ n ≤ 9223372036854775807 then some (Lib.itoa n) else none
theorem lok_ItoaL (hΦ : ∀ i b c, Φ i ≠ .blk b c) (ht : Lib.TabIs P W "internal/strconv.uint64pow10" .u64 Lib.pow10Tab) (he : canEnter P f) (h : ∀ (n : Int), -9223372036854775808 ≤ n → n ≤ 9223372036854775807 → ∀ w : World, Lib.TabIs P w "internal/strconv.uint64pow10" .u64 Lib.pow10Tab →
      Calls P f #[.int .i64 n] w fun e w' => e = .returned (.string ⟨(Lib.itoa n).toArray⟩) ∧ ∃ k os, w' = Go.Sort.grow (w.drewN k) os) : LibOk P W Φ (f, oiS libItoaL) := by
  refine ⟨he, fun args r hr => ?_⟩
  unfold oiS at hr
  simp only at hr
  split at hr
  · rename_i n
    simp only [Option.map_eq_some_iff] at hr
    obtain ⟨z, hz, rfl⟩ := hr
    refine fun E w φ0 R vs hL hE ha => ?_
    obtain ⟨v1, r1, rfl, e1, rfl⟩ := ha
    have e1 : v1 = _ := e1
    subst e1
    unfold libItoaL at hz
    split at hz
    · rename_i hc
      cases hz
      refine (h n hc.1 hc.2 w (tab_later hL hΦ ht)).mono ?_
      rintro e w' ⟨h1, k, os, rfl⟩
      exact ⟨_, h1, rfl, Lib.below_grow _ w (Nat.le_refl _) k os⟩
    · cases hz
  · cases hr
theorem lok_ReplaceAll (g : Nat) (hΦ : ∀ i c, Φ i ≠ .blk g c) (hm : ∃ m, W.cell? ⟨g, 0, none⟩ = some (.int .i64 m)) (he : canEnter P f) (h : ∀ (s old new : ByteArray) (m : Int) (w : World), s.size < 4294967281 → w.cell? ⟨g, 0, none⟩ = some (.int .i64 m) → 1 ≤ old.size → s.size + Lib.countB s old * new.size ≤ 140737488355328 →
      Calls P f #[.string s, .string old, .string new] w fun e w' => e = .returned (.string ⟨(Lib.replaceAll s.data.toList old.data.toList new.data.toList).toArray⟩) ∧ Below w.heap.size w w') : LibOk P W Φ (f, osssS libReplaceAll) :=
  libok_osssS he fun s t u z hz w φ0 hL => by
    unfold libReplaceAll at hz
    split at hz
    · rename_i hc
      cases hz
      obtain ⟨m, hm⟩ := hm
      exact h ⟨s.toArray⟩ ⟨t.toArray⟩ ⟨u.toArray⟩ m w (by show s.toArray.size < _; simpa using hc.1) (later_cell hL hΦ hm) (by show 1 ≤ t.toArray.size; simpa using hc.2.1) (by show s.toArray.size + _ * u.toArray.size ≤ _; simpa using hc.2.2)
    · cases hz
theorem lok_Split {T : TypeId} (g : Nat) (hΦ : ∀ i c, Φ i ≠ .blk g c) (hm : ∃ m, W.cell? ⟨g, 0, none⟩ = some (.int .i64 m)) (he : canEnter P f) (h : ∀ (s sep : ByteArray) (m : Int) (w : World), s.size < 4294967281 → w.cell? ⟨g, 0, none⟩ = some (.int .i64 m) → 1 ≤ sep.size →
      Calls P f #[.string s, .string sep] w fun e w' => e = .returned (.slice (some ⟨w.heap.size, 0, none⟩) (Lib.countB s sep + 1) (Lib.countB s sep + 1)) ∧ w' = w.alloc (.cells ((Lib.splitB sep 0 (Lib.countB s sep) s).map Value.string).toArray T)) : LibOk P W Φ (f, ossL libSplit) :=
  libok_ossL he fun s t z hz w φ0 hL => by
    unfold libSplit at hz
    split at hz
    · rename_i hc
      cases hz
      obtain ⟨m, hm⟩ := hm
      have hs : (⟨s.toArray⟩ : ByteArray).size < 4294967281 := by show s.toArray.size < _; simpa using hc.1
      have ht : 1 ≤ (⟨t.toArray⟩ : ByteArray).size := by show 1 ≤ t.toArray.size; simpa using hc.2
      have hd := Lib.splitB_data ⟨t.toArray⟩ 0 (Lib.countB ⟨s.toArray⟩ ⟨t.toArray⟩) ⟨s.toArray⟩
      have hlen := Lib.splitB_all ⟨t.toArray⟩ ht 0 _ ⟨s.toArray⟩ rfl
      have hle := Lib.countB_le ⟨t.toArray⟩ ht _ ⟨s.toArray⟩ (Nat.le_refl _)
      have hz : Lib.splitK t 0 (Lib.countB ⟨s.toArray⟩ ⟨t.toArray⟩) s = (Lib.splitB ⟨t.toArray⟩ 0 (Lib.countB ⟨s.toArray⟩ ⟨t.toArray⟩) ⟨s.toArray⟩).map (·.data.toList) := hd.symm
      refine (h ⟨s.toArray⟩ ⟨t.toArray⟩ m w hs (later_cell hL hΦ hm) ht).mono ?_
      rintro e w' ⟨h1, h2⟩
      have hl : (Lib.splitK t 0 (Lib.countB ⟨s.toArray⟩ ⟨t.toArray⟩) s).length = Lib.countB ⟨s.toArray⟩ ⟨t.toArray⟩ + 1 := by rw [hz, List.length_map, hlen]
      refine ⟨by rw [hl]; unfold maxLen; omega, by rw [hl]; exact h1, ?_⟩
      rw [h2, hz, List.map_map]
      congr 3
    · cases hz
end
end Go.Proofs.YthblnlmpfgfgcaaDoor.Pm
