/- strconv.Atoi with its errors, strings.TrimRight of a set, told to the small machine. -/
import Derived.Test.YtcbhpadficfnnaaDoorLib1
import Derived.Shelf.Strconv.AtoiAll
import Derived.Shelf.Strings.SlTrimAscii
namespace Go.Proofs.YtcbhpadficfnnaaDoor.Pm
open Go.RowKit
variable {P : Program} {W : World} {Φ : Nat → Phys} {f : Nat}
/-- A string to a number, and whether there is an error. -/
def osE (g : List UInt8 → Option (Int × Bool)) : List PV → Option PV
  | [.d (.str s)] => (g s).map fun z => .tup [.d (.int .i64 z.1), .d (.err z.2)]
  | _ => none
theorem osE_ {g : List UInt8 → Option (Int × Bool)} {s : List UInt8} {z : Int × Bool} (h : g s = some z) : osE g [.d (.str s)] = some (.tup [.d (.int .i64 z.1), .d (.err z.2)]) := by simp [osE, h]
def EV (b : Bool) (v : Value) : Prop := (b = false ∧ v = .nilIface) ∨ (b = true ∧ ∃ t p, v = .iface t p)
theorem libok_osE {g : List UInt8 → Option (Int × Bool)} (he : canEnter P f) (h : ∀ s z, g s = some z → ∀ w φ0, Later W Φ w φ0 → Calls P f #[.string ⟨s.toArray⟩] w fun e w' => (∃ v, e = .returned (.tuple #[.int .i64 z.1, v]) ∧ EV z.2 v) ∧ Below w.heap.size w w') : LibOk P W Φ (f, osE g) := by
  refine ⟨he, fun args r hr => ?_⟩
  unfold osE at hr
  simp only at hr
  split at hr
  · rename_i s
    simp only [Option.map_eq_some_iff] at hr
    obtain ⟨z, hz, rfl⟩ := hr
    refine fun E w φ0 R vs hL hE ha => ?_
    obtain ⟨v1, r1, rfl, e1, rfl⟩ := ha
    have e1 : v1 = _ := e1
    subst e1
    exact (h s z hz w φ0 hL).mono fun e w' ⟨⟨v, h1, hv⟩, h2⟩ => ⟨_, h1, ⟨_, rfl, _, _, rfl, rfl, _, _, rfl, hv, rfl⟩, h2⟩
  · cases hr
/-- No numeral, and not only too large a one. -/
def noNum (q : Lib.NumEnd Int) : Bool := match q with
  | .ok _ => false
  | .range => false
  | _ => true
noncomputable def libAtoi (s : List UInt8) : Option (Int × Bool) := if s.length ≤ 281474976710656 then (match Lib.atoiAll s with
  | .ok v => some (v, false)
  | .range => some (Lib.atoiSat s, true)
  | _ => some (0, true)) else none
/-- What the error variables hold. -/
def ErrAt (g : Nat) (w : World) : Prop := ∃ ev, w.cell? ⟨g, 0, none⟩ = some ev ∧ (ev = .nilIface ∨ ∃ te pe, ev = .iface te pe)
theorem errAt_later {w : World} {φ0 : Nat → Phys} {g : Nat} (hL : Later W Φ w φ0) (hΦ : ∀ i b c, Φ i ≠ .blk b c) (h : ErrAt g W) : ErrAt g w := by
  obtain ⟨ev, h1, h2⟩ := h
  exact ⟨ev, later_cell hL (fun i c => hΦ i g c) h1, h2⟩
theorem lok_Atoi {gs gr : Nat} (hΦ : ∀ i b c, Φ i ≠ .blk b c) (hes : ErrAt gs W) (her : ErrAt gr W) (he : canEnter P f)
    (h1 : ∀ (s : ByteArray), s.size ≤ 9223372036854775806 → ∀ v, Lib.atoiAll s.data.toList = .ok v → ∀ w, Calls P f #[.string s] w fun e w' => e = .returned (.tuple #[.int .i64 v, .nilIface]) ∧ (w' = w ∨ ∃ T t, w' = Lib.bytesWorld w T t))
    (h2 : ∀ (s : ByteArray), s.size ≤ 281474976710656 → noNum (Lib.atoiAll s.data.toList) = true → ∀ ev w, w.cell? ⟨gs, 0, none⟩ = some ev → (ev = .nilIface ∨ ∃ te pe, ev = .iface te pe) → Calls P f #[.string s] w fun e w' => (∃ T N, e = .returned (.tuple #[.int .i64 0, .iface T (.pointer (some ⟨N, 0, none⟩))])) ∧ Below w.heap.size w w')
    (h3 : ∀ (s : ByteArray), s.size ≤ 281474976710656 → Lib.atoiAll s.data.toList = .range → ∀ ev w, w.cell? ⟨gr, 0, none⟩ = some ev → (ev = .nilIface ∨ ∃ te pe, ev = .iface te pe) → Calls P f #[.string s] w fun e w' => (∃ T N, e = .returned (.tuple #[.int .i64 (Lib.atoiSat s.data.toList), .iface T (.pointer (some ⟨N, 0, none⟩))])) ∧ Below w.heap.size w w') :
    LibOk P W Φ (f, osE libAtoi) :=
  libok_osE he fun s z hz w φ0 hL => by
    have hs : (⟨s.toArray⟩ : ByteArray).size = s.length := by show s.toArray.size = _; simp
    unfold libAtoi at hz
    split at hz
    · rename_i hl
      split at hz
      · rename_i v hv
        cases hz
        refine (h1 ⟨s.toArray⟩ (by rw [hs]; omega) v hv w).mono fun e w' ⟨a, b⟩ => ⟨⟨_, a, .inl ⟨rfl, rfl⟩⟩, ?_⟩
        rcases b with rfl | ⟨T, t, rfl⟩
        · exact Below.refl _ _
        · exact Lib.bytesWorld_below _ T t
      · rename_i hv
        cases hz
        obtain ⟨ev, a, b⟩ := errAt_later hL hΦ her
        exact (h3 ⟨s.toArray⟩ (by rw [hs]; omega) hv ev w a b).mono fun e w' ⟨⟨T, N, a⟩, b⟩ => ⟨⟨_, a, .inr ⟨rfl, _, _, rfl⟩⟩, b⟩
      · rename_i q1 q2
        cases hz
        have hv : noNum (Lib.atoiAll s) = true := by
          generalize Lib.atoiAll s = q at q1 q2
          cases q with
          | ok v => exact (q1 v rfl).elim
          | range => exact (q2 rfl).elim
          | _ => rfl
        obtain ⟨ev, a, b⟩ := errAt_later hL hΦ hes
        exact (h2 ⟨s.toArray⟩ (by rw [hs]; omega) hv ev w a b).mono fun e w' ⟨⟨T, N, a⟩, b⟩ => ⟨⟨_, a, .inr ⟨rfl, _, _, rfl⟩⟩, b⟩
    · cases hz
noncomputable def libTrimRightS (s t : List UInt8) : Option (List UInt8) := if s.length ≤ 9223372036854775807 ∧ t.length < 4294967281 ∧ t.all (fun b => decide (b.toNat < 128)) = true then some (Lib.trimRightS s t) else none
theorem lok_TrimRightS (he : canEnter P f) (h : ∀ (s cutset : ByteArray) (w : World), s.size ≤ 9223372036854775807 → cutset.size < 4294967281 → (∀ (j : Nat) b, cutset.data.toList[j]? = some b → b.toNat < 128) → Calls P f #[.string s, .string cutset] w fun e w' => e = .returned (.string ⟨(Lib.trimRightS s.data.toList cutset.data.toList).toArray⟩) ∧ Below w.heap.size w w') : LibOk P W Φ (f, ossS libTrimRightS) :=
  libok_ossS he fun s t z hz w φ0 _ => by
    unfold libTrimRightS at hz
    split at hz
    · rename_i hl
      cases hz
      refine (h ⟨s.toArray⟩ ⟨t.toArray⟩ w (by show s.toArray.size ≤ _; simp; omega) (by show t.toArray.size < _; simp; omega) (ascii_of_all (by simpa using hl.2.2)))
    · cases hz
end Go.Proofs.YtcbhpadficfnnaaDoor.Pm
