/- strings.ContainsAny of any text and the three bytes 13, 10, 8: walked, and told to the small machine. -/
import Derived.Test.YtjbealoilhjadaaDoorLib1
import Derived.Shelf.Strings.IndexAnyAll
import Derived.Shelf.Small.Utf8
import Derived.Laws.RangeAny
import Derived.WalkMore
import Derived.Deep.DeepBigQuietO
namespace Go.Proofs.YtjbealoilhjadaaDoor.La
open Go Go.Proofs Go.Shelf Go.RowKit Go.Lib
variable {P : Program} {ρ : Ren}
def lineB : ByteArray := ⟨#[13, 10, 8]⟩
theorem enc_cases (r : Int) (h0 : 128 ≤ r) : (∃ x y : UInt8, Utf8.encode r = ⟨#[x, y]⟩ ∧ 128 ≤ y.toNat) ∨ (∃ x y z : UInt8, Utf8.encode r = ⟨#[x, y, z]⟩ ∧ 128 ≤ z.toNat) ∨ (∃ x y z t : UInt8, Utf8.encode r = ⟨#[x, y, z, t]⟩ ∧ 128 ≤ t.toNat) := by
  have hb : ∀ c : Nat, 128 ≤ (UInt8.ofNat (0x80 + c % 64)).toNat := fun c => by simp; omega
  have hc : 128 ≤ (if Utf8.valid r then r.toNat else Utf8.runeError) := by
    split
    · omega
    · decide
  unfold Utf8.encode
  dsimp only
  generalize (if Utf8.valid r = true then r.toNat else Utf8.runeError) = c at hc
  rw [if_neg (by omega)]
  split
  · exact .inl ⟨_, _, rfl, hb c⟩
  split
  · exact .inr (.inl ⟨_, _, _, rfl, hb c⟩)
  · exact .inr (.inr ⟨_, _, _, _, rfl, hb c⟩)
theorem ne_of_high {y b : UInt8} (h : 128 ≤ y.toNat) (hb : b.toNat < 128) : (b != y) = true := by
  simp; intro e; subst e; omega
theorem idx_neg (k : Nat) (v : Nat) (h : 128 ≤ v) (h' : v < 256) : Lib.indexByte (lineB.extract k 3).data.toList v.toUInt8 = -1 := by
  have key : ∀ l : List UInt8, (∀ b ∈ l, b.toNat < 128) → Lib.indexByte l v.toUInt8 = -1 := by
    intro l hl
    have h0 := Lib.contains_iff_indexByte l v.toUInt8
    have hge := Lib.indexByte_ge l v.toUInt8
    have : l.contains v.toUInt8 = false := by
      cases e : l.contains v.toUInt8 with
      | false => rfl
      | true =>
        have := hl _ (List.contains_iff_mem.1 e)
        have hv : v.toUInt8.toNat = v := by simp [Nat.toUInt8]; omega
        omega
    rw [this] at h0
    have := of_decide_eq_false h0.symm
    omega
  apply key
  intro b hb
  have : b ∈ lineB.data.toList := by
    simp at hb
    exact List.mem_of_mem_drop (List.mem_of_mem_take hb)
  simp [lineB] at this
  rcases this with rfl | rfl | rfl <;> decide
theorem below_drewN (w : World) (n : Nat) : Below w.heap.size w (w.drewN n) := by
  obtain ⟨h1, h2, h3, h4, h5⟩ := Below.refl w.heap.size w
  exact ⟨rfl, rfl, rfl, Nat.le_refl _, fun _ _ => rfl⟩
set_option maxHeartbeats 4000000 in
set_option maxRecDepth 1000000 in
theorem IndexRune_err (L : Lays.n152 P ρ) (w : World) :
    Calls P (ρ.f 152) #[.string lineB, .int .i32 65533] w fun e w' => e = .returned (.int .i64 (-1)) ∧ Below w.heap.size w w' := by
  have t3 := L.t3; have a3 := L.a3; have z3 := L.z3; have v3 := L.v3
  have t4 := L.t4; have a4 := L.a4; have z4 := L.z4; have v4 := L.v4
  have t5 := L.t5; have a5 := L.a5; have z5 := L.z5; have v5 := L.v5
  have t9 := L.t9; have a9 := L.a9; have z9 := L.z9; have v9 := L.v9
  have t21 := L.t21; have a21 := L.a21; have z21 := L.z21; have v21 := L.v21
  have mixed := L.mixed
  have e137 : ∀ args w, (callFunc (ρ.f 137) args).run P w = .ok (.enter (ρ.f 137) args) w := enters_of L.f137 (by kernel_rfl) rfl
  have e119 : ∀ args w, (callFunc (ρ.f 119) args).run P w = .ok (.enter (ρ.f 119) args) w := enters_of L.f119 (by kernel_rfl) rfl
  go_enter L.f152, Body.n152_ntmps ρ
  go_wp2
  go_loopg [5, 6] 3 (fun g _ _ wx => ∃ i : Nat, i + g = 3 ∧ wx = w.iter lineB i)
  case atStart => exact ⟨0, by omega, rfl⟩
  case round =>
    obtain ⟨i, hig, rfl⟩ := hrel
    cases gk with
    | zero =>
      obtain rfl : i = 3 := by omega
      have hnx := fun ty => run_next_end (P := P) w lineB 3 ty (by decide)
      go_wp2
      go_ret
      exact ⟨rfl, (Below.refl _ _).alloc (Nat.le_refl _) _⟩
    | succ g =>
      have hi : i < lineB.size := by show i < 3; omega
      have hb : ∀ k (h : k < lineB.size), (lineB[k]'h).toNat < 128 := by
        intro k h
        have : k < 3 := h
        obtain rfl | rfl | rfl : k = 0 ∨ k = 1 ∨ k = 2 := by omega
        · exact (by decide : (13 : UInt8).toNat < 128)
        · exact (by decide : (10 : UInt8).toNat < 128)
        · exact (by decide : (8 : UInt8).toNat < 128)
      obtain ⟨x, hx⟩ : ∃ x : UInt8, lineB[i]'hi = x := ⟨_, rfl⟩
      have hx128 : x.toNat < 128 := by rw [← hx]; exact hb i hi
      have hnx := fun ty => run_next_ascii (P := P) w lineB i ty hi (by rw [hx]; exact hx128)
      rw [hx] at hnx
      have hne : ((x.toNat : Int) == 65533) = false := beq_eq_false_iff_ne.2 (by omega)
      clear hx hb
      go_wp2
      go_roundg g
      case measure => omega
      case rel => exact ⟨i + 1, by omega, rfl⟩
set_option maxHeartbeats 20000000 in
set_option maxRecDepth 1000000 in
/-- A rune that is no ASCII one is not among the three. -/
theorem IndexRune_three (L : Lays.n152 P ρ) (r : Int) (w : World) (h0 : 128 ≤ r) (h1 : r ≤ 1114111) (h2 : r ≠ 65533) :
    Calls P (ρ.f 152) #[.string lineB, .int .i32 r] w fun e w' => e = .returned (.int .i64 (-1)) ∧ Below w.heap.size w w' := by
  have t3 := L.t3; have a3 := L.a3; have z3 := L.z3; have v3 := L.v3
  have t4 := L.t4; have a4 := L.a4; have z4 := L.z4; have v4 := L.v4
  have t5 := L.t5; have a5 := L.a5; have z5 := L.z5; have v5 := L.v5
  have t9 := L.t9; have a9 := L.a9; have z9 := L.z9; have v9 := L.v9
  have t21 := L.t21; have a21 := L.a21; have z21 := L.z21; have v21 := L.v21
  have mixed := L.mixed
  have e137 : ∀ args w, (callFunc (ρ.f 137) args).run P w = .ok (.enter (ρ.f 137) args) w := enters_of L.f137 (by kernel_rfl) rfl
  have e119 : ∀ args w, (callFunc (ρ.f 119) args).run P w = .ok (.enter (ρ.f 119) args) w := enters_of L.f119 (by kernel_rfl) rfl
  have hIB : ∀ k (v : Nat) (w : World) a n, 128 ≤ v → v < 256 → Calls P (ρ.f 137) #[.string (lineB.extract k 3), .int .u8 v] (w.drewN (a + n)) fun e w'' => e = .returned (.int .i64 (-1)) ∧ ∃ m, w'' = w.drewN (a + m) :=
    fun k v w a n h h' => (Any.strings_IndexByte { L with } (lineB.extract k 3) (v : Int) _).mono fun e w' ⟨h1, h2⟩ => ⟨by rw [h1]; exact congrArg (fun t => Ending.returned (Value.int .i64 t)) (idx_neg k v h h'), n, h2⟩
  have hIB0 : ∀ (v : Nat) (w : World) a n, Calls P (ρ.f 137) #[.string ByteArray.empty, .int .u8 v] (w.drewN (a + n)) fun e w'' => e = .returned (.int .i64 (-1)) ∧ ∃ m, w'' = w.drewN (a + m) :=
    fun v w a n => (Any.strings_IndexByte { L with } ByteArray.empty (v : Int) _).mono fun e w' ⟨h1, h2⟩ => ⟨h1, n, h2⟩
  have hsz : lineB.size = 3 := rfl
  cases hv : Lib.validRune r
  · go_enter L.f152, Body.n152_ntmps ρ
    go_wp2_with (go_at_fn (ρ.f 119); refine (Any.utf8_ValidRune { L with } _ _).mono ?_; rintro e w' ⟨rfl, hw⟩; rw [hw, hv])
    go_ret
    exact ⟨rfl, Below.refl _ _⟩
  · obtain ⟨rs, hrs⟩ : ∃ rs, Utf8.encode r = rs := ⟨_, rfl⟩
    have hcs := enc_cases r h0
    rw [hrs] at hcs
    go_enter L.f152, Body.n152_ntmps ρ
    go_wp2_with (go_at_fn (ρ.f 119); refine (Any.utf8_ValidRune { L with } _ _).mono ?_; rintro e w' ⟨rfl, hw⟩; rw [hw, hv])
    go_step3
    go_wp2
    rcases hcs with ⟨x, y, rfl, hy⟩ | ⟨x, y, z, rfl, hz⟩ | ⟨x, y, z, t, rfl, ht⟩
    · have hs2 : (⟨#[x, y]⟩ : ByteArray).size = 2 := rfl
      have hyv : (⟨#[x, y]⟩ : ByteArray)[1]'(Nat.lt_of_lt_of_eq (by decide : 1 < 2) hs2.symm) = y := rfl
      have hw1 : wrap64 (((⟨#[x, y]⟩ : ByteArray).size : Int) - 1) = 1 := by rw [hs2]; exact IntWalk.wrap64_in _ (by omega)
      have hlt : y.toNat < 256 := y.toNat_lt
      rw [hw1]
      have hn : (((lineB[1]'(by decide)).toNat : Int) != (((⟨#[x, y]⟩ : ByteArray)[1]'(Nat.lt_of_lt_of_eq (by decide : 1 < 2) hs2.symm)).toNat : Int)) = true := by
        show ((10 : Int) != (y.toNat : Int)) = true
        exact bne_iff_ne.2 (by omega)
      have hn2 : (((lineB[1]'(by decide)).toNat : Int) != (y.toNat : Int)) = true := hn
      go_loopw [9] (fun s0 wr => wr = w ∧ s0 = .int .i64 1) (fun _ _ => 0)
      case atStart => exact ⟨rfl, rfl⟩
      case round =>
        obtain ⟨rfl, rfl⟩ := hrel
        go_wp2_with fail
        go_step3
        go_wp2_with fail
        go_big_quiet_o (fail)
        go_wp2_with fail
        go_big_quiet_o (first | exact hIB _ _ _ _ _ (by first | exact hy | (rw [hyv]; exact hy)) (by first | exact hlt | (rw [hyv]; exact hlt)))
        go_wp2_with fail
        go_wp2
        repeat (rw [Exit.noGoto_ret]; go_wp2)
        go_ret
        refine ⟨?_, ?_⟩
        · rfl
        · exact below_drewN _ _
    · have hs2 : (⟨#[x, y, z]⟩ : ByteArray).size = 3 := rfl
      have hyv : (⟨#[x, y, z]⟩ : ByteArray)[2]'(Nat.lt_of_lt_of_eq (by decide : 2 < 3) hs2.symm) = z := rfl
      have hw1 : wrap64 (((⟨#[x, y, z]⟩ : ByteArray).size : Int) - 1) = 2 := by rw [hs2]; exact IntWalk.wrap64_in _ (by omega)
      have hlt : z.toNat < 256 := z.toNat_lt
      rw [hw1]
      have hn : (((lineB[2]'(by decide)).toNat : Int) != (((⟨#[x, y, z]⟩ : ByteArray)[2]'(Nat.lt_of_lt_of_eq (by decide : 2 < 3) hs2.symm)).toNat : Int)) = true := by
        show ((8 : Int) != (z.toNat : Int)) = true
        exact bne_iff_ne.2 (by omega)
      have hn2 : (((lineB[2]'(by decide)).toNat : Int) != (z.toNat : Int)) = true := hn
      go_loopw [9] (fun s0 wr => wr = w ∧ s0 = .int .i64 2) (fun _ _ => 0)
      case atStart => exact ⟨rfl, rfl⟩
      case round =>
        obtain ⟨rfl, rfl⟩ := hrel
        go_wp2_with fail
        go_step3
        go_wp2_with fail
        go_big_quiet_o (fail)
        go_wp2_with fail
        go_big_quiet_o (exact hIB0 _ _ _ _)
        go_wp2_with fail
        go_wp2
        repeat (rw [Exit.noGoto_ret]; go_wp2)
        go_ret
        refine ⟨?_, ?_⟩
        · rfl
        · exact below_drewN _ _
    · have hs2 : (⟨#[x, y, z, t]⟩ : ByteArray).size = 4 := rfl
      have hyv : (⟨#[x, y, z, t]⟩ : ByteArray)[3]'(Nat.lt_of_lt_of_eq (by decide : 3 < 4) hs2.symm) = t := rfl
      have hw1 : wrap64 (((⟨#[x, y, z, t]⟩ : ByteArray).size : Int) - 1) = 3 := by rw [hs2]; exact IntWalk.wrap64_in _ (by omega)
      have hlt : t.toNat < 256 := t.toNat_lt
      rw [hw1]
      go_loopw [9] (fun s0 wr => wr = w ∧ s0 = .int .i64 3) (fun _ _ => 0)
      case atStart => exact ⟨rfl, rfl⟩
      case round =>
        obtain ⟨rfl, rfl⟩ := hrel
        go_wp2
        repeat (rw [Exit.noGoto_ret]; go_wp2)
        go_ret
        exact ⟨rfl, Below.refl _ _⟩
theorem IndexRune_line (L : Lays.n152 P ρ) (r : Int) (w : World) (h0 : 128 ≤ r) (h1 : r ≤ 1114111) :
    Calls P (ρ.f 152) #[.string lineB, .int .i32 r] w fun e w' => e = .returned (.int .i64 (-1)) ∧ Below w.heap.size w w' := by
  by_cases h : r = 65533
  · subst h; exact IndexRune_err L w
  · exact IndexRune_three L r w h0 h1 h
/-- The iterator over s, wherever it lies. -/
def setIter (w : World) (k : Nat) (s : ByteArray) (p : Nat) : World := { w with heap := w.heap.setIfInBounds k (.stringIter s p) }
theorem run_next_at (w : World) (k : Nat) (s : ByteArray) (pos : Nat) (ty : TypeId) (hk : w.heap[k]? = some (.stringIter s pos)) (h : pos < s.size) :
    (Instr.next (.pointer (some ⟨k, 0, none⟩)) true ty).run P w =
      .ok (.tuple #[.bool true, .int .i64 pos, .int .i32 (Utf8.decode s pos).1]) (setIter w k s (pos + (Utf8.decode s pos).2)) := by
  simp only [Instr.next, getObj, setObj, Sem.run_bind, Sem.run, hk, Result.andThen, h, if_true]
  simp [goInt, setIter]
theorem run_next_stop (w : World) (k : Nat) (s : ByteArray) (pos : Nat) (ty : TypeId) (hk : w.heap[k]? = some (.stringIter s pos)) (h : ¬ pos < s.size) :
    (Instr.next (.pointer (some ⟨k, 0, none⟩)) true ty).run P w = .ok (.tuple #[.bool false]) w := by
  simp [Instr.next, getObj, Sem.run, hk, h]
theorem setIter_heap (w : World) (k : Nat) (s s' : ByteArray) (p p' : Nat) (hk : w.heap[k]? = some (.stringIter s' p')) : (setIter w k s p).heap[k]? = some (.stringIter s p) := by
  have : k < w.heap.size := by
    rcases Nat.lt_or_ge k w.heap.size with h | h
    · exact h
    · rw [Array.getElem?_eq_none h] at hk; cases hk
  simp [setIter, Array.getElem?_setIfInBounds, this]
theorem setIter_below {a w : World} {k : Nat} (h : Below k a w) (s : ByteArray) (p : Nat) : Below k a (setIter w k s p) :=
  h.trans ⟨rfl, rfl, rfl, by simp [setIter], fun i hi => by simp [setIter, Array.getElem?_setIfInBounds]; omega⟩
theorem get!_at (s : ByteArray) (k : Nat) (h : k < s.size) : s.get! k = s[k]'h := by
  simp [ByteArray.get!, getElem!_pos, h]
  rfl
/-- A rune that is no ASCII one: all its bytes are high ones; it is a code point. -/
theorem decode_bytes (s : ByteArray) (i : Nat) (hi : i < s.size) (h : 128 ≤ (s[i]'hi).toNat) :
    128 ≤ (Utf8.decode s i).1 ∧ (Utf8.decode s i).1 ≤ 1114111 ∧ 1 ≤ (Utf8.decode s i).2 ∧ ∀ j (hj : j < s.size), i ≤ j → j < i + (Utf8.decode s i).2 → 128 ≤ (s[j]'hj).toNat := by
  have h0 := decode_high s i hi h
  refine ⟨h0.1, ?_, h0.2, ?_⟩
  · have hn : ¬ (s[i]'hi).toNat < 128 := by omega
    simp only [Utf8.decode, get_at s i hi, hn, if_false]
    repeat' split
    all_goals simp_all [Utf8.runeError, Utf8.valid]
    all_goals omega
  · intro j hj hij hlt
    have hn : ¬ (s[i]'hi).toNat < 128 := by omega
    have hc : ∀ k, (decide (i + k < s.size) && (s.get! (i + k)).toNat / 64 == 2) = true → j = i + k → 128 ≤ (s[j]'hj).toNat := by
      intro k hk e
      simp at hk
      subst e
      rw [get!_at s _ hj] at hk
      omega
    have hz : j = i → 128 ≤ (s[j]'hj).toNat := by intro e; subst e; exact h
    revert hlt
    simp only [Utf8.decode, get_at s i hi, hn, if_false]
    have h1 := hc 1; have h2 := hc 2; have h3 := hc 3
    clear hc
    repeat' split
    all_goals intro hlt
    all_goals simp only [Bool.and_eq_true] at *
    all_goals try dsimp only at hlt
    all_goals (first
      | (exact hz (by omega))
      | (have hd : j = i ∨ j = i + 1 := by omega
         rcases hd with e | e
         · exact hz e
         · exact h1 (by simp_all) e)
      | (have hd : j = i ∨ j = i + 1 ∨ j = i + 2 := by omega
         rcases hd with e | e | e
         · exact hz e
         · exact h1 (by simp_all) e
         · exact h2 (by simp_all) e)
      | (have hd : j = i ∨ j = i + 1 ∨ j = i + 2 ∨ j = i + 3 := by omega
         rcases hd with e | e | e | e
         · exact hz e
         · exact h1 (by simp_all) e
         · exact h2 (by simp_all) e
         · exact h3 (by simp_all) e))
theorem NoAny_more {s : ByteArray} {i n : Nat} (h : Lib.NoAny s.data.toList lineB.data.toList i) (hb : ∀ j (hj : j < s.size), i ≤ j → j < i + n → 128 ≤ (s[j]'hj).toNat) : Lib.NoAny s.data.toList lineB.data.toList (i + n) := by
  intro j b hj hjb
  by_cases e : j < i
  · exact h j b e hjb
  · have hlt : j < s.size := by
      rcases Nat.lt_or_ge j s.size with h' | h'
      · exact h'
      · rw [List.getElem?_eq_none (by rw [← Lib.size_eq]; exact h')] at hjb; cases hjb
    have h1 := hb j hlt (by omega) hj
    rw [Lib.data_getElem? s j hlt] at hjb
    cases hjb
    cases e' : lineB.data.toList.contains (s[j]'hlt) with
    | false => rfl
    | true =>
      have := List.contains_iff_mem.1 e'
      simp [lineB] at this
      rcases this with e2 | e2 | e2 <;> rw [e2] at h1 <;> exact absurd h1 (by decide)
theorem NoAny_end {s : ByteArray} {i : Nat} (h : Lib.NoAny s.data.toList lineB.data.toList i) (hi : s.size ≤ i) : Lib.NoAny s.data.toList lineB.data.toList s.data.toList.length :=
  fun j b hj hjb => h j b (by rw [Lib.size_eq] at hi; omega) hjb
set_option maxHeartbeats 8000000 in
set_option maxRecDepth 1000000 in
/-- Whether a short text holds one of the three. -/
theorem IndexAny_lineShort (L : Lays.n153 P ρ) (s : ByteArray) (w : World) (h8 : s.size ≤ 8) :
    Calls P (ρ.f 153) #[.string s, .string lineB] w fun e w' => e = .returned (.int .i64 (Lib.indexAny s.data.toList lineB.data.toList)) ∧ Below w.heap.size w w' := by
  have hemp : lineB.toList.isEmpty = false := by rw [Lib.toList_data]; rfl
  have hn1 : ((lineB.size : Int) == 1) = false := rfl
  have h8z : decide ((8 : Int) < (s.size : Int)) = false := decide_eq_false (by omega)
  have t3 := L.t3; have a3 := L.a3; have z3 := L.z3; have v3 := L.v3
  have t4 := L.t4; have a4 := L.a4; have z4 := L.z4; have v4 := L.v4
  have t5 := L.t5; have a5 := L.a5; have z5 := L.z5; have v5 := L.v5
  have t9 := L.t9; have a9 := L.a9; have z9 := L.z9; have v9 := L.v9
  have t21 := L.t21; have a21 := L.a21; have z21 := L.z21; have v21 := L.v21
  have e152 : ∀ args w, (callFunc (ρ.f 152) args).run P w = .ok (.enter (ρ.f 152) args) w := enters_of L.f152 (by kernel_rfl) rfl
  have e226 : ∀ args w, (callFunc (ρ.f 226) args).run P w = .ok (.enter (ρ.f 226) args) w := enters_of L.f226 (by kernel_rfl) rfl
  go_enter L.f153, Body.n153_ntmps ρ
  go_wp2_with (go_at_fn (ρ.f 226); refine (Any.strings_shouldUseASCIISet { L with } _ _).mono ?_; rintro e w' ⟨rfl, hw⟩; rw [hw, h8z])
  go_loopg [9, 10] s.size (fun g _ _ wx => ∃ i : Nat, s.size ≤ i + g ∧ wx.heap[w.heap.size]? = some (.stringIter s i) ∧ Below w.heap.size w wx ∧ Lib.NoAny s.data.toList lineB.data.toList i)
  case atStart => exact ⟨0, by omega, World.iter_heap _ _ _, (Below.refl _ _).alloc (Nat.le_refl _) _, Lib.NoAny.zero _ _⟩
  case round =>
    obtain ⟨i, hig, hit, hbe, hno⟩ := hrel
    have HN : Aside (Lib.NoAny s.data.toList lineB.data.toList i) := hno
    have HI : Aside (wr.heap[w.heap.size]? = some (.stringIter s i)) := hit
    have HB : Aside (Below w.heap.size w wr) := hbe
    clear hno hit hbe
    by_cases hi : i < s.size
    · cases gk with
      | zero => omega
      | succ g =>
        obtain ⟨x, hx⟩ : ∃ x : UInt8, s[i]'hi = x := ⟨_, rfl⟩
        have hxl : s.data.toList[i]? = some x := by rw [← hx]; exact Lib.data_getElem? s i hi
        have Hx : Aside (s.data.toList[i]? = some x) := hxl
        have hnx := fun ty => run_next_at (P := P) wr w.heap.size s i ty HI.out hi
        by_cases hlow : x.toNat < 128
        · have hd := decode_ascii s i hi (by rw [hx]; exact hlow)
          rw [hd, hx] at hnx
          clear hxl hx hd
          have hcon := Lib.contains_iff_indexByte lineB.data.toList x
          have hback : ((x.toNat : Int)).toNat.toUInt8 = x := by simp
          have HI2 : Aside ((setIter wr w.heap.size s (i + 1)).heap[w.heap.size]? = some (.stringIter s (i + 1))) := setIter_heap _ _ _ _ _ _ HI.out
          have HB2 : Aside (Below w.heap.size w (setIter wr w.heap.size s (i + 1))) := setIter_below HB.out _ _
          cases hin : lineB.data.toList.contains x
          · rw [hin] at hcon
            have hlt : ¬ ((0 : Int) ≤ Lib.indexByte lineB.data.toList x) := of_decide_eq_false hcon.symm
            clear hcon
            go_wp2_with (go_at_fn (ρ.f 152); refine (Any.strings_IndexRune_ascii { L with } _ _ _ (by omega) (by omega)).mono ?_; rintro e w' ⟨rfl, hw⟩; rw [hw, hback])
            go_roundg g
            case measure => omega
            case rel => exact ⟨i + 1, by omega, HI2.out, HB2.out, HN.out.succ Hx.out hin⟩
          · rw [hin] at hcon
            have hge : (0 : Int) ≤ Lib.indexByte lineB.data.toList x := of_decide_eq_true hcon.symm
            clear hcon
            go_wp2_with (go_at_fn (ρ.f 152); refine (Any.strings_IndexRune_ascii { L with } _ _ _ (by omega) (by omega)).mono ?_; rintro e w' ⟨rfl, hw⟩; rw [hw, hback])
            go_ret
            exact ⟨by rw [Lib.indexAny_hit HN.out Hx.out hin]; rfl, HB2.out⟩
        · obtain ⟨d1, d2, d3, d4⟩ := decode_bytes s i hi (by rw [hx]; omega)
          have HD : Aside (Lib.NoAny s.data.toList lineB.data.toList (i + (Utf8.decode s i).2)) := NoAny_more HN.out d4
          obtain ⟨c, hc⟩ : ∃ c, (Utf8.decode s i).1 = c := ⟨_, rfl⟩
          obtain ⟨n, hn⟩ : ∃ n, (Utf8.decode s i).2 = n := ⟨_, rfl⟩
          rw [hc, hn] at hnx
          rw [hc] at d1 d2
          rw [hn] at d3 HD
          have HI2 : Aside ((setIter wr w.heap.size s (i + n)).heap[w.heap.size]? = some (.stringIter s (i + n))) := setIter_heap _ _ _ _ _ _ HI.out
          have HB2 : Aside (Below w.heap.size w (setIter wr w.heap.size s (i + n))) := setIter_below HB.out _ _
          clear d4 hc hn hx hxl
          go_wp2_with (go_at_fn (ρ.f 152); refine (IndexRune_line { L with } _ _ (by omega) (by omega)).mono ?_; rintro e w' ⟨rfl, hw⟩; replace hw := (show Aside _ from hw))
          go_roundg g
          case measure => omega
          case rel =>
            have hk : w.heap.size < (setIter wr w.heap.size s (i + n)).heap.size := by
              rcases Nat.lt_or_ge w.heap.size (setIter wr w.heap.size s (i + n)).heap.size with h | h
              · exact h
              · have := HI2.out; rw [Array.getElem?_eq_none h] at this; cases this
            exact ⟨i + n, by omega, by rw [hw.out.block _ hk]; exact HI2.out, HB2.out.trans (hw.out.mono (by omega)), HD.out⟩
    · have hnx := fun ty => run_next_stop (P := P) wr w.heap.size s i ty HI.out hi
      go_wp2
      go_ret
      exact ⟨by rw [Lib.indexAny_none (NoAny_end HN.out (by omega))]; rfl, HB.out⟩
set_option maxHeartbeats 4000000 in
/-- strings.ContainsAny of any text and the three. -/
theorem ContainsAny_line (L : Lays.n150 P ρ) (h116 : (P.info? (ρ.t 116)).map (fun i => (i.zero, i.size)) = some (some (.agg (Array.replicate 256 (.bool false))), 256)) (s : ByteArray) (w : World) (hs : s.size < 4294967281) :
    Calls P (ρ.f 150) #[.string s, .string lineB] w fun e w' => e = .returned (.bool (Lib.containsAny s.data.toList lineB.data.toList)) ∧ Below w.heap.size w w' := by
  have c : ∀ w, Calls P (ρ.f 153) #[.string s, .string lineB] w fun e w' => e = .returned (.int .i64 (Lib.indexAny s.data.toList lineB.data.toList)) ∧ Below w.heap.size w w' := by
    intro w
    by_cases h8 : s.size ≤ 8
    · exact IndexAny_lineShort { L with } s w h8
    · refine (Any.strings_IndexAny_long { L with } (zero_of_info h116).1 (zero_of_info h116).2 s lineB w (by decide) (by omega) hs (by decide) ?_).mono fun e w' ⟨h1, h2⟩ => ⟨h1, ?_⟩
      · intro j b h
        have hm := List.mem_of_getElem? h
        simp [lineB] at hm
        rcases hm with rfl | rfl | rfl <;> decide
      · rw [h2]; exact (((Below.refl _ w).alloc (Nat.le_refl _) _).alloc (by simp) _)
  have t3 := L.t3; have a3 := L.a3; have z3 := L.z3; have v3 := L.v3
  have t4 := L.t4; have a4 := L.a4; have z4 := L.z4; have v4 := L.v4
  have t9 := L.t9; have a9 := L.a9; have z9 := L.z9; have v9 := L.v9
  have e153 : ∀ args w, (callFunc (ρ.f 153) args).run P w = .ok (.enter (ρ.f 153) args) w := enters_of L.f153 (by kernel_rfl) rfl
  go_enter L.f150, Body.n150_ntmps ρ
  go_wp2_with (go_at_fn (ρ.f 153); refine (c _).mono ?_; rintro e w' ⟨rfl, hw⟩)
  go_ret
  exact ⟨rfl, hw⟩
end Go.Proofs.YtjbealoilhjadaaDoor.La
namespace Go.Proofs.YtjbealoilhjadaaDoor.Pm
open Go.RowKit
variable {P : Program} {W : World} {Φ : Nat → Phys} {f : Nat}
noncomputable def libLineAny (s t : List UInt8) : Option Bool := if s.length < 4294967281 ∧ t = [13, 10, 8] then some (Lib.containsAny s [13, 10, 8]) else none
theorem lok_LineAny (he : canEnter P f) (h : ∀ (s : ByteArray) (w : World), s.size < 4294967281 → Calls P f #[.string s, .string La.lineB] w fun e w' => e = .returned (.bool (Lib.containsAny s.data.toList La.lineB.data.toList)) ∧ Below w.heap.size w w') : LibOk P W Φ (f, ossB libLineAny) :=
  libok_ossB he fun s t z hz w φ0 _ => by
    unfold libLineAny at hz
    split at hz
    · rename_i hl
      obtain ⟨hl, rfl⟩ := hl
      cases hz
      exact h ⟨s.toArray⟩ w (by show s.toArray.size < _; simpa using hl)
    · cases hz
end Go.Proofs.YtjbealoilhjadaaDoor.Pm
