/- Contracts of package about: Check; package slices at []string: Index, Contains. -/
import Derived.Test.YtphbfciikjkkfaaAboutA
namespace Go.Proofs.Ytphbfciikjkkfaa.About
open Go.ChangeShapes Go.WideShapes Go.ChangeAt Go.RowKit
open Go.Proofs.Ytphbfciikjkkfaa.Com Go.Proofs.Ytphbfciikjkkfaa.Reg Go.Proofs.Ytphbfciikjkkfaa.Args
set_option maxRecDepth 100000

def sv (l : List ByteArray) : List Value := l.map Value.string
theorem sv_len (l : List ByteArray) : (sv l).length = l.length := by simp [sv]
theorem sv_get {l : List ByteArray} {i : Nat} {x : ByteArray} (h : l[i]? = some x) : (sv l)[i]? = some (.string x) := by simp [sv, h]
theorem sv_take (l : List ByteArray) (k : Nat) : (sv l).take k = sv (l.take k) := by simp [sv, List.map_take]
theorem sv_drop (l : List ByteArray) (k : Nat) : (sv l).drop k = sv (l.drop k) := by simp [sv, List.map_drop]
theorem sv_app (a b : List ByteArray) : sv (a ++ b) = sv a ++ sv b := by simp [sv]
theorem sv_one (l : List ByteArray) : ∀ u ∈ sv l, u.oneCell' = true := by
  intro u hu
  simp only [sv, List.mem_map] at hu
  obtain ⟨a, _, rfl⟩ := hu
  rfl
theorem bytes_ext {a b : ByteArray} (h : a.toList = b.toList) : a = b := by
  rw [ByteArray.toList_eq, ByteArray.toList_eq] at h
  have : a.data = b.data := Array.toList_inj.1 h
  exact ByteArray.ext this
instance : LawfulBEq ByteArray where
  eq_of_beq h := by rw [beq_toListBytes] at h; exact bytes_ext (by simpa using h)
  rfl := by intro a; rw [beq_toListBytes]; simp
theorem str_eq {a b : ByteArray} (h : a = b) : (a.toList == b.toList) = true := by rw [h]; simp
theorem str_ne {a b : ByteArray} (h : a ≠ b) : (a.toList == b.toList) = false := by
  rw [Bool.eq_false_iff]
  intro q
  exact h (bytes_ext (by simpa using q))

theorem sidx_any (a : Option Addr) (n c : Nat) (xs : List ByteArray) (x : ByteArray) (w : World) (hv : Sl w 1 a n c (sv xs)) :
    Calls Try.prog 45 #[.slice a n c, .string x] w fun e w' => ∃ r : Int, e = .returned (.int .i64 r) ∧ Hid (0 ≤ r ↔ x ∈ xs) ∧ (-1 ≤ r ∧ r < n) ∧ Hid (∀ k : Nat, r = k → xs[k]? = some x ∧ x ∉ xs.take k) ∧ Below w.heap.size w w' := by
  have hn : n = xs.length := by have := hv.len; rw [sv_len] at this; omega
  have hc := hv.cap; have hle := hv.le
  have hm : n ≤ maxLen := by omega
  unfold maxLen at hm
  have HV := Lib.hid hv; have HN := Lib.hid hn
  clear hv hn hc hle
  go_enter Try.func45, Try.ntmps45
  go_wp2_with fail
  go_loopw [8] (fun i wr => ∃ k : Nat, k ≤ n ∧ i = .int .i64 k ∧ Hid (x ∉ xs.take k) ∧ Below w.heap.size w wr) (fun i _ => n - (intOf i).toNat)
  case atStart => exact ⟨0, Nat.zero_le _, rfl, by simp [Hid], Below.refl _ _⟩
  case round =>
    obtain ⟨k, hk, rfl, HT, hb⟩ := hrel
    by_cases hlt : k < n
    · obtain ⟨y, hy⟩ : ∃ y, xs[k]? = some y := ⟨_, List.getElem?_eq_getElem (show k < xs.length by have := HN.out; omega)⟩
      obtain ⟨b, o, rfl, hc⟩ := HV.out.at_ (by omega)
      have cy := cell_keep (hc k _ (sv_get hy)) hb
      have HY := Lib.hid hy
      clear hy hc
      by_cases hxy : x = y
      · have HR : Hid (0 ≤ (k : Int) ↔ x ∈ xs) := ⟨fun _ => by rw [hxy]; exact List.mem_of_getElem? HY.out, fun _ => by omega⟩
        have HR2 : Hid (∀ k' : Nat, (k : Int) = k' → xs[k']? = some x ∧ x ∉ xs.take k') := fun k' e => by
          obtain rfl : k = k' := by omega
          exact ⟨by rw [hxy]; exact HY.out, HT.out⟩
        have q1 := str_eq hxy
        clear hxy
        go_wp2_with fail
        go_ret
        exact ⟨k, rfl, HR, by omega, HR2, hb⟩
      · have HT2 : Hid (x ∉ xs.take (k + 1)) := by
          show _ ∉ _
          rw [List.take_add_one, HY.out]
          simp
          exact ⟨HT.out, hxy⟩
        have q1 := str_ne hxy
        clear hxy
        go_wp2_with fail
        go_roundw
        case rel => exact ⟨k + 1, by omega, by go_num, HT2, hb⟩
        case measure => simp [intOf]; omega
    · have HR : Hid (0 ≤ (-1 : Int) ↔ x ∈ xs) := by
        refine ⟨fun h => by omega, fun h => ?_⟩
        have := HT.out
        rw [List.take_of_length_le (by have := HN.out; omega)] at this
        exact absurd h this
      go_wp2_with fail
      go_ret
      exact ⟨-1, rfl, HR, by omega, fun k e => by omega, hb⟩
theorem scontains_any (a : Option Addr) (n c : Nat) (xs : List ByteArray) (x : ByteArray) (w : World) (hv : Sl w 1 a n c (sv xs)) :
    Calls Try.prog 60 #[.slice a n c, .string x] w fun e w' => e = .returned (.bool (decide (x ∈ xs))) ∧ Below w.heap.size w w' := by
  have HI := Lib.hid (sidx_any a n c xs x w hv)
  clear hv
  by_cases h : x ∈ xs
  · have HX := Lib.hid h
    rw [decide_eq_true h]
    clear h
    go_enter Try.func60, Try.ntmps60
    go_wp2_with fail
    refine HI.out.mono ?_; rintro e w1 ⟨r, rfl, HR, _, _, hb⟩
    have h0 : 0 ≤ r := HR.out.2 HX.out
    clear HR
    go_wp2_with fail
    go_ret
    exact ⟨rfl, hb⟩
  · have HX := Lib.hid h
    rw [decide_eq_false h]
    clear h
    go_enter Try.func60, Try.ntmps60
    go_wp2_with fail
    refine HI.out.mono ?_; rintro e w1 ⟨r, rfl, HR, _, _, hb⟩
    have h0 : decide (0 ≤ r) = false := decide_eq_false fun q => HX.out (HR.out.1 q)
    clear HR
    go_wp2_with fail
    go_ret
    exact ⟨rfl, hb⟩

/-- The names are names, each another. -/
def Fine (l : List ByteArray) : Prop := (∀ x ∈ l, nameS x = true) ∧ l.Nodup
instance (l : List ByteArray) : Decidable (Fine l) := by unfold Fine; infer_instance
theorem fine_step {l : List ByteArray} {k : Nat} {x : ByteArray} (hx : l[k]? = some x) : Fine (l.take (k + 1)) ↔ Fine (l.take k) ∧ nameS x = true ∧ x ∉ l.take k := by
  have e : l.take (k + 1) = l.take k ++ [x] := by rw [List.take_add_one, hx]; rfl
  rw [e]
  unfold Fine
  simp only [List.mem_append, List.mem_singleton, List.nodup_append, List.nodup_cons, List.not_mem_nil, not_false_eq_true, List.nodup_nil, and_true, true_and]
  constructor
  · rintro ⟨h1, h2, h3⟩
    exact ⟨⟨fun y hy => h1 y (.inl hy), h2⟩, h1 x (.inr rfl), fun hm => h3 x hm x rfl rfl⟩
  · rintro ⟨⟨h1, h2⟩, h3, h4⟩
    refine ⟨fun y hy => ?_, h2, fun y hy z hz e2 => ?_⟩
    · rcases hy with hy | rfl
      · exact h1 y hy
      · exact h3
    · exact h4 (by rw [← hz, ← e2]; exact hy)
theorem fine_take {l : List ByteArray} (h : Fine l) (k : Nat) : Fine (l.take k) :=
  ⟨fun x hx => h.1 x (List.mem_of_mem_take hx), h.2.sublist (List.take_sublist _ _)⟩
def checkS (l : List ByteArray) (at_ : Int) : Int :=
  if l.length < 1 ∨ 8 < l.length then 1 else if Fine l then (if at_ < 0 ∨ (l.length : Int) < at_ then 1 else 0) else 4

set_option maxHeartbeats 4000000 in
theorem check_any (a : Option Addr) (n c : Nat) (l : List ByteArray) (at_ : Int) (w : World) (hv : Sl w 1 a n c (sv l)) (hsz : ∀ x ∈ l, x.size ≤ maxLen) :
    Calls Try.prog 43 #[.agg #[.slice a n c, .int .i64 at_]] w fun e w' => e = .returned (.int .i64 (checkS l at_)) ∧ Below w.heap.size w w' := by
  have hn : n = l.length := by have := hv.len; rw [sv_len] at this; omega
  have HN := Lib.hid hn
  have HV := Lib.hid (hv.keep (below_alloc w (.cells #[.slice a n c, .int .i64 at_] 43)))
  have HZ := Lib.hid hsz
  have hle := hv.le
  clear hv hn hsz
  by_cases h1 : n < 1 ∨ 8 < n
  · have HR : Hid (checkS l at_ = 1) := by show _ = _; unfold checkS; rw [if_pos (by rw [← HN.out]; exact h1)]
    rcases h1 with h1 | h1
    all_goals
      go_enter Try.func43, Try.ntmps43
      go_wp2_with fail
      go_ret
      exact ⟨by rw [HR.out]; rfl, below_alloc _ _⟩
  have n1 : 1 ≤ n := by omega
  have n8 : n ≤ 8 := by omega
  have HC : Hid (checkS l at_ = if Fine l then (if at_ < 0 ∨ (n : Int) < at_ then 1 else 0) else 4) := by show _ = _; unfold checkS; rw [if_neg (by rw [← HN.out]; exact h1), ← HN.out]
  clear h1
  obtain ⟨b, o, rfl, hc⟩ := HV.out.at_ (by omega)
  have HCC := Lib.hid hc
  clear hc
  go_enter Try.func43, Try.ntmps43
  go_wp2_with fail
  go_loopw [18] (fun ii wr => ∃ i : Nat, i ≤ n ∧ ii = .int .i64 i ∧ Hid (Fine (l.take i)) ∧ Below (w.heap.size + 1) (w.alloc (.cells #[.slice (some ⟨b, o, none⟩) n c, .int .i64 at_] 43)) wr) (fun ii _ => n - (intOf ii).toNat)
  case atStart => exact ⟨0, by omega, rfl, by simp [Hid, Fine], Below.refl _ _⟩
  case round =>
    obtain ⟨i, hin, rfl, HF, hb⟩ := hrel
    have hbx : Below (w.alloc (.cells #[.slice (some ⟨b, o, none⟩) n c, .int .i64 at_] 43)).heap.size (w.alloc (.cells #[.slice (some ⟨b, o, none⟩) n c, .int .i64 at_] 43)) wr := hb.mono (by simp)
    have cb0 := cell_keep (v := .slice (some ⟨b, o, none⟩) n c) (b := w.heap.size) (o := 0) (by rw [World.cell?_alloc_mark]; rfl) hbx
    have cb1 := cell_keep (v := .int .i64 at_) (b := w.heap.size) (o := 1) (by rw [World.cell?_alloc_mark]; rfl) hbx
    have hw0 : Below w.heap.size w wr := (below_alloc w _).trans (hb.mono (by omega))
    by_cases hlt : i < n
    · obtain ⟨x, hx⟩ : ∃ x, l[i]? = some x := ⟨_, List.getElem?_eq_getElem (show i < l.length by have := HN.out; omega)⟩
      have cx := cell_keep (HCC.out i _ (sv_get hx)) hbx
      have hxz := HZ.out x (List.mem_of_getElem? hx)
      have HS := Lib.hid (fine_step hx)
      have HI := Lib.hid (scontains_any (some ⟨b, o, none⟩) i c (l.take i) x wr (by have := (HV.out.keep hbx).take (show i ≤ n by omega); rwa [Nat.mul_one, sv_take] at this))
      clear hx
      go_wp2_with fail
      refine (name_any x hxz _).mono ?_; rintro e w1 ⟨rfl, rfl⟩
      by_cases hnm : nameS x = true
      · rw [hnm]
        go_wp2_with fail
        refine HI.out.mono ?_; rintro e w1 ⟨rfl, hb1⟩
        have hb2 : Below w.heap.size w w1 := bt hw0 hb1
        by_cases hm : x ∈ l.take i
        · have HR : Hid (checkS l at_ = 4) := by
            show _ = _
            rw [HC.out, if_neg (fun h => (HS.out.1 (fine_take h (i + 1))).2.2 hm)]
          rw [decide_eq_true hm]
          clear hm hnm
          go_wp2_with fail
          go_ret
          exact ⟨by rw [HR.out]; rfl, hb2⟩
        · have HF2 : Hid (Fine (l.take (i + 1))) := HS.out.2 ⟨HF.out, hnm, hm⟩
          rw [decide_eq_false hm]
          clear hm hnm
          go_wp2_with fail
          go_roundw
          case rel => exact ⟨i + 1, by omega, by go_num, HF2, hb.trans (hb1.mono (by have := hbx.size; simp at this; omega))⟩
          case measure => simp [intOf]; omega
      · have HR : Hid (checkS l at_ = 4) := by
          show _ = _
          rw [HC.out, if_neg (fun h => hnm (HS.out.1 (fine_take h (i + 1))).2.1)]
        have hnf : nameS x = false := by simpa using hnm
        rw [hnf]
        clear hnm hnf
        go_wp2_with fail
        go_ret
        exact ⟨by rw [HR.out]; rfl, hw0⟩
    · obtain rfl : i = n := by omega
      have HFl : Hid (Fine l) := by have := HF.out; rwa [List.take_of_length_le (by have := HN.out; omega)] at this
      have HC2 : Hid (checkS l at_ = if at_ < 0 ∨ (i : Int) < at_ then 1 else 0) := by show _ = _; rw [HC.out, if_pos HFl.out]
      clear HF
      by_cases ha : at_ < 0
      · have HR : Hid (checkS l at_ = 1) := by show _ = _; rw [HC2.out, if_pos (.inl ha)]
        go_wp2_with fail
        go_ret
        exact ⟨by rw [HR.out]; rfl, hw0⟩
      · by_cases ha2 : (i : Int) < at_
        · have HR : Hid (checkS l at_ = 1) := by show _ = _; rw [HC2.out, if_pos (.inr ha2)]
          go_wp2_with fail
          go_ret
          exact ⟨by rw [HR.out]; rfl, hw0⟩
        · have HR : Hid (checkS l at_ = 0) := by show _ = _; rw [HC2.out, if_neg (by omega)]
          have ha3 : 0 ≤ at_ := by omega
          have ha4 : at_ ≤ (i : Int) := by omega
          go_wp2_with fail
          go_ret
          exact ⟨by rw [HR.out]; rfl, hw0⟩
end Go.Proofs.Ytphbfciikjkkfaa.About
