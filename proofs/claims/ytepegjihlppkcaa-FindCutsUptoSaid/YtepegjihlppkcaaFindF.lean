/- slices.IndexFunc, slices.DeleteFunc at []int with the two closures of FindCuts. -/
import Derived.Test.YtepegjihlppkcaaFindE
import Derived.Lib.SliceRun
import Derived.Laws.IdiomCopy
namespace Go.Proofs.Ytepegjihlppkcaa.Find
open Go.ChangeShapes Go.WideShapes Go.ChangeAt Go.RowKit
open Go.Proofs.Ytepegjihlppkcaa.Com Go.Proofs.Ytepegjihlppkcaa.Slices Go.Proofs.Ytepegjihlppkcaa.FindP Go.Proofs.Ytepegjihlppkcaa.Args Go.Proofs.Ytepegjihlppkcaa.Reg
set_option maxRecDepth 100000

theorem blk_setCells {g : Nat} {e : TypeId} : ∀ (vs : List Value) (o : Nat) {w : World} {cur : Array Value}, Blk w g cur e → ∃ cur2, Blk (w.setCells g o vs) g cur2 e ∧ cur2.size = cur.size ∧ ∀ i, i < o → cur2[i]? = cur[i]?
  | [], _, _, cur, h => ⟨cur, h, rfl, fun _ _ => rfl⟩
  | v :: r, o, w, cur, h => by
    obtain ⟨c2, h1, h2, h3⟩ := blk_setCells r (o + 1) (h.set_ o v)
    refine ⟨c2, h1, by rw [h2, Array.size_setIfInBounds], fun i hi => ?_⟩
    rw [h3 i (by omega), Array.getElem?_setIfInBounds_ne (by omega)]
theorem below_setCells {g B : Nat} (hB : B ≤ g) : ∀ (vs : List Value) (o : Nat) (w : World), Below B w (w.setCells g o vs)
  | [], _, _ => Below.refl _ _
  | v :: r, o, w => ((Below.refl B w).setCell (p := ⟨g, o, none⟩) hB v).trans (below_setCells hB r (o + 1) _)
theorem own_mk {w : World} {B g n c : Nat} {e : TypeId} {cur : Array Value} {xs : List Value} (h : Blk w g cur e) (hB : B ≤ g) (hn : n = xs.length) (hle : n ≤ c) (hc : c ≤ maxLen) (hs : cur.size = c) (ht : cur.toList.take n = xs) :
    Own w B e (.slice (some ⟨g, 0, none⟩) n c) xs := by
  subst hn
  exact ⟨by simp, .inr ⟨g, c, cur, rfl, hB, h, hle, hc, by omega, by rw [Nat.mul_one]; exact ht⟩⟩
def kept (p : Int → Bool) (xs : List Int) : List Int := xs.filter fun x => !p x
theorem kept_snoc (p : Int → Bool) (xs : List Int) (j : Nat) (x : Int) (h : xs[j]? = some x) : kept p (xs.take (j + 1)) = kept p (xs.take j) ++ if p x then [] else [x] := by
  unfold kept
  rw [List.take_add_one, h, List.filter_append]
  cases hq : p x <;> simp [hq]
theorem kept_len (p : Int → Bool) (xs : List Int) (j : Nat) : (kept p (xs.take j)).length ≤ j := by
  unfold kept
  have := List.length_filter_le (fun x => !p x) (xs.take j)
  simp at this ⊢; omega
theorem kept_none {p : Int → Bool} {xs : List Int} (h : ∀ x ∈ xs, p x = false) : kept p xs = xs := by
  unfold kept
  rw [List.filter_eq_self]
  intro x hx; simp [h x hx]

theorem idxfA (p : Int → Bool) (xs : List Int) (ad : Option Addr) (L c B g5 g3 : Nat) (w : World) (hL : L = xs.length) (hv : Sl w 1 ad L c (iv xs)) (hcall : ∀ x ∈ xs, ∀ W, Below B w W → Calls Try.prog 33 #[.int .i64 x, .pointer (some ⟨g5, 0, none⟩), .pointer (some ⟨g3, 0, none⟩)] W fun e w' => e = .returned (.bool (p x)) ∧ W = w') :
    Calls Try.prog 46 #[.slice ad L c, .func (.func 33) #[] #[.pointer (some ⟨g5, 0, none⟩), .pointer (some ⟨g3, 0, none⟩)]] w fun e w' => w = w' ∧ ((e = .returned (.int .i64 (-1)) ∧ Hid (∀ x ∈ xs, p x = false)) ∨ ∃ k : Nat, k < L ∧ e = .returned (.int .i64 k) ∧ Hid (kept p (xs.take (k + 1)) = xs.take k)) := by
  have hm : L ≤ maxLen := by have := hv.cap; have := hv.le; omega
  unfold maxLen at hm
  have HL := Lib.hid hL; have HV := Lib.hid hv; have HC := Lib.hid hcall
  clear hL hv hcall
  go_enter Try.func46, Try.ntmps46
  go_wp2_with fail
  go_loopw [8] (fun ii wr => ∃ i : Nat, i ≤ L ∧ ii = .int .i64 i ∧ Hid (∀ x ∈ xs.take i, p x = false) ∧ wr = w) (fun ii _ => L - (intOf ii).toNat)
  case atStart => exact ⟨0, by omega, rfl, by simp [Hid], rfl⟩
  case round =>
    obtain ⟨i, hi, rfl, HT, rfl⟩ := hrel
    by_cases hlt : i < L
    · obtain ⟨x, hx⟩ : ∃ x, xs[i]? = some x := ⟨_, List.getElem?_eq_getElem (show i < xs.length by have := HL.out; omega)⟩
      obtain ⟨b, o, rfl, hc⟩ := HV.out.at_ (by omega)
      have cx := hc i _ (iv_get hx)
      have HX := Lib.hid hx
      have HCx := Lib.hid (HC.out x (List.mem_of_getElem? hx) wr (Below.refl _ _))
      clear hx hc
      go_wp2_with fail
      refine HCx.out.mono ?_; rintro e w1 ⟨rfl, rfl⟩
      cases hq : p x with
      | true =>
        have HR : Hid (kept p (xs.take (i + 1)) = xs.take i) := by show _ = _; rw [kept_snoc p xs i x HX.out, kept_none HT.out, hq]; simp
        clear hq HT
        go_wp2_with fail
        go_ret
        exact ⟨rfl, .inr ⟨i, hlt, rfl, HR⟩⟩
      | false =>
        have HT2 : Hid (∀ y ∈ xs.take (i + 1), p y = false) := by
          show ∀ y ∈ _, _
          rw [List.take_add_one, HX.out]
          intro y hy
          rcases List.mem_append.1 hy with h | h
          · exact HT.out y h
          · simp at h; rw [h]; exact hq
        clear hq HT
        go_wp2_with fail
        go_roundw
        case rel => exact ⟨i + 1, by omega, by go_num, HT2, by trivial⟩
        case measure => simp [intOf]; omega
    · have HR : Hid (∀ x ∈ xs, p x = false) := by have := HT.out; rwa [List.take_of_length_le (by have := HL.out; omega)] at this
      clear HT
      go_wp2_with fail
      go_ret
      exact ⟨rfl, .inl ⟨rfl, HR⟩⟩
set_option maxHeartbeats 4000000 in
theorem delA (p : Int → Bool) (xs : List Int) (g L c B g5 g3 : Nat) (w : World) (hL : L = xs.length) (hown : Own w B 3 (.slice (some ⟨g, 0, none⟩) L c) (iv xs)) (hcall : ∀ x ∈ xs, ∀ W, Below B w W → Calls Try.prog 33 #[.int .i64 x, .pointer (some ⟨g5, 0, none⟩), .pointer (some ⟨g3, 0, none⟩)] W fun e w' => e = .returned (.bool (p x)) ∧ W = w') :
    Calls Try.prog 32 #[.slice (some ⟨g, 0, none⟩) L c, .func (.func 33) #[] #[.pointer (some ⟨g5, 0, none⟩), .pointer (some ⟨g3, 0, none⟩)]] w fun e w' => ∃ i : Nat, e = .returned (.slice (some ⟨g, 0, none⟩) i c) ∧ Own w' B 3 (.slice (some ⟨g, 0, none⟩) i c) (iv (kept p xs)) ∧ Below B w w' := by
  have hsl := Own.slAt (show World.ownsRow _ _ _ _ _ _ _ from hown)
  have hLc := hsl.le
  have hcm := hsl.cap
  have hcm2 := hcm
  unfold maxLen at hcm
  have HI := Lib.hid (idxfA p xs (some ⟨g, 0, none⟩) L c B g5 g3 w hL hsl hcall)
  obtain ⟨cur0, hB, hblk, hcs⟩ : ∃ cur, B ≤ g ∧ Blk w g cur 3 ∧ cur.size = c := by
    rcases Own.row hown with ⟨h, _⟩ | ⟨g', cur, h, h1, h2, h3⟩
    · simp at h
    · simp at h; subst h; exact ⟨cur, h1, h2, h3⟩
  have hat : ∀ (m : Nat) x, xs[m]? = some x → cur0[m]? = some (.int .i64 x) := by
    intro m x hm
    have h1 := (hown.at_ (iv_get hm)).1
    rw [cell_of_row _ _ _ _ _ _ hblk] at h1
    exact h1
  have HL := Lib.hid hL; have HC := Lib.hid hcall; have HAT := Lib.hid hat; have HO := Lib.hid hown; have HBL := Lib.hid hblk; have HCS := Lib.hid hcs
  clear hL hcall hat hown hblk hcs hsl
  go_enter Try.func32, Try.ntmps32
  go_wp2_with fail
  refine HI.out.mono ?_; rintro e w1 ⟨rfl, h | ⟨k, hk, rfl, HK⟩⟩
  · obtain ⟨rfl, HN⟩ := h
    have HE := Lib.hid (kept_none HN.out)
    clear HN
    go_wp2_with fail
    go_ret
    exact ⟨L, rfl, by rw [HE.out]; exact HO.out, Below.refl _ _⟩
  · have q0 : ((k : Int) == -1) = false := by simp
    clear HI
    go_wp2_with fail
    have hk0 : Hid (cur0.toList.take k = iv (kept p (xs.take (k + 1)))) := by
      show _ = _
      rw [HK.out]
      apply List.ext_getElem?
      intro m
      rw [List.getElem?_take]
      split
      · rename_i hm
        have hx : xs[m]? = some (xs[m]'(by have := HL.out; omega)) := List.getElem?_eq_getElem _
        have h1 := HAT.out m _ hx
        rw [Array.getElem?_toList, h1]
        simp [iv, hm, hx]
      · rw [List.getElem?_eq_none (by simp [iv]; omega)]
    have hkl : (kept p (xs.take (k + 1))).length = k := by rw [HK.out]; simp; have := HL.out; omega
    have HKL := Lib.hid hkl
    clear hkl HK
    go_loopw [5, 6] (fun ii jj wr => ∃ (i j : Nat) (cur : Array Value), i < j ∧ j ≤ L ∧ ii = .int .i64 i ∧ jj = .int .i64 j ∧ Hid ((kept p (xs.take j)).length = i) ∧ Hid (Blk wr g cur 3) ∧ Hid (cur.size = c) ∧ Hid (cur.toList.take i = iv (kept p (xs.take j))) ∧ Hid (∀ (m : Nat) x, j ≤ m → xs[m]? = some x → cur[m]? = some (.int .i64 x)) ∧ Below B w wr) (fun _ jj _ => L - (intOf jj).toNat)
    case atStart => exact ⟨k, k + 1, cur0, by omega, by omega, rfl, by go_num, HKL, HBL, HCS, hk0, fun m x _ hx => HAT.out m x hx, Below.refl _ _⟩
    case round =>
      clear hk0 HKL HBL HCS HO q0
      obtain ⟨i, j, cur, hij, hjL, rfl, rfl, HKL, HBL, HCS, HTK, HR, hb⟩ := hrel
      by_cases hlt : j < L
      · obtain ⟨x, hx⟩ : ∃ x, xs[j]? = some x := ⟨_, List.getElem?_eq_getElem (show j < xs.length by have := HL.out; omega)⟩
        obtain ⟨cj, fj⟩ := HBL.out.cell j (HR.out j x (Nat.le_refl _) hx)
        obtain ⟨u, hu⟩ : ∃ u, cur[i]? = some u := ⟨_, Array.getElem?_eq_getElem (by have := HCS.out; omega)⟩
        obtain ⟨ci, fi⟩ := HBL.out.cell i hu
        have HX := Lib.hid hx
        have HCx := Lib.hid (HC.out x (List.mem_of_getElem? hx) wr hb)
        have HS := Lib.hid (kept_snoc p xs j x hx)
        clear hx hu
        go_wp2_with fail
        refine HCx.out.mono ?_; rintro e w1 ⟨rfl, rfl⟩
        cases hq : p x with
        | true =>
          have HS2 : Hid (kept p (xs.take (j + 1)) = kept p (xs.take j)) := by show _ = _; rw [HS.out, hq]; simp
          clear hq HS
          go_wp2_with fail
          go_roundw
          case rel => exact ⟨i, j + 1, cur, by omega, by omega, rfl, by go_num, by show _ = _; rw [HS2.out]; exact HKL.out, HBL, HCS, by show _ = _; rw [HS2.out]; exact HTK.out, fun m y hm hy => HR.out m y (by omega) hy, hb⟩
          case measure => simp [intOf]; omega
        | false =>
          have HS2 : Hid (kept p (xs.take (j + 1)) = kept p (xs.take j) ++ [x]) := by show _ = _; rw [HS.out, hq]; simp
          clear hq HS
          have HB2 := Lib.hid (HBL.out.set_ i (.int .i64 x))
          have HC2 : Hid ((cur.setIfInBounds i (.int .i64 x)).size = c) := by show _ = _; rw [Array.size_setIfInBounds]; exact HCS.out
          have HT2 : Hid ((cur.setIfInBounds i (.int .i64 x)).toList.take (i + 1) = iv (kept p (xs.take (j + 1)))) := by
            show _ = _
            have hil : i < cur.toList.length := by have := HCS.out; simp; omega
            rw [HS2.out, iv_app, ← HTK.out, Array.toList_setIfInBounds, List.take_set, List.take_succ_eq_append_getElem hil, List.set_append_right _ _ (by simp; omega)]
            have hmin : min i cur.size = i := by have := HCS.out; omega
            simp [iv, hmin]
          have HR2 : Hid (∀ (m : Nat) y, j + 1 ≤ m → xs[m]? = some y → (cur.setIfInBounds i (.int .i64 x))[m]? = some (.int .i64 y)) := fun m y hm hy => by
            rw [Array.getElem?_setIfInBounds_ne (by omega)]; exact HR.out m y (by omega) hy
          go_wp2_with fail
          go_roundw
          case rel => exact ⟨i + 1, j + 1, _, by omega, by omega, by go_num, by go_num, by show _ = _; rw [HS2.out, List.length_append, HKL.out]; rfl, HB2, HC2, HT2, HR2, hb.setCell hB _⟩
          case measure => simp [intOf]; omega
      · obtain rfl : j = L := by omega
        have hci : ¬ c = i := by omega
        have hcl := fun ty => Lib.run_clear_slice (P := Try.prog) wr 22 3 ty (.int .i64 0) Try.underlying22 (fun _ => by kernel_rfl) rfl rfl g i (j - i) (c - i) (by omega)
          (fun m hm => by
            have hx : cur[i + m]? = some (cur[i + m]'(by have := HCS.out; omega)) := Array.getElem?_eq_getElem _
            rw [(HBL.out.cell (i + m) hx).1]; rfl)
          (fun m hm => by
            have hx : cur[i + m]? = some (cur[i + m]'(by have := HCS.out; omega)) := Array.getElem?_eq_getElem _
            exact (HBL.out.cell (i + m) hx).2)
        obtain ⟨cur2, b1, b2, b3⟩ := blk_setCells (List.replicate (j - i) (.int .i64 0)) i HBL.out
        have hb2 := hb.trans (below_setCells hB (List.replicate (j - i) (.int .i64 0)) i wr)
        have HB1 := Lib.hid b1; have HB2 := Lib.hid b2; have HB3 := Lib.hid b3
        clear b1 b2 b3
        go_wp2_with fail
        go_ret
        refine ⟨i, rfl, own_mk HB1.out hB ?_ (by omega) hcm2 (by rw [HB2.out]; exact HCS.out) ?_, hb2⟩
        · rw [iv_len, ← HKL.out, List.take_of_length_le (by have := HL.out; omega)]
        · have h1 := HTK.out
          rw [List.take_of_length_le (show xs.length ≤ j by have := HL.out; omega)] at h1
          rw [← h1]
          apply List.ext_getElem?
          intro m
          rw [List.getElem?_take, List.getElem?_take]
          split
          · rename_i hm
            rw [Array.getElem?_toList, Array.getElem?_toList, HB3.out m hm]
          · rfl

theorem idxfB (p : Int → Bool) (xs : List Int) (ad : Option Addr) (L c B g3 : Nat) (w : World) (hL : L = xs.length) (hv : Sl w 1 ad L c (iv xs)) (hcall : ∀ x ∈ xs, ∀ W, Below B w W → Calls Try.prog 34 #[.int .i64 x, .pointer (some ⟨g3, 0, none⟩)] W fun e w' => e = .returned (.bool (p x)) ∧ W = w') :
    Calls Try.prog 46 #[.slice ad L c, .func (.func 34) #[] #[.pointer (some ⟨g3, 0, none⟩)]] w fun e w' => w = w' ∧ ((e = .returned (.int .i64 (-1)) ∧ Hid (∀ x ∈ xs, p x = false)) ∨ ∃ k : Nat, k < L ∧ e = .returned (.int .i64 k) ∧ Hid (kept p (xs.take (k + 1)) = xs.take k)) := by
  have hm : L ≤ maxLen := by have := hv.cap; have := hv.le; omega
  unfold maxLen at hm
  have HL := Lib.hid hL; have HV := Lib.hid hv; have HC := Lib.hid hcall
  clear hL hv hcall
  go_enter Try.func46, Try.ntmps46
  go_wp2_with fail
  go_loopw [8] (fun ii wr => ∃ i : Nat, i ≤ L ∧ ii = .int .i64 i ∧ Hid (∀ x ∈ xs.take i, p x = false) ∧ wr = w) (fun ii _ => L - (intOf ii).toNat)
  case atStart => exact ⟨0, by omega, rfl, by simp [Hid], rfl⟩
  case round =>
    obtain ⟨i, hi, rfl, HT, rfl⟩ := hrel
    by_cases hlt : i < L
    · obtain ⟨x, hx⟩ : ∃ x, xs[i]? = some x := ⟨_, List.getElem?_eq_getElem (show i < xs.length by have := HL.out; omega)⟩
      obtain ⟨b, o, rfl, hc⟩ := HV.out.at_ (by omega)
      have cx := hc i _ (iv_get hx)
      have HX := Lib.hid hx
      have HCx := Lib.hid (HC.out x (List.mem_of_getElem? hx) wr (Below.refl _ _))
      clear hx hc
      go_wp2_with fail
      refine HCx.out.mono ?_; rintro e w1 ⟨rfl, rfl⟩
      cases hq : p x with
      | true =>
        have HR : Hid (kept p (xs.take (i + 1)) = xs.take i) := by show _ = _; rw [kept_snoc p xs i x HX.out, kept_none HT.out, hq]; simp
        clear hq HT
        go_wp2_with fail
        go_ret
        exact ⟨rfl, .inr ⟨i, hlt, rfl, HR⟩⟩
      | false =>
        have HT2 : Hid (∀ y ∈ xs.take (i + 1), p y = false) := by
          show ∀ y ∈ _, _
          rw [List.take_add_one, HX.out]
          intro y hy
          rcases List.mem_append.1 hy with h | h
          · exact HT.out y h
          · simp at h; rw [h]; exact hq
        clear hq HT
        go_wp2_with fail
        go_roundw
        case rel => exact ⟨i + 1, by omega, by go_num, HT2, by trivial⟩
        case measure => simp [intOf]; omega
    · have HR : Hid (∀ x ∈ xs, p x = false) := by have := HT.out; rwa [List.take_of_length_le (by have := HL.out; omega)] at this
      clear HT
      go_wp2_with fail
      go_ret
      exact ⟨rfl, .inl ⟨rfl, HR⟩⟩
set_option maxHeartbeats 4000000 in
theorem delB (p : Int → Bool) (xs : List Int) (g L c B g3 : Nat) (w : World) (hL : L = xs.length) (hown : Own w B 3 (.slice (some ⟨g, 0, none⟩) L c) (iv xs)) (hcall : ∀ x ∈ xs, ∀ W, Below B w W → Calls Try.prog 34 #[.int .i64 x, .pointer (some ⟨g3, 0, none⟩)] W fun e w' => e = .returned (.bool (p x)) ∧ W = w') :
    Calls Try.prog 32 #[.slice (some ⟨g, 0, none⟩) L c, .func (.func 34) #[] #[.pointer (some ⟨g3, 0, none⟩)]] w fun e w' => ∃ i : Nat, e = .returned (.slice (some ⟨g, 0, none⟩) i c) ∧ Own w' B 3 (.slice (some ⟨g, 0, none⟩) i c) (iv (kept p xs)) ∧ Below B w w' := by
  have hsl := Own.slAt (show World.ownsRow _ _ _ _ _ _ _ from hown)
  have hLc := hsl.le
  have hcm := hsl.cap
  have hcm2 := hcm
  unfold maxLen at hcm
  have HI := Lib.hid (idxfB p xs (some ⟨g, 0, none⟩) L c B g3 w hL hsl hcall)
  obtain ⟨cur0, hB, hblk, hcs⟩ : ∃ cur, B ≤ g ∧ Blk w g cur 3 ∧ cur.size = c := by
    rcases Own.row hown with ⟨h, _⟩ | ⟨g', cur, h, h1, h2, h3⟩
    · simp at h
    · simp at h; subst h; exact ⟨cur, h1, h2, h3⟩
  have hat : ∀ (m : Nat) x, xs[m]? = some x → cur0[m]? = some (.int .i64 x) := by
    intro m x hm
    have h1 := (hown.at_ (iv_get hm)).1
    rw [cell_of_row _ _ _ _ _ _ hblk] at h1
    exact h1
  have HL := Lib.hid hL; have HC := Lib.hid hcall; have HAT := Lib.hid hat; have HO := Lib.hid hown; have HBL := Lib.hid hblk; have HCS := Lib.hid hcs
  clear hL hcall hat hown hblk hcs hsl
  go_enter Try.func32, Try.ntmps32
  go_wp2_with fail
  refine HI.out.mono ?_; rintro e w1 ⟨rfl, h | ⟨k, hk, rfl, HK⟩⟩
  · obtain ⟨rfl, HN⟩ := h
    have HE := Lib.hid (kept_none HN.out)
    clear HN
    go_wp2_with fail
    go_ret
    exact ⟨L, rfl, by rw [HE.out]; exact HO.out, Below.refl _ _⟩
  · have q0 : ((k : Int) == -1) = false := by simp
    clear HI
    go_wp2_with fail
    have hk0 : Hid (cur0.toList.take k = iv (kept p (xs.take (k + 1)))) := by
      show _ = _
      rw [HK.out]
      apply List.ext_getElem?
      intro m
      rw [List.getElem?_take]
      split
      · rename_i hm
        have hx : xs[m]? = some (xs[m]'(by have := HL.out; omega)) := List.getElem?_eq_getElem _
        have h1 := HAT.out m _ hx
        rw [Array.getElem?_toList, h1]
        simp [iv, hm, hx]
      · rw [List.getElem?_eq_none (by simp [iv]; omega)]
    have hkl : (kept p (xs.take (k + 1))).length = k := by rw [HK.out]; simp; have := HL.out; omega
    have HKL := Lib.hid hkl
    clear hkl HK
    go_loopw [5, 6] (fun ii jj wr => ∃ (i j : Nat) (cur : Array Value), i < j ∧ j ≤ L ∧ ii = .int .i64 i ∧ jj = .int .i64 j ∧ Hid ((kept p (xs.take j)).length = i) ∧ Hid (Blk wr g cur 3) ∧ Hid (cur.size = c) ∧ Hid (cur.toList.take i = iv (kept p (xs.take j))) ∧ Hid (∀ (m : Nat) x, j ≤ m → xs[m]? = some x → cur[m]? = some (.int .i64 x)) ∧ Below B w wr) (fun _ jj _ => L - (intOf jj).toNat)
    case atStart => exact ⟨k, k + 1, cur0, by omega, by omega, rfl, by go_num, HKL, HBL, HCS, hk0, fun m x _ hx => HAT.out m x hx, Below.refl _ _⟩
    case round =>
      clear hk0 HKL HBL HCS HO q0
      obtain ⟨i, j, cur, hij, hjL, rfl, rfl, HKL, HBL, HCS, HTK, HR, hb⟩ := hrel
      by_cases hlt : j < L
      · obtain ⟨x, hx⟩ : ∃ x, xs[j]? = some x := ⟨_, List.getElem?_eq_getElem (show j < xs.length by have := HL.out; omega)⟩
        obtain ⟨cj, fj⟩ := HBL.out.cell j (HR.out j x (Nat.le_refl _) hx)
        obtain ⟨u, hu⟩ : ∃ u, cur[i]? = some u := ⟨_, Array.getElem?_eq_getElem (by have := HCS.out; omega)⟩
        obtain ⟨ci, fi⟩ := HBL.out.cell i hu
        have HX := Lib.hid hx
        have HCx := Lib.hid (HC.out x (List.mem_of_getElem? hx) wr hb)
        have HS := Lib.hid (kept_snoc p xs j x hx)
        clear hx hu
        go_wp2_with fail
        refine HCx.out.mono ?_; rintro e w1 ⟨rfl, rfl⟩
        cases hq : p x with
        | true =>
          have HS2 : Hid (kept p (xs.take (j + 1)) = kept p (xs.take j)) := by show _ = _; rw [HS.out, hq]; simp
          clear hq HS
          go_wp2_with fail
          go_roundw
          case rel => exact ⟨i, j + 1, cur, by omega, by omega, rfl, by go_num, by show _ = _; rw [HS2.out]; exact HKL.out, HBL, HCS, by show _ = _; rw [HS2.out]; exact HTK.out, fun m y hm hy => HR.out m y (by omega) hy, hb⟩
          case measure => simp [intOf]; omega
        | false =>
          have HS2 : Hid (kept p (xs.take (j + 1)) = kept p (xs.take j) ++ [x]) := by show _ = _; rw [HS.out, hq]; simp
          clear hq HS
          have HB2 := Lib.hid (HBL.out.set_ i (.int .i64 x))
          have HC2 : Hid ((cur.setIfInBounds i (.int .i64 x)).size = c) := by show _ = _; rw [Array.size_setIfInBounds]; exact HCS.out
          have HT2 : Hid ((cur.setIfInBounds i (.int .i64 x)).toList.take (i + 1) = iv (kept p (xs.take (j + 1)))) := by
            show _ = _
            have hil : i < cur.toList.length := by have := HCS.out; simp; omega
            rw [HS2.out, iv_app, ← HTK.out, Array.toList_setIfInBounds, List.take_set, List.take_succ_eq_append_getElem hil, List.set_append_right _ _ (by simp; omega)]
            have hmin : min i cur.size = i := by have := HCS.out; omega
            simp [iv, hmin]
          have HR2 : Hid (∀ (m : Nat) y, j + 1 ≤ m → xs[m]? = some y → (cur.setIfInBounds i (.int .i64 x))[m]? = some (.int .i64 y)) := fun m y hm hy => by
            rw [Array.getElem?_setIfInBounds_ne (by omega)]; exact HR.out m y (by omega) hy
          go_wp2_with fail
          go_roundw
          case rel => exact ⟨i + 1, j + 1, _, by omega, by omega, by go_num, by go_num, by show _ = _; rw [HS2.out, List.length_append, HKL.out]; rfl, HB2, HC2, HT2, HR2, hb.setCell hB _⟩
          case measure => simp [intOf]; omega
      · obtain rfl : j = L := by omega
        have hci : ¬ c = i := by omega
        have hcl := fun ty => Lib.run_clear_slice (P := Try.prog) wr 22 3 ty (.int .i64 0) Try.underlying22 (fun _ => by kernel_rfl) rfl rfl g i (j - i) (c - i) (by omega)
          (fun m hm => by
            have hx : cur[i + m]? = some (cur[i + m]'(by have := HCS.out; omega)) := Array.getElem?_eq_getElem _
            rw [(HBL.out.cell (i + m) hx).1]; rfl)
          (fun m hm => by
            have hx : cur[i + m]? = some (cur[i + m]'(by have := HCS.out; omega)) := Array.getElem?_eq_getElem _
            exact (HBL.out.cell (i + m) hx).2)
        obtain ⟨cur2, b1, b2, b3⟩ := blk_setCells (List.replicate (j - i) (.int .i64 0)) i HBL.out
        have hb2 := hb.trans (below_setCells hB (List.replicate (j - i) (.int .i64 0)) i wr)
        have HB1 := Lib.hid b1; have HB2 := Lib.hid b2; have HB3 := Lib.hid b3
        clear b1 b2 b3
        go_wp2_with fail
        go_ret
        refine ⟨i, rfl, own_mk HB1.out hB ?_ (by omega) hcm2 (by rw [HB2.out]; exact HCS.out) ?_, hb2⟩
        · rw [iv_len, ← HKL.out, List.take_of_length_le (by have := HL.out; omega)]
        · have h1 := HTK.out
          rw [List.take_of_length_le (show xs.length ≤ j by have := HL.out; omega)] at h1
          rw [← h1]
          apply List.ext_getElem?
          intro m
          rw [List.getElem?_take, List.getElem?_take]
          split
          · rename_i hm
            rw [Array.getElem?_toList, Array.getElem?_toList, HB3.out m hm]
          · rfl
end Go.Proofs.Ytepegjihlppkcaa.Find
