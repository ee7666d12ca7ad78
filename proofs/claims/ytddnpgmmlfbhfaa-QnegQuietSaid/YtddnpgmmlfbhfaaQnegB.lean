/- The contract of qneg.Check. -/
import Derived.Test.YtddnpgmmlfbhfaaQnegA
import Derived.Test.YtddnpgmmlfbhfaaRowB
namespace Go.Proofs.Ytddnpgmmlfbhfaa.Qneg
open Go.ChangeShapes Go.WideShapes Go.ChangeAt Go.RowKit
open Go.Proofs.Ytddnpgmmlfbhfaa.Com Go.Proofs.Ytddnpgmmlfbhfaa.Row
set_option maxRecDepth 100000

/-- The states of all options, and what may be on. -/
structure Ng where
  us : Nat → Int
  him : Nat → Int
  uo : Nat → Int
  ho : Nat → Int
def u8F (f : Nat → Int) : Nat → Value := fun i => .int .u8 (f i)
def u64F (f : Nat → Int) : Nat → Value := fun i => .int .u64 (f i)
def negC (n : Ng) : List Value := rowF 256 (u8F n.us) ++ (rowF 256 (u8F n.him) ++ (rowF 4 (u64F n.uo) ++ rowF 4 (u64F n.ho)))
theorem negC_len (n : Ng) : (negC n).length = 520 := by simp [negC, rowF_len]
theorem negC_us (n : Ng) (i : Nat) (h : i < 256) : (negC n)[i]? = some (.int .u8 (n.us i)) := by
  unfold negC
  rw [List.getElem?_append_left (by rw [rowF_len]; exact h), rowF_get _ _ _ h]; rfl
theorem negC_him (n : Ng) (i : Nat) (h : i < 256) : (negC n)[256 + i]? = some (.int .u8 (n.him i)) := by
  unfold negC
  rw [List.getElem?_append_right (by rw [rowF_len]; omega), rowF_len, show 256 + i - 256 = i by omega, List.getElem?_append_left (by rw [rowF_len]; exact h), rowF_get _ _ _ h]; rfl
theorem negC_uo (n : Ng) (i : Nat) (h : i < 4) : (negC n)[512 + i]? = some (.int .u64 (n.uo i)) := by
  unfold negC
  rw [List.getElem?_append_right (by rw [rowF_len]; omega), rowF_len, List.getElem?_append_right (by rw [rowF_len]; omega), rowF_len, show 512 + i - 256 - 256 = i by omega,
    List.getElem?_append_left (by rw [rowF_len]; exact h), rowF_get _ _ _ h]; rfl
theorem negC_ho (n : Ng) (i : Nat) (h : i < 4) : (negC n)[516 + i]? = some (.int .u64 (n.ho i)) := by
  unfold negC
  rw [List.getElem?_append_right (by rw [rowF_len]; omega), rowF_len, List.getElem?_append_right (by rw [rowF_len]; omega), rowF_len, List.getElem?_append_right (by rw [rowF_len]; omega), rowF_len,
    show 516 + i - 256 - 256 - 4 = i by omega, rowF_get _ _ _ h]; rfl
def allKnown (f : Nat → Int) (k : Nat) : Prop := ∀ i, i < k → knownB (f i) = true
def checkE (n : Ng) : Int := if ((List.range 256).all fun i => knownB (n.us i) && knownB (n.him i)) = true then 0 else 4
theorem checkE_iff (n : Ng) : checkE n = 0 ↔ allKnown n.us 256 ∧ allKnown n.him 256 := by
  unfold checkE allKnown
  simp only [List.all_eq_true, List.mem_range, Bool.and_eq_true]
  constructor
  · intro h
    split at h
    · rename_i hh; exact ⟨fun i hi => (hh i hi).1, fun i hi => (hh i hi).2⟩
    · omega
  · intro h
    rw [if_pos (fun i hi => ⟨h.1 i hi, h.2 i hi⟩)]
theorem checkE_or (n : Ng) : checkE n = 0 ∨ checkE n = 4 := by unfold checkE; split <;> simp
theorem checkE_ok (n : Ng) (h1 : allKnown n.us 256) (h2 : allKnown n.him 256) : checkE n = 0 := (checkE_iff n).2 ⟨h1, h2⟩
theorem checkE_us (n : Ng) (i : Nat) (h : i < 256) (hk : knownB (n.us i) = false) : checkE n = 4 :=
  (checkE_or n).resolve_left fun h0 => by rw [((checkE_iff n).1 h0).1 i h] at hk; cases hk
theorem checkE_him (n : Ng) (i : Nat) (h : i < 256) (hk : knownB (n.him i) = false) : checkE n = 4 :=
  (checkE_or n).resolve_left fun h0 => by rw [((checkE_iff n).1 h0).2 i h] at hk; cases hk

theorem size256 : (Try.prog.info? 31).map (·.size) = some 256 := by kernel_rfl
def z512 : Array Value := (List.replicate 512 (.int .u8 0)).toArray
theorem z512_size : z512.size = 256 + 256 := by simp [z512]
theorem zero512 : (Try.prog.info? 50).bind (·.zero) = some (.agg z512) := by kernel_rfl
def z256 : Array Value := (List.replicate 256 (.int .u8 0)).toArray
theorem zero256 : (Try.prog.info? 31).bind (·.zero) = some (.agg z256) := by kernel_rfl

theorem off_cell {w : World} {g t o : Nat} {cs : List Value} {n : Nat} {f : Nat → Value} (hg : w.heap[g]? = some (.cells cs.toArray t (0, 0))) (h : ∀ i, i < n → cs[o + i]? = some (f i)) :
    ∀ j v, (rowF n f)[j]? = some v → w.cell? ((⟨g, o, none⟩ : Addr).add j) = some v := by
  intro j v hj
  have hlt : j < n := by
    rcases Nat.lt_or_ge j n with h' | h'
    · exact h'
    · rw [List.getElem?_eq_none (by rw [rowF_len]; exact h')] at hj; cases hj
  rw [rowF_get _ _ _ hlt] at hj
  have hp : (⟨g, o, none⟩ : Addr).add j = ⟨g, o + j, none⟩ := by unfold Addr.add; split <;> simp_all
  rw [hp, cell_of_row w g (o + j) cs.toArray t (0, 0) hg]
  simpa using (h j hlt).trans hj

theorem check_any (n : Ng) (hr : ∀ i, 0 ≤ n.us i ∧ n.us i ≤ 255 ∧ 0 ≤ n.him i ∧ n.him i ≤ 255) (w : World) :
    Calls Try.prog 15 #[.agg (negC n).toArray] w fun e w' => e = .returned (.int .i64 (checkE n)) ∧ Below w.heap.size w w' := by
  have HR := Lib.hid hr; clear hr
  have hg : (w.alloc (.cells (negC n).toArray 35)).heap[w.heap.size]? = some (.cells (negC n).toArray 35 (0, 0)) := heap_alloc_new _ _
  have c1 := off_cell (o := 0) (n := 256) (f := u8F n.us) hg (fun i hi => by rw [Nat.zero_add]; exact negC_us n i hi)
  have c2 := off_cell (o := 256) (n := 256) (f := u8F n.him) hg (fun i hi => negC_him n i hi)
  have C1 := Lib.hid c1; have C2 := Lib.hid c2; clear c1 c2 hg
  go_enter Try.func15, Try.ntmps15
  go_wp2_with (first | (with_reducible show wpList _ _ _ (Oper.mk _ (Op.load _ (.tmp 7)) _ _ _ _ :: _) _ _; refine wpList_load_part rfl 31 (.tmp 7) rfl ⟨w.heap.size, 0, none⟩ rfl _ Try.underlying31 rfl (rowF 256 (u8F n.us)) ?_ C1.out ?_; rw [rowF_len]; exact size256) | (with_reducible show wpList _ _ _ (Oper.mk _ (Op.load _ (.tmp 9)) _ _ _ _ :: _) _ _; refine wpList_load_part rfl 31 (.tmp 9) rfl ⟨w.heap.size, 256, none⟩ rfl _ Try.underlying31 rfl (rowF 256 (u8F n.him)) ?_ C2.out ?_; rw [rowF_len]; exact size256) | (with_reducible show wpList _ _ _ (Oper.mk _ (Op.build _ _) _ _ _ _ :: _) _ _; refine wpList_buildTo rfl 50 _ rfl (some 11) rfl (rowF 256 (u8F n.us) ++ rowF 256 (u8F n.him)).toArray ?_ ?_; simp only [List.map_toArray, List.map_cons, List.map_nil]; go_simp; exact built_two 50 31 256 (rowF 256 (u8F n.us)) (rowF 256 (u8F n.him)) z512 Try.underlying50 size256 zero512 z512_size (rowF_len _ _) (rowF_len _ _)))
  go_loopw [12] (fun i wr => ∃ k : Nat, k ≤ 2 ∧ i = .int .i64 k ∧ Hid ((1 ≤ k → allKnown n.us 256) ∧ (2 ≤ k → allKnown n.him 256)) ∧ Below w.heap.size w wr) (fun i _ => (2 - intOf i).toNat)
  case atStart => exact ⟨0, Nat.zero_le _, rfl, ⟨fun h => by omega, fun h => by omega⟩, (Below.refl _ _).alloc (Nat.le_refl _) _⟩
  case round =>
    obtain ⟨k, hk, rfl, hall0, hb⟩ := hrel
    clear C1 C2
    have part0 : ((rowF 256 (u8F n.us) ++ rowF 256 (u8F n.him)).drop (0 * 256)).take 256 = rowF 256 (u8F n.us) := by
      rw [Nat.zero_mul, List.drop_zero]; exact List.take_left' (rowF_len _ _)
    have part1 : ((rowF 256 (u8F n.us) ++ rowF 256 (u8F n.him)).drop (1 * 256)).take 256 = rowF 256 (u8F n.him) := by
      rw [Nat.one_mul, List.drop_left' (rowF_len _ _)]; exact List.take_of_length_le (by rw [rowF_len]; exact Nat.le_refl _)
    have hcase : k = 0 ∨ k = 1 ∨ k = 2 := by omega
    have P0 := Lib.hid part0; have P1 := Lib.hid part1; clear part0 part1
    rcases hcase with rfl | rfl | rfl
    · skip
      have hidx : ∀ W, (Instr.index 50 (.agg (rowF 256 (u8F n.us) ++ rowF 256 (u8F n.him)).toArray) (.int .i64 0)).run Try.prog W = .ok (.agg (rowF 256 (u8F n.us)).toArray) W := fun W => run_index_part (P := Try.prog) (w := W) 50 31 2 256 (rowF 256 (u8F n.us) ++ rowF 256 (u8F n.him)) .i64 0 _ Try.underlying50 Try.underlying31 rfl size256 (by omega) (rowF 256 (u8F n.us)) P0.out
      have hin := fun (W : World) (k : Nat) (hk : k < 256) => run_index_agg (P := Try.prog) (w := W) 31 5 256 (rowF 256 (u8F n.us)).toArray .i64 k (.int .u8 (n.us k)) _ Try.underlying31 Try.underlying5 rfl (by kernel_rfl) (by omega) (by omega) (by simpa [u8F] using rowF_get 256 (u8F n.us) k hk)
      have HI := Lib.hid hin; clear hin
      have Lz := hb.alloc hb.size (.cells z256 31)
      have hz := heap_alloc_new wr (.cells z256 31)
      have hz2 := setRow_heap (wr.alloc (.cells z256 31)) wr.heap.size z256 (rowF 256 (u8F n.us)).toArray 31 (0, 0) hz
      have L2 : Below w.heap.size w ((wr.alloc (.cells z256 31)).setRow wr.heap.size (rowF 256 (u8F n.us)).toArray) := Lz.trans ⟨rfl, rfl, rfl, by simp [World.setRow], fun k hk => setRow_other _ _ _ _ (by have := hb.size; omega)⟩
      have HZ := Lib.hid hz; have HZ2 := Lib.hid hz2; clear hz hz2
      go_wp2_with (first | (with_reducible show wpList _ _ _ (Oper.mk _ (Op.alloc _) _ _ _ _ :: _) _ _; refine wpList_alloc_row rfl 31 rfl (some 4) rfl z256 zero256 ?_) | (with_reducible show wpList _ _ _ (Oper.mk _ (Op.store _ (.tmp 4) (.tmp 14)) _ _ _ _ :: _) _ _; refine wpList_store_rowTo rfl 31 (.tmp 4) (.tmp 14) rfl rfl wr.heap.size (rowF 256 (u8F n.us)).toArray rfl rfl 31 z256 HZ.out ?_ ?_ ?_ ?_; (simpa [rowF_len] using size256); (simp [rowF_len, z256]); (simp [rowF, u8F, Value.oneCell'])) | (with_reducible show wpList _ _ _ (Oper.mk _ (Op.load _ (.tmp 4)) _ _ _ _ :: _) _ _; refine wpList_load_row rfl 31 (.tmp 4) rfl wr.heap.size rfl 31 (rowF 256 (u8F n.us)).toArray (0, 0) _ HZ2.out Try.underlying31 rfl ?_ ?_; (simpa [rowF_len] using size256)))
      obtain ⟨W2, hW2⟩ : ∃ W2, W2 = (wr.alloc (.cells z256 31)).setRow wr.heap.size (rowF 256 (u8F n.us)).toArray := ⟨_, rfl⟩
      rw [← hW2] at L2 ⊢
      clear hW2 HZ HZ2 hidx Lz hb
      go_loopw [16] (fun i wi => ∃ k : Nat, k ≤ 256 ∧ i = .int .i64 k ∧ Hid (allKnown n.us k) ∧ wi = W2) (fun i _ => (256 - intOf i).toNat)
      case atStart => exact ⟨0, Nat.zero_le _, rfl, fun j hj => absurd hj (Nat.not_lt_zero j), rfl⟩
      case round =>
        obtain ⟨k, hk, rfl, hall, rfl⟩ := hrel
        by_cases hlt : k < 256
        · have hin := fun W => HI.out W k hlt
          have r0 : 0 ≤ n.us k := by have := HR.out k; omega
          have r1 : n.us k ≤ 255 := by have := HR.out k; omega
          cases hkn : knownB (n.us k) with
          | true =>
            have HA : Hid (allKnown n.us (k+1)) := fun j hj => by
              by_cases e : j = k
              · subst e; exact hkn
              · exact hall.out j (by omega)
            have hltI : (k : Int) < 256 := by omega
            go_wp2_with (go_at_call 14; refine (known_any _ _).mono ?_; rintro e w' ⟨rfl, rfl⟩)
            go_roundw
            case rel => exact ⟨k + 1, by omega, by go_num, HA, by first | trivial | rfl⟩
            case measure => simp [intOf]; omega
          | false =>
            have HE : Hid (checkE n = 4) := checkE_us n k hlt hkn
            have hltI : (k : Int) < 256 := by omega
            go_wp2_with (go_at_call 14; refine (known_any _ _).mono ?_; rintro e w' ⟨rfl, rfl⟩)
            go_ret
            exact ⟨by rw [HE.out]; rfl, L2⟩
        · obtain rfl : k = 256 := by omega
          clear HI
          go_wp2_with fail
          go_roundw
          case rel => exact ⟨1, by omega, rfl, ⟨fun _ => hall.out, fun h => by omega⟩, L2⟩
          case measure => simp [intOf]
    · skip
      have hidx : ∀ W, (Instr.index 50 (.agg (rowF 256 (u8F n.us) ++ rowF 256 (u8F n.him)).toArray) (.int .i64 1)).run Try.prog W = .ok (.agg (rowF 256 (u8F n.him)).toArray) W := fun W => run_index_part (P := Try.prog) (w := W) 50 31 2 256 (rowF 256 (u8F n.us) ++ rowF 256 (u8F n.him)) .i64 1 _ Try.underlying50 Try.underlying31 rfl size256 (by omega) (rowF 256 (u8F n.him)) P1.out
      have hin := fun (W : World) (k : Nat) (hk : k < 256) => run_index_agg (P := Try.prog) (w := W) 31 5 256 (rowF 256 (u8F n.him)).toArray .i64 k (.int .u8 (n.him k)) _ Try.underlying31 Try.underlying5 rfl (by kernel_rfl) (by omega) (by omega) (by simpa [u8F] using rowF_get 256 (u8F n.him) k hk)
      have HI := Lib.hid hin; clear hin
      have Lz := hb.alloc hb.size (.cells z256 31)
      have hz := heap_alloc_new wr (.cells z256 31)
      have hz2 := setRow_heap (wr.alloc (.cells z256 31)) wr.heap.size z256 (rowF 256 (u8F n.him)).toArray 31 (0, 0) hz
      have L2 : Below w.heap.size w ((wr.alloc (.cells z256 31)).setRow wr.heap.size (rowF 256 (u8F n.him)).toArray) := Lz.trans ⟨rfl, rfl, rfl, by simp [World.setRow], fun k hk => setRow_other _ _ _ _ (by have := hb.size; omega)⟩
      have HZ := Lib.hid hz; have HZ2 := Lib.hid hz2; clear hz hz2
      go_wp2_with (first | (with_reducible show wpList _ _ _ (Oper.mk _ (Op.alloc _) _ _ _ _ :: _) _ _; refine wpList_alloc_row rfl 31 rfl (some 4) rfl z256 zero256 ?_) | (with_reducible show wpList _ _ _ (Oper.mk _ (Op.store _ (.tmp 4) (.tmp 14)) _ _ _ _ :: _) _ _; refine wpList_store_rowTo rfl 31 (.tmp 4) (.tmp 14) rfl rfl wr.heap.size (rowF 256 (u8F n.him)).toArray rfl rfl 31 z256 HZ.out ?_ ?_ ?_ ?_; (simpa [rowF_len] using size256); (simp [rowF_len, z256]); (simp [rowF, u8F, Value.oneCell'])) | (with_reducible show wpList _ _ _ (Oper.mk _ (Op.load _ (.tmp 4)) _ _ _ _ :: _) _ _; refine wpList_load_row rfl 31 (.tmp 4) rfl wr.heap.size rfl 31 (rowF 256 (u8F n.him)).toArray (0, 0) _ HZ2.out Try.underlying31 rfl ?_ ?_; (simpa [rowF_len] using size256)))
      obtain ⟨W2, hW2⟩ : ∃ W2, W2 = (wr.alloc (.cells z256 31)).setRow wr.heap.size (rowF 256 (u8F n.him)).toArray := ⟨_, rfl⟩
      rw [← hW2] at L2 ⊢
      clear hW2 HZ HZ2 hidx Lz hb
      go_loopw [16] (fun i wi => ∃ k : Nat, k ≤ 256 ∧ i = .int .i64 k ∧ Hid (allKnown n.him k) ∧ wi = W2) (fun i _ => (256 - intOf i).toNat)
      case atStart => exact ⟨0, Nat.zero_le _, rfl, fun j hj => absurd hj (Nat.not_lt_zero j), rfl⟩
      case round =>
        obtain ⟨k, hk, rfl, hall, rfl⟩ := hrel
        by_cases hlt : k < 256
        · have hin := fun W => HI.out W k hlt
          have r0 : 0 ≤ n.him k := by have := HR.out k; omega
          have r1 : n.him k ≤ 255 := by have := HR.out k; omega
          cases hkn : knownB (n.him k) with
          | true =>
            have HA : Hid (allKnown n.him (k+1)) := fun j hj => by
              by_cases e : j = k
              · subst e; exact hkn
              · exact hall.out j (by omega)
            have hltI : (k : Int) < 256 := by omega
            go_wp2_with (go_at_call 14; refine (known_any _ _).mono ?_; rintro e w' ⟨rfl, rfl⟩)
            go_roundw
            case rel => exact ⟨k + 1, by omega, by go_num, HA, by first | trivial | rfl⟩
            case measure => simp [intOf]; omega
          | false =>
            have HE : Hid (checkE n = 4) := checkE_him n k hlt hkn
            have hltI : (k : Int) < 256 := by omega
            go_wp2_with (go_at_call 14; refine (known_any _ _).mono ?_; rintro e w' ⟨rfl, rfl⟩)
            go_ret
            exact ⟨by rw [HE.out]; rfl, L2⟩
        · obtain rfl : k = 256 := by omega
          clear HI
          go_wp2_with fail
          go_roundw
          case rel => exact ⟨2, by omega, rfl, ⟨fun _ => hall0.out.1 (by omega), fun _ => hall.out⟩, L2⟩
          case measure => simp [intOf]
    · have HE : Hid (checkE n = 0) := checkE_ok n (hall0.out.1 (by omega)) (hall0.out.2 (by omega))
      go_wp2_with fail
      go_ret
      exact ⟨by rw [HE.out]; rfl, hb⟩
end Go.Proofs.Ytddnpgmmlfbhfaa.Qneg
