/- The contract of qneg.Take; the constant case qnegLives. -/
import Derived.Test.YtddnpgmmlfbhfaaQnegE
namespace Go.Proofs.Ytddnpgmmlfbhfaa.Qneg
open Go.ChangeShapes Go.WideShapes Go.ChangeAt Go.RowKit
open Go.Proofs.Ytddnpgmmlfbhfaa.Com Go.Proofs.Ytddnpgmmlfbhfaa.Row
set_option maxRecDepth 100000
attribute [local go_sem ↓] loadNeg storeNeg allocNeg

theorem negA_size (n : Ng) : (negC n).toArray.size = 520 := by simp [negC_len]
theorem negA_one (n : Ng) : (negC n).toArray.all (·.oneCell') = true := by
  rw [Array.all_eq_true_iff_forall_mem]
  intro x hx
  simp [negC, rowF, u8F, u64F] at hx
  rcases hx with ⟨_, _, rfl⟩ | ⟨_, _, rfl⟩ | ⟨_, _, rfl⟩ | ⟨_, _, rfl⟩ <;> rfl
theorem loadN (g : Nat) (n : Ng) (W : World) (h : W.heap[g]? = some (.cells (negC n).toArray 35 (0, 0))) :
    (rowLoad 35 (.pointer (some ⟨g, 0, none⟩))).run Try.prog W = .ok (.agg (negC n).toArray) W :=
  run_rowLoad _ _ W _ _ _ _ h Try.underlying35 rfl (by rw [negA_size]; exact sizeNeg)
theorem storeN (g : Nat) (n : Ng) (W : World) (old : Array Value) (h : W.heap[g]? = some (.cells old 35 (0, 0))) (ho : old.size = 520) :
    (rowStore 35 (.pointer (some ⟨g, 0, none⟩)) (.agg (negC n).toArray)).run Try.prog W = .ok () (W.setRow g (negC n).toArray) :=
  run_rowStore _ _ W _ _ _ h (by rw [negA_size]; exact sizeNeg) (by rw [negA_size, ho]) (negA_one n)
theorem allocN (W : World) (v : Value) : (rowAlloc 35 true v).run Try.prog W = .ok (.pointer (some ⟨W.heap.size, 0, none⟩)) (W.alloc (.cells zNeg 35)) :=
  run_rowAlloc _ W v zNeg zeroNeg
theorem zNeg_size : zNeg.size = 520 := by simp [zNeg]

/-- The world behind the three first operations of Take: the boxes of its arguments, and its result's place. -/
theorem take_start (n : Ng) (T : Array Value) (w : World) : ∃ W0, W0 = ((w.alloc (.cells (negC n).toArray 35)).alloc (.cells T 37)).alloc (.cells zNeg 35) ∧
    Below w.heap.size w W0 ∧ W0.heap[w.heap.size]? = some (.cells (negC n).toArray 35 (0, 0)) ∧ W0.heap[w.heap.size + 2]? = some (.cells zNeg 35 (0, 0)) ∧
    W0.heap[w.heap.size + 1]? = some (.cells T 37 (0, 0)) := by
  refine ⟨_, rfl, (((Below.refl _ _).alloc (Nat.le_refl _) _).alloc (by simp) _).alloc (by simp; omega) _, ?_, ?_, ?_⟩
  · rw [heap_alloc_old _ _ (by simp; omega), heap_alloc_old _ _ (by simp)]; exact heap_alloc_new _ _
  · have := heap_alloc_new ((w.alloc (.cells (negC n).toArray 35)).alloc (.cells T 37)) (.cells zNeg 35)
    simpa using this
  · rw [heap_alloc_old _ _ (by simp)]; have := heap_alloc_new (w.alloc (.cells (negC n).toArray 35)) (.cells T 37)
    simpa using this

set_option maxHeartbeats 400000 in
theorem take_bad (n : Ng) (hr : Rng n) (k c o : Int) (d : ByteArray) (h : checkE n = 4) (w : World) :
    Calls Try.prog 11 #[.agg (negC n).toArray, tokV k c o d] w fun e w' => e = .returned (.tuple #[.agg (negC n).toArray, .string ⟨#[]⟩, .int .i64 4]) ∧ Below w.heap.size w w' := by
  obtain ⟨W0, hW0, L0, hN, hZ, hT⟩ := take_start n #[.int .i64 k, .int .i64 c, .int .i64 o, .string d] w
  have HW := Lib.hid hW0; have HZ := Lib.hid hZ; have HE := Lib.hid h
  have hl0 := loadN w.heap.size n W0 hN
  have hal := fun v => allocN ((w.alloc (.cells (negC n).toArray 35)).alloc (.cells #[.int .i64 k, .int .i64 c, .int .i64 o, .string d] 37)) v
  clear hW0 hZ h hT
  unfold tokV
  go_enter Try.func11, Try.ntmps11
  go_upto_region 1 with (fail)
  rw [← HW.out]
  clear hal
  go_wp2_with fail
  refine (check_any n hr _).mono ?_; rintro e w1 ⟨rfl, hb1⟩
  rw [HE.out]
  have hN1 := heap_keep hb1 hN
  have hZ1 := heap_keep hb1 HZ.out
  have L1 := L0.trans (hb1.mono L0.size)
  have hl1 := loadN w.heap.size n w1 hN1
  have hs1 := storeN (w.heap.size + 2) n w1 _ hZ1 zNeg_size
  have hF := setRow_heap w1 (w.heap.size + 2) _ (negC n).toArray _ _ hZ1
  have HF := Lib.hid hF
  have L2 : Below w.heap.size w (w1.setRow (w.heap.size + 2) (negC n).toArray) := L1.trans ((But.setRow _ w1 _).below (by omega) L1.size)
  clear hN hN1 hZ1 hl0 hb1 hF
  go_wp2_with fail
  refine bodyPost_ret (results_row3 (P := Try.prog) rfl _ _ (w.heap.size + 2) 35 (negC n).toArray (0, 0) _ rfl HF.out Try.underlying35 rfl (by rw [negA_size]; exact sizeNeg)) rfl ⟨rfl, L2⟩

set_option maxHeartbeats 400000 in
theorem take_inv (n : Ng) (hr : Rng n) (k c o : Int) (d : ByteArray) (h : checkE n = 0) (hv : validB k c o d = false) (w : World) :
    Calls Try.prog 11 #[.agg (negC n).toArray, tokV k c o d] w fun e w' => e = .returned (.tuple #[.agg (negC n).toArray, .string ⟨#[]⟩, .int .i64 1]) ∧ Below w.heap.size w w' := by
  obtain ⟨W0, hW0, L0, hN, hZ, hT⟩ := take_start n #[.int .i64 k, .int .i64 c, .int .i64 o, .string d] w
  have HW := Lib.hid hW0; have HZ := Lib.hid hZ; have HE := Lib.hid h; have HV := Lib.hid hv; have HT := Lib.hid hT
  have hl0 := loadN w.heap.size n W0 hN
  have hal := fun v => allocN ((w.alloc (.cells (negC n).toArray 35)).alloc (.cells #[.int .i64 k, .int .i64 c, .int .i64 o, .string d] 37)) v
  clear hW0 hZ h hT hv
  have hvl := fun W => valid_any k c o d W
  have HVL := Lib.hid hvl; clear hvl
  unfold tokV at *
  go_enter Try.func11, Try.ntmps11
  go_upto_region 1 with (fail)
  rw [← HW.out]
  clear hal
  go_wp2_with fail
  refine (check_any n hr _).mono ?_; rintro e w1 ⟨rfl, hb1⟩
  rw [HE.out]
  have hN1 := heap_keep hb1 hN
  have HZ1 := Lib.hid (heap_keep hb1 HZ.out)
  have hT1 := heap_keep hb1 HT.out
  have L1 := L0.trans (hb1.mono L0.size)
  have t0 : w1.cell? ⟨w.heap.size + 1, 0, none⟩ = some (.int .i64 k) := by rw [cell_of_row _ _ _ _ _ _ hT1]; rfl
  have t1 : w1.cell? ⟨w.heap.size + 1, 1, none⟩ = some (.int .i64 c) := by rw [cell_of_row _ _ _ _ _ _ hT1]; rfl
  have t2 : w1.cell? ⟨w.heap.size + 1, 2, none⟩ = some (.int .i64 o) := by rw [cell_of_row _ _ _ _ _ _ hT1]; rfl
  have t3 : w1.cell? ⟨w.heap.size + 1, 3, none⟩ = some (.string d) := by rw [cell_of_row _ _ _ _ _ _ hT1]; rfl
  clear hN hl0 hb1 hT1
  go_wp2_with fail
  refine (HVL.out _).mono ?_; rintro e w2 ⟨rfl, hb2⟩
  rw [HV.out]
  have hN2 := heap_keep hb2 hN1
  have hZ2 := heap_keep hb2 HZ1.out
  have L2 := L1.trans (hb2.mono L1.size)
  have hl2 := loadN w.heap.size n w2 hN2
  have hs2 := storeN (w.heap.size + 2) n w2 _ hZ2 zNeg_size
  have HF := Lib.hid (setRow_heap w2 (w.heap.size + 2) _ (negC n).toArray _ _ hZ2)
  have L3 : Below w.heap.size w (w2.setRow (w.heap.size + 2) (negC n).toArray) := L2.trans ((But.setRow _ w2 _).below (by omega) L2.size)
  clear hN1 hN2 hZ2 hb2 t0 t1 t2 t3
  go_wp2_with fail
  refine bodyPost_ret (results_row3 (P := Try.prog) rfl _ _ (w.heap.size + 2) 35 (negC n).toArray (0, 0) _ rfl HF.out Try.underlying35 rfl (by rw [negA_size]; exact sizeNeg)) rfl ⟨rfl, L3⟩

set_option maxHeartbeats 400000 in
theorem take_ok (n n' : Ng) (hr : Rng n) (k c o : Int) (d S : ByteArray) (h : checkE n = 0) (hv : validB k c o d = true)
    (hh : ∀ w, Calls Try.prog 17 #[.agg (negC n).toArray, tokV k c o d] w fun e w' => e = .returned (.tuple #[.agg (negC n').toArray, .string S]) ∧ Below w.heap.size w w') (w : World) :
    Calls Try.prog 11 #[.agg (negC n).toArray, tokV k c o d] w fun e w' => e = .returned (.tuple #[.agg (negC n').toArray, .string S, .int .i64 0]) ∧ Below w.heap.size w w' := by
  obtain ⟨W0, hW0, L0, hN, hZ, hT⟩ := take_start n #[.int .i64 k, .int .i64 c, .int .i64 o, .string d] w
  have HW := Lib.hid hW0; have HZ := Lib.hid hZ; have HE := Lib.hid h; have HV := Lib.hid hv; have HT := Lib.hid hT; have HH := Lib.hid hh
  have hl0 := loadN w.heap.size n W0 hN
  have hal := fun v => allocN ((w.alloc (.cells (negC n).toArray 35)).alloc (.cells #[.int .i64 k, .int .i64 c, .int .i64 o, .string d] 37)) v
  clear hW0 hZ h hT hv hh
  have hvl := fun W => valid_any k c o d W
  have HVL := Lib.hid hvl; clear hvl
  unfold tokV at *
  go_enter Try.func11, Try.ntmps11
  go_upto_region 1 with (fail)
  rw [← HW.out]
  clear hal
  go_wp2_with fail
  refine (check_any n hr _).mono ?_; rintro e w1 ⟨rfl, hb1⟩
  rw [HE.out]
  have hN1 := heap_keep hb1 hN
  have HZ1 := Lib.hid (heap_keep hb1 HZ.out)
  have hT1 := heap_keep hb1 HT.out
  have L1 := L0.trans (hb1.mono L0.size)
  have t0 : w1.cell? ⟨w.heap.size + 1, 0, none⟩ = some (.int .i64 k) := by rw [cell_of_row _ _ _ _ _ _ hT1]; rfl
  have t1 : w1.cell? ⟨w.heap.size + 1, 1, none⟩ = some (.int .i64 c) := by rw [cell_of_row _ _ _ _ _ _ hT1]; rfl
  have t2 : w1.cell? ⟨w.heap.size + 1, 2, none⟩ = some (.int .i64 o) := by rw [cell_of_row _ _ _ _ _ _ hT1]; rfl
  have t3 : w1.cell? ⟨w.heap.size + 1, 3, none⟩ = some (.string d) := by rw [cell_of_row _ _ _ _ _ _ hT1]; rfl
  clear hN hl0 hb1 hT1
  go_wp2_with fail
  refine (HVL.out _).mono ?_; rintro e w2 ⟨rfl, hb2⟩
  rw [HV.out]
  have hN2 := heap_keep hb2 hN1
  have HZ2 := Lib.hid (heap_keep hb2 HZ1.out)
  have L2 := L1.trans (hb2.mono L1.size)
  have hl2 := loadN w.heap.size n w2 hN2
  replace t0 := cell_keep t0 hb2; replace t1 := cell_keep t1 hb2; replace t2 := cell_keep t2 hb2; replace t3 := cell_keep t3 hb2
  clear hN1 hb2 HZ1
  go_wp2_with fail
  refine (HH.out _).mono ?_; rintro e w3 ⟨rfl, hb3⟩
  have hN3 := heap_keep hb3 hN2
  have hZ3 := heap_keep hb3 HZ2.out
  have L3 := L2.trans (hb3.mono L2.size)
  have hs3 := storeN w.heap.size n' w3 _ hN3 (negA_size n)
  have hN4 := setRow_heap w3 w.heap.size _ (negC n').toArray _ _ hN3
  have hZ4 : (w3.setRow w.heap.size (negC n').toArray).heap[w.heap.size + 2]? = _ := (setRow_other w3 w.heap.size (w.heap.size + 2) (negC n').toArray (by omega)).trans hZ3
  have hl4 := loadN w.heap.size n' _ hN4
  have hs4 := storeN (w.heap.size + 2) n' _ _ hZ4 zNeg_size
  have HF := Lib.hid (setRow_heap _ (w.heap.size + 2) _ (negC n').toArray _ _ hZ4)
  have L4 : Below w.heap.size w (w3.setRow w.heap.size (negC n').toArray) := L3.trans ((But.setRow _ w3 _).below (Nat.le_refl _) L3.size)
  have L5 : Below w.heap.size w ((w3.setRow w.heap.size (negC n').toArray).setRow (w.heap.size + 2) (negC n').toArray) := L4.trans ((But.setRow _ _ _).below (by omega) L4.size)
  clear hN2 hN3 hZ3 hb3 t0 t1 t2 t3 hl2 hN4 hZ4
  go_wp2_with fail
  refine bodyPost_ret (results_row3 (P := Try.prog) rfl _ _ (w.heap.size + 2) 35 (negC n').toArray (0, 0) _ rfl HF.out Try.underlying35 rfl (by rw [negA_size]; exact sizeNeg)) rfl ⟨rfl, L5⟩

/-! ### qnegLives -/
def n0 : Ng := { us := fun _ => 0, him := fun _ => 0, uo := fun i => if i = 0 then 2 else 0, ho := fun _ => 0 }
theorem n0_built : Try.prog.built 35 [(2, .agg #[.int .u64 2, .int .u64 0, .int .u64 0, .int .u64 0])] = some (negC n0).toArray := by kernel_rfl
theorem n0_check : checkE n0 = 0 := by decide +kernel

set_option maxHeartbeats 400000 in
theorem lives (w : World) : Calls Try.prog 9 #[] w fun e w' => e = .returned (.bool true) ∧ Below w.heap.size w w' := by
  have hr : Rng n0 := fun i => ⟨by simp [n0], by simp [n0], by simp [n0], by simp [n0]⟩
  have hh := fun w => hears_253 n0 1 ⟨#[]⟩ hr (by omega) (by omega) w
  have e1 : (hearS (n0.us (1 : Int).toNat) true (okB n0.uo 1)) = (1, 1, false) := by decide +kernel
  rw [show hearsUs n0 true 1 = { n0 with us := upd n0.us 1 1 } by unfold hearsUs; rw [e1]; rfl, e1] at hh
  rw [show bytesS true 1 1 = [255, 251, 1] by decide +kernel] at hh
  have ht := fun w => take_ok n0 _ hr 3 253 1 ⟨#[]⟩ _ n0_check (by decide +kernel) hh w
  generalize hn1 : ({ n0 with us := upd n0.us 1 1 } : Ng) = n1 at *
  have hu : n1.us 1 = 1 := by rw [← hn1]; rfl
  have HT := Lib.hid ht; have HN := Lib.hid n0_built
  clear ht hh hr hn1 e1
  have HU := Lib.hid hu; clear hu
  unfold tokV at HT
  go_enter Try.func9, Try.ntmps9
  go_wp2_with (with_reducible show wpList _ _ _ (Oper.mk _ (Op.build 35 _) _ _ _ _ :: _) _ _; refine wpList_buildTo rfl 35 _ rfl (some 6) rfl (negC n0).toArray ?_ ?_; simp only [List.map_toArray, List.map_cons, List.map_nil]; go_simp; exact HN.out)
  refine (HT.out _).mono ?_; rintro e w1 ⟨rfl, hb1⟩
  have ha := fun v => allocN w1 v
  have hz := heap_alloc_new w1 (.cells zNeg 35)
  have hs := storeN w1.heap.size n1 (w1.alloc (.cells zNeg 35)) _ hz zNeg_size
  have hc : ((w1.alloc (.cells zNeg 35)).setRow w1.heap.size (negC n1).toArray).cell? ⟨w1.heap.size, 1, none⟩ = some (.int .u8 1) := by
    rw [cell_setRow_same _ _ _ _ _ _ _ hz]
    have := negC_us n1 1 (by omega)
    rw [HU.out] at this
    simpa using this
  have L1 : Below w.heap.size w ((w1.alloc (.cells zNeg 35)).setRow w1.heap.size (negC n1).toArray) :=
    (hb1.alloc hb1.size _).trans ((But.setRow _ _ _).below hb1.size (by have := hb1.size; simp; omega))
  clear hb1 hz
  go_wp2_with fail
  go_ret
  exact ⟨rfl, L1⟩
end Go.Proofs.Ytddnpgmmlfbhfaa.Qneg
