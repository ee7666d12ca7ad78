/- The contract of qneg.Hears. -/
import Derived.Test.YtddnpgmmlfbhfaaQnegC
namespace Go.Proofs.Ytddnpgmmlfbhfaa.Qneg
open Go.ChangeShapes Go.WideShapes Go.ChangeAt Go.RowKit
open Go.Proofs.Ytddnpgmmlfbhfaa.Com Go.Proofs.Ytddnpgmmlfbhfaa.Row
set_option maxRecDepth 100000

def zNeg : Array Value := ((List.replicate 512 (Value.int .u8 0)) ++ List.replicate 8 (Value.int .u64 0)).toArray
theorem zeroNeg : (Try.prog.info? 35).bind (·.zero) = some (.agg zNeg) := by kernel_rfl
theorem sizeNeg : (Try.prog.info? 35).map (·.size) = some 520 := by kernel_rfl

theorem loadNeg (v : Value) : Instr.loadAt 35 v = rowLoad 35 v := rfl
theorem storeNeg (p v : Value) : Instr.storeAt 35 p v = rowStore 35 p v := rfl
theorem allocNeg (b : Bool) (v : Value) : Instr.alloc 35 b v = rowAlloc 35 b v := rfl
attribute [local go_sem ↓] loadNeg storeNeg allocNeg

def okB (f : Nat → Int) (o : Int) : Bool := bits BinOp.and IntKind.u64 (f (o / 64).toNat / 2 ^ (o % 64).toNat) 1 == 1
def f4 (a b c d : Int) : Nat → Int | 0 => a | 1 => b | 2 => c | _ => d
theorem f4_id (f : Nat → Int) (k : Nat) (h : k < 4) : f4 (f 0) (f 1) (f 2) (f 3) k = f k := by
  match k, h with
  | 0, _ => rfl
  | 1, _ => rfl
  | 2, _ => rfl
  | 3, _ => rfl
theorem cellOk (w : World) (f : Nat → Int) (T : TypeId) (k : Nat) (hk : k < 4) :
    (w.alloc (.cells #[.int .u64 (f 0), .int .u64 (f 1), .int .u64 (f 2), .int .u64 (f 3)] T)).cell? ⟨w.heap.size, k, none⟩ = some (.int .u64 (f k)) := by
  match k, hk with
  | 0, _ => simp
  | 1, _ => simp
  | 2, _ => simp
  | 3, _ => simp

/-- What Hears comes to. -/
def hearsUs (n : Ng) (on : Bool) (o : Int) : Ng := { n with us := upd n.us o.toNat (hearS (n.us o.toNat) on (okB n.uo o)).1 }
def hearsHim (n : Ng) (on : Bool) (o : Int) : Ng := { n with him := upd n.him o.toNat (hearS (n.him o.toNat) on (okB n.ho o)).1 }
theorem hearS_range (s : Int) (on agree : Bool) (h0 : 0 ≤ s) (h1 : s ≤ 255) : 0 ≤ (hearS s on agree).1 ∧ (hearS s on agree).1 ≤ 255 ∧ 0 ≤ (hearS s on agree).2.1 ∧ (hearS s on agree).2.1 ≤ 2 := by
  unfold hearS
  cases on <;> cases agree <;> simp only [if_true, if_false, Bool.false_eq_true] <;> (repeat' split) <;> simp only [] <;> omega

def Rng (n : Ng) : Prop := ∀ i, 0 ≤ n.us i ∧ n.us i ≤ 255 ∧ 0 ≤ n.him i ∧ n.him i ≤ 255

theorem list_set_app_right {α : Type} (l m : List α) (i : Nat) (v : α) (n : Nat) (hn : l.length = n) : (l ++ m).set (n + i) v = l ++ m.set i v := by
  subst hn
  rw [List.set_append_right _ _ (by omega)]
  simp
theorem negC_set_us (n : Ng) (i : Nat) (h : i < 256) (x : Int) : (negC n).toArray.setIfInBounds i (.int .u8 x) = (negC { n with us := upd n.us i x }).toArray := by
  apply Array.ext'
  simp only [Array.toList_setIfInBounds, negC]
  rw [List.set_append_left _ _ (by rw [rowF_len]; exact h), rowF_set]
  congr 1
  apply rowF_congr
  intro j _
  simp only [upd, u8F]; split <;> rfl
theorem negC_set_him (n : Ng) (i : Nat) (h : i < 256) (x : Int) : (negC n).toArray.setIfInBounds (256 + i) (.int .u8 x) = (negC { n with him := upd n.him i x }).toArray := by
  apply Array.ext'
  simp only [Array.toList_setIfInBounds, negC]
  rw [list_set_app_right _ _ _ _ 256 (rowF_len _ _), List.set_append_left _ _ (by rw [rowF_len]; exact h), rowF_set]
  congr 2
  apply rowF_congr
  intro j _
  simp only [upd, u8F]; split <;> rfl

set_option maxHeartbeats 1000000 in
theorem hears_251 (n : Ng) (o : Int) (d : ByteArray) (hr : Rng n) (h0 : 0 ≤ o) (h1 : o ≤ 255) (w : World) :
    Calls Try.prog 17 #[.agg (negC n).toArray, tokV 3 251 o d] w fun e w' =>
      e = .returned (.tuple #[.agg (negC (hearsHim n true o)).toArray, .string ⟨(bytesS false (hearS (n.him o.toNat) true (okB n.ho o)).2.1 o).toArray⟩]) ∧ Below w.heap.size w w' := by
  obtain ⟨W0, hW0⟩ : ∃ W0, W0 = ((w.alloc (.cells (negC n).toArray 35)).alloc (.cells #[.int .i64 3, .int .i64 251, .int .i64 o, .string d] 37)).alloc (.cells zNeg 35) := ⟨_, rfl⟩
  have hL0 : Below w.heap.size w W0 := by rw [hW0]; exact (((Below.refl _ _).alloc (Nat.le_refl _) _).alloc (by simp) _).alloc (by simp; omega) _
  have hs0 : W0.heap.size = w.heap.size + 3 := by rw [hW0]; simp
  have hN : W0.heap[w.heap.size]? = some (.cells (negC n).toArray 35 (0, 0)) := by
    rw [hW0, heap_alloc_old _ _ (by simp; omega), heap_alloc_old _ _ (by simp)]; exact heap_alloc_new _ _
  have hZ : W0.heap[w.heap.size + 2]? = some (.cells zNeg 35 (0, 0)) := by
    rw [hW0]; have := heap_alloc_new ((w.alloc (.cells (negC n).toArray 35)).alloc (.cells #[.int .i64 3, .int .i64 251, .int .i64 o, .string d] 37)) (.cells zNeg 35)
    simpa using this
  have hT : W0.heap[w.heap.size + 1]? = some (.cells #[.int .i64 3, .int .i64 251, .int .i64 o, .string d] 37 (0, 0)) := by
    rw [hW0, heap_alloc_old _ _ (by simp)]; have := heap_alloc_new (w.alloc (.cells (negC n).toArray 35)) (.cells #[.int .i64 3, .int .i64 251, .int .i64 o, .string d] 37)
    simpa using this
  have t1 : W0.cell? ⟨w.heap.size + 1, 1, none⟩ = some (.int .i64 251) := by rw [cell_of_row _ _ _ _ _ _ hT]; rfl
  have t2 : W0.cell? ⟨w.heap.size + 1, 2, none⟩ = some (.int .i64 o) := by rw [cell_of_row _ _ _ _ _ _ hT]; rfl
  have k0 : W0.cell? ⟨w.heap.size, 516, none⟩ = some (.int .u64 (n.ho 0)) := by rw [cell_of_row _ _ _ _ _ _ hN]; simpa using negC_ho n 0 (by omega)
  have k1 : W0.cell? ⟨w.heap.size, 517, none⟩ = some (.int .u64 (n.ho 1)) := by rw [cell_of_row _ _ _ _ _ _ hN]; simpa using negC_ho n 1 (by omega)
  have k2 : W0.cell? ⟨w.heap.size, 518, none⟩ = some (.int .u64 (n.ho 2)) := by rw [cell_of_row _ _ _ _ _ _ hN]; simpa using negC_ho n 2 (by omega)
  have k3 : W0.cell? ⟨w.heap.size, 519, none⟩ = some (.int .u64 (n.ho 3)) := by rw [cell_of_row _ _ _ _ _ _ hN]; simpa using negC_ho n 3 (by omega)
  have kh : W0.cell? ⟨w.heap.size, 256 + o.toNat, none⟩ = some (.int .u8 (n.him o.toNat)) := by rw [cell_of_row _ _ _ _ _ _ hN]; simpa using negC_him n o.toNat (by omega)
  have HW := Lib.hid hW0; have HN := Lib.hid hN; have HZ := Lib.hid hZ
  have hs : w.heap.size + 3 ≤ W0.heap.size := by omega
  have hl0 : w.heap.size < W0.heap.size := by omega
  have hl1 : w.heap.size + 1 < W0.heap.size := by omega
  have hl2 : w.heap.size + 1 + 1 < W0.heap.size := by omega
  have h2 : o < 256 := by omega
  clear hW0 hN hZ hT hs0
  unfold tokV
  go_enter Try.func17, Try.ntmps17
  go_upto_region 1 with (with_reducible show wpList _ _ _ (Oper.mk _ (Op.alloc _) _ _ _ _ :: _) _ _; refine wpList_alloc_row rfl 35 rfl (some 4) rfl zNeg zeroNeg ?_)
  rw [← HW.out]
  go_wp2_with fail
  go_region
  go_wp2_with fail
  have hok := cellOk W0 n.ho 33 (o / 64).toNat (by omega)
  obtain ⟨W1, hW1⟩ : ∃ W1, W1 = (W0.alloc (.cells #[.int .u64 (n.ho 0), .int .u64 (n.ho 1), .int .u64 (n.ho 2), .int .u64 (n.ho 3)] 33)).drew := ⟨_, rfl⟩
  rw [← hW1]
  have b01 : Below W0.heap.size W0 W1 := by rw [hW1]; exact (below_alloc _ _).drew
  have hok1 : W1.cell? ⟨W0.heap.size, (o / 64).toNat, none⟩ = some (.int .u64 (n.ho (o / 64).toNat)) := by rw [hW1]; exact hok
  have hN1 := heap_keep b01 HN.out
  have hZ1 := heap_keep b01 HZ.out
  have kh1 := cell_keep kh b01
  have t21 := cell_keep t2 b01
  have kf1 : W1.frozen? ⟨w.heap.size, 256 + o.toNat, none⟩ = false := frozen_of_row _ _ _ _ _ hN1
  have L1 := hL0.trans (b01.mono (by omega))
  have g0 : w.heap.size < W1.heap.size := heap_lt hN1
  have g1 := cell_lt t21
  have g2 := heap_lt hZ1
  have HN1 := Lib.hid hN1; have HZ1 := Lib.hid hZ1
  obtain ⟨r0, r1⟩ : 0 ≤ n.him o.toNat ∧ n.him o.toNat ≤ 255 := ⟨(hr _).2.2.1, (hr _).2.2.2⟩
  have i0 : 0 ≤ o / 64 := by omega
  have i1 : o / 64 < 4 := by omega
  clear hok hW1 HN HZ kh t1 t2 k0 k1 k2 k3 hs hl0 hl1 hl2 hL0 b01 hN1 hZ1 HW hr
  go_quiet ((go_at_call 8; exact Calls.quiet_of_same ((hear_any _ _ _ _).mono fun _ _ ⟨h1, h2⟩ => ⟨h1, h2.symm⟩)))
  have hrg := hearS_range (n.him o.toNat) true (bits BinOp.and IntKind.u64 (n.ho (o / 64).toNat / 2 ^ (o % 64).toNat) 1 == 1) r0 r1
  obtain ⟨s', m', b', hH⟩ : ∃ s m b, hearS (n.him o.toNat) true (bits BinOp.and IntKind.u64 (n.ho (o / 64).toNat / 2 ^ (o % 64).toNat) 1 == 1) = (s, m, b) := ⟨_, _, _, rfl⟩
  rw [hH] at hrg
  simp only [hH]
  have HE : Hid (hearS (n.him o.toNat) true (okB n.ho o) = (s', m', b')) := hH
  obtain ⟨q0, q1, q2, q3⟩ := hrg
  simp only [] at q0 q1 q2 q3
  clear hH
  go_wp2_with fail
  have hN2 := heap_setCell_same (W1.drewN nq) w.heap.size (256 + o.toNat) (negC n).toArray 35 (.int .u8 s') HN1.out
  rw [negC_set_him n o.toNat (by omega)] at hN2
  obtain ⟨W2, hW2⟩ : ∃ W2, W2 = (W1.drewN nq).setCell ⟨w.heap.size, 256 + o.toNat, none⟩ (.int .u8 s') := ⟨_, rfl⟩
  have hB : But w.heap.size W1 W2 := by rw [hW2]; exact (But.of_below (Joins.below_draws _ W1 nq)).trans (But.set _ _ _ _)
  rw [← hW2] at hN2 ⊢
  have hZ2 : W2.heap[w.heap.size + 2]? = some (.cells zNeg 35 (0, 0)) := (hB.block _ g2 (by omega)).trans HZ1.out
  have t22 := hB.cell t21 (by omega)
  have L2 := L1.trans (hB.below (Nat.le_refl _) (by omega))
  have hs2 : w.heap.size + 2 < W2.heap.size := heap_lt hZ2
  have HN2 := Lib.hid hN2; have HZ2 := Lib.hid hZ2
  clear hN2 hZ2 hW2 hB HN1 HZ1 kh1 kf1 g0 g1 g2 t21 L1 hok1
  have hone : ∀ x ∈ (negC { n with him := upd n.him o.toNat s' }).toArray.toList, x.oneCell' = true := by
    intro x hx
    simp [negC, rowF, u8F, u64F] at hx
    rcases hx with ⟨_, _, rfl⟩ | ⟨_, _, rfl⟩ | ⟨_, _, rfl⟩ | ⟨_, _, rfl⟩ <;> rfl
  have HO := Lib.hid hone; clear hone
  obtain ⟨C, hC⟩ : ∃ C, C = (negC { n with him := upd n.him o.toNat s' }).toArray := ⟨_, rfl⟩
  have hCs : C.size = 520 := by rw [hC]; simp [negC_len]
  rw [← hC] at HN2 HO
  have HC := Lib.hid hC; clear hC
  have rr : ∀ W : World, W.heap[w.heap.size]? = some (.cells C 35 (0, 0)) → (rowLoad 35 (.pointer (some ⟨w.heap.size, 0, none⟩))).run Try.prog W = .ok (.agg C) W := fun W h => run_rowLoad _ _ W _ _ _ _ h Try.underlying35 rfl (by rw [hCs]; exact sizeNeg)
  have rt : ∀ W : World, W.heap[w.heap.size + 1 + 1]? = some (.cells zNeg 35 (0, 0)) → (rowStore 35 (.pointer (some ⟨w.heap.size + 1 + 1, 0, none⟩)) (.agg C)).run Try.prog W = .ok () (W.setRow (w.heap.size + 1 + 1) C) := fun W h => run_rowStore _ _ W _ _ _ h (by rw [hCs]; exact sizeNeg) (by rw [hCs]; simp [zNeg]) (by rw [Array.all_eq_true_iff_forall_mem]; exact fun x hx => HO.out x (by simpa using hx))
  have hdr : ∀ W : World, W.drew.heap = W.heap := fun _ => rfl
  have hn2 := HN2.out
  have hz2 := HZ2.out
  go_cut [5] (fun v5 wx => v5 = .string ⟨(bytesS false m' o).toArray⟩ ∧ Below w.heap.size w wx ∧ Hid (wx.heap[w.heap.size + 2]? = some (.cells C 35 (0, 0))))
  case first =>
    go_region_with (go_at_call 18; refine (bytes_any _ _ _ ⟨q2, q3⟩ ⟨h0, h1⟩ _).mono ?_; rintro e w3 ⟨rfl, hb3⟩; have hn3 := heap_keep hb3 hn2; have hz3 := heap_keep hb3 hz2)
    all_goals
      go_wp2_with fail
      go_meet
      case rel =>
        refine ⟨rfl, ?_, ?_⟩
        · have e1 := hb3.mono (show w.heap.size ≤ W2.heap.size by omega)
          exact L2.drew.trans (e1.trans ((But.setRow (w.heap.size + 2) w3 C).below (by omega) (by have := hb3.size; have e : W2.drew.heap.size = W2.heap.size := rfl; omega)))
        · exact setRow_heap w3 _ _ _ _ _ hz3
  case rest =>
    obtain ⟨rfl, hb, hC5⟩ := hcut
    go_wp2_with fail
    refine bodyPost_ret (results_row2 (P := Try.prog) rfl _ _ (w.heap.size + 2) 35 C (0, 0) _ rfl hC5.out Try.underlying35 rfl (by rw [hCs]; exact sizeNeg)) rfl ⟨?_, hb⟩
    unfold hearsHim
    rw [HE.out, HC.out]
    rfl
set_option maxHeartbeats 1000000 in
theorem hears_252 (n : Ng) (o : Int) (d : ByteArray) (hr : Rng n) (h0 : 0 ≤ o) (h1 : o ≤ 255) (w : World) :
    Calls Try.prog 17 #[.agg (negC n).toArray, tokV 3 252 o d] w fun e w' =>
      e = .returned (.tuple #[.agg (negC (hearsHim n false o)).toArray, .string ⟨(bytesS false (hearS (n.him o.toNat) false (okB n.ho o)).2.1 o).toArray⟩]) ∧ Below w.heap.size w w' := by
  obtain ⟨W0, hW0⟩ : ∃ W0, W0 = ((w.alloc (.cells (negC n).toArray 35)).alloc (.cells #[.int .i64 3, .int .i64 252, .int .i64 o, .string d] 37)).alloc (.cells zNeg 35) := ⟨_, rfl⟩
  have hL0 : Below w.heap.size w W0 := by rw [hW0]; exact (((Below.refl _ _).alloc (Nat.le_refl _) _).alloc (by simp) _).alloc (by simp; omega) _
  have hs0 : W0.heap.size = w.heap.size + 3 := by rw [hW0]; simp
  have hN : W0.heap[w.heap.size]? = some (.cells (negC n).toArray 35 (0, 0)) := by
    rw [hW0, heap_alloc_old _ _ (by simp; omega), heap_alloc_old _ _ (by simp)]; exact heap_alloc_new _ _
  have hZ : W0.heap[w.heap.size + 2]? = some (.cells zNeg 35 (0, 0)) := by
    rw [hW0]; have := heap_alloc_new ((w.alloc (.cells (negC n).toArray 35)).alloc (.cells #[.int .i64 3, .int .i64 252, .int .i64 o, .string d] 37)) (.cells zNeg 35)
    simpa using this
  have hT : W0.heap[w.heap.size + 1]? = some (.cells #[.int .i64 3, .int .i64 252, .int .i64 o, .string d] 37 (0, 0)) := by
    rw [hW0, heap_alloc_old _ _ (by simp)]; have := heap_alloc_new (w.alloc (.cells (negC n).toArray 35)) (.cells #[.int .i64 3, .int .i64 252, .int .i64 o, .string d] 37)
    simpa using this
  have t1 : W0.cell? ⟨w.heap.size + 1, 1, none⟩ = some (.int .i64 252) := by rw [cell_of_row _ _ _ _ _ _ hT]; rfl
  have t2 : W0.cell? ⟨w.heap.size + 1, 2, none⟩ = some (.int .i64 o) := by rw [cell_of_row _ _ _ _ _ _ hT]; rfl
  have k0 : W0.cell? ⟨w.heap.size, 516, none⟩ = some (.int .u64 (n.ho 0)) := by rw [cell_of_row _ _ _ _ _ _ hN]; simpa using negC_ho n 0 (by omega)
  have k1 : W0.cell? ⟨w.heap.size, 517, none⟩ = some (.int .u64 (n.ho 1)) := by rw [cell_of_row _ _ _ _ _ _ hN]; simpa using negC_ho n 1 (by omega)
  have k2 : W0.cell? ⟨w.heap.size, 518, none⟩ = some (.int .u64 (n.ho 2)) := by rw [cell_of_row _ _ _ _ _ _ hN]; simpa using negC_ho n 2 (by omega)
  have k3 : W0.cell? ⟨w.heap.size, 519, none⟩ = some (.int .u64 (n.ho 3)) := by rw [cell_of_row _ _ _ _ _ _ hN]; simpa using negC_ho n 3 (by omega)
  have kh : W0.cell? ⟨w.heap.size, 256 + o.toNat, none⟩ = some (.int .u8 (n.him o.toNat)) := by rw [cell_of_row _ _ _ _ _ _ hN]; simpa using negC_him n o.toNat (by omega)
  have HW := Lib.hid hW0; have HN := Lib.hid hN; have HZ := Lib.hid hZ
  have hs : w.heap.size + 3 ≤ W0.heap.size := by omega
  have hl0 : w.heap.size < W0.heap.size := by omega
  have hl1 : w.heap.size + 1 < W0.heap.size := by omega
  have hl2 : w.heap.size + 1 + 1 < W0.heap.size := by omega
  have h2 : o < 256 := by omega
  clear hW0 hN hZ hT hs0
  unfold tokV
  go_enter Try.func17, Try.ntmps17
  go_upto_region 1 with (with_reducible show wpList _ _ _ (Oper.mk _ (Op.alloc _) _ _ _ _ :: _) _ _; refine wpList_alloc_row rfl 35 rfl (some 4) rfl zNeg zeroNeg ?_)
  rw [← HW.out]
  go_wp2_with fail
  go_region
  go_wp2_with fail
  have hok := cellOk W0 n.ho 33 (o / 64).toNat (by omega)
  obtain ⟨W1, hW1⟩ : ∃ W1, W1 = (W0.alloc (.cells #[.int .u64 (n.ho 0), .int .u64 (n.ho 1), .int .u64 (n.ho 2), .int .u64 (n.ho 3)] 33)).drew := ⟨_, rfl⟩
  rw [← hW1]
  have b01 : Below W0.heap.size W0 W1 := by rw [hW1]; exact (below_alloc _ _).drew
  have hok1 : W1.cell? ⟨W0.heap.size, (o / 64).toNat, none⟩ = some (.int .u64 (n.ho (o / 64).toNat)) := by rw [hW1]; exact hok
  have hN1 := heap_keep b01 HN.out
  have hZ1 := heap_keep b01 HZ.out
  have kh1 := cell_keep kh b01
  have t21 := cell_keep t2 b01
  have kf1 : W1.frozen? ⟨w.heap.size, 256 + o.toNat, none⟩ = false := frozen_of_row _ _ _ _ _ hN1
  have L1 := hL0.trans (b01.mono (by omega))
  have g0 : w.heap.size < W1.heap.size := heap_lt hN1
  have g1 := cell_lt t21
  have g2 := heap_lt hZ1
  have HN1 := Lib.hid hN1; have HZ1 := Lib.hid hZ1
  obtain ⟨r0, r1⟩ : 0 ≤ n.him o.toNat ∧ n.him o.toNat ≤ 255 := ⟨(hr _).2.2.1, (hr _).2.2.2⟩
  have i0 : 0 ≤ o / 64 := by omega
  have i1 : o / 64 < 4 := by omega
  clear hok hW1 HN HZ kh t1 t2 k0 k1 k2 k3 hs hl0 hl1 hl2 hL0 b01 hN1 hZ1 HW hr
  go_quiet ((go_at_call 8; exact Calls.quiet_of_same ((hear_any _ _ _ _).mono fun _ _ ⟨h1, h2⟩ => ⟨h1, h2.symm⟩)))
  have hrg := hearS_range (n.him o.toNat) false (bits BinOp.and IntKind.u64 (n.ho (o / 64).toNat / 2 ^ (o % 64).toNat) 1 == 1) r0 r1
  obtain ⟨s', m', b', hH⟩ : ∃ s m b, hearS (n.him o.toNat) false (bits BinOp.and IntKind.u64 (n.ho (o / 64).toNat / 2 ^ (o % 64).toNat) 1 == 1) = (s, m, b) := ⟨_, _, _, rfl⟩
  rw [hH] at hrg
  simp only [hH]
  have HE : Hid (hearS (n.him o.toNat) false (okB n.ho o) = (s', m', b')) := hH
  obtain ⟨q0, q1, q2, q3⟩ := hrg
  simp only [] at q0 q1 q2 q3
  clear hH
  go_wp2_with fail
  have hN2 := heap_setCell_same (W1.drewN nq) w.heap.size (256 + o.toNat) (negC n).toArray 35 (.int .u8 s') HN1.out
  rw [negC_set_him n o.toNat (by omega)] at hN2
  obtain ⟨W2, hW2⟩ : ∃ W2, W2 = (W1.drewN nq).setCell ⟨w.heap.size, 256 + o.toNat, none⟩ (.int .u8 s') := ⟨_, rfl⟩
  have hB : But w.heap.size W1 W2 := by rw [hW2]; exact (But.of_below (Joins.below_draws _ W1 nq)).trans (But.set _ _ _ _)
  rw [← hW2] at hN2 ⊢
  have hZ2 : W2.heap[w.heap.size + 2]? = some (.cells zNeg 35 (0, 0)) := (hB.block _ g2 (by omega)).trans HZ1.out
  have t22 := hB.cell t21 (by omega)
  have L2 := L1.trans (hB.below (Nat.le_refl _) (by omega))
  have hs2 : w.heap.size + 2 < W2.heap.size := heap_lt hZ2
  have HN2 := Lib.hid hN2; have HZ2 := Lib.hid hZ2
  clear hN2 hZ2 hW2 hB HN1 HZ1 kh1 kf1 g0 g1 g2 t21 L1 hok1
  have hone : ∀ x ∈ (negC { n with him := upd n.him o.toNat s' }).toArray.toList, x.oneCell' = true := by
    intro x hx
    simp [negC, rowF, u8F, u64F] at hx
    rcases hx with ⟨_, _, rfl⟩ | ⟨_, _, rfl⟩ | ⟨_, _, rfl⟩ | ⟨_, _, rfl⟩ <;> rfl
  have HO := Lib.hid hone; clear hone
  obtain ⟨C, hC⟩ : ∃ C, C = (negC { n with him := upd n.him o.toNat s' }).toArray := ⟨_, rfl⟩
  have hCs : C.size = 520 := by rw [hC]; simp [negC_len]
  rw [← hC] at HN2 HO
  have HC := Lib.hid hC; clear hC
  have rr : ∀ W : World, W.heap[w.heap.size]? = some (.cells C 35 (0, 0)) → (rowLoad 35 (.pointer (some ⟨w.heap.size, 0, none⟩))).run Try.prog W = .ok (.agg C) W := fun W h => run_rowLoad _ _ W _ _ _ _ h Try.underlying35 rfl (by rw [hCs]; exact sizeNeg)
  have rt : ∀ W : World, W.heap[w.heap.size + 1 + 1]? = some (.cells zNeg 35 (0, 0)) → (rowStore 35 (.pointer (some ⟨w.heap.size + 1 + 1, 0, none⟩)) (.agg C)).run Try.prog W = .ok () (W.setRow (w.heap.size + 1 + 1) C) := fun W h => run_rowStore _ _ W _ _ _ h (by rw [hCs]; exact sizeNeg) (by rw [hCs]; simp [zNeg]) (by rw [Array.all_eq_true_iff_forall_mem]; exact fun x hx => HO.out x (by simpa using hx))
  have hdr : ∀ W : World, W.drew.heap = W.heap := fun _ => rfl
  have hn2 := HN2.out
  have hz2 := HZ2.out
  go_cut [5] (fun v5 wx => v5 = .string ⟨(bytesS false m' o).toArray⟩ ∧ Below w.heap.size w wx ∧ Hid (wx.heap[w.heap.size + 2]? = some (.cells C 35 (0, 0))))
  case first =>
    go_region_with (go_at_call 18; refine (bytes_any _ _ _ ⟨q2, q3⟩ ⟨h0, h1⟩ _).mono ?_; rintro e w3 ⟨rfl, hb3⟩; have hn3 := heap_keep hb3 hn2; have hz3 := heap_keep hb3 hz2)
    all_goals
      go_wp2_with fail
      go_meet
      case rel =>
        refine ⟨rfl, ?_, ?_⟩
        · have e1 := hb3.mono (show w.heap.size ≤ W2.heap.size by omega)
          exact L2.drew.trans (e1.trans ((But.setRow (w.heap.size + 2) w3 C).below (by omega) (by have := hb3.size; have e : W2.drew.heap.size = W2.heap.size := rfl; omega)))
        · exact setRow_heap w3 _ _ _ _ _ hz3
  case rest =>
    obtain ⟨rfl, hb, hC5⟩ := hcut
    go_wp2_with fail
    refine bodyPost_ret (results_row2 (P := Try.prog) rfl _ _ (w.heap.size + 2) 35 C (0, 0) _ rfl hC5.out Try.underlying35 rfl (by rw [hCs]; exact sizeNeg)) rfl ⟨?_, hb⟩
    unfold hearsHim
    rw [HE.out, HC.out]
    rfl
end Go.Proofs.Ytddnpgmmlfbhfaa.Qneg
