/- Draw: all rows, and what is drawn. -/
import Derived.Test.YtbokpgemkkebnaaGreatDoorDoR
namespace Go.Proofs.YtbokpgemkkebnaaGreatDoor.Dr
open Go.Proofs.YtbokpgemkkebnaaGreatDoor.Pm
open Go.Proofs.YtbokpgemkkebnaaGreatDoor.Pr (Fed fed_print)
open Go.Proofs.YtbokpgemkkebnaaGreatDoor.Args
open Go.ChangeShapes Go.WideShapes Go.ChangeAt Go.RowKit
set_option linter.unusedVariables false
set_option linter.unusedSimpArgs false
set_option maxRecDepth 100000
theorem h_sm (a b : Int) (ha : 0 ≤ a ∧ a ≤ 999) (hb : 0 ≤ b ∧ b ≤ 999) : Sm [a, b] := fun n hn => by
 simp only [List.mem_cons, List.not_mem_nil, or_false] at hn
 omega
theorem rows_eq {W H n : Nat} {c d : List GCell} (hc : c.length = W * H) (hd : d.length = W * H) (hn : n < H) (h : rowL W c n = rowL W d n) : ∀ j, j < W → rowF W c n j = rowF W d n j := fun j hj => by
 rw [← rowL_cx W H c n j hc hn hj, ← rowL_cx W H d n j hd hn hj, h]
theorem cells_eq {W H : Nat} (hW : 1 ≤ W) {c d : List GCell} (hc : c.length = W * H) (hd : d.length = W * H) (h : ∀ m, m < H → ∀ j, j < W → rowF W c m j = rowF W d m j) : c = d := by
 refine cx_ext c d (by omega) fun i hi => ?_
 have hm : i / W < H := Nat.div_lt_of_lt_mul (by omega)
 have := h (i / W) hm (i % W) (Nat.mod_lt _ (by omega))
 unfold rowF at this
 rw [Nat.mul_comm, Nat.div_add_mod] at this
 exact this
section
variable {a : GScreen} {W H : Nat} (ok : Ok a W H)
include ok
theorem rows_ok (b : GScreen) (ea : a.Grid = ⟨W, H, a.Grid.Cells⟩) (eb : b.Grid = ⟨W, H, b.Grid.Cells⟩) (la : a.Grid.Cells.length = W * H) (lb : b.Grid.Cells.length = W * H) (hR : Rt W H b.Grid.Cells) (hp : pcB a.Pen = true) :
  ∃ (o : List Int) (q : GPen) (r k : Int) (lt : Bool), loopO (f5_l2 a b) ([], a.Pen.Flags, a.Pen.Fore, a.Pen.Back, 0) = some (o, q.Flags, q.Fore, q.Back) ∧ pcB q = true ∧ Sim a o (TT a b.Grid.Cells r k lt q) ∧ o.length ≤ 14000 * H := by
 have hw := ok.w
 have hh := ok.h
 have eH : b.Grid.High = (H : Int) := by rw [eb]
 obtain ⟨r, hr, h1⟩ := loopO_ind (body := f5_l2 a b) (fun z (x : List Int × Int × Int × Int × Int) => ∃ (i : Nat) (q : GPen) (c' : List GCell) (r k : Int) (lt : Bool), x = (x.1, q.Flags, q.Fore, q.Back, (i : Int)) ∧ i ≤ H ∧ z = H - i ∧ pcB q = true ∧ Sim a x.1 (TT a c' r k lt q) ∧ c'.length = W * H ∧
   (∀ m, m < i → m < H → ∀ j, j < W → rowF W c' m j = rowF W b.Grid.Cells m j) ∧ (∀ m, i ≤ m → m < H → ∀ j, j < W → rowF W c' m j = rowF W a.Grid.Cells m j) ∧ x.1.length ≤ 14000 * i)
  (fun (r : List Int × Int × Int × Int) => ∃ (q : GPen) (c' : List GCell) (u k : Int) (lt : Bool), r = (r.1, q.Flags, q.Fore, q.Back) ∧ pcB q = true ∧ Sim a r.1 (TT a c' u k lt q) ∧ c'.length = W * H ∧ (∀ m, m < H → ∀ j, j < W → rowF W c' m j = rowF W b.Grid.Cells m j) ∧ r.1.length ≤ 14000 * H) (by
  rintro z ⟨o, x2, x3, x4, x5⟩ ⟨i, q, c', r, k, lt, hxe, hi, rfl, hq, hS, hc', hdone, hleft, hol⟩
  cases hxe
  try dsimp only [] at hS hol
  unfold f5_l2
  try dsimp only []
  rw [eH]
  by_cases hlt : i < H
  ·left
   rw [bct (dt (by omega))]
   unfold f5_l2_j3 f5_l2_j4
   rw [ct, grow_ok W H b.Grid i eb lb hlt hw.2 hh.2, bs, grow_ok W H a.Grid i ea la hlt hw.2 hh.2, bs]
   have hl := rowL_len W H b.Grid.Cells i lb hlt
   have hla := rowL_len W H a.Grid.Cells i la hlt
   obtain ⟨e, he, hqe⟩ := eq_ok (rowL W a.Grid.Cells i) (rowL W b.Grid.Cells i) (by omega)
   rw [he, bs]
   cases e with
   | true =>
    have hrow := rows_eq la lb hlt (hqe.1 rfl)
    rw [ct, wr1 i (by omega)]
    refine ⟨_, H - (i + 1), rfl, by omega, i + 1, q, c', r, k, lt, rfl, by omega, rfl, hq, hS, hc', fun m hm hmH j hj => ?_, fun m hm hmH j hj => hleft m (by omega) hmH j hj, by show o.length ≤ _; omega⟩
    by_cases e : m = i
    ·subst e; rw [hleft m (Nat.le_refl _) hmH j hj]; exact hrow j hj
    ·exact hdone m (by omega) hmH j hj
   | false =>
    rw [cf]
    unfold f5_l2_j5
    obtain ⟨t, ht, f1, tl⟩ := act_ok 72 q.Flags q.Fore q.Back [(i : Int) + 1, 1] o (by omega) (by simp) (h_sm _ _ (by omega) (by omega)) (by simp) (by omega)
    rw [i64w ((i : Int) + 1) (by omega), ht, bs]
    try dsimp only []
    have hS1 : Sim a (o ++ t) (TT a c' (i : Int) 0 false q) := hS.step f1 (good_sm 72 (h_sm _ _ (by omega) (by omega)) (by simp)) (act_H ok c' r k lt q (i : Int) 0 (by omega) (by omega))
    obtain ⟨o2, q2, c2, k2, lt2, e2, s1, s2, s3, s4, s5, s6⟩ := signs_ok ok b i hlt b.Grid.Cells lb hR c' hc' q hq (o ++ t) (by simp; omega) hS1
    rw [e2, bs]
    try dsimp only []
    rw [wr1 i (by omega)]
    simp only [List.length_append] at s6
    refine ⟨_, H - (i + 1), rfl, by omega, i + 1, q2, c2, (i : Int), k2, lt2, rfl, by omega, rfl, s1, s2, s3, fun m hm hmH j hj => ?_, fun m hm hmH j hj => (s5 m hmH (by omega) j hj).trans (hleft m (by omega) hmH j hj), by show o2.length ≤ _; omega⟩
    by_cases e : m = i
    ·subst e; exact s4 j hj
    ·exact (s5 m hmH e j hj).trans (hdone m (by omega) hmH j hj)
  ·right
   have : i = H := by omega
   subst this
   rw [bcf (df (by omega))]
   unfold f5_l2_j3
   rw [cf]
   exact ⟨_, rfl, q, c', r, k, lt, rfl, hq, hS, hc', fun m hm j hj => hdone m hm hm j hj, hol⟩) (n := H) (x := ([], a.Pen.Flags, a.Pen.Fore, a.Pen.Back, 0)) ⟨0, a.Pen, a.Grid.Cells, a.Row, a.Col, a.Late, rfl, by omega, by omega, hp, Sim.nil a, la, fun m hm => by omega, fun m _ _ j _ => rfl, by simp⟩
 obtain ⟨q, c', u, k, lt, e, q1, q2, q3, q4, q5⟩ := h1
 obtain ⟨o, x2, x3, x4⟩ := r
 cases e
 have := cells_eq hw.1 q3 lb q4
 subst this
 exact ⟨o, q, u, k, lt, hr, q1, q2, q5⟩
theorem draw_j0 (b : GScreen) (ea : a.Grid = ⟨W, H, a.Grid.Cells⟩) (eb : b.Grid = ⟨W, H, b.Grid.Cells⟩) (la : a.Grid.Cells.length = W * H) (lb : b.Grid.Cells.length = W * H) (hR : Rt W H b.Grid.Cells) (hp : pcB a.Pen = true) (fb : SF b) :
  ∃ l, f5_j0 a b = some (l, 0) ∧ Sim a l (TT a b.Grid.Cells b.Row b.Col false b.Pen) ∧ l.length ≤ 1000000 := by
 have hw := ok.w
 have hh := ok.h
 have row := fb.row
 have col := fb.col
 have eW : b.Grid.Wide = (W : Int) := by rw [eb]
 have eH : b.Grid.High = (H : Int) := by rw [eb]
 unfold f5_j0
 obtain ⟨o, q, r, k, lt, e, h1, h2, h3⟩ := rows_ok ok b ea eb la lb hR hp
 rw [e, bs]
 unfold f5_j1
 obtain ⟨o2, e2, hS2, l2⟩ := to_sim q b.Pen h1 fb.pen o (by omega) h2
 rw [e2, bs]
 try dsimp only []
 obtain ⟨u, hu, f1, ul⟩ := act_ok 72 b.Pen.Flags b.Pen.Fore b.Pen.Back [b.Row + 1, b.Col + 1] o2 (by omega) (by simp) (h_sm _ _ (by omega) (by omega)) (by simp) (by omega)
 rw [i64w (b.Row + 1) (by omega), i64w (b.Col + 1) (by omega), hu, bs]
 exact ⟨_, rfl, hS2.step f1 (good_sm 72 (h_sm _ _ (by omega) (by omega)) (by simp)) (act_H ok _ r k lt b.Pen b.Row b.Col (by omega) (by omega)), by simp only [List.length_append]; omega⟩
end
def dE (ka kb : Bool) (a b : GScreen) : Int :=
 if ka && kb then (if a.Grid.Wide = b.Grid.Wide ∧ a.Grid.High = b.Grid.High then (if bitI .and .i64 a.Modes 3 = 0 then (if (if a.Shift = 0 then a.Pages.1 else a.Pages.2) = 1 then 0 else 7) else 7) else 1) else 4
theorem bits3 : ∀ m : Fin 2048, bitI .and .i64 (m.val : Int) 3 = 0 → bitI .and .i64 (m.val : Int) 1 = 0 ∧ bitI .and .i64 (m.val : Int) 2 = 0 := by decide +kernel
structure Same (a b : GScreen) : Prop where
 g : a.Grid = b.Grid
 r : a.Row = b.Row
 k : a.Col = b.Col
 p : a.Pen = b.Pen
def Spec (a b : GScreen) (o : Option (List Int × Int)) : Prop := ∃ (ka kb : Bool) (l : List Int), f9 a = some (if ka then 0 else 4) ∧ (ka = true → SF a) ∧ f9 b = some (if kb then 0 else 4) ∧ (kb = true → SF b) ∧ o = some (l, dE ka kb a b) ∧ (dE ka kb a b ≠ 0 → l = []) ∧ (Same a b → l = []) ∧
  (dE ka kb a b = 0 → l.length ≤ 1000000 ∧ ((Same a b ∧ l = []) ∨ Sim a l (TT a b.Grid.Cells b.Row b.Col false b.Pen)))
theorem draw_spec (a b : GScreen) (pa : a.Past.length ≤ 1048576) (pb : b.Past.length ≤ 1048576) : Spec a b (f5 a b) := by
 have two : ∀ (s : GScreen), s.Past.length ≤ 1048576 → ∃ k : Bool, f9 s = some (if k then 0 else 4) ∧ (k = true → SF s) := fun s hs => by
  rcases scr_check s hs with h | ⟨h, f⟩
  ·exact ⟨false, h, fun q => by cases q⟩
  ·exact ⟨true, h, fun _ => f⟩
 obtain ⟨ka, ca, fa⟩ := two a pa
 obtain ⟨kb, cb, fb⟩ := two b pb
 unfold f5
 rw [ca, bs, cb, bs]
 cases ka with
 | false => exact ⟨false, kb, [], ca, fa, cb, fb, rfl, fun _ => rfl, fun _ => rfl, fun h => by cases h⟩
 | true =>
 rw [bcf (by rfl)]
 cases kb with
 | false => exact ⟨true, false, [], ca, fa, cb, fb, rfl, fun _ => rfl, fun _ => rfl, fun h => by cases h⟩
 | true =>
 rw [bcf (by rfl)]
 have fa := fa rfl
 have fb := fb rfl
 have no : ∀ e : Int, dE true true a b = e → e ≠ 0 → Spec a b (some (([] : List Int), e)) := fun e h he =>
  ⟨true, true, [], ca, fun _ => fa, cb, fun _ => fb, by rw [h], fun _ => rfl, fun _ => rfl, fun q => absurd (h.symm.trans q) he⟩
 by_cases hw : a.Grid.Wide = b.Grid.Wide
 case neg =>
  rw [df hw, Bool.not_false, ct]
  exact no 1 (by unfold dE; rw [if_pos (show (true && true) = true from rfl), if_neg (fun q => hw q.1)]) (by decide)
 rw [dt hw, Bool.not_true, cf]
 by_cases hh : a.Grid.High = b.Grid.High
 case neg =>
  rw [df hh, Bool.not_false, ct]
  exact no 1 (by unfold dE; rw [if_pos (show (true && true) = true from rfl), if_neg (fun q => hh q.2)]) (by decide)
 rw [dt hh, Bool.not_true, cf]
 by_cases hm : bitI .and .i64 a.Modes 3 = 0
 case neg =>
  rw [df hm, Bool.not_false, ct]
  exact no 7 (by unfold dE; rw [if_pos (show (true && true) = true from rfl), if_pos ⟨hw, hh⟩, if_neg hm]) (by decide)
 rw [dt hm, Bool.not_true, cf]
 obtain ⟨W, H, w1, w2, h1, h2, ea, la, _⟩ := gcode0 a.Grid fa.g
 obtain ⟨W', H', _, _, _, _, eb, lb, hR⟩ := gcode0 b.Grid fb.g
 have e1 : a.Grid.Wide = (W : Int) := by rw [ea]
 have e2 : b.Grid.Wide = (W' : Int) := by rw [eb]
 have e3 : a.Grid.High = (H : Int) := by rw [ea]
 have e4 : b.Grid.High = (H' : Int) := by rw [eb]
 have eW : W' = W := by omega
 have eH : H' = H := by omega
 subst eW; subst eH
 have h9 := size_le W' H' w2 h2
 have hmd := fa.modes
 obtain ⟨mn, hmn⟩ := Int.eq_ofNat_of_zero_le hmd.1
 have hb3 := bits3 ⟨mn, by omega⟩ (by rw [hmn] at hm; exact hm)
 have hpg : ∀ (o : Option (List Int × Int)), (if a.Shift = 0 then a.Pages.1 else a.Pages.2) = 1 → o = f5_j12 a b → Spec a b (o) := by
  rintro o hp1 rfl
  have hd : dE true true a b = 0 := by unfold dE; rw [if_pos (show (true && true) = true from rfl), if_pos ⟨hw, hh⟩, if_pos hm, if_pos hp1]
  have hsh := fa.sh
  have ok : Ok a W' H' := ⟨⟨w1, w2⟩, ⟨h1, h2⟩, e1, e3, by rw [hmn]; exact hb3.1, by rw [hmn]; exact hb3.2, by
   by_cases s0 : a.Shift = 0
   ·rw [if_pos s0] at hp1; exact .inl ⟨s0, hp1⟩
   ·rw [if_neg s0] at hp1; exact .inr ⟨by omega, hp1⟩⟩
  obtain ⟨l0, hl0, hS0, ll0⟩ := draw_j0 ok b ea eb la lb hR fa.pen fb
  have far : ¬ Same a b → Spec a b (f5_j0 a b) := fun q =>
   ⟨true, true, l0, ca, fun _ => fa, cb, fun _ => fb, by rw [hd]; exact hl0, fun h => absurd hd h, fun s => absurd s q, fun _ => ⟨ll0, .inr hS0⟩⟩
  unfold f5_j12
  obtain ⟨e, he, hq⟩ := eq_ok a.Grid.Cells b.Grid.Cells (by omega)
  rw [he, bs]
  cases e with
  | false => rw [cf]; exact far fun s => by have := hq.2 (congrArg GGrid.Cells s.g); cases this
  | true =>
  rw [ct]
  have hcells := hq.1 rfl
  by_cases hr : a.Row = b.Row
  case neg => rw [bcf (df hr)]; exact far fun s => hr s.r
  rw [bct (dt hr)]
  by_cases hk : a.Col = b.Col
  case neg => rw [bcf (df hk)]; exact far fun s => hk s.k
  rw [bct (dt hk)]
  have pe : (decide (a.Pen.Flags = b.Pen.Flags) && (decide (a.Pen.Fore = b.Pen.Fore) && (decide (a.Pen.Back = b.Pen.Back) && true))) = peq a.Pen b.Pen := rfl
  rw [pe]
  by_cases hp : a.Pen = b.Pen
  ·rw [bct ((peq_iff _ _).2 hp)]
   exact ⟨true, true, [], ca, fun _ => fa, cb, fun _ => fb, by rw [hd], fun _ => rfl, fun _ => rfl, fun _ => ⟨by simp, .inl ⟨⟨by rw [ea, eb, hcells], hr, hk, hp⟩, rfl⟩⟩⟩
  ·rw [bcf (by rw [Bool.eq_false_iff]; exact fun q => hp ((peq_iff _ _).1 q))]; exact far fun s => hp s.p
 obtain ⟨n, hn⟩ := Int.eq_ofNat_of_zero_le fa.sh.1
 have hsh := fa.sh
 rw [hn, inR_nat n 2 (by omega), bs]
 by_cases s0 : n = 0
 ·rw [bct (dt s0)]
  by_cases hp1 : a.Pages.1 = 1
  ·rw [dt hp1, Bool.not_true, cf]
   exact hpg _ (by rw [hn, s0, if_pos (show ((0 : Nat) : Int) = 0 from rfl)]; exact hp1) rfl
  ·rw [df hp1, Bool.not_false, ct]
   exact no 7 (by unfold dE; rw [if_pos (show (true && true) = true from rfl), if_pos ⟨hw, hh⟩, if_pos hm, if_neg]; rw [hn, s0, if_pos (show ((0 : Nat) : Int) = 0 from rfl)]; exact hp1) (by decide)
 ·rw [bcf (df s0)]
  by_cases hp1 : a.Pages.2 = 1
  ·rw [dt hp1, Bool.not_true, cf]
   exact hpg _ (by rw [hn, if_neg (by omega)]; exact hp1) rfl
  ·rw [df hp1, Bool.not_false, ct]
   exact no 7 (by unfold dE; rw [if_pos (show (true && true) = true from rfl), if_pos ⟨hw, hh⟩, if_pos hm, if_neg]; rw [hn, if_neg (by omega)]; exact hp1) (by decide)
end Go.Proofs.YtbokpgemkkebnaaGreatDoor.Dr
