/- DrawFew: the drawing, and the law. -/
import Derived.Test.YtgjckmjlocankaaGreatDoorDfA
namespace Go.Proofs.YtgjckmjlocankaaGreatDoor.Pm
open Go.Proofs.YtgjckmjlocankaaGreatDoor.Args
open Go.ChangeShapes Go.WideShapes Go.ChangeAt Go.RowKit
set_option linter.unusedVariables false
set_option linter.unusedSimpArgs false
set_option maxRecDepth 100000
/-- What a row may cost. -/
noncomputable def cost (W : Nat) (a b : List GCell) (n : Nat) : Nat := @ite _ (rowL W a n = rowL W b n) (Classical.propDecidable _) 100 (100 * W)
noncomputable def sumC (W : Nat) (a b : List GCell) : Nat → Nat
  | 0 => 200
  | n + 1 => sumC W a b n + cost W a b n
theorem cost_eq {W : Nat} {a b : List GCell} {n : Nat} (h : rowL W a n = rowL W b n) : cost W a b n = 100 := if_pos h
theorem cost_ne {W : Nat} {a b : List GCell} {n : Nat} (h : ¬ rowL W a n = rowL W b n) : cost W a b n = 100 * W := if_neg h
theorem cost_le (W : Nat) (a b : List GCell) (n : Nat) (hW : W ≤ 160) : cost W a b n ≤ 16000 := by
  unfold cost; split <;> omega
theorem sum_le (W : Nat) (a b : List GCell) (hW : W ≤ 160) : ∀ n, sumC W a b n ≤ 200 + 16000 * n
  | 0 => by simp [sumC]
  | n + 1 => by
    have := sum_le W a b hW n
    have := cost_le W a b n hW
    unfold sumC; omega
theorem grow_ok (W H : Nat) (g : GGrid) (n : Nat) (hg : g = ⟨W, H, g.Cells⟩) (hc : g.Cells.length = W * H) (hn : n < H) (hW : W ≤ 160) (hH : H ≤ 60) : f9 g (n : Int) = some (rowL W g.Cells n) := by
  have hl := rowL_len W H g.Cells n hc hn
  have e : f22 g (n : Int) = some (rowL W g.Cells n) := by
    rw [hg]; exact row_ok W H g.Cells n hc hn hW hH
  unfold f9
  rw [e, bs, cloneR _ (by omega), bs]
theorem h_sm (a b : Int) (ha : 0 ≤ a ∧ a ≤ 999) (hb : 0 ≤ b ∧ b ≤ 999) : Sm [a, b] := fun n hn => by
  simp only [List.mem_cons, List.not_mem_nil, or_false] at hn
  omega
/-- The signs of a row. -/
theorem signs_ok (a b : GScreen) (l : List GCell) (W : Nat) (hl : l.length = W) (hW : W ≤ 160) (out : List Int) (F B K p : Int) (ho : out.length ≤ 2000000) :
    ∃ (o : List Int) (f g k : Int), loopO (f4_l2_l6 a b) (out, F, B, K, p, l, (l.length : Int), 0) = some (o, f, g, k, p) ∧ o.length ≤ out.length + 84 * W := by
  obtain ⟨r, hr, h1, h2⟩ := loopO_ind (body := f4_l2_l6 a b) (fun q (x : List Int × Int × Int × Int × Int × List GCell × Int × Int) => ∃ i : Nat, x.2.2.2.2.2.2.2 = (i : Int) ∧ i ≤ W ∧ q = W - i ∧ x.2.2.2.2.1 = p ∧ x.2.2.2.2.2.1 = l ∧ x.2.2.2.2.2.2.1 = (l.length : Int) ∧ x.1.length ≤ out.length + 84 * i) (fun (r : List Int × Int × Int × Int × Int) => r.2.2.2.2 = p ∧ r.1.length ≤ out.length + 84 * W) (by
    rintro q ⟨o, f, g, k, p', l', n', _⟩ ⟨i, rfl, hi, rfl, hp, hl', hn', h⟩
    try dsimp only [] at hp hl' hn' h
    subst hp; subst hl'; subst hn'
    unfold f4_l2_l6
    try dsimp only []
    by_cases hlt : i < W
    · left
      rw [bct (dt (by omega))]
      unfold f4_l2_l6_j7 f4_l2_l6_j8
      rw [ct, inR_nat i _ (by omega), bs, cx_get _ _ (by omega), bs, wr1 i (by omega)]
      by_cases h0 : (cx l' i).Rune = 0
      · rw [dt h0, Bool.not_true, cf]
        exact ⟨_, W - (i + 1), rfl, by omega, i + 1, rfl, by omega, rfl, rfl, rfl, rfl, by show o.length ≤ _; omega⟩
      · obtain ⟨t, ht, tl⟩ := to_ok (cx l' i).Pen f g k o (by omega)
        rw [df h0, Bool.not_false, ct, ht, bs, app_ok 8 _ _ (by simp; omega), bs]
        exact ⟨_, W - (i + 1), rfl, by omega, i + 1, rfl, by omega, rfl, rfl, rfl, rfl, by simp; omega⟩
    · right
      have : i = W := by omega
      subst this
      rw [bcf (df (by omega))]
      unfold f4_l2_l6_j7
      rw [cf]
      exact ⟨_, rfl, rfl, h⟩) (n := W) (x := (out, F, B, K, p, l, (l.length : Int), 0)) ⟨0, rfl, by omega, by omega, rfl, rfl, rfl, by show out.length ≤ _; omega⟩
  obtain ⟨o, f, g, k, p'⟩ := r
  try dsimp only [] at h1 h2
  subst h1
  exact ⟨o, f, g, k, hr, h2⟩
theorem rows_ok (a b : GScreen) (W H : Nat) (h1 : 1 ≤ W ∧ W ≤ 160) (h2 : 1 ≤ H ∧ H ≤ 60) (ea : a.Grid = ⟨W, H, a.Grid.Cells⟩) (eb : b.Grid = ⟨W, H, b.Grid.Cells⟩) (la : a.Grid.Cells.length = W * H) (lb : b.Grid.Cells.length = W * H) (F B K : Int) :
    ∃ (o : List Int) (f g k : Int), loopO (f4_l2 a b) ([], F, B, K, 0) = some (o, f, g, k) ∧ o.length + 200 ≤ sumC W a.Grid.Cells b.Grid.Cells H := by
  have eH : b.Grid.High = (H : Int) := by rw [eb]
  obtain ⟨r, hr, hp⟩ := loopO_ind (body := f4_l2 a b) (fun q (x : List Int × Int × Int × Int × Int) => ∃ i : Nat, x.2.2.2.2 = (i : Int) ∧ i ≤ H ∧ q = H - i ∧ x.1.length + 200 ≤ sumC W a.Grid.Cells b.Grid.Cells i) (fun (r : List Int × Int × Int × Int) => r.1.length + 200 ≤ sumC W a.Grid.Cells b.Grid.Cells H) (by
    rintro q ⟨o, f, g, k, _⟩ ⟨i, rfl, hi, rfl, h⟩
    have hs := sum_le W a.Grid.Cells b.Grid.Cells h1.2 i
    unfold f4_l2
    try dsimp only [] at h ⊢
    rw [eH]
    by_cases hlt : i < H
    · left
      rw [bct (dt (by omega))]
      unfold f4_l2_j3 f4_l2_j4
      rw [ct, grow_ok W H b.Grid i eb lb hlt h1.2 h2.2, bs, grow_ok W H a.Grid i ea la hlt h1.2 h2.2, bs]
      have hl := rowL_len W H b.Grid.Cells i lb hlt
      have hla := rowL_len W H a.Grid.Cells i la hlt
      obtain ⟨e, he, hq⟩ := eq_ok (rowL W a.Grid.Cells i) (rowL W b.Grid.Cells i) (by omega)
      rw [he, bs]
      cases e with
      | true =>
        have hc := cost_eq (hq.1 rfl)
        rw [ct, wr1 i (by omega)]
        exact ⟨_, H - (i + 1), rfl, by omega, i + 1, rfl, by omega, rfl, by show o.length + 200 ≤ sumC W _ _ i + cost W _ _ i; omega⟩
      | false =>
        have hc := cost_ne (W := W) (a := a.Grid.Cells) (b := b.Grid.Cells) (n := i) (fun q => by have := hq.2 q; cases this)
        rw [cf]
        unfold f4_l2_j5
        obtain ⟨t, ht, tl⟩ := act_ok 72 f g k [((i + 1 : Nat) : Int), 1] o rfl (h_sm _ _ (by omega) (by omega)) (by simp) (by omega)
        rw [wr1 i (by omega), ht, bs]
        try dsimp only []
        simp only [List.length_cons, List.length_nil] at tl
        obtain ⟨o2, f2, g2, k2, e2, l2⟩ := signs_ok a b (rowL W b.Grid.Cells i) W hl h1.2 (o ++ t) f g k (i : Int) (by simp; omega)
        rw [e2, bs]
        try dsimp only []
        rw [wr1 i (by omega)]
        simp only [List.length_append] at l2
        exact ⟨_, H - (i + 1), rfl, by omega, i + 1, rfl, by omega, rfl, by show o2.length + 200 ≤ sumC W _ _ i + cost W _ _ i; omega⟩
    · right
      have : i = H := by omega
      subst this
      rw [bcf (df (by omega))]
      unfold f4_l2_j3
      rw [cf]
      exact ⟨_, rfl, h⟩) (n := H) (x := ([], F, B, K, 0)) ⟨0, rfl, by omega, by omega, by simp [sumC]⟩
  obtain ⟨o, f, g, k⟩ := r
  exact ⟨o, f, g, k, hr, hp⟩
/-- The same to be seen. -/
structure Same (a b : GScreen) : Prop where
  c : a.Grid.Cells = b.Grid.Cells
  r : a.Row = b.Row
  k : a.Col = b.Col
  p : a.Pen.Flags = b.Pen.Flags ∧ a.Pen.Fore = b.Pen.Fore ∧ a.Pen.Back = b.Pen.Back
theorem draw_j0 (a b : GScreen) (W H : Nat) (h1 : 1 ≤ W ∧ W ≤ 160) (h2 : 1 ≤ H ∧ H ≤ 60) (ea : a.Grid = ⟨W, H, a.Grid.Cells⟩) (eb : b.Grid = ⟨W, H, b.Grid.Cells⟩) (la : a.Grid.Cells.length = W * H) (lb : b.Grid.Cells.length = W * H) (fb : SF b) :
    ∃ l, f4_j0 a b = some (l, 0) ∧ l.length ≤ sumC W a.Grid.Cells b.Grid.Cells H := by
  have row := fb.row
  have col := fb.col
  have eW : b.Grid.Wide = (W : Int) := by rw [eb]
  have eH : b.Grid.High = (H : Int) := by rw [eb]
  unfold f4_j0
  obtain ⟨o, f, g, k, e, ol⟩ := rows_ok a b W H h1 h2 ea eb la lb a.Pen.Flags a.Pen.Fore a.Pen.Back
  have hs := sum_le W a.Grid.Cells b.Grid.Cells h1.2 H
  rw [e, bs]
  unfold f4_j1
  obtain ⟨t, ht, tl⟩ := to_ok b.Pen f g k o (by omega)
  rw [ht, bs]
  try dsimp only []
  obtain ⟨u, hu, ul⟩ := act_ok 72 b.Pen.Flags b.Pen.Fore b.Pen.Back [b.Row + 1, b.Col + 1] (o ++ t) rfl (h_sm _ _ (by omega) (by omega)) (by simp) (by simp; omega)
  simp only [List.length_cons, List.length_nil] at ul
  rw [i64w (b.Row + 1) (by omega), i64w (b.Col + 1) (by omega), hu, bs]
  exact ⟨_, rfl, by simp only [List.length_append]; omega⟩
/-- What is drawn. -/
def Dr (a b : GScreen) (o : Option (List Int × Int)) : Prop := (∃ e, o = some ([], e) ∧ e ≠ 0) ∨ ∃ l, o = some (l, 0) ∧ (Same a b → l = []) ∧ ∃ W H : Nat, 1 ≤ W ∧ W ≤ 160 ∧ 1 ≤ H ∧ H ≤ 60 ∧ a.Grid = ⟨W, H, a.Grid.Cells⟩ ∧ b.Grid = ⟨W, H, b.Grid.Cells⟩ ∧ a.Grid.Cells.length = W * H ∧ b.Grid.Cells.length = W * H ∧ l.length ≤ sumC W a.Grid.Cells b.Grid.Cells H
theorem draw_ok (a b : GScreen) (pa : a.Past.length ≤ 1048576) (pb : b.Past.length ≤ 1048576) : Dr a b (f4 a b) := by
  have no : ∀ e : Int, e ≠ 0 → Dr a b (some ([], e)) := fun e h => .inl ⟨e, rfl, h⟩
  unfold f4
  rcases scr_check a pa with ha | ⟨ha, fa⟩
  · rw [ha, bs, bct (by rfl)]; exact no 4 (by decide)
  rw [ha, bs, bcf (by rfl)]
  rcases scr_check b pb with hb | ⟨hb, fb⟩
  · rw [hb, bs, bct (by rfl)]; exact no 4 (by decide)
  rw [hb, bs, bcf (by rfl)]
  by_cases hw : a.Grid.Wide = b.Grid.Wide
  case neg => rw [df hw, Bool.not_false, ct]; exact no 1 (by decide)
  rw [dt hw, Bool.not_true, cf]
  by_cases hh : a.Grid.High = b.Grid.High
  case neg => rw [df hh, Bool.not_false, ct]; exact no 1 (by decide)
  rw [dt hh, Bool.not_true, cf]
  cases (!decide ((bitI .and .i64 a.Modes 3) = 0)) with
  | true => rw [ct]; exact no 7 (by decide)
  | false =>
  rw [cf]
  obtain ⟨W, H, w1, w2, h1, h2, ea, la, _⟩ := gcode0 a.Grid fa.g
  obtain ⟨W', H', _, _, _, _, eb, lb, _⟩ := gcode0 b.Grid fb.g
  have e1 : a.Grid.Wide = (W : Int) := by rw [ea]
  have e2 : b.Grid.Wide = (W' : Int) := by rw [eb]
  have e3 : a.Grid.High = (H : Int) := by rw [ea]
  have e4 : b.Grid.High = (H' : Int) := by rw [eb]
  have eW : W' = W := by omega
  have eH : H' = H := by omega
  subst eW; subst eH
  obtain ⟨l0, hl0, ll⟩ := draw_j0 a b W' H' ⟨w1, w2⟩ ⟨h1, h2⟩ ea eb la lb fb
  have h9 := size_le W' H' w2 h2
  have j12 : Dr a b (f4_j12 a b) := by
    have far : ¬ Same a b → Dr a b (f4_j0 a b) := fun q => by
      rw [hl0]
      exact .inr ⟨_, rfl, fun s => absurd s q, W', H', w1, w2, h1, h2, ea, eb, la, lb, ll⟩
    unfold f4_j12
    obtain ⟨e, he, hq⟩ := eq_ok a.Grid.Cells b.Grid.Cells (by omega)
    rw [he, bs]
    cases e with
    | false => rw [cf]; exact far fun s => by have := hq.2 s.c; cases this
    | true =>
    rw [ct]
    by_cases hr : a.Row = b.Row
    case neg => rw [bcf (df hr)]; exact far fun s => hr s.r
    rw [bct (dt hr)]
    by_cases hk : a.Col = b.Col
    case neg => rw [bcf (df hk)]; exact far fun s => hk s.k
    rw [bct (dt hk)]
    by_cases hp : a.Pen.Flags = b.Pen.Flags ∧ a.Pen.Fore = b.Pen.Fore ∧ a.Pen.Back = b.Pen.Back
    · rw [bct (by rw [dt hp.1, dt hp.2.1, dt hp.2.2]; rfl)]
      exact .inr ⟨_, rfl, fun _ => rfl, W', H', w1, w2, h1, h2, ea, eb, la, lb, by simp⟩
    · have : (decide (a.Pen.Flags = b.Pen.Flags) && (decide (a.Pen.Fore = b.Pen.Fore) && (decide (a.Pen.Back = b.Pen.Back) && true))) = false := by
        rw [Bool.and_true, ← Bool.decide_and, ← Bool.decide_and]; exact df hp
      rw [bcf this]; exact far fun s => hp s.p
  have sh := fa.sh
  obtain ⟨n, hn⟩ := Int.eq_ofNat_of_zero_le sh.1
  rw [hn, inR_nat n 2 (by omega), bs]
  have fin : ∀ q : Bool, Dr a b (bif q then (f4_j11 a b) else (f4_j12 a b)) := fun q => by
    cases q with
    | true => rw [ct]; exact no 7 (by decide)
    | false => rw [cf]; exact j12
  cases decide (n = 0) with
  | true => rw [ct]; exact fin _
  | false => rw [cf]; exact fin _
theorem sight_ok (a b : GScreen) (ha : a.Grid.Cells.length ≤ 1000000) : ∃ q, f7 a b = some q ∧ (q = true → Same a b) := by
  have no : ∃ q, (some false) = some q ∧ (q = true → Same a b) := ⟨false, rfl, fun h => (by cases h)⟩
  unfold f7 f15
  by_cases hw : a.Grid.Wide = b.Grid.Wide
  case neg => rw [bcf (df hw), bs, cf]; exact no
  rw [bct (dt hw)]
  by_cases hh : a.Grid.High = b.Grid.High
  case neg => rw [bcf (df hh), bs, cf]; exact no
  rw [bct (dt hh)]
  obtain ⟨e, he, hq⟩ := eq_ok a.Grid.Cells b.Grid.Cells ha
  rw [he, bs, bs]
  cases e with
  | false => rw [cf]; exact no
  | true =>
  rw [ct]
  by_cases hr : a.Row = b.Row
  case neg => rw [bcf (df hr)]; exact no
  rw [bct (dt hr)]
  by_cases hk : a.Col = b.Col
  case neg => rw [bcf (df hk)]; exact no
  rw [bct (dt hk)]
  by_cases hp : a.Pen.Flags = b.Pen.Flags ∧ a.Pen.Fore = b.Pen.Fore ∧ a.Pen.Back = b.Pen.Back
  · rw [bct (by rw [dt hp.1, dt hp.2.1, dt hp.2.2]; rfl)]
    exact ⟨true, rfl, fun _ => ⟨hq.1 rfl, hr, hk, hp⟩⟩
  · have : (decide (a.Pen.Flags = b.Pen.Flags) && (decide (a.Pen.Fore = b.Pen.Fore) && (decide (a.Pen.Back = b.Pen.Back) && true))) = false := by
      rw [Bool.and_true, ← Bool.decide_and, ← Bool.decide_and]; exact df hp
    rw [bcf this]; exact no
theorem sub_row (W H : Nat) (c : List GCell) (n : Nat) (hc : c.length = W * H) (hn : n < H) (hW : W ≤ 160) (hH : H ≤ 60) : sub? c (IntKind.i64.wrap ((n : Int) * (W : Int))) (IntKind.i64.wrap ((IntKind.i64.wrap ((n : Int) + 1)) * (W : Int))) = some (rowL W c n) := by
  have h := row_ok W H c n hc hn hW hH
  unfold f22 at h
  cases hx : sub? c (IntKind.i64.wrap ((n : Int) * (W : Int))) (IntKind.i64.wrap ((IntKind.i64.wrap ((n : Int) + 1)) * (W : Int))) with
  | none =>
    try dsimp only [] at h
    rw [hx] at h; cases h
  | some y =>
    try dsimp only [] at h
    rw [hx, bs] at h; exact h
theorem drawFew (a b : GScreen) (pa : a.Past.length ≤ 1048576) (pb : b.Past.length ≤ 1048576) : f3 a b = some true := by
  have lv : libLives = some true := rfl
  unfold f3
  rcases draw_ok a b pa pb with ⟨e, h, he⟩ | ⟨l, h, hs, W, H, w1, w2, h1, h2, ea, eb, la, lb, ll⟩
  · rw [h, bs, lv, bs, bcf (by rfl)]
    try dsimp only []
    rw [df he, Bool.not_false, ct, bs]
  rw [h, bs, lv, bs, bcf (by rfl), bcf (by rfl)]
  have h9 := size_le W H w2 h2
  have eH : a.Grid.High = (H : Int) := by rw [ea]
  have eW : a.Grid.Wide = (W : Int) := by rw [ea]
  unfold f3_j0
  have hl := loop_to (body := f3_l2 a b) (fun i => (l, ((sumC W a.Grid.Cells b.Grid.Cells i : Nat) : Int), (i : Int))) (l, ((sumC W a.Grid.Cells b.Grid.Cells H : Nat) : Int)) H ?_ 0 (by omega) ?_
  · have hl' : loopO (f3_l2 a b) (l, 200, 0) = _ := hl
    rw [hl', bs]
    unfold f3_j1
    obtain ⟨q, hq, sq⟩ := sight_ok a b (by omega)
    try dsimp only []
    rw [bct (dt (by omega)), hq, bs]
    cases q with
    | false => rw [Bool.not_false, ct]
    | true =>
      have := hs (sq rfl)
      subst this
      rw [Bool.not_true, cf, bct (by rfl)]
  · unfold f3_l2 f3_l2_j3
    try dsimp only []
    rw [eH, bcf (df (by omega)), cf]
  · intro i _ hi
    have sl := sum_le W a.Grid.Cells b.Grid.Cells w2 i
    unfold f3_l2 f3_l2_j3 f3_l2_j4
    try dsimp only []
    rw [eH, eW, bct (dt (by omega)), ct, sub_row W H _ i la hi w2 h2, bs, sub_row W H _ i lb hi w2 h2, bs]
    have hla := rowL_len W H a.Grid.Cells i la hi
    obtain ⟨e, he, hq⟩ := eq_ok (rowL W a.Grid.Cells i) (rowL W b.Grid.Cells i) (by omega)
    rw [he, bs, wr1 i (by omega)]
    cases e with
    | true =>
      have hc := cost_eq (hq.1 rfl)
      rw [ct, i64w _ (by omega)]
      have : ((sumC W a.Grid.Cells b.Grid.Cells i : Nat) : Int) + 100 = ((sumC W a.Grid.Cells b.Grid.Cells (i + 1) : Nat) : Int) := by
        show _ = ((sumC W _ _ i + cost W _ _ i : Nat) : Int); omega
      rw [this]
    | false =>
      have hc := cost_ne (W := W) (a := a.Grid.Cells) (b := b.Grid.Cells) (n := i) (fun q => by have := hq.2 q; cases this)
      rw [cf, i64w (100 * (W : Int)) (by omega), i64w _ (by omega)]
      have : ((sumC W a.Grid.Cells b.Grid.Cells i : Nat) : Int) + 100 * (W : Int) = ((sumC W a.Grid.Cells b.Grid.Cells (i + 1) : Nat) : Int) := by
        show _ = ((sumC W _ _ i + cost W _ _ i : Nat) : Int); omega
      rw [this]
end Go.Proofs.YtgjckmjlocankaaGreatDoor.Pm
