/- Parse: what a code point does, in plain words: takeP; Check. -/
import Derived.Test.YtakmihemhmdpkaaDoorP2R
namespace Go.Proofs.YtakmihemhmdpkaaDoor.Pm
open Go.Proofs.YtakmihemhmdpkaaDoor.Args
open Go.ChangeShapes Go.WideShapes Go.ChangeAt Go.RowKit
set_option linter.unusedVariables false
set_option linter.unusedSimpArgs false
set_option maxRecDepth 100000
def drp : GAct := ⟨6, 0, 0, [], [], []⟩
def nilP (s : Int) : GParser := ⟨s, 0, [], [], []⟩
theorem emit_ok (a : GAct) (S M : Int) (I A T : Str) (l : List GAct) (h : l.length ≤ 100000000) : f56 a S M I A T l = some (S, M, I, A, T, l ++ [a]) := by
  unfold f56
  rw [app_ok 80 _ _ (by simp; omega), bs]
theorem drop_ok (s S M : Int) (I A T : Str) (l : List GAct) (h : l.length ≤ 100000000) : f58 s S M I A T l = some (s, l ++ [drp]) := by
  unfold f58
  rw [show GAct.mk 6 0 0 [] [] [] = drp from rfl, emit_ok _ _ _ _ _ _ _ h, bs]
  unfold f57
  rw [bs]
theorem final_ok (a : GAct) (S M : Int) (I A T : Str) (l : List GAct) (h : l.length ≤ 100000000) : f84 a S M I A T l = some (0, l ++ [if I.length = 3 then drp else a]) := by
  unfold f84
  by_cases h3 : I.length = 3
  · rw [decide_eq_true (by omega), ct, if_pos h3, show GAct.mk 6 0 0 [] [] [] = drp from rfl, emit_ok _ _ _ _ _ _ _ h, bs]
    unfold f57
    rw [bs]
  · rw [decide_eq_false (by omega), cf, if_neg h3, emit_ok _ _ _ _ _ _ _ h, bs]
    unfold f57
    rw [bs]
def sg (c : Int) : UInt8 := UInt8.ofNat c.toNat
theorem enc_tab : ((List.range 64).all fun n => decide ((Utf8.encode (IntKind.i32.wrap (n : Int))).data.toList = [UInt8.ofNat n])) = true := by kernel_rfl
theorem enc_sg (c : Int) (h : 0 ≤ c ∧ c < 64) : (Utf8.encode (IntKind.i32.wrap c)).data.toList = [sg c] := by
  obtain ⟨n, rfl⟩ := Int.eq_ofNat_of_zero_le h.1
  exact of_decide_eq_true (List.all_eq_true.1 enc_tab n (List.mem_range.2 (by omega)))
def moreI (I : Str) (c : Int) : Str := if I.length < 3 then I ++ [sg c] else I
theorem more_ok (c S M : Int) (I A T : Str) (l : List GAct) (hc : 0 ≤ c ∧ c < 64) : f83 c S M I A T l = some (S, M, moreI I c, A, T, l) := by
  unfold f83 moreI
  rw [enc_sg c hc]
  by_cases h3 : I.length < 3
  · rw [decide_eq_true (by omega), ct, if_pos h3, cat_ok _ _ (by simp; omega), bs]
  · rw [decide_eq_false (by omega), cf, if_neg h3]
theorem within_ok (n a b : Int) : f32 n a b = some (decide (a ≤ n) && decide (n ≤ b)) := by
  unfold f32
  cases decide (a ≤ n) <;> cases decide (n ≤ b) <;> rfl
/-- A code point's bytes. -/
def encR (r : Int) : Str :=
  bif decide (IntKind.u32.wrap r ≤ 127) then [u8 r] else
  bif decide (IntKind.u32.wrap r ≤ 2047) then [(192 : UInt8) ||| u8 (Int.fdiv r (2 ^ 6)), (128 : UInt8) ||| (u8 r &&& (63 : UInt8))] else
  bif (bif decide (IntKind.u32.wrap r < 55296) then true else (decide (57343 < IntKind.u32.wrap r) && decide (IntKind.u32.wrap r ≤ 65535))) then [(224 : UInt8) ||| u8 (Int.fdiv r (2 ^ 12)), (128 : UInt8) ||| (u8 (Int.fdiv r (2 ^ 6)) &&& (63 : UInt8)), (128 : UInt8) ||| (u8 r &&& (63 : UInt8))] else
  bif (decide (65535 < IntKind.u32.wrap r) && decide (IntKind.u32.wrap r ≤ 1114111)) then [(240 : UInt8) ||| u8 (Int.fdiv r (2 ^ 18)), (128 : UInt8) ||| (u8 (Int.fdiv r (2 ^ 12)) &&& (63 : UInt8)), (128 : UInt8) ||| (u8 (Int.fdiv r (2 ^ 6)) &&& (63 : UInt8)), (128 : UInt8) ||| (u8 r &&& (63 : UInt8))] else [239, 191, 189]
theorem ap1 (a : UInt8) : app? 1 [] [a] = some [a] := app_ok 1 [] [a] (by simp)
theorem ap2 (a b : UInt8) : app? 1 [] [a, b] = some [a, b] := app_ok 1 [] [a, b] (by simp)
theorem ap3 (a b c : UInt8) : app? 1 [] [a, b, c] = some [a, b, c] := app_ok 1 [] [a, b, c] (by simp)
theorem ap4 (a b c d : UInt8) : app? 1 [] [a, b, c, d] = some [a, b, c, d] := app_ok 1 [] [a, b, c, d] (by simp)
theorem encR_ok (r : Int) : f72 r [] = some (encR r) := by
  unfold f72 encR f95 f95_j0
  simp only [ap1, ap2, ap3, ap4, bs]
  generalize decide (IntKind.u32.wrap r ≤ 127) = b1
  generalize decide (IntKind.u32.wrap r ≤ 2047) = b2
  generalize decide (IntKind.u32.wrap r < 55296) = b3
  generalize decide (57343 < IntKind.u32.wrap r) = b4
  generalize decide (IntKind.u32.wrap r ≤ 65535) = b5
  generalize decide (65535 < IntKind.u32.wrap r) = b6
  generalize decide (IntKind.u32.wrap r ≤ 1114111) = b7
  cases b1 <;> cases b2 <;> cases b3 <;> cases b4 <;> cases b5 <;> cases b6 <;> cases b7 <;> rfl
theorem encR_len (r : Int) : (encR r).length ≤ 4 := by
  unfold encR
  generalize decide (IntKind.u32.wrap r ≤ 127) = b1
  generalize decide (IntKind.u32.wrap r ≤ 2047) = b2
  generalize (bif decide (IntKind.u32.wrap r < 55296) then true else (decide (57343 < IntKind.u32.wrap r) && decide (IntKind.u32.wrap r ≤ 65535))) = b3
  generalize (decide (65535 < IntKind.u32.wrap r) && decide (IntKind.u32.wrap r ≤ 1114111)) = b4
  cases b1 <;> cases b2 <;> cases b3 <;> cases b4 <;> simp
def encT (c : Int) : Str := encR (if c < 0 ∨ 1114111 < c ∨ (55296 ≤ c ∧ c ≤ 57343) then 65533 else IntKind.i32.wrap c)
theorem encT_ok (c : Int) : f48 [c] = some (encT c) := by
  unfold f48
  have h1 : f48_l0 [c] ([], 0) = some (.inl (encT c, 1)) := by
    unfold f48_l0 f48_l0_j1 f48_l0_j2 encT
    simp only
    rw [decide_eq_true (by simp), ct, ct, show idx [c] 0 = some c from idx_mid [] c [], bs, show IntKind.i64.wrap (0 + 1) = 1 from rfl]
    by_cases a : c < 0
    · rw [decide_eq_true a, ct, if_pos (.inl a), encR_ok, bs]
    · rw [decide_eq_false a, cf]
      by_cases b : 1114111 < c
      · rw [decide_eq_true b, ct, if_pos (.inr (.inl b)), encR_ok, bs]
      · rw [decide_eq_false b, cf]
        by_cases d : 55296 ≤ c
        · rw [decide_eq_true d, ct]
          by_cases e : c ≤ 57343
          · rw [decide_eq_true e, ct, if_pos (.inr (.inr ⟨d, e⟩)), encR_ok, bs]
          · rw [decide_eq_false e, cf, if_neg (by omega), encR_ok, bs]
        · rw [decide_eq_false d, cf, if_neg (by omega), encR_ok, bs]
  have h2 : f48_l0 [c] (encT c, 1) = some (.inr (encT c)) := by
    unfold f48_l0 f48_l0_j1
    simp only
    rw [decide_eq_false (by simp), cf, cf]
  rw [loopO_next h1 (loopO_done h2), bs]
/-- What a code point does. -/
def textP (p : GParser) (c : Int) : GParser × List GAct :=
  if c = 27 then (⟨p.State + 1, p.Mark, p.Inter, p.Args, p.Text⟩, []) else if c = 24 then (nilP 0, [drp]) else if c = 26 then (nilP 0, [drp]) else if p.State = 9 then (p, []) else if c = 7 then (nilP 0, [⟨5, 0, 0, [], [], p.Text⟩]) else if c < 32 then (p, []) else if 127 ≤ c ∧ c ≤ 159 then (p, []) else if (p.Text ++ encT c).length ≤ 256 then (⟨p.State, p.Mark, p.Inter, p.Args, p.Text ++ encT c⟩, []) else (p, [])
def finalP (a : GAct) (p : GParser) : GParser × List GAct := (nilP 0, [if p.Inter.length = 3 then drp else a])
def escP (p : GParser) (c : Int) : GParser × List GAct :=
  if c < 48 then (⟨2, p.Mark, moreI p.Inter c, p.Args, p.Text⟩, []) else if p.State = 2 then finalP ⟨3, c, 0, p.Inter, [], []⟩ p else if c = 91 then (⟨3, p.Mark, p.Inter, p.Args, p.Text⟩, []) else if c = 93 then (⟨7, p.Mark, p.Inter, p.Args, p.Text⟩, []) else if 0 ≤ Lib.indexByte [80, 88, 94, 95] (u8 c) then (⟨9, p.Mark, p.Inter, p.Args, p.Text⟩, []) else finalP ⟨3, c, 0, [], [], []⟩ p
def csiP (p : GParser) (c : Int) : GParser × List GAct :=
  if p.State = 6 then (if 64 ≤ c then (nilP 0, [drp]) else (p, [])) else if c < 48 then (⟨5, p.Mark, moreI p.Inter c, p.Args, p.Text⟩, []) else if 64 ≤ c then finalP ⟨4, c, p.Mark, p.Inter, (readA p.Args).1, []⟩ p else if p.State = 5 then (nilP 6, []) else if c = 58 then (nilP 6, []) else if c < 60 then (⟨4, p.Mark, p.Inter, (if p.Args.length < 100 then p.Args ++ [sg c] else p.Args), p.Text⟩, []) else if p.State = 3 then (⟨4, c, p.Inter, p.Args, p.Text⟩, []) else (nilP 6, [])
def ctrlP (p : GParser) (c : Int) : Option (GParser × List GAct) :=
  if c = 27 then some (nilP 1, if p.State = 0 then [] else [drp]) else if c = 24 then some (nilP 0, if p.State = 0 then [] else [drp]) else if c = 26 then some (nilP 0, if p.State = 0 then [] else [drp]) else if c < 32 then some (p, [⟨2, c, 0, [], [], []⟩]) else if 127 ≤ c ∧ c ≤ 159 then some (p, []) else none
def afterP (p : GParser) (c : Int) : GParser × List GAct := match ctrlP p c with
  | some r => r
  | none => if p.State = 0 then (p, [⟨1, c, 0, [], [], []⟩]) else if 160 ≤ c then (nilP 0, [drp]) else if p.State ≤ 2 then escP p c else csiP p c
def takeP (p : GParser) (c : Int) : GParser × List GAct :=
  if c < 0 then (p, []) else if 1114111 < c then (p, []) else if p.State = 7 ∨ p.State = 9 then textP p c else if p.State = 8 ∨ p.State = 10 then (if c = 92 then (nilP 0, [if p.State = 8 then ⟨5, 0, 0, [], [], p.Text⟩ else drp]) else ((afterP (nilP 1) c).1, drp :: (afterP (nilP 1) c).2)) else afterP p c
/-- A parser and what it told, as the code holds them. -/
def pk (l : List GAct) (r : GParser × List GAct) : Int × Int × Str × Str × Str × List GAct := (r.1.State, r.1.Mark, r.1.Inter, r.1.Args, r.1.Text, l ++ r.2)
theorem pk_nil (l : List GAct) (p : GParser) : pk l (p, []) = (p.State, p.Mark, p.Inter, p.Args, p.Text, l) := by simp [pk]
theorem text_ok (c : Int) (p : GParser) (l : List GAct) (h : l.length ≤ 100000000) (hS : 0 ≤ p.State ∧ p.State ≤ 10) (hT : p.Text.length ≤ 256) : f55 c p.State p.Mark p.Inter p.Args p.Text l = some (pk l (textP p c)) := by
  unfold f55 textP
  by_cases h27 : c = 27
  · rw [decide_eq_true h27, ct, if_pos h27, pk_nil, i64w _ (by omega)]
  rw [decide_eq_false h27, cf, if_neg h27]
  by_cases h24 : c = 24
  · rw [decide_eq_true h24, ct, if_pos h24, drop_ok _ _ _ _ _ _ _ h, bs]; rfl
  rw [decide_eq_false h24, cf, if_neg h24]
  by_cases h26 : c = 26
  · rw [decide_eq_true h26, ct, if_pos h26, drop_ok _ _ _ _ _ _ _ h, bs]; rfl
  rw [decide_eq_false h26, cf, if_neg h26]
  by_cases h9 : p.State = 9
  · rw [decide_eq_true h9, ct, if_pos h9, pk_nil]
  rw [decide_eq_false h9, cf, if_neg h9]
  by_cases h7 : c = 7
  · rw [decide_eq_true h7, ct, if_pos h7, emit_ok _ _ _ _ _ _ _ h, bs]
    unfold f57
    rw [bs]; rfl
  rw [decide_eq_false h7, cf, if_neg h7]
  by_cases h32 : c < 32
  · rw [decide_eq_true h32, ct, if_pos h32, pk_nil]
  rw [decide_eq_false h32, cf, if_neg h32, within_ok, bs]
  by_cases hw : 127 ≤ c ∧ c ≤ 159
  · rw [decide_eq_true hw.1, decide_eq_true hw.2, Bool.and_self, ct, if_pos hw, pk_nil]
  rw [show (decide ((127 : Int) ≤ c) && decide (c ≤ 159)) = false by rw [← Bool.decide_and]; exact decide_eq_false hw, cf, if_neg hw, encT_ok, bs, cat_ok _ _ (by have := encR_len (if c < 0 ∨ 1114111 < c ∨ (55296 ≤ c ∧ c ≤ 57343) then 65533 else IntKind.i32.wrap c); show p.Text.length + (encR _).length ≤ _; omega), bs]
  by_cases hl : (p.Text ++ encT c).length ≤ 256
  · rw [decide_eq_true (by omega), ct, if_pos hl, pk_nil]
  · rw [decide_eq_false (by omega), cf, if_neg hl, pk_nil]
theorem esc_ok (c : Int) (p : GParser) (l : List GAct) (h : l.length ≤ 100000000) (hc : 0 ≤ c) : f60 c p.State p.Mark p.Inter p.Args p.Text l = some (pk l (escP p c)) := by
  unfold f60 escP
  by_cases h48 : c < 48
  · rw [decide_eq_true h48, ct, if_pos h48, more_ok _ _ _ _ _ _ _ (by omega), bs, pk_nil]
  rw [decide_eq_false h48, cf, if_neg h48]
  by_cases h2 : p.State = 2
  · rw [decide_eq_true h2, ct, if_pos h2, final_ok _ _ _ _ _ _ _ h, bs]; rfl
  rw [decide_eq_false h2, cf, if_neg h2]
  by_cases h91 : c = 91
  · rw [decide_eq_true h91, ct, if_pos h91, pk_nil]
  rw [decide_eq_false h91, cf, if_neg h91]
  by_cases h93 : c = 93
  · rw [decide_eq_true h93, ct, if_pos h93, pk_nil]
  rw [decide_eq_false h93, cf, if_neg h93]
  unfold libIndexByte
  rw [bs]
  by_cases hi : 0 ≤ Lib.indexByte [80, 88, 94, 95] (u8 c)
  · rw [decide_eq_true hi, ct, if_pos hi, pk_nil]
  rw [decide_eq_false hi, cf, if_neg hi, final_ok _ _ _ _ _ _ _ h, bs]; rfl
theorem csi_ok (c : Int) (p : GParser) (l : List GAct) (h : l.length ≤ 100000000) (hc : 0 ≤ c) (hA : p.Args.length ≤ 100) : f61 c p.State p.Mark p.Inter p.Args p.Text l = some (pk l (csiP p c)) := by
  unfold f61 csiP
  by_cases h6 : p.State = 6
  · rw [decide_eq_true h6, ct, if_pos h6]
    by_cases h64 : 64 ≤ c
    · rw [decide_eq_true h64, ct, if_pos h64, drop_ok _ _ _ _ _ _ _ h, bs]; rfl
    · rw [decide_eq_false h64, cf, if_neg h64, pk_nil]
  rw [decide_eq_false h6, cf, if_neg h6]
  by_cases h48 : c < 48
  · rw [decide_eq_true h48, ct, if_pos h48, more_ok _ _ _ _ _ _ _ (by omega), bs, pk_nil]
  rw [decide_eq_false h48, cf, if_neg h48]
  by_cases h64 : 64 ≤ c
  · rw [decide_eq_true h64, ct, if_pos h64, read_ok _ (by omega), bs]
    unfold f61_j0
    rw [final_ok _ _ _ _ _ _ _ h, bs]; rfl
  rw [decide_eq_false h64, cf, if_neg h64]
  by_cases h5 : p.State = 5
  · rw [decide_eq_true h5, ct, if_pos h5, pk_nil]
    unfold f85
    rw [bs]; rfl
  rw [decide_eq_false h5, cf, if_neg h5]
  by_cases h58 : c = 58
  · rw [decide_eq_true h58, ct, if_pos h58, pk_nil]
    unfold f85
    rw [bs]; rfl
  rw [decide_eq_false h58, cf, if_neg h58]
  by_cases h60 : c < 60
  · rw [decide_eq_true h60, ct, if_pos h60, pk_nil]
    by_cases ha : p.Args.length < 100
    · rw [decide_eq_true (by omega), ct, if_pos ha, enc_sg c (by omega), cat_ok _ _ (by simp; omega), bs]
    · rw [decide_eq_false (by omega), cf, if_neg ha]
  rw [decide_eq_false h60, cf, if_neg h60]
  by_cases h3 : p.State = 3
  · rw [decide_eq_true h3, ct, if_pos h3, pk_nil]
  · rw [decide_eq_false h3, cf, if_neg h3, pk_nil]
    unfold f85
    rw [bs]; rfl
theorem ctrl_j (c nx : Int) (p : GParser) (l : List GAct) (h : l.length ≤ 100000000) : f59_j0 c p.State p.Mark p.Inter p.Args p.Text l nx = some (nx, 0, [], [], [], l ++ (if p.State = 0 then [] else [drp]), true) := by
  unfold f59_j0
  by_cases h0 : p.State = 0
  · rw [decide_eq_true h0, Bool.not_true, cf, if_pos h0]
    unfold f57
    rw [bs, List.append_nil]
  · rw [decide_eq_false h0, Bool.not_false, ct, if_neg h0, show GAct.mk 6 0 0 [] [] [] = drp from rfl, emit_ok _ _ _ _ _ _ _ h, bs]
    unfold f57
    rw [bs]
theorem ctrl_ok (c : Int) (p : GParser) (l : List GAct) (h : l.length ≤ 100000000) : f59 c p.State p.Mark p.Inter p.Args p.Text l = some (match ctrlP p c with
    | some r => (r.1.State, r.1.Mark, r.1.Inter, r.1.Args, r.1.Text, l ++ r.2, true)
    | none => (p.State, p.Mark, p.Inter, p.Args, p.Text, l, false)) := by
  unfold f59 ctrlP
  by_cases h27 : c = 27
  · rw [decide_eq_true h27, ct, if_pos h27, ctrl_j c 1 p l h]; rfl
  rw [decide_eq_false h27, cf, if_neg h27]
  by_cases h24 : c = 24
  · rw [decide_eq_true h24, ct, if_pos h24]
    unfold f59_j1
    rw [ctrl_j c 0 p l h]; rfl
  rw [decide_eq_false h24, cf, if_neg h24]
  by_cases h26 : c = 26
  · rw [decide_eq_true h26, ct, if_pos h26]
    unfold f59_j1
    rw [ctrl_j c 0 p l h]; rfl
  rw [decide_eq_false h26, cf, if_neg h26]
  by_cases h32 : c < 32
  · rw [decide_eq_true h32, ct, if_pos h32, emit_ok _ _ _ _ _ _ _ h, bs]
  rw [decide_eq_false h32, cf, if_neg h32, within_ok, bs]
  by_cases hw : 127 ≤ c ∧ c ≤ 159
  · rw [decide_eq_true hw.1, decide_eq_true hw.2, Bool.and_self, if_pos hw]
    simp only [List.append_nil]
  · rw [show (decide ((127 : Int) ≤ c) && decide (c ≤ 159)) = false by rw [← Bool.decide_and]; exact decide_eq_false hw, if_neg hw]
theorem ctrl_none {p : GParser} {c : Int} (h : ctrlP p c = none) : 32 ≤ c ∧ ¬ (127 ≤ c ∧ c ≤ 159) := by
  unfold ctrlP at h
  by_cases h27 : c = 27
  · rw [if_pos h27] at h; cases h
  rw [if_neg h27] at h
  by_cases h24 : c = 24
  · rw [if_pos h24] at h; cases h
  rw [if_neg h24] at h
  by_cases h26 : c = 26
  · rw [if_pos h26] at h; cases h
  rw [if_neg h26] at h
  by_cases h32 : c < 32
  · rw [if_pos h32] at h; cases h
  rw [if_neg h32] at h
  by_cases hw : 127 ≤ c ∧ c ≤ 159
  · rw [if_pos hw] at h; cases h
  exact ⟨by omega, hw⟩
theorem after_ok (c : Int) (x1 x2 : Int) (x3 x4 x5 : Str) (x6 : List GAct) (p : GParser) (l : List GAct) (h : l.length ≤ 100000000) (hA : p.Args.length ≤ 100) : f26_j1 c x1 x2 x3 x4 x5 x6 p.State p.Mark p.Inter p.Args p.Text l = some (pk l (afterP p c)) := by
  unfold f26_j1 afterP
  rw [ctrl_ok c p l h, bs]
  cases hc : ctrlP p c with
  | some r => simp only [cond_true]; rfl
  | none =>
    have h32 := (ctrl_none hc).1
    simp only [cond_false]
    by_cases h0 : p.State = 0
    · rw [decide_eq_true h0, ct, if_pos h0, emit_ok _ _ _ _ _ _ _ h, bs]; rfl
    rw [decide_eq_false h0, cf, if_neg h0]
    by_cases h160 : 160 ≤ c
    · rw [decide_eq_true h160, ct, if_pos h160, drop_ok _ _ _ _ _ _ _ h, bs]; rfl
    rw [decide_eq_false h160, cf, if_neg h160]
    by_cases h2 : p.State ≤ 2
    · rw [decide_eq_true h2, ct, if_pos h2, esc_ok c p l h (by omega), bs]
    · rw [decide_eq_false h2, cf, if_neg h2, csi_ok c p l h (by omega) hA, bs]
theorem take_ok (c : Int) (p : GParser) (l : List GAct) (h : l.length ≤ 10000000) (hS : 0 ≤ p.State ∧ p.State ≤ 10) (hA : p.Args.length ≤ 100) (hT : p.Text.length ≤ 256) : f26 c p.State p.Mark p.Inter p.Args p.Text l = some (pk l (takeP p c)) := by
  unfold f26 takeP
  by_cases h0 : c < 0
  · rw [decide_eq_true h0, ct, if_pos h0, pk_nil]
  rw [decide_eq_false h0, cf, if_neg h0]
  by_cases h1 : 1114111 < c
  · rw [decide_eq_true h1, ct, if_pos h1, pk_nil]
  rw [decide_eq_false h1, cf, if_neg h1]
  have ht : f26_j2 c p.State p.Mark p.Inter p.Args p.Text l true = some (pk l (textP p c)) := by
    unfold f26_j2
    rw [ct, text_ok c p l (by omega) hS hT, bs]
  unfold f26_j0
  by_cases h7 : p.State = 7
  · rw [decide_eq_true h7, ct, if_pos (.inl h7), ht]
  rw [decide_eq_false h7, cf]
  by_cases h9 : p.State = 9
  · rw [decide_eq_true h9, ct, if_pos (.inr h9), ht]
  rw [decide_eq_false h9, cf, if_neg (by omega)]
  have hb : (p.State = 8 ∨ p.State = 10) → f26_j3 c p.State p.Mark p.Inter p.Args p.Text l true = some (pk l (if c = 92 then (nilP 0, [if p.State = 8 then ⟨5, 0, 0, [], [], p.Text⟩ else drp]) else ((afterP (nilP 1) c).1, drp :: (afterP (nilP 1) c).2))) := fun _ => by
    unfold f26_j3
    rw [ct]
    by_cases h92 : c = 92
    · rw [decide_eq_true h92, ct, if_pos h92]
      by_cases h8 : p.State = 8
      · rw [decide_eq_true h8, ct, if_pos h8, emit_ok _ _ _ _ _ _ _ (by omega), bs]
        unfold f57
        rw [bs]; rfl
      · rw [decide_eq_false h8, cf, if_neg h8, show GAct.mk 6 0 0 [] [] [] = drp from rfl, emit_ok _ _ _ _ _ _ _ (by omega), bs]
        unfold f57
        rw [bs]; rfl
    · rw [decide_eq_false h92, cf, if_neg h92, drop_ok _ _ _ _ _ _ _ (by omega), bs]
      have := after_ok c p.State p.Mark p.Inter p.Args p.Text l (nilP 1) (l ++ [drp]) (by simp; omega) (by simp [nilP])
      refine this.trans ?_
      simp [pk]
  unfold f26_j2
  by_cases h8 : p.State = 8
  · rw [cf, decide_eq_true h8, ct, if_pos (.inl h8), hb (.inl h8)]
  rw [cf, decide_eq_false h8, cf]
  by_cases h10 : p.State = 10
  · rw [decide_eq_true h10, ct, if_pos (.inr h10), hb (.inr h10)]
  rw [decide_eq_false h10, cf, if_neg (by omega)]
  unfold f26_j3
  rw [cf, after_ok c _ _ _ _ _ _ p l (by omega) hA]
end Go.Proofs.YtakmihemhmdpkaaDoor.Pm
