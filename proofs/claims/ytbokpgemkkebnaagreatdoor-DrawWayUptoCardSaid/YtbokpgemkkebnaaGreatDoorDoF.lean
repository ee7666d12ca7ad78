/- What is written as code points is read as it was. -/
import Derived.Test.YtbokpgemkkebnaaGreatDoorDoP
import Derived.Laws.RangeString
namespace Go.Proofs.YtbokpgemkkebnaaGreatDoor.Pr
open Go.Proofs.YtbokpgemkkebnaaGreatDoor.Pm
open Go.Proofs.YtbokpgemkkebnaaGreatDoor.Args
open Go.ChangeShapes Go.WideShapes Go.ChangeAt Go.RowKit
set_option linter.unusedVariables false
set_option linter.unusedSimpArgs false
set_option maxRecDepth 100000
def bts (l : List UInt8) : List Int := l.map fun b => (b.toNat : Int)
theorem runes_asc (l : List UInt8) (hl : l.length ≤ 1000000) (ha : ∀ b ∈ l, b.toNat < 128) : f45 l = some (bts l) := by
 unfold f45
 have h := loop_to (body := f45_l0 l) (fun i => (bts (l.take i), (i : Int))) (bts l) l.length ?_ 0 (by omega) ?_
 ·have h' : loopO (f45_l0 l) ([], 0) = some (bts l) := h
  rw [h', bs]
 ·unfold f45_l0
  try dsimp only []
  rw [chk_ok (dt (by omega)), bs, bcf (df (by omega)), List.take_length]
 ·intro i _ hi
  have hb := ha l[i] (List.getElem_mem hi)
  have hd : Utf8.decode ⟨l.toArray⟩ i = (l[i].toNat, 1) := decode_ascii ⟨l.toArray⟩ i hi hb
  unfold f45_l0 f45_l0_j1
  try dsimp only []
  rw [chk_ok (dt (by omega)), bs, bct (dt (by omega)), Int.toNat_natCast, hd]
  try dsimp only []
  rw [app_ok 8 _ _ (by simp [bts]; omega), bs, i64w _ (by omega)]
  have e : bts (l.take i) ++ [(l[i].toNat : Int)] = bts (l.take (i + 1)) := by
   unfold bts
   rw [List.take_add_one, List.getElem?_eq_getElem hi, List.map_append]; rfl
  rw [e]
abbrev T6 := Int × Int × Str × Str × Str × List GAct
noncomputable def fd : List Int → T6 → Option T6
 | [], x => some x
 | c :: t, x => (f32 c x.1 x.2.1 x.2.2.1 x.2.2.2.1 x.2.2.2.2.1 x.2.2.2.2.2).bind (fd t)
theorem fd_app : ∀ (a b : List Int) (x y : T6), fd a x = some y → fd (a ++ b) x = fd b y
 | [], b, x, y, h => by cases h; rfl
 | c :: t, b, x, y, h => by
  have h' : (f32 c x.1 x.2.1 x.2.2.1 x.2.2.2.1 x.2.2.2.2.1 x.2.2.2.2.2).bind (fd t) = some y := h
  show (f32 c x.1 x.2.1 x.2.2.1 x.2.2.2.1 x.2.2.2.2.1 x.2.2.2.2.2).bind (fd (t ++ b)) = _
  cases hz : f32 c x.1 x.2.1 x.2.2.1 x.2.2.2.1 x.2.2.2.2.1 x.2.2.2.2.2 with
  | none => rw [hz] at h'; cases h'
  | some z =>
   rw [hz, bs] at h'
   rw [bs]; exact fd_app t b z y h'
def gr (l : List GAct) : T6 := (0, 0, [], [], [], l)
theorem feed_loop (p : GParser) (l : List Int) : ∀ (suf pre : List Int) (x y : T6), l = pre ++ suf → l.length ≤ 100000000 → fd suf x = some y →
  loopO (f16_l2 p l) (x.1, x.2.1, x.2.2.1, x.2.2.2.1, x.2.2.2.2.1, x.2.2.2.2.2, (pre.length : Int)) = some y
 | [], pre, x, y, e, hl, h => by
  cases h
  refine loopO_done ?_
  subst e
  unfold f16_l2 f16_l2_j3
  try dsimp only []
  rw [lt_end, cf, cf]
 | c :: t, pre, x, y, e, hl, h => by
  have h' : (f32 c x.1 x.2.1 x.2.2.1 x.2.2.2.1 x.2.2.2.2.1 x.2.2.2.2.2).bind (fd t) = some y := h
  cases hz : f32 c x.1 x.2.1 x.2.2.1 x.2.2.2.1 x.2.2.2.2.1 x.2.2.2.2.2 with
  | none => rw [hz] at h'; cases h'
  | some z =>
   rw [hz, bs] at h'
   refine loopO_next ?_ (feed_loop p l t (pre ++ [c]) z y (by simp [e]) hl h')
   have hp : pre.length < 1000000000 := by rw [e] at hl; simp at hl; omega
   unfold f16_l2 f16_l2_j3 f16_l2_j4
   try dsimp only []
   rw [e, lt_mid, ct, ct, idx_mid, bs, hz, bs, wrap_nx pre c hp]
theorem check0 : f31 ⟨0, 0, [], [], []⟩ = some 0 := by
 unfold f31
 rw [bcf (by rfl), bcf (by rfl)]
 unfold f31_j0
 rw [read_ok [] (by simp), bs, within_ok, bs, bct (by rfl), bct (by rfl)]
 unfold f31_j1
 rw [ct, inters_ok [] 3 (by simp), bs]
 rfl
theorem feed_ok (l : List Int) (hl : l.length ≤ 100000000) (y : List GAct) (h : fd l (gr []) = some (gr y)) : f16 ⟨0, 0, [], [], []⟩ l = some (⟨0, 0, [], [], []⟩, y, 0) := by
 unfold f16
 rw [check0, bs, bcf (by rfl)]
 unfold f16_j0
 have := feed_loop ⟨0, 0, [], [], []⟩ l l [] (gr []) (gr y) rfl hl h
 have h' : loopO (f16_l2 ⟨0, 0, [], [], []⟩ l) ((0 : Int), (0 : Int), ([] : Str), ([] : Str), ([] : Str), ([] : List GAct), (0 : Int)) = some (gr y) := this
 try dsimp only []
 rw [h', bs]; rfl
theorem ctl_no (c s : Int) (A : Str) (l : List GAct) (h : 32 ≤ c) (hw : ¬ (127 ≤ c ∧ c ≤ 159)) (m : Int) (I T : Str) : f56 c s m I A T l = some (s, m, I, A, T, l, false) := by
 unfold f56
 have e : (decide ((127 : Int) ≤ c) && decide (c ≤ 159)) = false := by
  rw [← Bool.decide_and]; exact df hw
 rw [bcf (df (by omega)), bcf (df (by omega)), bcf (df (by omega)), bcf (df (by omega)), within_ok, bs, e]
theorem tk_print (c : Int) (l : List GAct) (h : 32 ≤ c ∧ c ≤ 1114111) (hw : ¬ (127 ≤ c ∧ c ≤ 159)) (hl : l.length ≤ 100000000) : f32 c 0 0 [] [] [] l = some (gr (l ++ [⟨1, c, 0, [], [], []⟩])) := by
 unfold f32
 rw [bcf (df (by omega)), bcf (df (by omega))]
 unfold f32_j0
 rw [bcf (by rfl), bcf (by rfl)]
 unfold f32_j2
 rw [cf, bcf (by rfl), bcf (by rfl)]
 unfold f32_j3
 rw [cf]
 unfold f32_j1
 rw [ctl_no c 0 [] l h.1 hw, bs]
 try dsimp only []
 rw [cf, bct (by rfl)]
 unfold f53
 rw [app_ok 80 _ _ (by simp; omega), bs, bs]; rfl
theorem tk_esc (l : List GAct) : f32 27 0 0 [] [] [] l = some (1, 0, [], [], [], l) := rfl
theorem tk_br (l : List GAct) : f32 91 1 0 [] [] [] l = some (3, 0, [], [], [], l) := rfl
theorem tk_mid (c s : Int) (A : Str) (l : List GAct) (hs : s = 3 ∨ s = 4) (hc : 48 ≤ c ∧ c ≤ 126) : f32 c s 0 [] A [] l = (f58 c s 0 [] A [] l).bind fun z => some (z.1, z.2.1, z.2.2.1, z.2.2.2.1, z.2.2.2.2.1, z.2.2.2.2.2) := by
 unfold f32
 rw [bcf (df (by omega)), bcf (df (by omega))]
 unfold f32_j0
 rw [bcf (df (by omega)), bcf (df (by omega))]
 unfold f32_j2
 rw [cf, bcf (df (by omega)), bcf (df (by omega))]
 unfold f32_j3
 rw [cf]
 unfold f32_j1
 rw [ctl_no c s A l (by omega) (by omega), bs]
 try dsimp only []
 rw [cf, bcf (df (by omega)), bcf (df (by omega)), bcf (df (by omega))]
theorem tk_arg (c s : Int) (A : Str) (l : List GAct) (hs : s = 3 ∨ s = 4) (hc : 48 ≤ c ∧ c < 60 ∧ c ≠ 58) (hA : A.length < 100) : f32 c s 0 [] A [] l = some (4, 0, [], A ++ [sg c], [], l) := by
 rw [tk_mid c s A l hs (by omega)]
 unfold f58
 rw [bcf (df (by omega)), bcf (df (by omega)), bcf (df (by omega)), bcf (df (by omega)), bcf (df (by omega)), bct (dt (by omega)), bct (dt (by omega)), enc_sg c (by omega), cat_ok _ _ (by simp; omega), bs, bs]
theorem tk_end (c s : Int) (A : Str) (l : List GAct) (hs : s = 3 ∨ s = 4) (hc : 64 ≤ c ∧ c ≤ 126) (hA : A.length ≤ 100) (hl : l.length ≤ 100000000) : f32 c s 0 [] A [] l = some (gr (l ++ [⟨4, c, 0, [], (readA A).1, []⟩])) := by
 rw [tk_mid c s A l hs (by omega)]
 unfold f58
 rw [bcf (df (by omega)), bcf (df (by omega)), bct (dt (by omega)), read_ok A (by omega), bs]
 unfold f58_j0 f80
 rw [bcf (by rfl)]
 unfold f53
 rw [app_ok 80 _ _ (by simp; omega), bs, bs]; rfl
def Fed (t : List Int) (acts : List GAct) : Prop := ∀ l : List GAct, l.length + acts.length ≤ 100000000 → fd t (gr l) = some (gr (l ++ acts))
theorem Fed.nil : Fed [] [] := fun l _ => by rw [List.append_nil]; rfl
theorem Fed.app {t u : List Int} {a b : List GAct} (h : Fed t a) (k : Fed u b) : Fed (t ++ u) (a ++ b) := fun l hl => by
 rw [List.length_append] at hl
 rw [fd_app t u _ _ (h l (by omega)), k (l ++ a) (by rw [List.length_append]; omega), List.append_assoc]
theorem fed_print (c : Int) (h : 32 ≤ c ∧ c ≤ 1114111) (hw : ¬ (127 ≤ c ∧ c ≤ 159)) : Fed [c] [⟨1, c, 0, [], [], []⟩] := fun l hl => by
 show (f32 c 0 0 [] [] [] l).bind (fd []) = _
 rw [tk_print c l h hw (by omega), bs]; rfl
theorem fd_args (l : List GAct) (t : List Int) : ∀ (B A : Str) (s : Int), (s = 3 ∨ s = 4) → B.all okB = true → (A ++ B).length ≤ 100 → ∃ s', (s' = 3 ∨ s' = 4) ∧ fd (bts B ++ t) (s, 0, [], A, [], l) = fd t (s', 0, [], A ++ B, [], l)
 | [], A, s, hs, _, _ => ⟨s, hs, by simp [bts]⟩
 | b :: B, A, s, hs, hj, hl => by
  rw [List.all_cons, Bool.and_eq_true] at hj
  have hb : 48 ≤ b.toNat ∧ b.toNat < 60 ∧ b.toNat ≠ 58 := by
   have := hj.1; unfold okB at this; simp at this; omega
  obtain ⟨s', h1, h2⟩ := fd_args l t B (A ++ [b]) 4 (.inr rfl) hj.2 (by simpa using hl)
  refine ⟨s', h1, ?_⟩
  show (f32 (b.toNat : Int) s 0 [] A [] l).bind (fd (bts B ++ t)) = _
  rw [tk_arg _ s A l hs (by omega) (by simp at hl; omega), bs, sg_byte, h2]
  simp
theorem fed_csi (A : Str) (c : Int) (hA : A.all okB = true) (lA : A.length ≤ 100) (hc : 64 ≤ c ∧ c ≤ 126) : Fed (27 :: 91 :: (bts A ++ [c])) [⟨4, c, 0, [], (readA A).1, []⟩] := fun l hl => by
 show (f32 27 0 0 [] [] [] l).bind (fd (91 :: (bts A ++ [c]))) = _
 rw [tk_esc, bs]
 show (f32 91 1 0 [] [] [] l).bind (fd (bts A ++ [c])) = _
 rw [tk_br, bs]
 obtain ⟨s, hs, e⟩ := fd_args l [c] A [] 3 (.inl rfl) hA (by simpa using lA)
 rw [e]
 show (f32 c s 0 [] A [] l).bind (fd []) = _
 rw [tk_end c s A l hs hc lA (by simp at hl; omega), bs]; rfl
end Go.Proofs.YtbokpgemkkebnaaGreatDoor.Pr
