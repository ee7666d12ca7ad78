/- Press: what a key sends: no two send the same; alt is 27 ahead. -/
import Derived.Test.YtakmihemhmdpkaaDoorDP2Z
namespace Go.Proofs.YtakmihemhmdpkaaDoor.Pm.Ky
open Go.Proofs.YtakmihemhmdpkaaDoor.Args
open Go.ChangeShapes Go.WideShapes Go.ChangeAt Go.RowKit
set_option linter.unusedVariables false
set_option linter.unusedSimpArgs false
set_option maxRecDepth 100000
theorem i64w (n : Int) (h : -9223372036854775808 ≤ n ∧ n ≤ 9223372036854775807) : IntKind.i64.wrap n = n := IntWalk.i64_in n h
theorem cat_ok (xs ys : List UInt8) (h : xs.length + ys.length ≤ 1000) : cat? xs ys = some (xs ++ ys) := by
  unfold cat?
  rw [if_pos (by show ((xs.length + ys.length : Nat) : Int) ≤ 9223372036854775807; omega)]
theorem app_tot (xs ys : List UInt8) (h : xs.length + ys.length ≤ 1000) : ∃ z, app? 1 xs ys = some z ∧ z.length = xs.length + ys.length := by
  unfold app?
  rw [if_pos (by omega)]
  exact ⟨_, rfl, by simp⟩
theorem dig1 (n : Nat) (h : n < 10) : Lib.decDigits n = [UInt8.ofNat (48 + n)] := by rw [Lib.decDigits, dif_pos h]
theorem dig2 (n : Nat) (h : 10 ≤ n ∧ n < 100) : Lib.decDigits n = [UInt8.ofNat (48 + n / 10), UInt8.ofNat (48 + n % 10)] := by
  rw [Lib.decDigits, dif_neg (by omega), dig1 (n / 10) (by omega)]; rfl
theorem itoa1 (n : Nat) (h : n < 10) : libItoa (n : Int) = some [UInt8.ofNat (48 + n)] := by
  unfold libItoa
  rw [if_pos (by omega), Int.toNat_natCast, dig1 n h]
theorem itoa2 (n : Nat) (h : 10 ≤ n ∧ n < 100) : libItoa (n : Int) = some [UInt8.ofNat (48 + n / 10), UInt8.ofNat (48 + n % 10)] := by
  unfold libItoa
  rw [if_pos (by omega), Int.toNat_natCast, dig2 n h]
/-- The runes of a text come to bytes, four at most. -/
theorem tot96 (a : Int) (acc : List UInt8) (h : acc.length ≤ 100) : ∃ z, f95 a acc = some z ∧ z.length ≤ acc.length + 4 := by
  have ap : ∀ ys : List UInt8, ys.length ≤ 4 → ∃ z, ((app? 1 acc ys).bind fun z6 => (some z6)) = some z ∧ z.length ≤ acc.length + 4 := fun ys hy => by
    obtain ⟨z, e, hz⟩ := app_tot acc ys (by omega)
    rw [e]; exact ⟨z, rfl, by omega⟩
  unfold f95 f95_j0
  simp only [Bool.cond_decide, cond_true, cond_false]
  repeat' split
  all_goals exact ap _ (by simp)
theorem tot91 (a : Int) (acc : List UInt8) (h : acc.length ≤ 100) : ∃ z, f72 a acc = some z ∧ z.length ≤ acc.length + 4 := by
  unfold f72
  simp only [Bool.cond_decide]
  split
  · obtain ⟨z, e, hz⟩ := app_tot acc [u8 a] (by simp; omega)
    rw [e]; exact ⟨z, rfl, by simp at hz; omega⟩
  · obtain ⟨z, e, hz⟩ := tot96 a acc h
    rw [e]; exact ⟨z, rfl, hz⟩
theorem tot83 (x : Int) : ∃ z, f48 [x] = some z ∧ z.length ≤ 4 := by
  unfold f48
  have hi : idx [x] 0 = some x := rfl
  have first : ∃ z, f48_l0 [x] ([], 0) = some (.inl (z, 1)) ∧ z.length ≤ 4 := by
    unfold f48_l0 f48_l0_j1 f48_l0_j2
    rw [decide_eq_true (p := (([], 0) : List UInt8 × Int).2 < (([x] : List Int).length : Int)) (by simp)]
    simp only [cond_true, hi, Option.bind_some, Bool.cond_decide]
    have w1 : IntKind.i64.wrap ((0 : Int) + 1) = 1 := by decide
    rw [w1]
    repeat' split
    all_goals
      first
        | (obtain ⟨z, e, hz⟩ := tot91 65533 [] (by simp); rw [e]; exact ⟨z, rfl, by simpa using hz⟩)
        | (obtain ⟨z, e, hz⟩ := tot91 (IntKind.i32.wrap x) [] (by simp); rw [e]; exact ⟨z, rfl, by simpa using hz⟩)
  obtain ⟨z, e, hz⟩ := first
  have : loopO (f48_l0 [x]) ([], 0) = some z := loopO_next e (loopO_done (by
    unfold f48_l0 f48_l0_j1
    rfl))
  rw [this]; exact ⟨z, rfl, hz⟩
theorem tot66 (r m : Int) : ∃ z, f69 r m = some z ∧ z.length ≤ 4 := by
  have t : ∀ x, ∃ z, ((f48 [x]).bind fun z6 => (some z6)) = some z ∧ z.length ≤ 4 := fun x => by
    obtain ⟨z, e, hz⟩ := tot83 x
    rw [e]; exact ⟨z, rfl, hz⟩
  unfold f69 f69_j1 f69_j0
  cases (!decide (bitI .and .i64 m 4 = 0))
  · simp only [cond_false]; exact t _
  · simp only [cond_true, Bool.cond_decide]
    repeat' split
    all_goals exact t _
theorem tot52 (k : GKey) : ∃ z, f43 k = some z ∧ z.length ≤ 4 := by
  obtain ⟨z, e, hz⟩ := tot66 k.Rune k.Mods
  unfold f43 f43_j0 f43_j1
  rw [e]
  simp only [Bool.cond_decide, Option.bind_some]
  cases (!decide (bitI .and .i64 k.Mods 1 = 0)) <;> cases (!decide (bitI .and .i64 k.Mods 4 = 0)) <;> simp only [cond_true, cond_false] <;> repeat' split
  all_goals exact ⟨_, rfl, by first | exact hz | simp⟩
/-- The keys with names, up to the twelfth function key. -/
def tab50 (a : List UInt8) (c : UInt8) (m : Nat) : List UInt8 := if m = 0 then 27 :: (a ++ [c]) else [27, 91, 49, 59, UInt8.ofNat (49 + m), c]
def tab51 (d : List UInt8) (m : Nat) : List UInt8 := 27 :: 91 :: (d ++ (if m = 0 then [126] else [59, UInt8.ofNat (49 + m), 126]))
def tab (n m : Nat) (b : Bool) : List UInt8 :=
  match n with
  | 1 => tab50 (if b then [79] else [91]) 65 m
  | 2 => tab50 (if b then [79] else [91]) 66 m
  | 3 => tab50 (if b then [79] else [91]) 67 m
  | 4 => tab50 (if b then [79] else [91]) 68 m
  | 5 => tab50 (if b then [79] else [91]) 72 m
  | 6 => tab50 (if b then [79] else [91]) 70 m
  | 7 => tab51 [50] m
  | 8 => tab51 [51] m
  | 9 => tab51 [53] m
  | 10 => tab51 [54] m
  | 11 => tab50 [79] 80 m
  | 12 => tab50 [79] 81 m
  | 13 => tab50 [79] 82 m
  | 14 => tab50 [79] 83 m
  | 15 => tab51 [49, 53] m
  | 16 => tab51 [49, 55] m
  | 17 => tab51 [49, 56] m
  | 18 => tab51 [49, 57] m
  | 19 => tab51 [50, 48] m
  | 20 => tab51 [50, 49] m
  | 21 => tab51 [50, 51] m
  | _ => tab51 [50, 52] m
def allT (b : Bool) : List (List UInt8) := (List.range 176).map fun i => tab (i / 8 + 1) (i % 8) b
def apart1 : List (List UInt8) → Bool
  | [] => true
  | x :: t => t.all (fun y => !(x == y)) && apart1 t
theorem apart1_inj : ∀ (l : List (List UInt8)), apart1 l = true → ∀ i j (hi : i < l.length) (hj : j < l.length), l[i] = l[j] → i = j
  | x :: t, h, i, j, hi, hj, e => by
    unfold apart1 at h
    rw [Bool.and_eq_true, List.all_eq_true] at h
    obtain ⟨h1, h2⟩ := h
    have no : ∀ y ∈ t, x ≠ y := fun y hy e => by have := h1 y hy; simp [e] at this
    match i, j with
    | 0, 0 => rfl
    | 0, j + 1 => exact absurd e (no _ (List.getElem_mem _))
    | i + 1, 0 => exact absurd e.symm (no _ (List.getElem_mem _))
    | i + 1, j + 1 => exact congrArg (· + 1) (apart1_inj t h2 i j (by simpa using hi) (by simpa using hj) (by simpa using e))
theorem apartT : apart1 (allT false) = true := by decide +kernel
theorem apartF : apart1 (allT true) = true := by decide +kernel
theorem sep (b : Bool) (n m n' m' : Nat) (hn : n < 22) (hm : m < 8) (hn' : n' < 22) (hm' : m' < 8) (e : tab (n + 1) m b = tab (n' + 1) m' b) : n = n' ∧ m = m' := by
  have hl : (allT b).length = 176 := by unfold allT; simp
  have g : ∀ n m, n < 22 → m < 8 → ∀ h, (allT b)[8 * n + m]'h = tab (n + 1) m b := fun n m hn hm h => by
    have e := List.getElem_map (fun i => tab (i / 8 + 1) (i % 8) b) (l := List.range 176) (i := 8 * n + m) (h := h)
    rw [List.getElem_range, show (8 * n + m) / 8 = n by omega, show (8 * n + m) % 8 = m by omega] at e
    exact e
  have := apart1_inj (allT b) (by cases b; exact apartT; exact apartF) (8 * n + m) (8 * n' + m') (by omega) (by omega) (by rw [g n m hn hm, g n' m' hn' hm', e])
  omega
theorem g50 (a : List UInt8) (c : UInt8) (m : Int) (e : List UInt8) (he : (Utf8.encode (c.toNat : Int)).data.toList = e) :
    f41 a c m = bif decide (m = 0) then ((cat? ([27] : List UInt8) a).bind fun z11 => ((cat? z11 e).bind fun z12 => (some z12))) else ((libItoa (IntKind.i64.wrap (m + 1))).bind fun z8 => ((cat? ([27, 91, 49, 59] : List UInt8) z8).bind fun z9 => ((cat? z9 e).bind fun z10 => (some z10)))) := by
  subst he; rfl
theorem h50 (a e : List UInt8) (m : Nat) (ha : a.length ≤ 10) (he : e.length ≤ 10) (hm : m ≤ 7) :
    (bif decide ((m : Int) = 0) then ((cat? ([27] : List UInt8) a).bind fun z11 => ((cat? z11 e).bind fun z12 => (some z12))) else ((libItoa (IntKind.i64.wrap ((m : Int) + 1))).bind fun z8 => ((cat? ([27, 91, 49, 59] : List UInt8) z8).bind fun z9 => ((cat? z9 e).bind fun z10 => (some z10))))) =
    some (if m = 0 then 27 :: (a ++ e) else [27, 91, 49, 59, UInt8.ofNat (49 + m)] ++ e) := by
  by_cases h : m = 0
  · subst h
    rw [decide_eq_true (by rfl), if_pos rfl]
    simp only [cond_true]
    rw [cat_ok _ _ (by simp only [List.length_append, List.length_cons, List.length_nil]; omega)]
    simp only [Option.bind_some]
    rw [cat_ok _ _ (by simp only [List.length_append, List.length_cons, List.length_nil]; omega)]
    rfl
  · rw [decide_eq_false (by omega), if_neg h]
    simp only [cond_false]
    rw [i64w _ (by omega)]
    have e1 : libItoa ((m : Int) + 1) = some [UInt8.ofNat (49 + m)] := by
      have := itoa1 (m + 1) (by omega)
      rw [show 48 + (m + 1) = 49 + m by omega] at this
      exact this
    rw [e1]
    simp only [Option.bind_some]
    rw [cat_ok _ _ (by simp only [List.length_append, List.length_cons, List.length_nil]; omega)]
    simp only [Option.bind_some]
    rw [cat_ok _ _ (by simp only [List.length_append, List.length_cons, List.length_nil]; omega)]
    rfl
theorem e50 (a : List UInt8) (c : UInt8) (m : Nat) (ha : a.length ≤ 10) (hm : m ≤ 7) (hc : (Utf8.encode (c.toNat : Int)).data.toList = [c]) : f41 a c (m : Int) = some (tab50 a c m) :=
  (g50 a c m [c] hc).trans (h50 a [c] m ha (by simp) hm)
theorem h51g (p q r d x : List UInt8) (b : Bool) (y : Int) (hp : p.length ≤ 10) (hq : q.length ≤ 10) (hr : r.length ≤ 10) (hd : d.length ≤ 10) (hx : x.length ≤ 10) (hy : b = true → libItoa y = some x) :
    ((cat? p d).bind fun z10 => (bif b then ((libItoa y).bind fun z11 => ((cat? q z11).bind fun z12 => ((cat? z10 z12).bind fun z13 => ((cat? z13 r).bind fun z14 => (some z14))))) else ((cat? z10 r).bind fun z15 => (some z15)))) = some (p ++ d ++ (if b then q ++ x else []) ++ r) := by
  rw [cat_ok p d (by omega)]
  simp only [Option.bind_some]
  cases b with
  | false =>
    have e := cat_ok (p ++ d) r (by rw [List.length_append]; omega)
    simp only [cond_false, e, Option.bind_some, Bool.false_eq_true, if_false, List.append_nil]
  | true =>
    have e1 := cat_ok q x (by omega)
    have e2 := cat_ok (p ++ d) (q ++ x) (by rw [List.length_append, List.length_append]; omega)
    have e3 := cat_ok (p ++ d ++ (q ++ x)) r (by rw [List.length_append, List.length_append, List.length_append]; omega)
    simp only [cond_true, hy rfl, Option.bind_some, e1, e2, e3, if_true]
theorem f42_open (n m : Int) (d : List UInt8) (hd : libItoa n = some d) (p q r : List UInt8) (hp : ([27, 91] : List UInt8) = p) (hq : ([59] : List UInt8) = q) (hr : ([126] : List UInt8) = r) :
    f42 n m = ((cat? p d).bind fun z10 => (bif (!decide (m = 0)) then ((libItoa (IntKind.i64.wrap (m + 1))).bind fun z11 => ((cat? q z11).bind fun z12 => ((cat? z10 z12).bind fun z13 => ((cat? z13 r).bind fun z14 => (some z14))))) else ((cat? z10 r).bind fun z15 => (some z15)))) := by
  subst hp; subst hq; subst hr
  have e : f42 n m = ((libItoa n).bind fun z9 => ((cat? ([27, 91] : List UInt8) z9).bind fun z10 => (bif (!decide (m = 0)) then ((libItoa (IntKind.i64.wrap (m + 1))).bind fun z11 => ((cat? ([59] : List UInt8) z11).bind fun z12 => ((cat? z10 z12).bind fun z13 => ((cat? z13 ([126] : List UInt8)).bind fun z14 => (some z14))))) else ((cat? z10 ([126] : List UInt8)).bind fun z15 => (some z15))))) := rfl
  exact e.trans (congrArg (fun o : Option (List UInt8) => o.bind fun z9 => ((cat? ([27, 91] : List UInt8) z9).bind fun z10 => (bif (!decide (m = 0)) then ((libItoa (IntKind.i64.wrap (m + 1))).bind fun z11 => ((cat? ([59] : List UInt8) z11).bind fun z12 => ((cat? z10 z12).bind fun z13 => ((cat? z13 ([126] : List UInt8)).bind fun z14 => (some z14))))) else ((cat? z10 ([126] : List UInt8)).bind fun z15 => (some z15))))) hd)
theorem h51 (n : Int) (d : List UInt8) (m : Nat) (hd : libItoa n = some d) (hl : d.length ≤ 2) (hm : m ≤ 7) : f42 n (m : Int) = some (tab51 d m) := by
  rw [f42_open n m d hd [27, 91] [59] [126] rfl rfl rfl]
  have e1 : libItoa (IntKind.i64.wrap ((m : Int) + 1)) = some [UInt8.ofNat (49 + m)] := by
    have := itoa1 (m + 1) (by omega)
    rw [show 48 + (m + 1) = 49 + m by omega] at this
    rw [i64w _ (by omega)]
    exact this
  refine (h51g [27, 91] [59] [126] d [UInt8.ofNat (49 + m)] (!decide ((m : Int) = 0)) _ (by decide) (by decide) (by decide) (by omega) (by simp) (fun _ => e1)).trans (congrArg some ?_)
  unfold tab51
  by_cases h : m = 0
  · subst h; simp
  · rw [decide_eq_false (show ¬ ((m : Int) = 0) by omega), if_neg h]; simp
theorem e51 (n : Nat) (d : List UInt8) (m : Nat) (hd : libItoa (n : Int) = some d) (hl : d.length ≤ 2) (hm : m ≤ 7) : f42 (n : Int) (m : Int) = some (tab51 d m) := h51 n d m hd hl hm
theorem named (n m : Nat) (a2 : Int) (hn : 1 ≤ n ∧ n ≤ 22) (hm : m ≤ 7) : f19 ⟨(n : Int), 0, (m : Int)⟩ a2 = some (tab n m (!decide (bitI .and .i64 a2 16 = 0)), 0) := by
  have h0 : f19 ⟨(n : Int), 0, (m : Int)⟩ a2 = f19_j0 ⟨(n : Int), 0, (m : Int)⟩ a2 := by
    unfold f19
    simp only
    rw [decide_eq_false (by omega), decide_eq_false (by omega), decide_eq_false (by omega), decide_eq_false (by omega), decide_eq_false (show ¬ (n : Int) = 0 by omega)]
    rfl
  rw [h0]
  have hd : n = 1 ∨ n = 2 ∨ n = 3 ∨ n = 4 ∨ n = 5 ∨ n = 6 ∨ n = 7 ∨ n = 8 ∨ n = 9 ∨ n = 10 ∨ n = 11 ∨ n = 12 ∨ n = 13 ∨ n = 14 ∨ n = 15 ∨ n = 16 ∨ n = 17 ∨ n = 18 ∨ n = 19 ∨ n = 20 ∨ n = 21 ∨ n = 22 := by omega
  rcases hd with rfl | rfl | rfl | rfl | rfl | rfl | rfl | rfl | rfl | rfl | rfl | rfl | rfl | rfl | rfl | rfl | rfl | rfl | rfl | rfl | rfl | rfl
  case _ => unfold f19_j0 f19_j6; cases (!decide (bitI .and .i64 a2 16 = 0)) <;> exact congrArg (Option.bind · fun z => some (z, 0)) (e50 _ 65 m (by simp) hm (by decide))
  case _ => unfold f19_j0 f19_j6; cases (!decide (bitI .and .i64 a2 16 = 0)) <;> exact congrArg (Option.bind · fun z => some (z, 0)) (e50 _ 66 m (by simp) hm (by decide))
  case _ => unfold f19_j0 f19_j6; cases (!decide (bitI .and .i64 a2 16 = 0)) <;> exact congrArg (Option.bind · fun z => some (z, 0)) (e50 _ 67 m (by simp) hm (by decide))
  case _ => unfold f19_j0 f19_j6; cases (!decide (bitI .and .i64 a2 16 = 0)) <;> exact congrArg (Option.bind · fun z => some (z, 0)) (e50 _ 68 m (by simp) hm (by decide))
  case _ => unfold f19_j0 f19_j6; cases (!decide (bitI .and .i64 a2 16 = 0)) <;> exact congrArg (Option.bind · fun z => some (z, 0)) (e50 _ 72 m (by simp) hm (by decide))
  case _ => unfold f19_j0 f19_j6; cases (!decide (bitI .and .i64 a2 16 = 0)) <;> exact congrArg (Option.bind · fun z => some (z, 0)) (e50 _ 70 m (by simp) hm (by decide))
  case _ => exact congrArg (Option.bind · fun z => some (z, 0)) (e51 2 [50] m (itoa1 2 (by decide)) (by simp) hm)
  case _ => exact congrArg (Option.bind · fun z => some (z, 0)) (e51 3 [51] m (itoa1 3 (by decide)) (by simp) hm)
  case _ => exact congrArg (Option.bind · fun z => some (z, 0)) (e51 5 [53] m (itoa1 5 (by decide)) (by simp) hm)
  case _ => exact congrArg (Option.bind · fun z => some (z, 0)) (e51 6 [54] m (itoa1 6 (by decide)) (by simp) hm)
  case _ => exact congrArg (Option.bind · fun z => some (z, 0)) (e50 [79] 80 m (by simp) hm (by decide))
  case _ => exact congrArg (Option.bind · fun z => some (z, 0)) (e50 [79] 81 m (by simp) hm (by decide))
  case _ => exact congrArg (Option.bind · fun z => some (z, 0)) (e50 [79] 82 m (by simp) hm (by decide))
  case _ => exact congrArg (Option.bind · fun z => some (z, 0)) (e50 [79] 83 m (by simp) hm (by decide))
  case _ => exact congrArg (Option.bind · fun z => some (z, 0)) (e51 15 [49, 53] m (itoa2 15 (by decide)) (by simp) hm)
  case _ => exact congrArg (Option.bind · fun z => some (z, 0)) (e51 17 [49, 55] m (itoa2 17 (by decide)) (by simp) hm)
  case _ => exact congrArg (Option.bind · fun z => some (z, 0)) (e51 18 [49, 56] m (itoa2 18 (by decide)) (by simp) hm)
  case _ => exact congrArg (Option.bind · fun z => some (z, 0)) (e51 19 [49, 57] m (itoa2 19 (by decide)) (by simp) hm)
  case _ => exact congrArg (Option.bind · fun z => some (z, 0)) (e51 20 [50, 48] m (itoa2 20 (by decide)) (by simp) hm)
  case _ => exact congrArg (Option.bind · fun z => some (z, 0)) (e51 21 [50, 49] m (itoa2 21 (by decide)) (by simp) hm)
  case _ => exact congrArg (Option.bind · fun z => some (z, 0)) (e51 23 [50, 51] m (itoa2 23 (by decide)) (by simp) hm)
  case _ => exact congrArg (Option.bind · fun z => some (z, 0)) (e51 24 [50, 52] m (itoa2 24 (by decide)) (by simp) hm)
/-- The other keys: a rune, KEnter and so on. -/
theorem other (k : GKey) (a2 : Int) (hn : k.Name = 0 ∨ 23 ≤ k.Name) : f19_j0 k a2 = f19_j1 k a2 := by
  unfold f19_j0
  rcases hn with h | h
  · rw [decide_eq_false (show ¬ 1 ≤ k.Name by omega)]
    unfold f19_j2
    rw [decide_eq_false (show ¬ 7 ≤ k.Name by omega)]
    unfold f19_j3
    rw [decide_eq_false (show ¬ 11 ≤ k.Name by omega)]
    unfold f19_j4
    rw [decide_eq_false (show ¬ 14 < k.Name by omega)]; rfl
  · rw [decide_eq_true (show 1 ≤ k.Name by omega), decide_eq_false (show ¬ k.Name ≤ 6 by omega)]
    unfold f19_j2
    rw [decide_eq_true (show 7 ≤ k.Name by omega), decide_eq_false (show ¬ k.Name ≤ 10 by omega)]
    unfold f19_j3
    rw [decide_eq_true (show 11 ≤ k.Name by omega), decide_eq_false (show ¬ k.Name ≤ 14 by omega)]
    unfold f19_j4
    rw [decide_eq_true (show 14 < k.Name by omega), decide_eq_false (show ¬ k.Name < 23 by omega)]; rfl
theorem alone (k : GKey) (a2 : Int) : ∃ z, f43 k = some z ∧ f19_j1 k a2 = some (if bitI .and .i64 k.Mods 2 = 0 then z else 27 :: z, 0) := by
  obtain ⟨z, e, hz⟩ := tot52 k
  refine ⟨z, e, ?_⟩
  unfold f19_j1
  rw [e]
  simp only [Option.bind_some]
  by_cases h : bitI .and .i64 k.Mods 2 = 0
  · rw [decide_eq_true h, if_pos h]; rfl
  · rw [decide_eq_false h, if_neg h]
    simp only [Bool.not_false, cond_true]
    rw [cat_ok _ _ (by simp only [List.length_append, List.length_cons, List.length_nil]; omega)]; rfl
/-- When a key is right (its modifiers are). -/
def okK (k : GKey) : Prop := (0 ≤ k.Name ∧ k.Name ≤ 26) ∧ (k.Name = 0 → (0 ≤ k.Rune ∧ k.Rune ≤ 1114111) ∧ (k.Rune < 55296 ∨ 57343 < k.Rune)) ∧ (k.Name ≠ 0 → k.Rune = 0)
theorem valid (k : GKey) (a2 : Int) (hm : 0 ≤ k.Mods ∧ k.Mods ≤ 7) : (okK k ∧ f19 k a2 = f19_j0 k a2) ∨ (¬ okK k ∧ f19 k a2 = some ([], 1)) := by
  unfold okK f19 f40
  simp only [Bool.cond_decide]
  rw [if_neg (show ¬ k.Mods < 0 by omega), if_neg (show ¬ 7 < k.Mods by omega)]
  by_cases h1 : k.Name < 0
  · rw [if_pos h1]; exact .inr ⟨fun h => by omega, rfl⟩
  rw [if_neg h1]
  by_cases h2 : 26 < k.Name
  · rw [if_pos h2]; exact .inr ⟨fun h => by omega, rfl⟩
  rw [if_neg h2]
  by_cases h3 : k.Name = 0
  · rw [if_pos h3]
    have nb : (!decide (k.Name = 0)) = false := by rw [decide_eq_true h3]; rfl
    simp only [nb, cond_false]
    repeat' split
    all_goals first
      | exact .inl ⟨⟨by omega, fun _ => ⟨by omega, by omega⟩, fun h => absurd h3 h⟩, rfl⟩
      | exact .inr ⟨fun h => by have := h.2.1 h3; omega, rfl⟩
  · rw [if_neg h3]
    have nb : (!decide (k.Name = 0)) = true := by rw [decide_eq_false h3]; rfl
    simp only [nb, cond_true]
    by_cases h4 : k.Rune = 0
    · rw [decide_eq_true h4]; exact .inl ⟨⟨by omega, fun h => absurd h h3, fun _ => h4⟩, rfl⟩
    · rw [decide_eq_false h4]; exact .inr ⟨fun h => h4 (h.2.2 h3), rfl⟩
end Go.Proofs.YtakmihemhmdpkaaDoor.Pm.Ky
