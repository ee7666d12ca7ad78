/- Choice: what Ask, Answer and Told tell; ChoiceWords, ChoiceMeets, ChoiceSame. -/
import Derived.Test.YtncgibcnibbdeaaDoorDChZ
import Derived.Test.YtncgibcnibbdeaaDoorBas
import Derived.Lib.LaidTab
import Derived.MakeChecks
import Derived.LaidSub
import Derived.Test.YtncgibcnibbdeaaDoorRows
namespace Go.Proofs.YtncgibcnibbdeaaDoor.Pm
open Go.Proofs.YtncgibcnibbdeaaDoor.Args
open Go.ChangeShapes Go.WideShapes Go.ChangeAt Go.RowKit
set_option linter.unusedVariables false
set_option linter.unusedSimpArgs false
set_option maxRecDepth 100000
abbrev Str := List UInt8
theorem inR_nat (i n : Nat) (h : i < n) : inR (i : Int) n = some i := by unfold inR; rw [if_pos (by omega)]; simp
theorem lt_self {α : Type} (l : List α) : decide ((l.length : Int) < (l.length : Int)) = false := decide_eq_false (by omega)
def upB (b : UInt8) : UInt8 := if 97 ≤ b.toNat ∧ b.toNat ≤ 122 then b - 32 else b
def upS (s : Str) : Str := s.map upB
theorem upS_len (s : Str) : (upS s).length = s.length := by simp [upS]
theorem upB_cases (b : UInt8) : (97 ≤ b.toNat ∧ b.toNat ≤ 122 ∧ (upB b).toNat = b.toNat - 32) ∨ (¬ (97 ≤ b.toNat ∧ b.toNat ≤ 122) ∧ upB b = b) := by
  unfold upB
  by_cases h : 97 ≤ b.toNat ∧ b.toNat ≤ 122
  · rw [if_pos h]
    refine .inl ⟨h.1, h.2, ?_⟩
    have := b.toNat_lt
    rw [UInt8.toNat_sub]
    have : (32 : UInt8).toNat = 32 := rfl
    omega
  · rw [if_neg h]; exact .inr ⟨h, rfl⟩
theorem up_loop (a1 : Str) : ∀ (suf pre : Str), (pre ++ suf).length ≤ 100000000 →
    loopO (f32_l0 a1) (upS pre ++ suf, ((pre ++ suf).length : Int), (pre.length : Int)) = some (upS (pre ++ suf))
  | [], pre, hl => loopO_done (by
      unfold f32_l0 f32_l0_j1
      simp only [List.append_nil, lt_self, cond_false])
  | z :: t, pre, hl => by
    have e1 : pre ++ z :: t = (pre ++ [z]) ++ t := by simp
    have ih := up_loop a1 t (pre ++ [z]) (by rw [← e1]; exact hl)
    rw [← e1] at ih
    have hp : pre.length < 1000000000 := by simp at hl; omega
    have e2 : upS (pre ++ [z]) ++ t = upS pre ++ upB z :: t := by simp [upS]
    rw [e2] at ih
    refine loopO_next ?_ ih
    have hg : (upS pre ++ z :: t)[pre.length]? = some z := by
      rw [List.getElem?_append_right (by rw [upS_len]; omega), upS_len]; simp
    have hs : ∀ y, (upS pre ++ z :: t).set pre.length y = upS pre ++ y :: t := fun y => by
      rw [List.set_append_right _ _ (by rw [upS_len]; omega), upS_len]; simp
    unfold f32_l0 f32_l0_j1 f32_l0_j2
    have hi : inR (pre.length : Int) (upS pre ++ z :: t).length = some pre.length := inR_nat _ _ (by rw [List.length_append, upS_len]; simp)
    simp only [lt_mid, cond_true]
    rw [hi]
    simp only [Option.bind_some, hg, hs]
    rw [wrap_nx pre z hp]
    by_cases h1 : 97 ≤ z.toNat
    · by_cases h2 : z.toNat ≤ 122
      · rw [decide_eq_true (show (97 : Int) ≤ (z.toNat : Int) by omega), decide_eq_true (show (z.toNat : Int) ≤ 122 by omega)]
        unfold upB
        rw [if_pos ⟨h1, h2⟩]; rfl
      · rw [decide_eq_true (show (97 : Int) ≤ (z.toNat : Int) by omega), decide_eq_false (show ¬ (z.toNat : Int) ≤ 122 by omega)]
        unfold upB
        rw [if_neg (fun h => h2 h.2)]; rfl
    · rw [decide_eq_false (show ¬ (97 : Int) ≤ (z.toNat : Int) by omega)]
      unfold upB
      rw [if_neg (fun h => h1 h.1)]; rfl
theorem up_ok (s : Str) (h : s.length ≤ 100000000) : f32 s = some (upS s) := by
  unfold f32
  rw [chk_ok (by simp; omega), bs]
  have := up_loop s s [] h
  simp only [List.nil_append, List.length_nil] at this
  rw [show upS [] ++ s = s from rfl, show ((0 : Nat) : Int) = 0 from rfl] at this
  rw [this, bs]
theorem up16 : f16 = f32 := by
  have h2 : f16_l0_j2 = f32_l0_j2 := rfl
  have h1 : f16_l0_j1 = f32_l0_j1 := by funext a b c d e; unfold f16_l0_j1 f32_l0_j1; rw [h2]
  have h0 : f16_l0 = f32_l0 := by funext a b; unfold f16_l0 f32_l0; rw [h1]
  funext s; unfold f16 f32; rw [h0]
theorem up_ok2 (s : Str) (h : s.length ≤ 100000000) : f16 s = some (upS s) := by rw [up16]; exact up_ok s h
/-- A name. -/
def chB (b : UInt8) : Bool := decide (33 ≤ b.toNat) && decide (b.toNat ≤ 126)
def nameOk (s : Str) : Bool := s.all chB && (decide (s ≠ []) && decide (s.length ≤ 40))
theorem name_loop (a1 : Str) : ∀ (suf pre : Str), a1 = pre ++ suf → a1.length ≤ 100000000 →
    loopO (f24_l1 a1) (pre.length : Int) = some (if suf.all chB then .inl () else .inr false)
  | [], pre, e, h => loopO_done (by
      subst e
      unfold f24_l1 f24_l1_j2
      simp only [lt_end, cond_false]; rfl)
  | z :: t, pre, e, h => by
    have hp : pre.length < 1000000000 := by rw [e] at h; simp at h; omega
    have hx : idx a1 (pre.length : Int) = some z := by rw [e]; exact idx_mid pre z t
    have hlt : decide ((pre.length : Int) < (a1.length : Int)) = true := by rw [e]; exact lt_mid pre z t
    by_cases hz : chB z = true
    · have ih := name_loop a1 t (pre ++ [z]) (by rw [e]; simp) h
      rw [List.all_cons, hz, Bool.true_and]
      refine loopO_next ?_ ih
      unfold f24_l1 f24_l1_j2 f24_l1_j3
      simp only [hlt, hx, cond_true, Option.bind_some]
      rw [wrap_nx pre z hp]
      unfold chB at hz
      simp at hz
      rw [decide_eq_false (show ¬ (z.toNat : Int) < 33 by omega), decide_eq_false (show ¬ (126 : Int) < (z.toNat : Int) by omega)]; rfl
    · rw [List.all_cons, Bool.eq_false_iff.2 hz, Bool.false_and]
      refine loopO_done ?_
      unfold f24_l1 f24_l1_j2 f24_l1_j3
      simp only [hlt, hx, cond_true, Option.bind_some]
      unfold chB at hz
      simp at hz
      by_cases h48 : z.toNat < 33
      · rw [decide_eq_true (show (z.toNat : Int) < 33 by omega)]; rfl
      · rw [decide_eq_false (show ¬ (z.toNat : Int) < 33 by omega)]
        simp only [cond_false]
        rw [decide_eq_true (show (126 : Int) < (z.toNat : Int) by omega)]; rfl
theorem name_ok (s : Str) (h : s.length ≤ 100000000) : f24 s = some (nameOk s) := by
  unfold f24
  have := name_loop s s [] rfl h
  rw [show ((([] : Str).length : Nat) : Int) = 0 from rfl] at this
  rw [this, bs]
  unfold nameOk
  cases ha : s.all chB with
  | true =>
    rw [if_pos rfl, Sum.elim_inl, Bool.true_and]
    unfold f24_j0
    by_cases h0 : s = []
    · rw [decide_eq_true h0, decide_eq_false (p := s ≠ []) (fun hh => hh h0)]; rfl
    · rw [decide_eq_false h0, decide_eq_true (p := s ≠ []) h0]
      simp only [Bool.not_false, cond_true, Bool.true_and]
      by_cases h4 : s.length ≤ 40
      · rw [decide_eq_true h4, decide_eq_true (show (s.length : Int) ≤ 40 by omega)]; rfl
      · rw [decide_eq_false h4, decide_eq_false (show ¬ (s.length : Int) ≤ 40 by omega)]; rfl
  | false => rw [if_neg (by simp), Sum.elim_inr]; rfl
/-- Some of them. -/
theorem any_loop {body : Int → Option (Int ⊕ (Unit ⊕ Int))} {P : Str → Bool} {l : List Str}
    (hb : ∀ (pre : List Str) (z : Str) (t : List Str), l = pre ++ z :: t → body (pre.length : Int) = some (bif P z then .inr (.inr (pre.length : Int)) else .inl (IntKind.i64.wrap ((pre.length : Int) + 1))))
    (he : body (l.length : Int) = some (.inr (.inl ()))) (hl : l.length ≤ 100000000) :
    ∀ (suf pre : List Str), l = pre ++ suf → ∃ r, loopO body (pre.length : Int) = some r ∧ ((suf.any P = true ∧ ∃ i : Nat, r = .inr (i : Int)) ∨ (suf.any P = false ∧ r = .inl ()))
  | [], pre, e => ⟨_, loopO_done (by rw [show pre = l by simp [e]]; exact he), .inr ⟨rfl, rfl⟩⟩
  | z :: t, pre, e => by
    have hp : pre.length < 1000000000 := by rw [e] at hl; simp at hl; omega
    cases hz : P z with
    | true =>
      refine ⟨.inr (pre.length : Int), loopO_done ?_, .inl ⟨by rw [List.any_cons, hz]; rfl, pre.length, rfl⟩⟩
      rw [hb pre z t e, hz]; rfl
    | false =>
      obtain ⟨r, h1, h2⟩ := any_loop hb he hl t (pre ++ [z]) (by rw [e]; simp)
      refine ⟨r, loopO_next ?_ h1, by rw [List.any_cons, hz, Bool.false_or]; exact h2⟩
      rw [hb pre z t e, hz, wrap_nx pre z hp]; rfl
theorem any_of {body : Int → Option (Int ⊕ (Unit ⊕ Int))} {P : Str → Bool} {l : List Str}
    (hb : ∀ (pre : List Str) (z : Str) (t : List Str), l = pre ++ z :: t → body (pre.length : Int) = some (bif P z then .inr (.inr (pre.length : Int)) else .inl (IntKind.i64.wrap ((pre.length : Int) + 1))))
    (he : body (l.length : Int) = some (.inr (.inl ()))) (hl : l.length ≤ 100000000) :
    (((loopO body 0).bind fun z9 => (Sum.elim (fun z10 => (some (-1))) (fun z11 => (some z11)) z9)).bind fun z2 => (bif (decide (0 ≤ z2)) then (some true) else (some false))) = some (l.any P) := by
  obtain ⟨r, h1, h2⟩ := any_loop hb he hl l [] rfl
  rw [show ((([] : List Str).length : Nat) : Int) = 0 from rfl] at h1
  rw [h1, bs]
  rcases h2 with ⟨h2, i, rfl⟩ | ⟨h2, rfl⟩
  · rw [Sum.elim_inr, bs, decide_eq_true (by omega), h2]; rfl
  · rw [Sum.elim_inl, bs, decide_eq_false (by omega), h2]; rfl
theorem bad_ok (l : List Str) (hl : l.length ≤ 100000000) (h : ∀ s ∈ l, s.length ≤ 100000000) : f22 l = some (l.any fun s => !nameOk s) := by
  unfold f22 f38
  refine any_of (fun pre z t e => ?_) ?_ hl
  · have hx : idx l (pre.length : Int) = some z := by rw [e]; exact idx_mid pre z t
    have hlt : decide ((pre.length : Int) < (l.length : Int)) = true := by rw [e]; exact lt_mid pre z t
    unfold f38_l0 f38_l0_j1 f38_l0_j2 f23
    simp only [hlt, hx, cond_true, Option.bind_some, name_ok z (h z (by rw [e]; simp))]
    cases nameOk z <;> rfl
  · unfold f38_l0 f38_l0_j1
    simp only [lt_self, cond_false]
theorem bad_ok2 (l : List Str) (hl : l.length ≤ 100000000) (h : ∀ s ∈ l, s.length ≤ 100000000) : f22v2 l = some (l.any fun s => !nameOk s) := by
  unfold f22v2 f38v2
  refine any_of (fun pre z t e => ?_) ?_ hl
  · have hx : idx l (pre.length : Int) = some z := by rw [e]; exact idx_mid pre z t
    have hlt : decide ((pre.length : Int) < (l.length : Int)) = true := by rw [e]; exact lt_mid pre z t
    unfold f38v2_l0 f38v2_l0_j1 f38v2_l0_j2 f31
    simp only [hlt, hx, cond_true, Option.bind_some, name_ok z (h z (by rw [e]; simp))]
    cases nameOk z <;> rfl
  · unfold f38v2_l0 f38v2_l0_j1
    simp only [lt_self, cond_false]
theorem ib_mem (c : UInt8) : ∀ s : Str, decide (0 ≤ Lib.indexByte s c) = decide (c ∈ s)
  | [] => by rw [decide_eq_false (p := c ∈ []) (by simp)]; exact decide_eq_false (by show ¬ (0 : Int) ≤ -1; omega)
  | b :: t => by
    have ih := ib_mem c t
    have hge := Lib.indexByte_ge t c
    unfold Lib.indexByte
    by_cases h : b = c
    · subst h
      rw [if_pos (by simp)]; simp
    · rw [if_neg (by simpa using h)]
      by_cases hc : c ∈ t
      · rw [decide_eq_true hc] at ih
        have := of_decide_eq_true ih
        rw [if_neg (by simp; omega), decide_eq_true (by omega), decide_eq_true (by simp [hc])]
      · rw [decide_eq_false hc] at ih
        have := of_decide_eq_false ih
        rw [if_pos (by simp; omega), decide_eq_false (by omega), decide_eq_false (by simp [hc]; exact fun h' => h h'.symm)]
theorem has_ok (s : Str) (c : UInt8) : libContains s [c] = some (decide (c ∈ s)) := by
  unfold libContains
  simp only
  rw [ib_mem]
theorem sep_any (l : List Str) (hl : l.length ≤ 100000000) (c : UInt8) : f22v1 l [c] [] = some (l.any fun s => decide (c ∈ s)) := by
  unfold f22v1 f38v1
  refine any_of (fun pre z t e => ?_) ?_ hl
  · have hx : idx l (pre.length : Int) = some z := by rw [e]; exact idx_mid pre z t
    have hlt : decide ((pre.length : Int) < (l.length : Int)) = true := by rw [e]; exact lt_mid pre z t
    unfold f38v1_l0 f38v1_l0_j1 f38v1_l0_j2 f25
    simp only [hlt, hx, cond_true, Option.bind_some, has_ok z c]
    cases decide (c ∈ z) <;> rfl
  · unfold f38v1_l0 f38v1_l0_j1
    simp only [lt_self, cond_false]
def seps : List UInt8 := [33, 34, 35, 36, 37, 38, 39, 40, 41, 42, 43, 44, 45, 46, 47]
theorem enc_all : seps.all (fun c => decide ((Utf8.encode (c.toNat : Int)).data.toList = [c])) = true := by kernel_rfl
theorem enc_sep (c : UInt8) (h : 33 ≤ c.toNat ∧ c.toNat ≤ 47) : (Utf8.encode (c.toNat : Int)).data.toList = [c] := by
  have hb : ∀ n, c.toNat = n → c = UInt8.ofNat n := fun n e => u8_of e (by have := c.toNat_lt; omega)
  have : c.toNat = 33 ∨ c.toNat = 34 ∨ c.toNat = 35 ∨ c.toNat = 36 ∨ c.toNat = 37 ∨ c.toNat = 38 ∨ c.toNat = 39 ∨ c.toNat = 40 ∨ c.toNat = 41 ∨ c.toNat = 42 ∨ c.toNat = 43 ∨ c.toNat = 44 ∨ c.toNat = 45 ∨ c.toNat = 46 ∨ c.toNat = 47 := by omega
  have hm : c ∈ seps := by rcases this with e | e | e | e | e | e | e | e | e | e | e | e | e | e | e <;> (rw [hb _ e]; decide)
  exact of_decide_eq_true (List.all_eq_true.1 enc_all c hm)
def sepOf (l : List Str) (cs : List UInt8) : Option UInt8 := cs.find? fun c => !l.any fun s => decide (c ∈ s)
def runs : UInt8 → List UInt8 → Prop
  | x, [] => x.toNat = 48
  | x, y :: t => x = y ∧ 33 ≤ x.toNat ∧ x.toNat ≤ 47 ∧ runs (x + 1) t
theorem ask_loop (l : List Str) (hl : l.length ≤ 8) (h : ∀ s ∈ l, s.length ≤ 40) : ∀ (cs : List UInt8) (x : UInt8), runs x cs →
    loopO (f8_l2 l) x = some (match sepOf l cs with | some c => .inr (1 :: c :: Lib.join l [c], 0) | none => .inl ())
  | [], x, hx => loopO_done (by
      have : x.toNat = 48 := hx
      unfold f8_l2
      rw [decide_eq_false (by omega)]; rfl)
  | y :: t, x, hx => by
    obtain ⟨rfl, h1, h2, h3⟩ := hx
    have hd : ∀ b, sepOf l (x :: t) = b → True := fun _ _ => trivial
    have hu : sepOf l (x :: t) = if (!l.any fun s => decide (x ∈ s)) = true then some x else sepOf l t := by
      unfold sepOf
      rw [List.find?_cons]
      cases (!l.any fun s => decide (x ∈ s)) <;> rfl
    rw [hu]
    have hlt : decide ((x.toNat : Int) ≤ 47) = true := decide_eq_true (by omega)
    cases ha : l.any fun s => decide (x ∈ s) with
    | true =>
      rw [if_neg (by simp)]
      refine loopO_next ?_ (ask_loop l hl h t (x + 1) h3)
      unfold f8_l2 f8_l2_j3
      rw [hlt, ct, enc_sep x ⟨h1, h2⟩, sep_any l (by omega) x, bs, ha]; rfl
    | false =>
      rw [if_pos (show (!false) = true from rfl)]
      refine loopO_done ?_
      unfold f8_l2 f8_l2_j3
      have hj : (Lib.join l [x]).length ≤ 1000 := by
        cases l with
        | nil => simp [Lib.join_nil]
        | cons a r =>
          have := join_len x 40 a r h
          simp at hl
          have : (r.length + 1) * (40 + 1) ≤ 8 * 41 := Nat.mul_le_mul (by omega) (Nat.le_refl _)
          omega
      rw [hlt, ct, enc_sep x ⟨h1, h2⟩, sep_any l (by omega) x, bs, ha, Bool.not_false, ct, cat_ok _ _ (by simp), bs]
      unfold libJoin
      rw [if_pos ⟨by omega, by omega⟩, bs, cat_ok _ _ (by simp; omega), bs]; rfl
/-- What Ask tells. -/
def askA (l : List Str) : Str × Int := if l.length < 1 ∨ 8 < l.length then ([], 1) else if l.any (fun s => !nameOk s) then ([], 4) else match sepOf l seps with
  | some c => (1 :: c :: Lib.join l [c], 0)
  | none => ([], 5)
theorem name_len (s : Str) (h : nameOk s = true) : s.length ≤ 40 ∧ s ≠ [] := by
  unfold nameOk at h
  simp at h
  exact ⟨h.2.2, h.2.1⟩
theorem ask_ok (l : List Str) (hl : l.length ≤ 100000000) (h : ∀ s ∈ l, s.length ≤ 100000000) : f8 l = some (askA l) := by
  unfold f8 askA
  by_cases h1 : l.length < 1
  · rw [decide_eq_true (by omega), ct, if_pos (.inl h1)]
  · rw [decide_eq_false (by omega), cf]
    by_cases h8 : 8 < l.length
    · rw [decide_eq_true (by omega), ct, if_pos (.inr h8)]
    · rw [decide_eq_false (by omega), cf, if_neg (by omega)]
      unfold f8_j0
      rw [bad_ok l hl h, bs]
      cases ha : l.any (fun s => !nameOk s) with
      | true => rw [ct]; rfl
      | false =>
        rw [cf, if_neg (by simp)]
        have hn : ∀ s ∈ l, s.length ≤ 40 := fun s hs => (name_len s (by have := List.any_eq_false.1 ha s hs; simpa using this)).1
        unfold f8_j1
        rw [ask_loop l (by omega) hn seps 33 (by unfold seps; simp only [runs]; decide), bs]
        cases sepOf l seps <;> rfl
/-- What Answer tells. -/
def pick (may names : List Str) : Option (Str × Str) := names.findSome? fun n => (may.find? fun m => decide (upS n = upS m)).map fun m => (n, m)
def answerC (may : List Str) (c : UInt8) (rest : Str) : Str × Str × Int :=
  if c.toNat < 33 ∨ 126 < c.toNat then ([], [], 4) else if (splitC c rest).any (fun s => !nameOk s) then ([], [], 4) else if 8 < (splitC c rest).length then ([], [], 2) else match pick may (splitC c rest) with
  | some x => (2 :: x.1, x.2, 0)
  | none => ([3], [], 0)
def answerA (may : List Str) : Str → Str × Str × Int
  | d :: c :: rest => if d.toNat = 1 then answerC may c rest else ([], [], 4)
  | _ => ([], [], 4)
theorem in_loop (may : List Str) (a2 n : Str) (ps : List Str) (k j : Int) (hn : n.length ≤ 100000) (hm : ∀ s ∈ may, s.length ≤ 100000000) (hl : may.length ≤ 100000000) : ∀ suf pre : List Str, may = pre ++ suf →
    loopO (f14_l3_l6 may a2) (n, ps, k, j, (pre.length : Int)) = some (match suf.find? (fun m => decide (upS n = upS m)) with | some m => .inr (2 :: n, m, 0) | none => .inl (ps, k, j))
  | [], pre, e => loopO_done (by
      subst e
      unfold f14_l3_l6 f14_l3_l6_j7
      simp only [lt_end, cond_false]; rfl)
  | z :: t, pre, e => by
    have hp : pre.length < 1000000000 := by rw [e] at hl; simp at hl; omega
    have hx : idx may (pre.length : Int) = some z := by rw [e]; exact idx_mid pre z t
    have hlt : decide ((pre.length : Int) < (may.length : Int)) = true := by rw [e]; exact lt_mid pre z t
    have hz : z.length ≤ 100000000 := hm z (by rw [e]; simp)
    rw [List.find?_cons]
    cases hd : decide (upS n = upS z) with
    | true =>
      refine loopO_done ?_
      unfold f14_l3_l6 f14_l3_l6_j7 f14_l3_l6_j8
      simp only [hlt, hx, cond_true]
      rw [bs, up_ok n (by omega), bs, up_ok z hz, bs, hd, ct, cat_ok _ _ (by simp; omega), bs]; rfl
    | false =>
      have ih := in_loop may a2 n ps k j hn hm hl t (pre ++ [z]) (by rw [e]; simp)
      refine loopO_next ?_ ih
      unfold f14_l3_l6 f14_l3_l6_j7 f14_l3_l6_j8
      simp only [hlt, hx, cond_true]
      rw [bs, up_ok n (by omega), bs, up_ok z hz, bs, hd, cf, wrap_nx pre z hp]
theorem out_loop (may : List Str) (a2 : Str) (ps : List Str) (hps : ∀ s ∈ ps, s.length ≤ 100000) (hpl : ps.length ≤ 100000) (hm : ∀ s ∈ may, s.length ≤ 100000000) (hl : may.length ≤ 100000000) : ∀ suf pre : List Str, ps = pre ++ suf →
    loopO (f14_l3 may a2) (ps, (ps.length : Int), (pre.length : Int)) = some (match pick may suf with | some x => .inr (2 :: x.1, x.2, 0) | none => .inl ())
  | [], pre, e => loopO_done (by
      subst e
      unfold f14_l3 f14_l3_j4
      simp only [lt_end, cond_false]; rfl)
  | z :: t, pre, e => by
    have hp : pre.length < 1000000000 := by rw [e] at hpl; simp at hpl; omega
    have hx : idx ps (pre.length : Int) = some z := by rw [e]; exact idx_mid pre z t
    have hlt : decide ((pre.length : Int) < (ps.length : Int)) = true := by rw [e]; exact lt_mid pre z t
    have hz : z.length ≤ 100000 := hps z (by rw [e]; simp)
    have hi := in_loop may a2 z ps (ps.length : Int) (pre.length : Int) hz hm hl may [] rfl
    rw [show ((([] : List Str).length : Nat) : Int) = 0 from rfl] at hi
    have hpk : pick may (z :: t) = match may.find? (fun m => decide (upS z = upS m)) with | some m => some (z, m) | none => pick may t := by
      unfold pick
      rw [List.findSome?_cons]
      cases may.find? (fun m => decide (upS z = upS m)) <;> rfl
    rw [hpk]
    cases hf : may.find? (fun m => decide (upS z = upS m)) with
    | some m =>
      refine loopO_done ?_
      rw [hf] at hi
      unfold f14_l3 f14_l3_j4 f14_l3_j5
      simp only [hlt, cond_true]
      rw [hx, bs, hi, bs, Sum.elim_inr]
    | none =>
      rw [hf] at hi
      have ih := out_loop may a2 ps hps hpl hm hl t (pre ++ [z]) (by rw [e]; simp)
      refine loopO_next ?_ ih
      unfold f14_l3 f14_l3_j4 f14_l3_j5
      simp only [hlt, cond_true]
      rw [hx, bs, hi, bs, Sum.elim_inl]
      simp only
      rw [wrap_nx pre z hp]
theorem answerA_cons (may : List Str) (d c : UInt8) (rest : Str) : answerA may (d :: c :: rest) = if d.toNat = 1 then answerC may c rest else ([], [], 4) := rfl
theorem answer_ok (may : List Str) (d : Str) (hd : d.length ≤ 10000000) (hm : ∀ s ∈ may, s.length ≤ 100000000) (hl : may.length ≤ 100000000) : f14 may d = some (answerA may d) := by
  unfold f14
  match d, hd with
  | [], hd => rfl
  | [x], hd => rfl
  | x :: c :: rest, hd =>
    have hr : rest.length ≤ 10000000 := by simp at hd; omega
    rw [decide_eq_false (by simp; omega), cf, show idx (x :: c :: rest) 0 = some x from idx_mid [] x (c :: rest), bs, answerA_cons]
    by_cases h1 : x.toNat = 1
    · rw [decide_eq_true (by omega), Bool.not_true, cf, if_pos h1, show idx (x :: c :: rest) 1 = some c from idx_mid [x] c rest, bs, bs]
      unfold answerC
      by_cases h33 : c.toNat < 33
      · rw [decide_eq_true (by omega), ct, if_pos (.inl h33)]
      · rw [decide_eq_false (by omega), cf]
        by_cases h126 : 126 < c.toNat
        · rw [decide_eq_true (by omega), ct, if_pos (.inr h126)]
        · rw [decide_eq_false (by omega), cf, if_neg (by omega)]
          have s1 : sub? (x :: c :: rest) 2 ((x :: c :: rest).length : Int) = some rest := by
            unfold sub?; rw [if_pos (by simp; omega), Int.toNat_natCast, List.take_length]; rfl
          have s2 : sub? (x :: c :: rest) 1 2 = some [c] := by
            unfold sub?; rw [if_pos (by simp; omega)]; simp
          have hsl := splitC_len c rest
          have hsp : ∀ s ∈ splitC c rest, s.length ≤ 100000000 := fun s hs => by have := (splitC_part c rest s hs).1; omega
          unfold f14_j0
          rw [s1, bs, s2, bs, split_ok rest c (by omega), bs, bad_ok2 _ (by omega) hsp, bs]
          cases ha : (splitC c rest).any (fun s => !nameOk s) with
          | true => rw [ct, if_pos rfl]
          | false =>
            rw [cf, if_neg (by simp)]
            unfold f14_j1
            by_cases h8 : 8 < (splitC c rest).length
            · rw [decide_eq_true (by omega), ct, if_pos h8]
            · rw [decide_eq_false (by omega), cf, if_neg h8]
              unfold f14_j2
              have hn : ∀ s ∈ splitC c rest, s.length ≤ 100000 := fun s hs => by
                have := (name_len s (by have := List.any_eq_false.1 ha s hs; simpa using this)).1; omega
              have ho := out_loop may (x :: c :: rest) (splitC c rest) hn (by omega) hm hl (splitC c rest) [] rfl
              rw [show ((([] : List Str).length : Nat) : Int) = 0 from rfl] at ho
              rw [ho, bs]
              cases pick may (splitC c rest) <;> rfl
    · rw [decide_eq_false (by omega), Bool.not_false, ct, if_neg h1]
/-- What Told tells. -/
def toldC (names : List Str) (rest : Str) : Str × Int := match names.find? (fun n => decide (upS n = upS rest)) with
  | some n => (n, 0)
  | none => ([], 6)
theorem told_loop (names : List Str) (x : UInt8) (rest : Str) (hr : rest.length ≤ 10000000) (hm : ∀ s ∈ names, s.length ≤ 100000000) (hl : names.length ≤ 100000000) : ∀ suf pre : List Str, names = pre ++ suf →
    loopO (f15_l1 names (x :: rest)) (pre.length : Int) = some (match suf.find? (fun n => decide (upS n = upS rest)) with | some n => .inr (n, 0) | none => .inl ())
  | [], pre, e => loopO_done (by
      subst e
      unfold f15_l1 f15_l1_j2
      simp only [lt_end, cond_false]; rfl)
  | z :: t, pre, e => by
    have hp : pre.length < 1000000000 := by rw [e] at hl; simp at hl; omega
    have hx : idx names (pre.length : Int) = some z := by rw [e]; exact idx_mid pre z t
    have hlt : decide ((pre.length : Int) < (names.length : Int)) = true := by rw [e]; exact lt_mid pre z t
    have hz : z.length ≤ 100000000 := hm z (by rw [e]; simp)
    have s1 : sub? (x :: rest) 1 ((x :: rest).length : Int) = some rest := by
      unfold sub?; rw [if_pos (by simp; omega)]; simp
    rw [List.find?_cons]
    cases hd : decide (upS z = upS rest) with
    | true =>
      refine loopO_done ?_
      unfold f15_l1 f15_l1_j2 f15_l1_j3
      simp only [hlt, cond_true]
      rw [hx, bs, up_ok z hz, bs, s1, bs, up_ok rest (by omega), bs, hd, ct]
    | false =>
      have ih := told_loop names x rest hr hm hl t (pre ++ [z]) (by rw [e]; simp)
      refine loopO_next ?_ ih
      unfold f15_l1 f15_l1_j2 f15_l1_j3
      simp only [hlt, cond_true]
      rw [hx, bs, up_ok z hz, bs, s1, bs, up_ok rest (by omega), bs, hd, cf, wrap_nx pre z hp]
theorem told2 (names : List Str) (rest : Str) (hr : rest.length ≤ 10000000) (hm : ∀ s ∈ names, s.length ≤ 100000000) (hl : names.length ≤ 100000000) : f15 names (2 :: rest) = some (toldC names rest) := by
  unfold f15
  rw [decide_eq_false (by simp), cf, show idx ((2 : UInt8) :: rest) 0 = some 2 from idx_mid [] 2 rest, bs, decide_eq_true (by decide), Bool.not_true, cf]
  unfold f15_j0
  rw [show idx ((2 : UInt8) :: rest) 0 = some 2 from idx_mid [] 2 rest, bs, decide_eq_true (by decide), ct]
  have h := told_loop names 2 rest hr hm hl names [] rfl
  rw [show ((([] : List Str).length : Nat) : Int) = 0 from rfl] at h
  rw [h, bs]
  unfold toldC
  cases names.find? (fun n => decide (upS n = upS rest)) <;> rfl
theorem told3 (names : List Str) : f15 names [3] = some ([], 6) := by
  unfold f15
  rw [decide_eq_false (by simp), cf, show idx ([3] : Str) 0 = some 3 from rfl, bs, decide_eq_false (by decide), Bool.not_false, ct, decide_eq_true rfl, Bool.not_true, cf]
  unfold f15_j0
  rw [show idx ([3] : Str) 0 = some 3 from rfl, bs, decide_eq_false (by decide), cf]
theorem told0 (names : List Str) : f15 names [] = some ([], 4) := by
  unfold f15
  rw [decide_eq_true rfl, ct]
theorem lives : f9 = some true := by
  unfold f9
  rw [ask_ok _ (by decide) (by decide), bs, answer_ok _ _ (by decide) (by decide) (by decide), bs]
  rw [show askA [[85, 84, 70, 45, 56], [65, 83, 67, 73, 73, 33]] = ([1, 34, 85, 84, 70, 45, 56, 34, 65, 83, 67, 73, 73, 33], 0) from by decide]
  simp only
  rw [show answerA [[97, 115, 99, 105, 105, 33]] [1, 34, 85, 84, 70, 45, 56, 34, 65, 83, 67, 73, 73, 33] = ([2, 65, 83, 67, 73, 73, 33], [97, 115, 99, 105, 105, 33], 0) from by decide]
  rfl
/-- What an ask that is told has. -/
theorem ask_cases (l : List Str) : (askA l).1 = [] ∧ ((askA l).2 = 1 ∨ (askA l).2 = 4 ∨ (askA l).2 = 5) ∨ ∃ c a r, l = a :: r ∧ askA l = (1 :: c :: Lib.join l [c], 0) ∧ l.length ≤ 8 ∧ (∀ s ∈ l, nameOk s = true) ∧ (∀ s ∈ l, ¬ c ∈ s) ∧ 33 ≤ c.toNat ∧ c.toNat ≤ 47 := by
  unfold askA
  by_cases h1 : l.length < 1 ∨ 8 < l.length
  · rw [if_pos h1]; exact .inl ⟨rfl, .inl rfl⟩
  · rw [if_neg h1]
    cases ha : l.any (fun s => !nameOk s) with
    | true => rw [if_pos rfl]; exact .inl ⟨rfl, .inr (.inl rfl)⟩
    | false =>
      rw [if_neg (by simp)]
      cases hs : sepOf l seps with
      | none => exact .inl ⟨rfl, .inr (.inr rfl)⟩
      | some c =>
        refine .inr ⟨c, ?_⟩
        have hc : c ∈ seps := List.mem_of_find?_eq_some hs
        have hp := List.find?_some (p := fun c => !l.any fun s => decide (c ∈ s)) hs
        have hb : 33 ≤ c.toNat ∧ c.toNat ≤ 47 := by
          have : ∀ c ∈ seps, 33 ≤ c.toNat ∧ c.toNat ≤ 47 := by decide
          exact this c hc
        cases l with
        | nil => exact absurd (by simp) h1
        | cons a r =>
          refine ⟨a, r, rfl, rfl, by omega, fun s hs => by have := List.any_eq_false.1 ha s hs; simpa using this, fun s hs hcs => ?_, hb⟩
          have hp : (!(a :: r).any fun s => decide (c ∈ s)) = true := hp
          rw [Bool.not_eq_true', List.any_eq_false] at hp
          exact hp s hs (decide_eq_true hcs)
theorem eq_loop (l : List Str) : ∀ (suf pre : List Str), l = pre ++ suf → l.length ≤ 1000000 → loopO (f12_l1 l l) (pre.length : Int) = some (.inl ())
  | [], pre, e, h => loopO_done (by
      subst e
      unfold f12_l1 f12_l1_j2
      simp only [lt_end, cond_false])
  | x :: t, pre, e, h => by
    have hp : pre.length < 1000000000 := by rw [e] at h; simp at h; omega
    have hx : idx l (pre.length : Int) = some x := by rw [e]; exact idx_mid pre x t
    have hlt : decide ((pre.length : Int) < (l.length : Int)) = true := by rw [e]; exact lt_mid pre x t
    refine loopO_next ?_ (eq_loop l t (pre ++ [x]) (by simp [e]) h)
    unfold f12_l1 f12_l1_j2 f12_l1_j3
    simp only [hlt, hx, cond_true, Option.bind_some, decide_true, Bool.not_true, cond_false]
    rw [wrap_nx pre x hp]
theorem f12_same (l : List Str) (h : l.length ≤ 1000000) : f12 l l = some true := by
  unfold f12
  rw [decide_eq_true rfl, Bool.not_true, cf]
  unfold f12_j0
  have := eq_loop l l [] rfl h
  rw [show ((([] : List Str).length : Nat) : Int) = 0 from rfl] at this
  rw [this, bs]; rfl
theorem flat_join : ∀ l : List Str, Lib.join l [] = l.flatten
  | [] => rfl
  | x :: r => by rw [Lib.join_cons]; simp [Lib.joinTail]
theorem flat_len : ∀ l : List Str, (∀ s ∈ l, s.length ≤ 40) → l.flatten.length ≤ 40 * l.length
  | [], _ => by simp
  | x :: r, h => by
    have := flat_len r (fun s hs => h s (by simp [hs]))
    have := h x (by simp)
    rw [List.flatten_cons, List.length_append, List.length_cons]; omega
theorem join_split' (c : UInt8) (l : List Str) (a : Str) (r : List Str) (e : l = a :: r) (h : ∀ s ∈ l, ¬ c ∈ s) : splitC c (Lib.join l [c]) = l := by
  subst e
  exact join_split c a r fun w hw b hb hbc => h w hw (hbc ▸ hb)
theorem join_small (c : UInt8) (l : List Str) (hl : l.length ≤ 8) (h : ∀ s ∈ l, nameOk s = true) : (Lib.join l [c]).length ≤ 1000 := by
  cases l with
  | nil => simp [Lib.join_nil]
  | cons a r =>
    have := join_len c 40 a r fun s hs => (name_len s (h s hs)).1
    simp at hl
    have : (r.length + 1) * (40 + 1) ≤ 8 * 41 := Nat.mul_le_mul (by omega) (Nat.le_refl _)
    omega
theorem choiceWords (l : List Str) (hl : l.length ≤ 100000000) (h : ∀ s ∈ l, s.length ≤ 100000000) : f3 l = some true := by
  unfold f3
  rw [ask_ok l hl h, bs, lives, bs, Bool.not_true, cf]
  rcases ask_cases l with ⟨h1, h2⟩ | ⟨c, a, r, e, h2, h8, hn, hc, hb⟩
  · have hne : (askA l).2 ≠ 0 := by omega
    rw [decide_eq_false hne, Bool.not_false, ct]
    unfold f3_j1
    rw [lives, bs, ct]
    rcases h2 with h2 | h2 | h2 <;> (rw [h2]; rfl)
  · have hj := join_small c l h8 hn
    have hsp := join_split' c l a r e hc
    have ha : 1 ≤ a.length := List.length_pos_iff.2 (name_len a (hn a (by rw [e]; simp))).2
    have hj1 : 1 ≤ (Lib.join l [c]).length := by rw [e, Lib.join_cons, List.length_append]; omega
    rw [h2]
    simp only [decide_true, Bool.not_true, cf]
    generalize hJ : Lib.join l [c] = J at *
    unfold f3_j0
    have s1 : sub? (1 :: c :: J) 2 ((1 :: c :: J).length : Int) = some J := by
      unfold sub?; rw [if_pos (by simp; omega), Int.toNat_natCast, List.take_length]; rfl
    have s2 : sub? (1 :: c :: J) 1 2 = some [c] := by
      unfold sub?; rw [if_pos (by simp; omega)]; simp
    have hfl := flat_len l fun s hs => (name_len s (hn s hs)).1
    have hnc : ¬ c ∈ l.flatten := fun hm => by
      obtain ⟨s, hs, hcs⟩ := List.mem_flatten.1 hm
      exact hc s hs hcs
    rw [decide_eq_true (by simp; omega), ct, show idx (1 :: c :: J) 0 = some 1 from idx_mid [] 1 (c :: J), bs, decide_eq_true (by decide), ct]
    unfold libJoin
    rw [flat_join, if_pos ⟨by omega, by omega⟩, bs, s2, bs, has_ok, bs, decide_eq_false hnc, Bool.not_false, ct, s1, bs, bs, split_ok J c (by omega), bs, hsp, f12_same l (by omega), bs]
/-- The law's own two loops. -/
theorem law_in (names may : List Str) (a theirs ours n : Str) (g j : Int) (ho : ours.length ≤ 100000000) (hn : n.length ≤ 100000000) (hm : ∀ s ∈ may, s.length ≤ 100000000) (hl : may.length ≤ 100000000) : ∀ suf pre : List Str, may = pre ++ suf →
    loopO (f4_l3_l6 names may) (a, theirs, ours, g, n, j, (pre.length : Int)) = some (match suf.find? (fun m => decide (upS n = upS m)) with | some m => .inr (decide (g = 0) && (decide (upS ours = upS n) && decide (theirs = m))) | none => .inl (a, theirs, ours, g, j))
  | [], pre, e => loopO_done (by
      subst e
      unfold f4_l3_l6 f4_l3_l6_j7
      simp only [lt_end, cond_false]; rfl)
  | z :: t, pre, e => by
    have hp : pre.length < 1000000000 := by rw [e] at hl; simp at hl; omega
    have hx : idx may (pre.length : Int) = some z := by rw [e]; exact idx_mid pre z t
    have hlt : decide ((pre.length : Int) < (may.length : Int)) = true := by rw [e]; exact lt_mid pre z t
    have hz : z.length ≤ 100000000 := hm z (by rw [e]; simp)
    rw [List.find?_cons]
    cases hd : decide (upS n = upS z) with
    | true =>
      refine loopO_done ?_
      unfold f4_l3_l6 f4_l3_l6_j7 f4_l3_l6_j8
      simp only [hlt, cond_true]
      rw [hx, bs, up_ok2 n hn, bs, up_ok2 z hz, bs, hd, ct]
      cases decide (g = 0) with
      | false => rfl
      | true =>
        rw [ct, up_ok2 ours ho, bs, bs]
        cases decide (upS ours = upS n) with
        | false => rfl
        | true =>
          rw [ct]
          cases decide (theirs = z) <;> rfl
    | false =>
      have ih := law_in names may a theirs ours n g j ho hn hm hl t (pre ++ [z]) (by rw [e]; simp)
      refine loopO_next ?_ ih
      unfold f4_l3_l6 f4_l3_l6_j7 f4_l3_l6_j8
      simp only [hlt, cond_true]
      rw [hx, bs, up_ok2 n hn, bs, up_ok2 z hz, bs, hd, cf, wrap_nx pre z hp]
theorem law_out (names may : List Str) (a theirs ours : Str) (g : Int) (ho : ours.length ≤ 100000000) (hn : ∀ s ∈ names, s.length ≤ 100000000) (hnl : names.length ≤ 100000000) (hm : ∀ s ∈ may, s.length ≤ 100000000) (hl : may.length ≤ 100000000) : ∀ suf pre : List Str, names = pre ++ suf →
    loopO (f4_l3 names may) (a, theirs, ours, g, (pre.length : Int)) = some (match pick may suf with | some x => .inr (decide (g = 0) && (decide (upS ours = upS x.1) && decide (theirs = x.2))) | none => .inl (a, theirs, ours, g))
  | [], pre, e => loopO_done (by
      subst e
      unfold f4_l3 f4_l3_j4
      simp only [lt_end, cond_false]; rfl)
  | z :: t, pre, e => by
    have hp : pre.length < 1000000000 := by rw [e] at hnl; simp at hnl; omega
    have hx : idx names (pre.length : Int) = some z := by rw [e]; exact idx_mid pre z t
    have hlt : decide ((pre.length : Int) < (names.length : Int)) = true := by rw [e]; exact lt_mid pre z t
    have hz : z.length ≤ 100000000 := hn z (by rw [e]; simp)
    have hi := law_in names may a theirs ours z g (pre.length : Int) ho hz hm hl may [] rfl
    rw [show ((([] : List Str).length : Nat) : Int) = 0 from rfl] at hi
    have hpk : pick may (z :: t) = match may.find? (fun m => decide (upS z = upS m)) with | some m => some (z, m) | none => pick may t := by
      unfold pick
      rw [List.findSome?_cons]
      cases may.find? (fun m => decide (upS z = upS m)) <;> rfl
    rw [hpk]
    cases hf : may.find? (fun m => decide (upS z = upS m)) with
    | some m =>
      refine loopO_done ?_
      rw [hf] at hi
      unfold f4_l3 f4_l3_j4 f4_l3_j5
      simp only [hlt, cond_true]
      rw [hx, bs, hi, bs, Sum.elim_inr]
    | none =>
      rw [hf] at hi
      have ih := law_out names may a theirs ours g ho hn hnl hm hl t (pre ++ [z]) (by rw [e]; simp)
      refine loopO_next ?_ ih
      unfold f4_l3 f4_l3_j4 f4_l3_j5
      simp only [hlt, cond_true]
      rw [hx, bs, hi, bs, Sum.elim_inl]
      simp only
      rw [wrap_nx pre z hp]
theorem pick_some (may : List Str) : ∀ (names : List Str) (n m : Str), pick may names = some (n, m) → n ∈ names ∧ m ∈ may ∧ upS n = upS m
  | [], n, m, h => by cases h
  | z :: t, n, m, h => by
    unfold pick at h
    rw [List.findSome?_cons] at h
    cases hf : may.find? (fun m => decide (upS z = upS m)) with
    | some y =>
      rw [hf] at h
      simp only [Option.map_some] at h
      cases h
      exact ⟨by simp, List.mem_of_find?_eq_some hf, of_decide_eq_true (List.find?_some (p := fun m => decide (upS z = upS m)) hf)⟩
    | none =>
      rw [hf] at h
      simp only [Option.map_none] at h
      obtain ⟨h1, h2⟩ := pick_some may t n m h
      exact ⟨by simp [h1], h2⟩
theorem told_some (names : List Str) (rest n : Str) (hn : n ∈ names) (h : upS n = upS rest) : ∃ n', n' ∈ names ∧ upS n' = upS rest ∧ toldC names rest = (n', 0) := by
  unfold toldC
  cases hf : names.find? (fun n => decide (upS n = upS rest)) with
  | none =>
    have := List.find?_eq_none.1 hf n hn
    exact absurd (decide_eq_true h) this
  | some n' => exact ⟨n', List.mem_of_find?_eq_some hf, of_decide_eq_true (List.find?_some (p := fun n => decide (upS n = upS rest)) hf), rfl⟩
theorem choiceMeets (l may : List Str) (hl : l.length ≤ 100000000) (h : ∀ s ∈ l, s.length ≤ 100000000) (hm : ∀ s ∈ may, s.length ≤ 100000000) (hml : may.length ≤ 100000000) : f4 l may = some true := by
  unfold f4
  rw [ask_ok l hl h, bs, lives, bs, Bool.not_true, cf]
  rcases ask_cases l with ⟨h1, h2⟩ | ⟨c, a, r, e, h2, h8, hn, hc, hb⟩
  · have hne : (askA l).2 ≠ 0 := by omega
    rw [decide_eq_false hne, Bool.not_false, ct]
    unfold f4_j9
    rw [lives, bs, ct, h1, decide_eq_true rfl, ct]
  · have hj := join_small c l h8 hn
    have hsp := join_split' c l a r e hc
    rw [h2]
    simp only [decide_true, Bool.not_true, cf]
    generalize hJ : Lib.join l [c] = J at *
    unfold f4_j0
    rw [answer_ok may _ (by simp; omega) hm hml, bs]
    have hany : l.any (fun s => !nameOk s) = false := List.any_eq_false.2 fun s hs => by rw [hn s hs]; simp
    have ea : answerA may (1 :: c :: J) = match pick may l with | some x => (2 :: x.1, x.2, 0) | none => ([3], [], 0) := by
      rw [answerA_cons, if_pos (show (1 : UInt8).toNat = 1 from rfl)]
      unfold answerC
      rw [if_neg (by omega), hsp, if_neg (by rw [hany]; simp), if_neg (by omega)]
    rw [ea]
    cases hp : pick may l with
    | none =>
      simp only
      rw [told3, bs]
      simp only [decide_true, Bool.not_true, cf]
      unfold f4_j1
      have hlo := law_out l may [3] [] [] 6 (by simp) h hl hm hml l [] rfl
      rw [show ((([] : List Str).length : Nat) : Int) = 0 from rfl, hp] at hlo
      rw [hlo, bs, Sum.elim_inl]
      rfl
    | some x =>
      obtain ⟨n, m⟩ := x
      obtain ⟨p1, p2, p3⟩ := pick_some may l n m hp
      simp only
      have hnl := (name_len n (hn n p1)).1
      obtain ⟨n', q1, q2, q3⟩ := told_some l n n p1 rfl
      rw [told2 l n (by omega) h hl, bs, q3]
      simp only [decide_true, Bool.not_true, cf]
      unfold f4_j1
      have hlo := law_out l may (2 :: n) m n' 0 (h n' q1) h hl hm hml l [] rfl
      rw [show ((([] : List Str).length : Nat) : Int) = 0 from rfl, hp] at hlo
      rw [hlo, bs, Sum.elim_inr, decide_eq_true rfl, decide_eq_true q2, decide_eq_true rfl]; rfl
theorem up_low (b c : UInt8) (hc : c.toNat < 65) : upB b = c ↔ b = c := by
  rcases upB_cases b with ⟨h1, h2, h3⟩ | ⟨h1, h2⟩
  · constructor
    · intro h; rw [h] at h3; omega
    · intro h; rw [h] at h1; omega
  · rw [h2]
theorem up_fix (c : UInt8) (hc : c.toNat < 65) : upB c = c := (up_low c c hc).2 rfl
theorem upB_up (b : UInt8) : upB (upB b) = upB b := by
  rcases upB_cases b with ⟨h1, h2, h3⟩ | ⟨h1, h2⟩
  · rcases upB_cases (upB b) with ⟨g1, g2, g3⟩ | ⟨g1, g2⟩
    · omega
    · exact g2
  · rw [h2, h2]
theorem upS_up (s : Str) : upS (upS s) = upS s := by
  unfold upS
  rw [List.map_map]
  exact List.map_congr_left fun b _ => upB_up b
theorem split_up (c : UInt8) (hc : c.toNat < 65) : ∀ s : Str, splitC c (upS s) = (splitC c s).map upS
  | [] => rfl
  | b :: t => by
    have ih := split_up c hc t
    obtain ⟨h, r, e⟩ := splitC_ne c t
    have eu : upS (b :: t) = upB b :: upS t := rfl
    rw [eu, splitC_eq c (upB b) (upS t), splitC_eq c b t, ih, e]
    by_cases hb : b = c
    · rw [if_pos hb, if_pos ((up_low b c hc).2 hb)]; rfl
    · rw [if_neg hb, if_neg (fun h => hb ((up_low b c hc).1 h))]; rfl
theorem chB_up (b : UInt8) : chB (upB b) = chB b := by
  rcases upB_cases b with ⟨h1, h2, h3⟩ | ⟨h1, h2⟩
  · unfold chB
    rw [h3, decide_eq_true (by omega), decide_eq_true (by omega), decide_eq_true (by omega), decide_eq_true (by omega)]
  · rw [h2]
theorem name_up (s : Str) : nameOk (upS s) = nameOk s := by
  unfold nameOk
  have h1 : (upS s).all chB = s.all chB := by
    unfold upS
    rw [List.all_map]
    exact congrArg s.all (funext chB_up)
  have h2 : decide (upS s ≠ []) = decide (s ≠ []) := by cases s <;> simp [upS]
  rw [h1, h2, upS_len]
theorem pick_up (may : List Str) : ∀ names : List Str, pick may (names.map upS) = (pick may names).map fun x => (upS x.1, x.2)
  | [] => rfl
  | z :: t => by
    have ih := pick_up may t
    unfold pick at ih ⊢
    rw [List.map_cons, List.findSome?_cons, List.findSome?_cons, ih, upS_up]
    cases may.find? (fun m => decide (upS z = upS m)) <;> rfl
theorem answer_up (may : List Str) (d c : UInt8) (rest : Str) (hc : c.toNat < 65) : answerA may (upS (d :: c :: rest)) = (upS (answerA may (d :: c :: rest)).1, (answerA may (d :: c :: rest)).2.1, (answerA may (d :: c :: rest)).2.2) := by
  have eu : upS (d :: c :: rest) = upB d :: c :: upS rest := by
    show upB d :: upB c :: upS rest = _
    rw [up_fix c hc]
  rw [eu, answerA_cons, answerA_cons]
  have hd : (upB d).toNat = 1 ↔ d.toNat = 1 := by
    rcases upB_cases d with ⟨h1, h2, h3⟩ | ⟨h1, h2⟩
    · omega
    · rw [h2]
  by_cases h1 : d.toNat = 1
  · rw [if_pos h1, if_pos (hd.2 h1)]
    unfold answerC
    have hany : ((splitC c rest).map upS).any (fun s => !nameOk s) = (splitC c rest).any (fun s => !nameOk s) := by
      rw [List.any_map]
      exact congrArg (splitC c rest).any (funext fun s => by simp [name_up])
    rw [split_up c hc, hany, List.length_map, pick_up]
    split
    · rfl
    · split
      · rfl
      · split
        · rfl
        · cases pick may (splitC c rest) with
          | none => rfl
          | some x => simp [upS, show upB 2 = 2 from by decide]
  · rw [if_neg h1, if_neg (fun h => h1 (hd.1 h))]; rfl
theorem choiceSame (may : List Str) (d : Str) (u : Bool) (hd : d.length ≤ 10000000) (hm : ∀ s ∈ may, s.length ≤ 100000000) (hl : may.length ≤ 100000000) : f5 may d u = some true := by
  unfold f5
  rw [answer_ok may d hd hm hl, bs, lives, bs, bs, Bool.not_true, cf]
  match d, hd with
  | [], hd => rfl
  | [x], hd => rfl
  | x :: c :: rest, hd =>
    rw [decide_eq_false (by simp; omega), cf, show idx (x :: c :: rest) 1 = some c from idx_mid [x] c rest, bs]
    by_cases hc : 65 ≤ c.toNat
    · rw [decide_eq_true (by omega), ct]
    · rw [decide_eq_false (by omega), cf]
      have hu := answer_up may x c rest (by omega)
      unfold f5_j0
      rw [up_ok2 _ (by omega), bs, answer_ok may _ (by rw [upS_len]; exact hd) hm hl, bs, hu]
      have hA : ∀ A, A = answerA may (x :: c :: rest) → (∃ e, A = ([], [], e) ∧ e ≠ 0) ∨ A = ([3], [], 0) ∨ ∃ n m, A = (2 :: n, m, 0) ∧ n.length ≤ 40 ∧ m ∈ may ∧ upS n = upS m ∧ m ≠ [] := by
        intro A hA
        rw [hA, answerA_cons]
        by_cases h1 : x.toNat = 1
        · rw [if_pos h1]
          unfold answerC
          split
          · exact .inl ⟨4, rfl, by decide⟩
          · split
            · exact .inl ⟨4, rfl, by decide⟩
            · rename_i hany
              split
              · exact .inl ⟨2, rfl, by decide⟩
              · cases hp : pick may (splitC c rest) with
                | none => exact .inr (.inl rfl)
                | some y =>
                  obtain ⟨n, m⟩ := y
                  obtain ⟨p1, p2, p3⟩ := pick_some may _ n m hp
                  rw [Bool.not_eq_true, List.any_eq_false] at hany
                  have hnn := name_len n (by have := hany n p1; simpa using this)
                  refine .inr (.inr ⟨n, m, rfl, hnn.1, p2, p3, fun h0 => ?_⟩)
                  rw [h0] at p3
                  cases n with
                  | nil => exact hnn.2 rfl
                  | cons _ _ => exact absurd p3 (by simp [upS])
        · rw [if_neg h1]; exact .inl ⟨4, rfl, by decide⟩
      generalize hAA : answerA may (x :: c :: rest) = A at *
      have hA := hA A rfl
      obtain ⟨A1, A2, A3⟩ := A
      simp only
      have hlen : A1.length ≤ 100 := by
        rcases hA with ⟨e, h, _⟩ | h | ⟨n, m, h, hn, _⟩ <;> cases h <;> simp <;> omega
      cases u with
      | true =>
        rw [ct]
        simp only [decide_true, cond_true]
        rw [up_ok2 A1 (by omega), bs, decide_eq_true rfl, ct]
      | false =>
        rw [cf]
        unfold f5_j1
        rcases hA with ⟨e, h, he⟩ | h | ⟨n, m, h, hn, hmm, hup, hne⟩ <;> cases h
        · rw [told0, bs, decide_eq_true rfl, ct, decide_eq_false he]; rfl
        · rw [told3, bs]; rfl
        · obtain ⟨n', q1, q2, q3⟩ := told_some may n A2 hmm hup.symm
          rw [told2 may n (by omega) hm hl, bs, q3]
          simp only [decide_true, Bool.not_true, cf, ct]
          rw [decide_eq_false hne]; rfl
theorem maxcell {w : World} (hsh : w.ShapedOpen Go.Proofs.Tryd.prog) : ∃ m, w.cell? ⟨0, 0, none⟩ = some (.int .i64 m) :=
  cell_of_shapedOpen_int (t := 3) (zero := #[.int .i64 0]) hsh (of_decide_eq_true (by kernel_rfl)) (by kernel_rfl) rfl (by kernel_rfl) (by kernel_rfl) (by kernel_rfl)
theorem fitL {l : List Str} {k : Nat} (hk : 1 ≤ k) (h : FitN (some 1048576) l.length k ∧ ∀ x ∈ l, (x.length ≤ maxLen ∧ FitN (some 1048576) x.length 1)) : l.length ≤ 100000000 ∧ ∀ s ∈ l, s.length ≤ 100000000 := by
  obtain ⟨h1, h2⟩ := h
  unfold FitN at h1
  refine ⟨by have := Nat.le_mul_of_pos_right l.length hk; omega, fun s hs => ?_⟩
  have := (h2 s hs).2
  unfold FitN at this
  omega
theorem ChoiceWords_walk (v0 : Value) (w : World) (h0 : Arg (some 1048576) Go.Proofs.Tryd.prog w 22 v0) (hsh : w.ShapedOpen Go.Proofs.Tryd.prog) : Calls Go.Proofs.Tryd.prog 3 #[v0] w fun e w' => e = .returned (.bool true) ∧ Below w.heap.size w w' :=
  ChoiceWords_calls (some 1048576) (fun a ha => choiceWords a (fitL (of_decide_eq_true (by kernel_rfl)) ha).1 (fitL (of_decide_eq_true (by kernel_rfl)) ha).2) v0 w h0 (maxcell hsh)
theorem ChoiceMeets_walk (v0 v1 : Value) (w : World) (h0 : Arg (some 1048576) Go.Proofs.Tryd.prog w 22 v0) (h1 : Arg (some 1048576) Go.Proofs.Tryd.prog w 22 v1) (hsh : w.ShapedOpen Go.Proofs.Tryd.prog) : Calls Go.Proofs.Tryd.prog 4 #[v0, v1] w fun e w' => e = .returned (.bool true) ∧ Below w.heap.size w w' :=
  ChoiceMeets_calls (some 1048576) (fun a b ha hb => choiceMeets a b (fitL (of_decide_eq_true (by kernel_rfl)) ha).1 (fitL (of_decide_eq_true (by kernel_rfl)) ha).2 (fitL (of_decide_eq_true (by kernel_rfl)) hb).2 (fitL (of_decide_eq_true (by kernel_rfl)) hb).1) v0 v1 w h0 h1 (maxcell hsh)
theorem ChoiceSame_walk (v0 v1 v2 : Value) (w : World) (h0 : Arg (some 1048576) Go.Proofs.Tryd.prog w 22 v0) (h1 : Arg (some 1048576) Go.Proofs.Tryd.prog w 9 v1) (h2 : Arg (some 1048576) Go.Proofs.Tryd.prog w 4 v2) (hsh : w.ShapedOpen Go.Proofs.Tryd.prog) : Calls Go.Proofs.Tryd.prog 5 #[v0, v1, v2] w fun e w' => e = .returned (.bool true) ∧ Below w.heap.size w w' :=
  ChoiceSame_calls (some 1048576) (fun a b u ha hb _ => choiceSame a b u (by have := hb.2; unfold FitN at this; omega) (fitL (of_decide_eq_true (by kernel_rfl)) ha).2 (fitL (of_decide_eq_true (by kernel_rfl)) ha).1) v0 v1 v2 w h0 h1 h2 (maxcell hsh)
end Go.Proofs.YtncgibcnibbdeaaDoor.Pm
