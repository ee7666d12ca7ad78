/- SlcAgree, plain: threes, function by function (no program in sight). -/
import Derived.Test.YtgokbjnpjjdboaaDSlcZ
namespace Go.Proofs.Ytgokbjnpjjdboaa.Sl
set_option linter.unusedVariables false
set_option maxRecDepth 100000
structure Ky where
  lv : Nat → Int
  ch : Nat → Int
def upd (f : Nat → Int) (i : Nat) (x : Int) : Nat → Int := fun j => if j = i then x else f j
def setK (k : Ky) (f : Nat) (l c : Int) : Ky := { lv := upd k.lv f l, ch := upd k.ch f c }
def tripleS (k : Ky) (f g c : Int) : Ky × List Int :=
  if f < 1 ∨ 18 < f then (k, if 128 ≤ g then [] else [f, 0, 0])
  else if g % 4 = k.lv f.toNat ∧ c = k.ch f.toNat then (k, [])
  else if 128 ≤ g then (if g % 4 = 3 then k else setK k f.toNat (g % 4) c, [])
  else if g % 4 = 0 then (setK k f.toNat 0 c, [f, 128, c])
  else if g % 4 = 3 then (k, [f, k.lv f.toNat, k.ch f.toNat])
  else if k.lv f.toNat = 1 ∧ g % 4 = 1 then (setK k f.toNat 0 0, [f, 0, 0])
  else if k.lv f.toNat = 1 then (k, [f, 1, k.ch f.toNat])
  else (setK k f.toNat (g % 4) c, [f, 128 + g % 4, c])
theorem setK_alone (k : Ky) (f : Nat) (l c : Int) (i : Nat) (hi : i ≠ f) : (setK k f l c).lv i = k.lv i ∧ (setK k f l c).ch i = k.ch i := by
  simp [setK, upd, hi]
theorem tripleS_alone (k : Ky) (f g c : Int) (i : Nat) (hi : (i : Int) ≠ f) : (tripleS k f g c).1.lv i = k.lv i ∧ (tripleS k f g c).1.ch i = k.ch i := by
  unfold tripleS
  by_cases h1 : f < 1 ∨ 18 < f
  · rw [if_pos h1]; exact ⟨rfl, rfl⟩
  · rw [if_neg h1]
    have := fun l c => setK_alone k f.toNat l c i (by omega)
    repeat' split
    all_goals first
      | exact ⟨rfl, rfl⟩
      | exact this _ _
      | (simp only []; split <;> first | exact ⟨rfl, rfl⟩ | exact this _ _)
theorem flatMap_same {α β : Type} (f g : α → List β) : ∀ l : List α, (∀ x ∈ l, f x = g x) → l.flatMap f = l.flatMap g
  | [], _ => rfl
  | x :: l, h => by rw [List.flatMap_cons, List.flatMap_cons, h x (by simp), flatMap_same f g l (fun y hy => h y (by simp [hy]))]
/-- Threes, one by one. -/
def takeL (k : Ky) : List Int → Ky × List Int
  | f :: g :: c :: r => ((takeL (tripleS k f g c).1 r).1, (tripleS k f g c).2 ++ (takeL (tripleS k f g c).1 r).2)
  | _ => (k, [])
theorem takeL_app : ∀ (n : Nat) (A B : List Int) (k : Ky), A.length = 3 * n → takeL k (A ++ B) = ((takeL (takeL k A).1 B).1, (takeL k A).2 ++ (takeL (takeL k A).1 B).2)
  | 0, A, B, k, h => by
    have : A = [] := List.eq_nil_of_length_eq_zero (by omega)
    subst this; simp [takeL]
  | n+1, A, B, k, h => by
    match A, h with
    | f :: g :: c :: r, h =>
      have hr : r.length = 3 * n := by simp at h; omega
      simp only [List.cons_append, takeL, takeL_app n r B _ hr, List.append_assoc]

/-- What a three of function f comes to, by what the function has: what it has then, and what is answered. -/
def one (l c g d : Int) : (Int × Int) × Option (Int × Int) :=
  if g % 4 = l ∧ d = c then ((l, c), none)
  else if 128 ≤ g then (if g % 4 = 3 then (l, c) else (g % 4, d), none)
  else if g % 4 = 0 then ((0, d), some (128, d))
  else if g % 4 = 3 then ((l, c), some (l, c))
  else if l = 1 ∧ g % 4 = 1 then ((0, 0), some (0, 0))
  else if l = 1 then ((l, c), some (1, c))
  else ((g % 4, d), some (128 + g % 4, d))
/-- The bytes of a message of one function. -/
def said (f : Nat) : Option (Int × Int) → List Int
  | none => []
  | some (g, d) => [(f : Int), g, d]
theorem said_len (f : Nat) (o : Option (Int × Int)) : (said f o).length = 3 * (if o.isSome then 1 else 0) := by
  cases o <;> simp [said]
theorem tripleS_one (k : Ky) (f : Nat) (g d : Int) (h1 : 1 ≤ f) (h2 : f ≤ 18) :
    (tripleS k f g d).1.lv f = (one (k.lv f) (k.ch f) g d).1.1 ∧ (tripleS k f g d).1.ch f = (one (k.lv f) (k.ch f) g d).1.2 ∧ (tripleS k f g d).2 = said f (one (k.lv f) (k.ch f) g d).2 := by
  unfold tripleS one
  rw [if_neg (by omega)]
  simp only [Int.toNat_natCast]
  repeat' split
  all_goals simp_all [setK, upd, said]
/-- What a message of some functions comes to: each by itself. -/
def nextK (k : Ky) (F : Nat → Option (Int × Int)) (f : Nat) : (Int × Int) × Option (Int × Int) :=
  match F f with
  | none => ((k.lv f, k.ch f), none)
  | some (g, d) => one (k.lv f) (k.ch f) g d
theorem takeL_fun (F : Nat → Option (Int × Int)) : ∀ (n s : Nat) (k : Ky), 1 ≤ s → s + n ≤ 19 →
    (∀ f, s ≤ f → f < s + n → (takeL k ((List.range' s n).flatMap fun f => said f (F f))).1.lv f = (nextK k F f).1.1 ∧ (takeL k ((List.range' s n).flatMap fun f => said f (F f))).1.ch f = (nextK k F f).1.2) ∧
    (∀ f, f < s ∨ s + n ≤ f → (takeL k ((List.range' s n).flatMap fun f => said f (F f))).1.lv f = k.lv f ∧ (takeL k ((List.range' s n).flatMap fun f => said f (F f))).1.ch f = k.ch f) ∧
    (takeL k ((List.range' s n).flatMap fun f => said f (F f))).2 = (List.range' s n).flatMap fun f => said f (nextK k F f).2
  | 0, s, k, _, _ => ⟨fun f h1 h2 => by omega, fun f _ => ⟨rfl, rfl⟩, rfl⟩
  | n+1, s, k, h1, h2 => by
    have hk : ∃ k1, takeL k (said s (F s)) = (k1, said s (nextK k F s).2) ∧ k1.lv s = (nextK k F s).1.1 ∧ k1.ch s = (nextK k F s).1.2 ∧ ∀ f, f ≠ s → k1.lv f = k.lv f ∧ k1.ch f = k.ch f := by
      unfold nextK
      cases hF : F s with
      | none => exact ⟨k, rfl, rfl, rfl, fun _ _ => ⟨rfl, rfl⟩⟩
      | some p =>
        obtain ⟨g, d⟩ := p
        obtain ⟨a, b, c⟩ := tripleS_one k s g d h1 (by omega)
        exact ⟨(tripleS k s g d).1, by simp [said, takeL, c], a, b, fun f hf => tripleS_alone k s g d f (by omega)⟩
    obtain ⟨k1, e, a1, b1, al⟩ := hk
    obtain ⟨i1, i2, i3⟩ := takeL_fun F n (s + 1) k1 (by omega) (by omega)
    have hn : ∀ f, f ≠ s → nextK k1 F f = nextK k F f := fun f hf => by unfold nextK; rw [(al f hf).1, (al f hf).2]
    rw [List.range'_succ, List.flatMap_cons, takeL_app _ _ _ _ (said_len s (F s)), e]
    simp only []
    refine ⟨fun f x y => ?_, fun f x => ?_, ?_⟩
    · by_cases hf : f = s
      · subst hf
        have := i2 f (by omega)
        exact ⟨this.1.trans a1, this.2.trans b1⟩
      · have := i1 f (by omega) (by omega)
        rw [hn f hf] at this; exact this
    · have := i2 f (by omega)
      exact ⟨this.1.trans (al f (by omega)).1, this.2.trans (al f (by omega)).2⟩
    · rw [i3, List.flatMap_cons]
      congr 1
      apply flatMap_same
      intro f hf
      have : f ≠ s := by have := List.mem_range'_1.1 hf; omega
      rw [hn f this]

/-- What is heard, by what there is. -/
def hear (p : Int × Int) : Option (Int × Int) → (Int × Int) × Option (Int × Int)
  | none => (p, none)
  | some (g, d) => one p.1 p.2 g d
theorem nextK_hear (k : Ky) (F : Nat → Option (Int × Int)) (f : Nat) : nextK k F f = hear (k.lv f, k.ch f) (F f) := by
  unfold nextK hear
  cases F f <;> rfl
/-- One function of two ends: after three sayings nothing more is said, and both have the same. -/
theorem meet_one (la ca lb cb : Int) (h1 : 0 ≤ la ∧ la ≤ 2) (h2 : 0 ≤ lb ∧ lb ≤ 2) :
    (hear (hear (lb, cb) (some (la, ca))).1 (hear (la, ca) (hear (lb, cb) (some (la, ca))).2).2).2 = none ∧
    (hear (hear (lb, cb) (some (la, ca))).1 (hear (la, ca) (hear (lb, cb) (some (la, ca))).2).2).1 = (hear (la, ca) (hear (lb, cb) (some (la, ca))).2).1 ∧
    (la = 1 → lb ≠ 1 → (hear (la, ca) (hear (lb, cb) (some (la, ca))).2).1 = (1, ca)) ∧
    (lb = 1 → la = 2 → (hear (la, ca) (hear (lb, cb) (some (la, ca))).2).1 = (1, cb)) := by
  have ha : la = 0 ∨ la = 1 ∨ la = 2 := by omega
  have hb : lb = 0 ∨ lb = 1 ∨ lb = 2 := by omega
  by_cases hc : ca = cb
  · subst hc
    rcases ha with rfl | rfl | rfl <;> rcases hb with rfl | rfl | rfl <;> simp [hear, one]
  · have hd : ¬ cb = ca := fun e => hc e.symm
    rcases ha with rfl | rfl | rfl <;> rcases hb with rfl | rfl | rfl <;> (simp [hear, one, hc, hd] <;> by_cases h0 : ca = 0 <;> by_cases h0' : cb = 0 <;> simp_all [hear, one])

/-- A message of all functions, and the keys behind it. -/
def msg (F : Nat → Option (Int × Int)) : List Int := (List.range' 1 18).flatMap fun f => said f (F f)
def sayK (k : Ky) (F : Nat → Option (Int × Int)) : Ky :=
  ⟨fun f => if 1 ≤ f ∧ f < 19 then (nextK k F f).1.1 else k.lv f, fun f => if 1 ≤ f ∧ f < 19 then (nextK k F f).1.2 else k.ch f⟩
theorem Ky.same (a b : Ky) (h : ∀ f, a.lv f = b.lv f ∧ a.ch f = b.ch f) : a = b := by
  obtain ⟨x, y⟩ := a; obtain ⟨z, u⟩ := b
  have h1 : x = z := funext fun f => (h f).1
  have h2 : y = u := funext fun f => (h f).2
  rw [h1, h2]
theorem takeL_msg (k : Ky) (F : Nat → Option (Int × Int)) : takeL k (msg F) = (sayK k F, msg fun f => (nextK k F f).2) := by
  obtain ⟨i1, i2, i3⟩ := takeL_fun F 18 1 k (by omega) (by omega)
  refine Prod.ext (Ky.same _ _ fun f => ?_) i3
  by_cases hf : 1 ≤ f ∧ f < 19
  · have := i1 f hf.1 (by omega)
    simp only [sayK, if_pos hf]; exact this
  · have := i2 f (by omega)
    simp only [sayK, if_neg hf]; exact this
theorem said_all (F : Nat → Option (Int × Int)) : ∀ l : List Nat, (l.flatMap fun f => said f (F f)).length % 3 = 0 ∧ (l.flatMap fun f => said f (F f)).length ≤ 3 * l.length
  | [] => by simp
  | f :: l => by
    have := said_all F l
    have h := said_len f (F f)
    rw [List.flatMap_cons, List.length_append, h, List.length_cons]
    split <;> omega
theorem msg_len (F : Nat → Option (Int × Int)) : (msg F).length % 3 = 0 ∧ (msg F).length ≤ 54 := by
  have := said_all F (List.range' 1 18)
  simpa [msg] using this

theorem msg_nil (k : Ky) (F : Nat → Option (Int × Int)) (h : msg F = []) : sayK k F = k ∧ (msg fun f => (nextK k F f).2) = [] := by
  have := takeL_msg k F
  rw [h] at this
  exact ⟨(congrArg Prod.fst this).symm, (congrArg Prod.snd this).symm⟩
/-- The sayings of two ends. -/
def F1 (a : Ky) (f : Nat) : Option (Int × Int) := some (a.lv f, a.ch f)
def F2 (a b : Ky) (f : Nat) : Option (Int × Int) := (nextK b (F1 a) f).2
def F3 (a b : Ky) (f : Nat) : Option (Int × Int) := (nextK a (F2 a b) f).2
def F4 (a b : Ky) (f : Nat) : Option (Int × Int) := (nextK (sayK b (F1 a)) (F3 a b) f).2
/-- What the two ends come to. -/
def endA (a b : Ky) : Ky := sayK a (F2 a b)
def endB (a b : Ky) : Ky := sayK (sayK b (F1 a)) (F3 a b)
theorem agree (a b : Ky) (ha : ∀ f, 1 ≤ f → f < 19 → 0 ≤ a.lv f ∧ a.lv f ≤ 2) (hb : ∀ f, 1 ≤ f → f < 19 → 0 ≤ b.lv f ∧ b.lv f ≤ 2) :
    msg (F4 a b) = [] ∧ ∀ f, 1 ≤ f → f < 19 → (endA a b).lv f = (endB a b).lv f ∧ (endA a b).ch f = (endB a b).ch f ∧
      (a.lv f = 1 → b.lv f ≠ 1 → (endA a b).lv f = 1 ∧ (endA a b).ch f = a.ch f) ∧ (b.lv f = 1 → a.lv f = 2 → (endA a b).lv f = 1 ∧ (endA a b).ch f = b.ch f) := by
  have H := fun f h1 h2 => meet_one (a.lv f) (a.ch f) (b.lv f) (b.ch f) (ha f h1 h2) (hb f h1 h2)
  have e2 : ∀ f, F2 a b f = (hear (b.lv f, b.ch f) (some (a.lv f, a.ch f))).2 := fun f => by unfold F2; rw [nextK_hear]; rfl
  have e3 : ∀ f, F3 a b f = (hear (a.lv f, a.ch f) (hear (b.lv f, b.ch f) (some (a.lv f, a.ch f))).2).2 := fun f => by unfold F3; rw [nextK_hear, e2]
  have eA : ∀ f, 1 ≤ f → f < 19 → (endA a b).lv f = (hear (a.lv f, a.ch f) (hear (b.lv f, b.ch f) (some (a.lv f, a.ch f))).2).1.1 ∧ (endA a b).ch f = (hear (a.lv f, a.ch f) (hear (b.lv f, b.ch f) (some (a.lv f, a.ch f))).2).1.2 := fun f h1 h2 => by
    simp only [endA, sayK, if_pos (And.intro h1 h2), nextK_hear, e2, and_self]
  have eB1 : ∀ f, 1 ≤ f → f < 19 → ((sayK b (F1 a)).lv f, (sayK b (F1 a)).ch f) = (hear (b.lv f, b.ch f) (some (a.lv f, a.ch f))).1 := fun f h1 h2 => by
    simp only [sayK, if_pos (And.intro h1 h2), nextK_hear, F1]
  have eN : ∀ f, 1 ≤ f → f < 19 → nextK (sayK b (F1 a)) (F3 a b) f = hear (hear (b.lv f, b.ch f) (some (a.lv f, a.ch f))).1 (hear (a.lv f, a.ch f) (hear (b.lv f, b.ch f) (some (a.lv f, a.ch f))).2).2 := fun f h1 h2 => by
    rw [nextK_hear, eB1 f h1 h2, e3]
  refine ⟨?_, fun f h1 h2 => ?_⟩
  · have : msg (F4 a b) = (List.range' 1 18).flatMap fun _ => ([] : List Int) := by
      unfold msg
      apply flatMap_same
      intro f hf
      have hf := List.mem_range'_1.1 hf
      have : F4 a b f = none := by unfold F4; rw [eN f (by omega) (by omega)]; exact (H f (by omega) (by omega)).1
      rw [this]; rfl
    rw [this]; simp
  · obtain ⟨_, x2, x3, x4⟩ := H f h1 h2
    have y1 := eA f h1 h2
    have y2 : (endB a b).lv f = (hear (a.lv f, a.ch f) (hear (b.lv f, b.ch f) (some (a.lv f, a.ch f))).2).1.1 ∧ (endB a b).ch f = (hear (a.lv f, a.ch f) (hear (b.lv f, b.ch f) (some (a.lv f, a.ch f))).2).1.2 := by
      unfold endB
      rw [show (sayK (sayK b (F1 a)) (F3 a b)).lv f = (nextK (sayK b (F1 a)) (F3 a b) f).1.1 by simp only [sayK, if_pos (And.intro h1 h2)],
        show (sayK (sayK b (F1 a)) (F3 a b)).ch f = (nextK (sayK b (F1 a)) (F3 a b) f).1.2 by simp only [sayK, if_pos (And.intro h1 h2)], eN f h1 h2, x2]
      exact ⟨rfl, rfl⟩
    rw [y1.1, y1.2, y2.1, y2.2]
    exact ⟨rfl, rfl, fun p q => by rw [x3 p q]; exact ⟨rfl, rfl⟩, fun p q => by rw [x4 p q]; exact ⟨rfl, rfl⟩⟩
end Go.Proofs.Ytgokbjnpjjdboaa.Sl
