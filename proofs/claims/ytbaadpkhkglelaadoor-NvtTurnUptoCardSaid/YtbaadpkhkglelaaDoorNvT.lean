/- NvtTurn: what is read, without 0 and 13, is what came, without 0 and 13. -/
import Derived.Test.YtbaadpkhkglelaaDoorDNvZ
namespace Go.Proofs.YtbaadpkhkglelaaDoor.Pm
open Go.Proofs.YtbaadpkhkglelaaDoor.Args
open Go.ChangeShapes Go.WideShapes Go.ChangeAt Go.RowKit
set_option linter.unusedVariables false
set_option linter.unusedSimpArgs false
set_option maxRecDepth 100000
/-- 'Option.bind_some', not by unfolding: the kernel must not look into 'cat?'. -/
theorem bs {α β : Type} (x : α) (f : α → Option β) : (some x).bind f = f x := by
  have h : ∀ y : Option α, y = some x → y.bind f = f x := fun y hy => by cases hy; simp
  exact h _ (by simp)
theorem cf {α : Type} (x y : α) : (bif false then x else y) = y := by
  have h : ∀ b : Bool, b = false → (bif b then x else y) = y := fun b hb => by cases hb; simp
  exact h _ (by simp)
theorem ct {α : Type} (x y : α) : (bif true then x else y) = x := by
  have h : ∀ b : Bool, b = true → (bif b then x else y) = x := fun b hb => by cases hb; simp
  exact h _ (by simp)
theorem i64w (n : Int) (h : -9223372036854775808 ≤ n ∧ n ≤ 9223372036854775807) : IntKind.i64.wrap n = n := IntWalk.i64_in n h
theorem idx_mid {α : Type} (pre : List α) (x : α) (t : List α) : idx (pre ++ x :: t) (pre.length : Int) = some x := by unfold idx; rw [if_pos (by omega)]; simp
theorem app_ok {α : Type} (b : Nat) (xs ys : List α) (h : (xs.length + ys.length) * b ≤ 140737488355328) : app? b xs ys = some (xs ++ ys) := by unfold app?; rw [if_pos h]
theorem wrap_nx {α : Type} (pre : List α) (x : α) (h : pre.length < 1000000000) : IntKind.i64.wrap ((pre.length : Int) + 1) = ((pre ++ [x]).length : Int) := by rw [i64w _ (by omega)]; simp
theorem lt_mid {α : Type} (pre : List α) (x : α) (t : List α) : decide ((pre.length : Int) < ((pre ++ x :: t).length : Int)) = true := decide_eq_true (by simp; omega)
theorem lt_end {α : Type} (pre : List α) : decide ((pre.length : Int) < ((pre ++ []).length : Int)) = false := decide_eq_false (by simp)
theorem cat_ok (xs ys : List UInt8) (h : xs.length + ys.length ≤ 1000000000) : cat? xs ys = some (xs ++ ys) := by
  unfold cat?
  rw [if_pos (by show ((xs.length + ys.length : Nat) : Int) ≤ 9223372036854775807; omega)]
/-- The reader, byte by byte. -/
def inS (s : Bool × List UInt8) (c : UInt8) : Bool × List UInt8 :=
  if s.1 then (if c.toNat = 10 then (false, s.2 ++ [10]) else if c.toNat = 0 then (false, s.2 ++ [13]) else if c.toNat = 13 then (true, s.2 ++ [13]) else (false, s.2 ++ [13] ++ [c]))
  else if c.toNat = 13 then (true, s.2) else (false, s.2 ++ [c])
def drp (s : List UInt8) : List UInt8 := (s.filter (fun b => b != 0)).filter (fun b => b != 13)
theorem drp_app (a b : List UInt8) : drp (a ++ b) = drp a ++ drp b := by simp [drp]
theorem u_eq {c : UInt8} {n : Nat} (h : c.toNat = n) (hn : n < 256) : c = UInt8.ofNat n := by
  apply UInt8.toNat.inj; rw [h]; simp; omega
theorem inS_drp (s : Bool × List UInt8) (c : UInt8) : drp (inS s c).2 = drp s.2 ++ drp [c] := by
  unfold inS
  split
  · split
    · rw [drp_app]; rename_i h; rw [u_eq h (by omega)]; rfl
    · split
      · rw [drp_app]; rename_i h; rw [u_eq h (by omega)]; rfl
      · split
        · rw [drp_app]; rename_i h; rw [u_eq h (by omega)]; rfl
        · rw [drp_app, drp_app, show drp [13] = [] from rfl]; simp
  · split
    · rename_i h; rw [u_eq h (by omega)]; show drp s.2 = drp s.2 ++ []; simp
    · rw [drp_app]
theorem inS_len (s : Bool × List UInt8) (c : UInt8) : (inS s c).2.length ≤ s.2.length + 2 := by
  unfold inS
  split
  · split
    · simp
    · split
      · simp
      · split <;> simp
  · split <;> simp
theorem fold_drp : ∀ (l : List UInt8) (s : Bool × List UInt8), drp (l.foldl inS s).2 = drp s.2 ++ drp l
  | [], s => by simp [drp]
  | c :: l, s => by
    rw [List.foldl_cons, fold_drp l, inS_drp, List.append_assoc, ← drp_app]; rfl
theorem fold_len : ∀ (l : List UInt8) (s : Bool × List UInt8), (l.foldl inS s).2.length ≤ s.2.length + 2 * l.length
  | [], s => by simp
  | c :: l, s => by
    have := fold_len l (inS s c)
    have := inS_len s c
    rw [List.foldl_cons, List.length_cons]; omega
theorem in_loop (a1 a3 : Bool) : ∀ (suf pre : List UInt8) (cr : Bool) (out : List UInt8), out.length + 2 * suf.length ≤ 100000000 → pre.length + suf.length ≤ 100000000 →
    loopO (f4_l1 a1 (pre ++ suf) a3) (cr, out, (pre.length : Int)) = some (suf.foldl inS (cr, out))
  | [], pre, cr, out, h, hp => loopO_done (by
      unfold f4_l1 f4_l1_j2
      simp only [lt_end, cond_false]; rfl)
  | c :: t, pre, cr, out, h, hp => by
    have e1 : pre ++ c :: t = (pre ++ [c]) ++ t := by simp
    simp only [List.length_cons] at h hp
    have hl := inS_len (cr, out) c
    have ih := in_loop a1 a3 t (pre ++ [c]) (inS (cr, out) c).1 (inS (cr, out) c).2 (by simp only at hl; omega) (by simp; omega)
    rw [← e1] at ih
    rw [List.foldl_cons]
    refine loopO_next ?_ ih
    unfold f4_l1 f4_l1_j2 f4_l1_j3 f4_l1_j4 inS
    simp only [lt_mid, cond_true, idx_mid, Option.bind_some]
    rw [wrap_nx pre c (by omega)]
    cases cr with
    | true =>
      simp only [cond_true, if_true]
      by_cases h1 : c.toNat = 10
      · rw [decide_eq_true (show (c.toNat : Int) = 10 by omega), if_pos h1]
        simp only [cond_true]
        rw [app_ok 1 _ _ (by simp; omega)]; rfl
      rw [decide_eq_false (show ¬ (c.toNat : Int) = 10 by omega), if_neg h1]
      simp only [cond_false]
      by_cases h2 : c.toNat = 0
      · rw [decide_eq_true (show (c.toNat : Int) = 0 by omega), if_pos h2]
        simp only [cond_true]
        rw [app_ok 1 _ _ (by simp; omega)]; rfl
      rw [decide_eq_false (show ¬ (c.toNat : Int) = 0 by omega), if_neg h2]
      simp only [cond_false]
      rw [app_ok 1 _ _ (by simp; omega)]
      simp only [Option.bind_some]
      by_cases h3 : c.toNat = 13
      · rw [decide_eq_true (show (c.toNat : Int) = 13 by omega), if_pos h3]; rfl
      · rw [decide_eq_false (show ¬ (c.toNat : Int) = 13 by omega), if_neg h3]
        simp only [cond_false]
        rw [app_ok 1 _ _ (by simp; omega)]; rfl
    | false =>
      simp only [cond_false, Bool.false_eq_true, if_false]
      by_cases h3 : c.toNat = 13
      · rw [decide_eq_true (show (c.toNat : Int) = 13 by omega), if_pos h3]; rfl
      · rw [decide_eq_false (show ¬ (c.toNat : Int) = 13 by omega), if_neg h3]
        simp only [cond_false]
        rw [app_ok 1 _ _ (by simp; omega)]; rfl
theorem in_ok (cr : Bool) (a : List UInt8) (h : a.length ≤ 10000000) : f4 cr a false = some (a.foldl inS (cr, [])) := by
  unfold f4 f4_j0
  have := in_loop cr false a [] cr [] (by simp; omega) (by simp; omega)
  simp only [List.nil_append, List.length_nil] at this
  rw [show ((0 : Int)) = ((0 : Nat) : Int) from rfl, this]; rfl
theorem rk_cons (b c : UInt8) (new : List UInt8) (h : b ≠ c) (t : List UInt8) (k : Nat) : Lib.replaceK [c] new k (b :: t) = b :: Lib.replaceK [c] new k t := by
  cases k with
  | zero => rfl
  | succ k =>
    have hge := Lib.indexByte_ge t c
    have hi : Lib.index (b :: t) [c] = if Lib.index t [c] = -1 then -1 else Lib.index t [c] + 1 := by
      rw [Lib.index_one, Lib.index_one, Lib.indexByte, if_neg (by simpa using h)]
      by_cases hm : Lib.indexByte t c = -1
      · rw [if_pos (by simpa using hm), if_pos hm]
      · rw [if_neg (by simpa using hm), if_neg hm]
    unfold Lib.replaceK
    rw [hi]
    by_cases hm : Lib.index t [c] = -1
    · rw [if_pos hm, if_pos (by rfl), if_pos (by rw [hm]; rfl)]
    · have hnn : 0 ≤ Lib.index t [c] := by rw [Lib.index_one] at hm ⊢; omega
      rw [if_neg hm, if_neg (by simp; omega), if_neg (by simpa using hm)]
      obtain ⟨i, hi2⟩ := Int.eq_ofNat_of_zero_le hnn
      rw [hi2, show ((i : Int) + 1).toNat = i + 1 by omega, show (i : Int).toNat = i by omega]
      simp
theorem rk_hit (c : UInt8) (new : List UInt8) (t : List UInt8) (k : Nat) : Lib.replaceK [c] new (k + 1) (c :: t) = new ++ Lib.replaceK [c] new k t := by
  have hi : Lib.index (c :: t) [c] = 0 := by rw [Lib.index_one, Lib.indexByte, if_pos (by simp)]
  rw [Lib.replaceK, hi, if_neg (by decide)]
  simp
theorem rnil (c : UInt8) : ∀ s : List UInt8, Lib.replaceK [c] [] (Lib.count s [c]) s = s.filter (fun b => b != c)
  | [] => by
    rw [Lib.count_one]; rfl
  | b :: t => by
    have ih := rnil c t
    by_cases h : b = c
    · subst h
      rw [Lib.count_cons_eq, Nat.add_comm 1, rk_hit, ih, List.filter_cons_of_neg (by simp)]; rfl
    · rw [Lib.count_cons_ne b c t h, rk_cons b c _ h, ih, List.filter_cons_of_pos (by simpa using h)]
theorem lib_drop (s : List UInt8) (c : UInt8) (h : s.length ≤ 100000000) : libReplaceAll s [c] [] = some (s.filter (fun b => b != c)) := by
  unfold libReplaceAll
  rw [if_pos ⟨by omega, by simp, by simp; omega⟩]
  unfold Lib.replaceAll Lib.replace
  rw [if_neg (by simp)]
  unfold Lib.replaceNum
  rw [if_pos (by left; decide)]
  exact congrArg some (rnil c s)
theorem drop_ok (s : List UInt8) (h : s.length ≤ 100000000) : f5 s = some (drp s) := by
  unfold f5
  rw [lib_drop s 0 h, bs, lib_drop _ 13 (Nat.le_trans (List.length_filter_le _ _) h), bs]; rfl
theorem flush_ok (x : Bool) : f8 x = some (if x then [13] else []) := by cases x <;> rfl
theorem out_one : f10 [10, 13] false = some [13, 10, 13, 0] := by
  unfold f10 f10_j0
  have : loopO (f10_l1 [10, 13] false) ([], 0) = some [13, 10, 13, 0] := loopO_of (n := 3) (by kernel_rfl)
  rw [this]; rfl
theorem lives : f7 = some true := by
  unfold f7
  rw [in_ok false _ (by decide)]
  have e : ([97, 13, 10, 98, 13, 0, 13] : List UInt8).foldl inS (false, []) = (true, [97, 10, 98, 13]) := rfl
  rw [e, out_one]
  simp only [bs, ct, decide_true]
theorem nvtTurn (a b : List UInt8) (ha : a.length ≤ 1048576) (hb : b.length ≤ 1048576) : f3 a b = some true := by
  obtain ⟨x, s, hxs⟩ : ∃ x s, a.foldl inS (false, []) = (x, s) := ⟨_, _, rfl⟩
  have hd := fold_drp a (false, [])
  have hl := fold_len a (false, [])
  rw [hxs] at hd hl
  simp only [List.length_nil] at hl
  obtain ⟨f, hf, hfl, hfd⟩ : ∃ f, f8 x = some f ∧ f.length ≤ 1 ∧ drp f = [] := by
    rw [flush_ok]
    cases x
    · exact ⟨[], rfl, by simp, rfl⟩
    · exact ⟨[13], rfl, by simp, rfl⟩
  have hin : f4 x b true = some (false, f ++ b) := by
    unfold f4
    rw [hf]
    simp only [ct, bs]
    rw [cat_ok f b (by omega), bs]
  unfold f3
  rw [in_ok false a (by omega), hxs, bs]
  simp only
  rw [hin, bs, lives, bs, hf]
  simp only [ct, bs, Bool.not_false]
  rw [cat_ok f b (by omega), bs, decide_eq_true rfl, ct, cat_ok s (f ++ b) (by simp; omega), bs, drop_ok _ (by simp; omega), bs, cat_ok a b (by omega), bs, drop_ok _ (by simp; omega), bs]
  have : drp (s ++ (f ++ b)) = drp (a ++ b) := by
    rw [drp_app, drp_app, drp_app, hfd, hd]; simp [drp]
  rw [this, decide_eq_true rfl, ct]
theorem maxcell {w : World} (hsh : w.ShapedOpen Go.Proofs.Tryd.prog) : ∃ m, w.cell? ⟨0, 0, none⟩ = some (.int .i64 m) :=
  cell_of_shapedOpen_int (t := 3) (zero := #[.int .i64 0]) hsh (of_decide_eq_true (by kernel_rfl)) (by kernel_rfl) rfl (by kernel_rfl) (by kernel_rfl) (by kernel_rfl)
theorem NvtTurn_walk (v0 v1 : Value) (w : World) (h0 : Arg (some 1048576) Go.Proofs.Tryd.prog w 9 v0) (h1 : Arg (some 1048576) Go.Proofs.Tryd.prog w 9 v1) (hsh : w.ShapedOpen Go.Proofs.Tryd.prog) : Calls Go.Proofs.Tryd.prog 3 #[v0, v1] w fun e w' => e = .returned (.bool true) ∧ Below w.heap.size w w' :=
  NvtTurn_calls (some 1048576) (fun a b ha hb => nvtTurn a b (by have := ha.2; unfold FitN at this; omega) (by have := hb.2; unfold FitN at this; omega)) v0 v1 w h0 h1 (maxcell hsh)
end Go.Proofs.YtbaadpkhkglelaaDoor.Pm
