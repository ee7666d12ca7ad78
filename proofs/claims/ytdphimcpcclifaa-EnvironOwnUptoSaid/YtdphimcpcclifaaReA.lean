/- Environ: what is written and what is read, in plain lists. -/
import Derived.Test.YtdphimcpcclifaaDReD
import Derived.Test.YtdphimcpcclifaaPb
namespace Go.Proofs.Ytdphimcpcclifaa.Re
open Go.Proofs.Ytdphimcpcclifaa.Pm
open Go.RowKit
set_option linter.unusedVariables false
set_option linter.unusedSimpArgs false
set_option maxRecDepth 100000
theorem i64w (n : Int) (h : -9223372036854775808 ≤ n ∧ n ≤ 9223372036854775807) : IntKind.i64.wrap n = n := IntWalk.i64_in n h
theorem idx_mid {α : Type} (pre : List α) (x : α) (t : List α) : idx (pre ++ x :: t) (pre.length : Int) = some x := by unfold idx; rw [if_pos (by omega)]; simp
theorem app_ok {α : Type} (b : Nat) (xs ys : List α) (h : (xs.length + ys.length) * b ≤ 140737488355328) : app? b xs ys = some (xs ++ ys) := by unfold app?; rw [if_pos h]
theorem wrap_nx {α : Type} (pre : List α) (x : α) (h : pre.length < 1000000000) : IntKind.i64.wrap ((pre.length : Int) + 1) = ((pre ++ [x]).length : Int) := by rw [i64w _ (by omega)]; simp
theorem lt_mid {α : Type} (pre : List α) (x : α) (t : List α) : decide ((pre.length : Int) < ((pre ++ x :: t).length : Int)) = true := decide_eq_true (by simp; omega)
theorem lt_end {α : Type} (pre : List α) : decide ((pre.length : Int) < ((pre ++ []).length : Int)) = false := decide_eq_false (by simp)
/-- A byte, with a mark where it is special. -/
def es1 (b : UInt8) : List UInt8 := if b.toNat ≤ 3 then [2, b] else [b]
def esc (s : List UInt8) : List UInt8 := s.flatMap es1
theorem esc_cons (b : UInt8) (s : List UInt8) : esc (b :: s) = es1 b ++ esc s := by unfold esc; rw [List.flatMap_cons]
theorem esc_len : ∀ s : List UInt8, (esc s).length ≤ 2 * s.length
  | [] => by simp [esc]
  | b :: s => by
    have := esc_len s
    rw [esc_cons, List.length_append, List.length_cons]
    unfold es1; split <;> simp <;> omega
theorem esc_loop (a2 : List UInt8) : ∀ (suf pre acc : List UInt8), pre.length + suf.length ≤ 100000 → acc.length + 2 * suf.length ≤ 100000000 →
    loopO (f17_l0 (pre ++ suf) a2) (acc, (pre.length : Int)) = some (acc ++ esc suf)
  | [], pre, acc, h1, h2 => loopO_done (by
      unfold f17_l0 f17_l0_j1
      simp only [lt_end, cond_false]
      simp [esc])
  | x :: t, pre, acc, h1, h2 => by
    have e1 : pre ++ x :: t = (pre ++ [x]) ++ t := by simp
    simp only [List.length_cons] at h1 h2
    refine loopO_next (y := (acc ++ es1 x, ((pre ++ [x]).length : Int))) ?_ ?_
    · unfold f17_l0 f17_l0_j1 f17_l0_j2 f17_l0_j3
      simp only [lt_mid, cond_true, idx_mid, Option.bind_some]
      rw [wrap_nx pre x (by omega)]
      unfold es1
      by_cases hx : x.toNat ≤ 3
      · rw [decide_eq_true (p := (x.toNat : Int) ≤ 3) (by omega), if_pos hx]
        simp only [cond_true]
        rw [app_ok 1 acc [2] (by simp; omega)]
        simp only [Option.bind_some]
        rw [app_ok 1 (acc ++ [2]) [x] (by simp; omega)]
        simp
      · rw [decide_eq_false (p := (x.toNat : Int) ≤ 3) (by omega), if_neg hx]
        simp only [cond_false]
        rw [app_ok 1 acc [x] (by simp; omega)]
        simp
    · have hl : (es1 x).length ≤ 2 := by unfold es1; split <;> simp
      have := esc_loop a2 t (pre ++ [x]) (acc ++ es1 x) (by simp; omega) (by simp; omega)
      rw [← e1] at this
      rw [this, esc_cons, List.append_assoc]
theorem f17_eq (s acc : List UInt8) (h1 : s.length ≤ 10000) (h2 : acc.length ≤ 1000000) : f17 s acc = some (acc ++ esc s) := by
  unfold f17
  have := esc_loop acc s [] acc (by simp; omega) (by omega)
  simp only [List.nil_append, List.length_nil] at this
  rw [show ((0 : Int)) = ((0 : Nat) : Int) from rfl, this]; rfl
/-- One variable, all of them. -/
def item (v : GVar) : List UInt8 := (if v.User then 3 else 0) :: (esc v.Name ++ if v.Set then 1 :: esc v.Value else [])
def wr (l : List GVar) : List UInt8 := l.flatMap item
theorem wr_cons (v : GVar) (l : List GVar) : wr (v :: l) = item v ++ wr l := by unfold wr; rw [List.flatMap_cons]
theorem wr_app (l m : List GVar) : wr (l ++ m) = wr l ++ wr m := by unfold wr; rw [List.flatMap_append]
def short (v : GVar) : Prop := v.Name.length ≤ 200 ∧ v.Value.length ≤ 200
def form (v : GVar) : Prop := v.Set = false → v.Value = []
def good (l : List GVar) : Prop := l.length ≤ 20 ∧ (∀ v ∈ l, short v) ∧ ∀ v ∈ l, form v
theorem f16_eq (v : GVar) : (short v ∧ f16 v = some false) ∨ (¬ short v ∧ f16 v = some true) := by
  unfold f16 short
  simp only [Bool.cond_decide]
  repeat' split
  all_goals first
    | exact .inl ⟨⟨by omega, by omega⟩, rfl⟩
    | exact .inr ⟨by omega, rfl⟩
theorem long_loop : ∀ (suf pre : List GVar), pre.length + suf.length ≤ 100000 →
    ((∀ v ∈ suf, short v) ∧ loopO (f21_l0 (pre ++ suf)) (pre.length : Int) = some (.inl ())) ∨ ((¬ ∀ v ∈ suf, short v) ∧ ∃ i : Int, 0 ≤ i ∧ loopO (f21_l0 (pre ++ suf)) (pre.length : Int) = some (.inr i))
  | [], pre, h => .inl ⟨(fun _ hv => by cases hv), loopO_done (by
      unfold f21_l0 f21_l0_j1
      simp only [lt_end, cond_false])⟩
  | x :: t, pre, h => by
    have e1 : pre ++ x :: t = (pre ++ [x]) ++ t := by simp
    simp only [List.length_cons] at h
    rcases f16_eq x with ⟨hs, hf⟩ | ⟨hs, hf⟩
    · have hn : f21_l0 (pre ++ x :: t) (pre.length : Int) = some (.inl ((pre ++ [x]).length : Int)) := by
        unfold f21_l0 f21_l0_j1 f21_l0_j2
        simp only [lt_mid, cond_true, idx_mid, Option.bind_some, hf, cond_false]
        rw [wrap_nx pre x (by omega)]
      have := long_loop t (pre ++ [x]) (by simp; omega)
      rw [← e1] at this
      rcases this with ⟨a, b⟩ | ⟨a, i, b, c⟩
      · exact .inl ⟨fun v hv => by
          rcases List.mem_cons.1 hv with rfl | hv
          · exact hs
          · exact a v hv, loopO_next hn b⟩
      · exact .inr ⟨fun hh => a fun v hv => hh v (List.mem_cons_of_mem _ hv), i, b, loopO_next hn c⟩
    · refine .inr ⟨fun hh => hs (hh x (List.mem_cons_self ..)), (pre.length : Int), by omega, loopO_done ?_⟩
      unfold f21_l0 f21_l0_j1 f21_l0_j2
      simp only [lt_mid, cond_true, idx_mid, Option.bind_some, hf]
theorem f15_eq (l : List GVar) (h : l.length ≤ 20) : ((∀ v ∈ l, short v) ∧ f15 l = some false) ∨ ((¬ ∀ v ∈ l, short v) ∧ f15 l = some true) := by
  unfold f15 f21
  have := long_loop l [] (by simp; omega)
  simp only [List.nil_append, List.length_nil] at this
  rw [show ((0 : Int)) = ((0 : Nat) : Int) from rfl]
  rcases this with ⟨a, e⟩ | ⟨a, i, hi, e⟩
  · rw [e]; exact .inl ⟨a, rfl⟩
  · rw [e]
    refine .inr ⟨a, ?_⟩
    simp only [Option.bind_some, Sum.elim_inr]
    rw [decide_eq_true (p := ((0 : Nat) : Int) ≤ i) hi]; rfl
theorem item_len (v : GVar) (h : short v) : (item v).length ≤ 802 := by
  have h1 := esc_len v.Name
  have h2 := esc_len v.Value
  have := h.1
  have := h.2
  unfold item
  rw [List.length_cons, List.length_append]
  split <;> simp <;> omega
theorem wr_loop : ∀ (suf pre : List GVar) (acc : List UInt8), pre.length + suf.length ≤ 20 → acc.length + 1000 * suf.length ≤ 100000 → (∀ v ∈ suf, short v) →
    ((∀ v ∈ suf, form v) ∧ loopO (f10_l1 (pre ++ suf)) (acc, (pre.length : Int)) = some (.inl (acc ++ wr suf))) ∨ ((¬ ∀ v ∈ suf, form v) ∧ loopO (f10_l1 (pre ++ suf)) (acc, (pre.length : Int)) = some (.inr ([], 4)))
  | [], pre, acc, h, h2, hs => .inl ⟨(fun _ hv => by cases hv), loopO_done (by
      unfold f10_l1 f10_l1_j2
      simp only [lt_end, cond_false]
      simp [wr])⟩
  | x :: t, pre, acc, h, h2, hs => by
    have e1 : pre ++ x :: t = (pre ++ [x]) ++ t := by simp
    simp only [List.length_cons] at h h2
    have hx := hs x (List.mem_cons_self ..)
    have hi := item_len x hx
    by_cases hf : form x
    · have hn : f10_l1 (pre ++ x :: t) (acc, (pre.length : Int)) = some (.inl (acc ++ item x, ((pre ++ [x]).length : Int))) := by
        unfold f10_l1 f10_l1_j2 f10_l1_j3
        simp only [lt_mid, cond_true, idx_mid, Option.bind_some]
        have hn := esc_len x.Name
        have hv := esc_len x.Value
        have hs1 := hx.1
        have hs2 := hx.2
        cases hset : x.Set with
        | false =>
          have hv0 : x.Value = [] := hf hset
          rw [decide_eq_true hv0]
          simp only [Bool.not_false, cond_true, Bool.not_true, cond_false]
          unfold f10_l1_j4 f10_l1_j5
          cases hu : x.User <;> simp only [cond_true, cond_false, hset] <;> rw [app_ok 1 acc _ (by simp; omega)] <;> simp only [Option.bind_some] <;> rw [f17_eq _ _ (by omega) (by simp; omega)] <;> simp only [Option.bind_some] <;> rw [wrap_nx pre x (by omega)] <;> simp [item, hu, hset]
        | true =>
          simp only [Bool.not_true, cond_false]
          unfold f10_l1_j4 f10_l1_j5
          cases hu : x.User <;> simp only [cond_true, cond_false, hset] <;> rw [app_ok 1 acc _ (by simp; omega)] <;> simp only [Option.bind_some] <;> rw [f17_eq _ _ (by omega) (by simp; omega)] <;> simp only [Option.bind_some] <;> rw [app_ok 1 _ _ (by simp; omega)] <;> simp only [Option.bind_some] <;> rw [f17_eq _ _ (by omega) (by simp; omega)] <;> simp only [Option.bind_some] <;> rw [wrap_nx pre x (by omega)] <;> simp [item, hu, hset]
      have := wr_loop t (pre ++ [x]) (acc ++ item x) (by simp; omega) (by simp; omega) fun v hv => hs v (List.mem_cons_of_mem _ hv)
      rw [← e1] at this
      rcases this with ⟨a, b⟩ | ⟨a, b⟩
      · refine .inl ⟨fun v hv => ?_, ?_⟩
        · rcases List.mem_cons.1 hv with rfl | hv
          · exact hf
          · exact a v hv
        · rw [loopO_next hn b, wr_cons, List.append_assoc]
      · exact .inr ⟨fun hh => a fun v hv => hh v (List.mem_cons_of_mem _ hv), loopO_next hn b⟩
    · refine .inr ⟨fun hh => hf (hh x (List.mem_cons_self ..)), loopO_done ?_⟩
      have hset : x.Set = false := by
        cases hh : x.Set with
        | false => rfl
        | true => exact absurd (fun h => absurd (h.symm.trans hh) (by simp)) hf
      have hv0 : ¬ x.Value = [] := fun hh => hf fun _ => hh
      unfold f10_l1 f10_l1_j2 f10_l1_j3
      simp only [lt_mid, cond_true, idx_mid, Option.bind_some, hset, Bool.not_false]
      rw [decide_eq_false hv0]; rfl
/-- Write. -/
theorem f10_eq (l : List GVar) : (good l ∧ f10 l = some (wr l, 0)) ∨ (¬ good l ∧ ∃ e, e ≠ 0 ∧ f10 l = some ([], e)) := by
  unfold f10
  by_cases hl : l.length ≤ 20
  · rw [decide_eq_false (by omega)]
    simp only [cond_false]
    rcases f15_eq l hl with ⟨a, e⟩ | ⟨a, e⟩
    · rw [e]
      simp only [Option.bind_some, cond_false]
      unfold f10_j0
      have := wr_loop l [] [] (by simp; omega) (by simp; omega) a
      simp only [List.nil_append, List.length_nil] at this
      rw [show (([], 0) : List UInt8 × Int) = ([], ((0 : Nat) : Int)) from rfl]
      rcases this with ⟨b, e⟩ | ⟨b, e⟩
      · rw [e]; exact .inl ⟨⟨hl, a, b⟩, rfl⟩
      · rw [e]; exact .inr ⟨fun h => b h.2.2, 4, by decide, rfl⟩
    · rw [e]; exact .inr ⟨fun h => a h.2.1, 2, by decide, rfl⟩
  · rw [decide_eq_true (by omega)]
    exact .inr ⟨fun h => hl h.1, 2, by decide, rfl⟩
/-- A word, up to a special byte. -/
def word : List UInt8 → List UInt8 × List UInt8
  | [] => ([], [])
  | x :: t => if 3 < x.toNat then (x :: (word t).1, (word t).2) else if x.toNat = 2 then
      match t with
      | [] => ([], [x])
      | y :: t' => (y :: (word t').1, (word t').2)
    else ([], x :: t)
theorem word_nil : word [] = ([], []) := by rw [word]
theorem word_big (x : UInt8) (t : List UInt8) (h : 3 < x.toNat) : word (x :: t) = (x :: (word t).1, (word t).2) := by
  rw [word.eq_def]; simp only [if_pos h]
theorem word_two (x y : UInt8) (t : List UInt8) (h : x.toNat = 2) : word (x :: y :: t) = (y :: (word t).1, (word t).2) := by
  rw [word.eq_def]; simp only [if_neg (show ¬ 3 < x.toNat by omega), if_pos h]
theorem word_two0 (x : UInt8) (h : x.toNat = 2) : word [x] = ([], [x]) := by
  rw [word.eq_def]; simp only [if_neg (show ¬ 3 < x.toNat by omega), if_pos h]
theorem word_end (x : UInt8) (t : List UInt8) (h : ¬ 3 < x.toNat) (h2 : ¬ x.toNat = 2) : word (x :: t) = ([], x :: t) := by
  rw [word.eq_def]; simp only [if_neg h, if_neg h2]
theorem word_suf (s : List UInt8) : ∃ p, s = p ++ (word s).2 := by
  induction hm : s.length using Nat.strongRecOn generalizing s with
  | ind m ih =>
    match s, hm with
    | [], _ => exact ⟨[], by rw [word_nil]; rfl⟩
    | x :: t, hm =>
      simp only [List.length_cons] at hm
      by_cases h : 3 < x.toNat
      · obtain ⟨p, hp⟩ := ih t.length (by omega) t rfl
        exact ⟨x :: p, by rw [word_big x t h]; simp only [List.cons_append]; rw [← hp]⟩
      · by_cases h2 : x.toNat = 2
        · match t, hm with
          | [], _ => exact ⟨[], by rw [word_two0 x h2]; rfl⟩
          | y :: t, hm =>
            simp only [List.length_cons] at hm
            obtain ⟨p, hp⟩ := ih t.length (by omega) t rfl
            exact ⟨x :: y :: p, by rw [word_two x y t h2]; simp only [List.cons_append]; rw [← hp]⟩
        · exact ⟨[], by rw [word_end x t h h2]; rfl⟩
theorem word_len (s : List UInt8) : (word s).2.length ≤ s.length := by
  obtain ⟨p, hp⟩ := word_suf s
  have := congrArg List.length hp
  rw [List.length_append] at this
  omega
theorem word_loop (suf : List UInt8) : ∀ (pre acc : List UInt8), pre.length + suf.length ≤ 100000 → acc.length + suf.length ≤ 100000 →
    loopO (f14_l1 (pre ++ suf)) (acc, (pre.length : Int)) = some (acc ++ (word suf).1, (((pre ++ suf).length - (word suf).2.length : Nat) : Int)) := by
  induction hm : suf.length using Nat.strongRecOn generalizing suf with
  | ind m ih =>
    intro pre acc h1 h2
    match suf, hm with
    | [], _ =>
      refine loopO_done ?_
      unfold f14_l1
      simp only [lt_end, cond_false]
      rw [word_nil]; simp
    | x :: t, hm =>
      simp only [List.length_cons] at hm h1 h2
      have e1 : pre ++ x :: t = (pre ++ [x]) ++ t := by simp
      by_cases h : 3 < x.toNat
      · have hn : f14_l1 (pre ++ x :: t) (acc, (pre.length : Int)) = some (.inl (acc ++ [x], ((pre ++ [x]).length : Int))) := by
          unfold f14_l1 f14_l1_j2 f14_l1_j3
          simp only [lt_mid, cond_true, idx_mid, Option.bind_some]
          rw [decide_eq_true (p := (3 : Int) < (x.toNat : Int)) (by omega), decide_eq_false (p := (x.toNat : Int) = 2) (by omega)]
          simp only [cond_true, cond_false]
          rw [app_ok 1 acc [x] (by simp; omega), wrap_nx pre x (by omega)]; rfl
        have := ih t.length (by omega) t rfl (pre ++ [x]) (acc ++ [x]) (by simp; omega) (by simp; omega)
        rw [← e1] at this
        rw [loopO_next hn this, word_big x t h]; simp
      · by_cases h2' : x.toNat = 2
        · match t, hm with
          | [], hm =>
            refine loopO_done ?_
            unfold f14_l1
            simp only [lt_mid, cond_true, idx_mid, Option.bind_some]
            rw [decide_eq_false (p := (3 : Int) < (x.toNat : Int)) (by omega), decide_eq_true (p := (x.toNat : Int) = 2) (by omega), wrap_nx pre x (by omega)]
            simp only [cond_true, cond_false]
            rw [decide_eq_false (p := (((pre ++ [x]).length : Nat) : Int) < _) (by omega), word_two0 x h2']
            simp
          | y :: t, hm =>
            simp only [List.length_cons] at hm h1 h2
            have e2 : pre ++ x :: y :: t = (pre ++ [x]) ++ y :: t := by simp
            have e3 : pre ++ x :: y :: t = (pre ++ [x] ++ [y]) ++ t := by simp
            have hn : f14_l1 (pre ++ x :: y :: t) (acc, (pre.length : Int)) = some (.inl (acc ++ [y], ((pre ++ [x] ++ [y]).length : Int))) := by
              unfold f14_l1 f14_l1_j2 f14_l1_j3
              simp only [lt_mid, cond_true, idx_mid, Option.bind_some]
              rw [decide_eq_false (p := (3 : Int) < (x.toNat : Int)) (by omega), decide_eq_true (p := (x.toNat : Int) = 2) (by omega), wrap_nx pre x (by omega)]
              simp only [cond_true, cond_false]
              rw [e2, decide_eq_true (p := (((pre ++ [x]).length : Nat) : Int) < _) (by simp; omega)]
              simp only [cond_true, idx_mid, Option.bind_some]
              rw [app_ok 1 acc [y] (by simp; omega), wrap_nx (pre ++ [x]) y (by simp; omega)]; rfl
            have := ih t.length (by omega) t rfl (pre ++ [x] ++ [y]) (acc ++ [y]) (by simp; omega) (by simp; omega)
            rw [← e3] at this
            rw [loopO_next hn this, word_two x y t h2']; simp
        · refine loopO_done ?_
          unfold f14_l1
          simp only [lt_mid, cond_true, idx_mid, Option.bind_some]
          rw [decide_eq_false (p := (3 : Int) < (x.toNat : Int)) (by omega), decide_eq_false (p := (x.toNat : Int) = 2) (by omega), word_end x t h h2']
          simp
theorem f14_eq (s : List UInt8) (h : s.length ≤ 10000) : f14 s = some (word s) := by
  unfold f14
  have := word_loop s [] [] (by simp; omega) (by simp; omega)
  simp only [List.nil_append, List.length_nil] at this
  rw [show (([], 0) : List UInt8 × Int) = ([], ((0 : Nat) : Int)) from rfl, this]
  simp only [Option.bind_some]
  unfold f14_j0
  obtain ⟨p, hp⟩ := word_suf s
  have hl := congrArg List.length hp
  rw [List.length_append] at hl
  have e : s.length - (word s).2.length = p.length := by omega
  unfold sub?
  rw [if_pos (by omega), e]
  simp only [Int.toNat_natCast, List.take_length, Option.bind_some]
  have : s.drop p.length = (word s).2 := by
    conv => lhs; rw [hp]
    simp
  rw [this]
theorem word_esc : ∀ (n r : List UInt8), word (esc n ++ r) = (n ++ (word r).1, (word r).2)
  | [], r => by simp [esc]
  | b :: n, r => by
    have ih := word_esc n r
    rw [esc_cons]
    unfold es1
    by_cases h : b.toNat ≤ 3
    · rw [if_pos h]
      simp only [List.cons_append, List.nil_append]
      rw [word_two 2 b _ rfl, ih]
    · rw [if_neg h]
      simp only [List.cons_append, List.nil_append]
      rw [word_big b _ (by omega), ih]
end Go.Proofs.Ytdphimcpcclifaa.Re
