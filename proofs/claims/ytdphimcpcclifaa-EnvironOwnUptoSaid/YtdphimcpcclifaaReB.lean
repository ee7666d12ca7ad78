/- Environ: variables are read as they were written, and joined; the laws. -/
import Derived.Test.YtdphimcpcclifaaReA
namespace Go.Proofs.Ytdphimcpcclifaa.Re
open Go.Proofs.Ytdphimcpcclifaa.Pm
open Go.RowKit
set_option linter.unusedVariables false
set_option linter.unusedSimpArgs false
set_option maxRecDepth 100000
theorem sub_tail (x : UInt8) (t : List UInt8) : sub? (x :: t) 1 ((x :: t).length : Int) = some t := by
  unfold sub?; rw [if_pos (by simp; omega)]; simp
theorem idx_head {α : Type} (x : α) (t : List α) : idx (x :: t) 0 = some x := by unfold idx; simp
theorem nonil (x : UInt8) (t : List UInt8) : decide (x :: t = ([] : List UInt8)) = false := decide_eq_false (by simp)
/-- One round of reading: a variable more, or the end. -/
def rest1 (r : List UInt8) : List UInt8 := match r with
  | [] => []
  | x :: t => if x.toNat = 1 then (word t).2 else x :: t
theorem read_round (s : List UInt8) (out : List GVar) (x : UInt8) (t : List UInt8) (h : (x :: t).length ≤ 5000) (ho : out.length ≤ 100000) :
    (¬ (x.toNat = 0 ∨ x.toNat = 3) ∧ f7_l2 s (out, x :: t) = some (.inr (.inr ([], 4)))) ∨
    ((x.toNat = 0 ∨ x.toNat = 3) ∧ f7_l2 s (out, x :: t) = some (.inl (out ++ [⟨(word t).1, (match (word t).2 with | [] => [] | y :: u => if y.toNat = 1 then (word u).1 else []), decide (x.toNat = 3), (match (word t).2 with | [] => false | y :: u => decide (y.toNat = 1))⟩], rest1 (word t).2))) := by
  have hlt : t.length ≤ 5000 := by simp at h; omega
  have hw := word_len t
  have core : ∀ (u : Bool), f7_l2_j5 s out (x :: t) ⟨[], [], u, false⟩ = some (.inl (out ++ [⟨(word t).1, (match (word t).2 with | [] => [] | y :: u => if y.toNat = 1 then (word u).1 else []), u, (match (word t).2 with | [] => false | y :: u => decide (y.toNat = 1))⟩], rest1 (word t).2)) := by
    intro u
    unfold f7_l2_j5
    rw [sub_tail]
    simp only [Option.bind_some]
    rw [f14_eq t (by omega)]
    simp only [Option.bind_some]
    generalize (word t).1 = w1 at *
    generalize (word t).2 = w2 at *
    match w2, hw with
    | [], hw =>
      simp only [decide_true, Bool.not_true, cond_false]
      rw [app_ok 40 out _ (by simp; omega)]; rfl
    | y :: v, hw =>
      rw [nonil y v, idx_head]
      simp only [Bool.not_false, cond_true, Option.bind_some]
      by_cases hy : y.toNat = 1
      · rw [decide_eq_true (p := (y.toNat : Int) = 1) (by omega), sub_tail]
        simp only [cond_true, Option.bind_some]
        rw [f14_eq v (by simp at hw; omega)]
        simp only [Option.bind_some]
        rw [app_ok 40 out _ (by simp; omega)]
        unfold rest1
        simp [hy]
      · rw [decide_eq_false (p := (y.toNat : Int) = 1) (by omega)]
        simp only [cond_false]
        rw [app_ok 40 out _ (by simp; omega)]
        unfold rest1
        simp [hy]
  unfold f7_l2 f7_l2_j3
  rw [nonil x t]
  simp only [Bool.not_false, cond_true]
  rw [idx_head]
  simp only [Option.bind_some]
  unfold f7_l2_j4
  rw [idx_head]
  simp only [Option.bind_some]
  by_cases h0 : x.toNat = 0
  · rw [decide_eq_true (p := (x.toNat : Int) = 0) (by omega), decide_eq_false (p := (x.toNat : Int) = 3) (by omega), decide_eq_false (p := x.toNat = 3) (by omega)]
    simp only [Bool.not_true, cond_false]
    exact .inr ⟨.inl h0, core false⟩
  · rw [decide_eq_false (p := (x.toNat : Int) = 0) (by omega)]
    simp only [Bool.not_false, cond_true]
    by_cases h3 : x.toNat = 3
    · rw [decide_eq_true (p := (x.toNat : Int) = 3) (by omega), decide_eq_true (p := x.toNat = 3) h3]
      simp only [Bool.not_true, cond_false, cond_true]
      exact .inr ⟨.inr h3, core true⟩
    · rw [decide_eq_false (p := (x.toNat : Int) = 3) (by omega)]
      exact .inl ⟨by omega, rfl⟩
theorem rest1_len (r : List UInt8) : (rest1 r).length ≤ r.length := by
  unfold rest1
  split
  · simp
  · split
    · rename_i x t _
      have := word_len t
      simp; omega
    · simp
theorem read_end (s : List UInt8) (out : List GVar) : f7_l2 s (out, []) = some (.inr (.inl out)) := rfl
theorem read_any (s rest : List UInt8) (h : rest.length ≤ 5000) : ∃ r, loopO (f7_l2 s) ([], rest) = some r ∧ ((∃ l, r = .inl l) ∨ r = .inr ([], 4)) := by
  exact loopO_ind (body := f7_l2 s) (fun n x => x.2.length = n ∧ x.1.length + x.2.length ≤ 5000) (fun r => (∃ l, r = .inl l) ∨ r = .inr ([], 4)) (by
    rintro n ⟨out, r⟩ ⟨hn, hb⟩
    match r, hn with
    | [], hn => exact .inr ⟨_, read_end s out, .inl ⟨_, rfl⟩⟩
    | x :: t, hn =>
      have hb' : out.length + (x :: t).length ≤ 5000 := by simp only at hb; omega
      rcases read_round s out x t (by omega) (by omega) with ⟨_, e⟩ | ⟨_, e⟩
      · exact .inr ⟨_, e, .inr rfl⟩
      · refine .inl ⟨_, _, e, ?_, rfl, ?_⟩
        · have := rest1_len (word t).2
          have := word_len t
          simp only [List.length_cons] at hn ⊢; omega
        · have := rest1_len (word t).2
          have := word_len t
          simp only [List.length_cons, List.length_append, List.length_nil] at hb' ⊢; omega) (n := rest.length) (x := ([], rest)) ⟨rfl, by simp; omega⟩
/-- Read. -/
theorem f7_eq (s : List UInt8) : (∃ l, good l ∧ wr l = s ∧ s.length ≤ 4096 ∧ f7 s = some (l, 0)) ∨ ∃ e, e ≠ 0 ∧ f7 s = some ([], e) := by
  unfold f7
  by_cases h : s.length ≤ 4096
  · rw [decide_eq_false (by omega)]
    simp only [cond_false]
    unfold f7_j0
    obtain ⟨r, e, hr⟩ := read_any s s (by omega)
    rw [e]
    rcases hr with ⟨l, rfl⟩ | rfl
    · simp only [Option.bind_some, Sum.elim_inl]
      unfold f7_j1
      rcases f10_eq l with ⟨g, e1⟩ | ⟨_, z, hz, e1⟩
      · rw [e1]
        simp only [Option.bind_some, decide_true, Bool.not_true, cond_false]
        by_cases hw : wr l = s
        · rw [decide_eq_true hw]; exact .inl ⟨l, g, hw, h, rfl⟩
        · rw [decide_eq_false hw]; exact .inr ⟨4, by decide, rfl⟩
      · rw [e1]
        simp only [Option.bind_some]
        rw [decide_eq_false hz]
        exact .inr ⟨4, by decide, rfl⟩
    · exact .inr ⟨4, by decide, rfl⟩
  · rw [decide_eq_true (by omega)]; exact .inr ⟨2, by decide, rfl⟩
theorem wr_head (l : List GVar) : wr l = [] ∨ ∃ x t, wr l = x :: t ∧ (x.toNat = 0 ∨ x.toNat = 3) := by
  cases l with
  | nil => exact .inl rfl
  | cons v l =>
    rw [wr_cons]
    unfold item
    refine .inr ⟨_, _, rfl, ?_⟩
    cases v.User <;> simp
theorem word_wr (l : List GVar) : word (wr l) = ([], wr l) := by
  rcases wr_head l with h | ⟨x, t, h, hx⟩
  · rw [h, word_nil]
  · rw [h, word_end x t (by omega) (by omega)]
theorem read_wr (s : List UInt8) : ∀ (l out : List GVar), (∀ v ∈ l, form v) → (wr l).length ≤ 5000 → out.length + l.length ≤ 1000 → loopO (f7_l2 s) (out, wr l) = some (.inl (out ++ l))
  | [], out, _, _, _ => loopO_done (by rw [show wr [] = [] from rfl, read_end]; simp)
  | v :: l, out, hf, hl, ho => by
    have hv := hf v (List.mem_cons_self ..)
    rw [wr_cons] at hl ⊢
    rw [List.length_append] at hl
    rw [List.length_cons] at ho
    have ih := read_wr s l (out ++ [v]) (fun u hu => hf u (List.mem_cons_of_mem _ hu)) (by omega) (by simp; omega)
    rw [List.append_assoc] at ih
    refine loopO_next ?_ ih
    have hi : (item v).length + (wr l).length ≤ 5000 := hl
    unfold item at hi ⊢
    rw [List.cons_append]
    rcases read_round s out (if v.User then 3 else 0) ((esc v.Name ++ if v.Set then 1 :: esc v.Value else []) ++ wr l) (by simp at hi ⊢; omega) (by omega) with ⟨hn, _⟩ | ⟨_, e⟩
    · exact absurd (by cases v.User <;> simp) hn
    · rw [e]
      have hw : word ((esc v.Name ++ if v.Set then 1 :: esc v.Value else []) ++ wr l) = (v.Name, if v.Set then 1 :: (esc v.Value ++ wr l) else wr l) := by
        rw [List.append_assoc, word_esc]
        cases v.Set with
        | false => simp only [Bool.false_eq_true, if_false, List.nil_append, word_wr, List.append_nil]
        | true =>
          simp only [if_true, List.cons_append]
          rw [word_end 1 _ (by decide) (by decide)]; simp
      rw [hw]
      have hu : decide ((if v.User = true then (3 : UInt8) else 0).toNat = 3) = v.User := by cases v.User <;> rfl
      rw [hu]
      cases hs : v.Set with
      | true =>
        simp only [if_true]
        have hw2 : word (esc v.Value ++ wr l) = (v.Value, wr l) := by rw [word_esc, word_wr]; simp
        unfold rest1
        simp only [hw2]
        rw [if_pos (by decide), if_pos (by decide), decide_eq_true (by decide)]
        have : (⟨v.Name, v.Value, v.User, true⟩ : GVar) = v := by rw [← hs]
        rw [this]
      | false =>
        simp only [Bool.false_eq_true, if_false]
        have hv0 := hv hs
        have : (⟨v.Name, [], v.User, false⟩ : GVar) = v := by rw [← hs, ← hv0]
        rcases wr_head l with h | ⟨x, t, h, hx⟩
        · rw [h]; unfold rest1; simp only [this]
        · rw [h]; unfold rest1
          simp only [if_neg (show ¬ x.toNat = 1 by omega), decide_eq_false (show ¬ x.toNat = 1 by omega), this]
theorem f7_wr (l : List GVar) (hg : good l) (hl : (wr l).length ≤ 4096) : f7 (wr l) = some (l, 0) := by
  unfold f7
  rw [decide_eq_false (by omega)]
  simp only [cond_false]
  unfold f7_j0
  rw [read_wr (wr l) l [] hg.2.2 (by omega) (by have := hg.1; simp; omega)]
  simp only [Option.bind_some, Sum.elim_inl, List.nil_append]
  unfold f7_j1
  rcases f10_eq l with ⟨_, e⟩ | ⟨n, _⟩
  · rw [e]
    simp only [Option.bind_some, decide_true, Bool.not_true, cond_false]
  · exact absurd hg n
end Go.Proofs.Ytdphimcpcclifaa.Re
