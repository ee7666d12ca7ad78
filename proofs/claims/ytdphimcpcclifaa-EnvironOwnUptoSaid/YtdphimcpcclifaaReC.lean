/- Environ: what is wanted of what was written; what Answer tells. -/
import Derived.Test.YtdphimcpcclifaaReB
import Derived.Test.YtdphimcpcclifaaLibN
namespace Go.Proofs.Ytdphimcpcclifaa.Re
open Go.Proofs.Ytdphimcpcclifaa.Pm
open Go.RowKit
set_option linter.unusedVariables false
set_option linter.unusedSimpArgs false
set_option maxRecDepth 100000
theorem set_loop : ∀ (suf pre : List GVar), pre.length + suf.length ≤ 100000 → (∀ v ∈ suf, v.Set = false) → loopO (f21v1_l0 (pre ++ suf)) (pre.length : Int) = some (.inl ())
  | [], pre, h, _ => loopO_done (by
      unfold f21v1_l0 f21v1_l0_j1
      simp only [lt_end, cond_false])
  | x :: t, pre, h, hs => by
    have e1 : pre ++ x :: t = (pre ++ [x]) ++ t := by simp
    simp only [List.length_cons] at h
    have hf : f19 x = some false := by unfold f19; rw [hs x (List.mem_cons_self ..)]
    have hn : f21v1_l0 (pre ++ x :: t) (pre.length : Int) = some (.inl ((pre ++ [x]).length : Int)) := by
      unfold f21v1_l0 f21v1_l0_j1 f21v1_l0_j2
      simp only [lt_mid, cond_true, idx_mid, Option.bind_some, hf, cond_false]
      rw [wrap_nx pre x (by omega)]
    have := set_loop t (pre ++ [x]) (by simp; omega) fun v hv => hs v (List.mem_cons_of_mem _ hv)
    rw [← e1] at this
    exact loopO_next hn this
theorem wanted_wr (l : List GVar) (hg : good l) (hs : ∀ v ∈ l, v.Set = false) (hl : (wr l).length ≤ 4096) : f12 (wr l) = some (l, 0) := by
  unfold f12
  rw [f7_wr l hg hl]
  simp only [Option.bind_some, decide_true, Bool.not_true, cond_false]
  unfold f12_j0 f15v1 f21v1
  have := set_loop l [] (by have := hg.1; simp; omega) hs
  simp only [List.nil_append, List.length_nil] at this
  rw [show ((0 : Int)) = ((0 : Nat) : Int) from rfl, this]
  rfl
theorem found_or (x : GVar) : ∀ hv : List GVar, foundQ hv x = x ∨ (foundQ hv x ∈ hv ∧ (foundQ hv x).Name = x.Name ∧ (foundQ hv x).User = x.User)
  | [] => .inl rfl
  | v :: hv => by
    show (if v.User = x.User ∧ v.Name = x.Name then v else foundQ hv x) = x ∨ ((if v.User = x.User ∧ v.Name = x.Name then v else foundQ hv x) ∈ v :: hv ∧ _ ∧ _)
    have ih := found_or x hv
    show (if v.User = x.User ∧ v.Name = x.Name then v else foundQ hv x) = x ∨ ((if v.User = x.User ∧ v.Name = x.Name then v else foundQ hv x) ∈ v :: hv ∧ (if v.User = x.User ∧ v.Name = x.Name then v else foundQ hv x).Name = x.Name ∧ (if v.User = x.User ∧ v.Name = x.Name then v else foundQ hv x).User = x.User)
    by_cases h : v.User = x.User ∧ v.Name = x.Name
    · rw [if_pos h]; exact .inr ⟨List.mem_cons_self .., h.2, h.1⟩
    · rw [if_neg h]
      rcases ih with e | ⟨a, b⟩
      · exact .inl e
      · exact .inr ⟨List.mem_cons_of_mem _ a, b⟩
theorem pick_one (hv : List GVar) : ∀ l : List GVar, (∀ v ∈ l, v.Name ≠ []) → l.flatMap (pickQ hv) = l.map (foundQ hv)
  | [], _ => rfl
  | x :: l, h => by
    rw [List.flatMap_cons, pick_one hv l fun v hv => h v (List.mem_cons_of_mem _ hv)]
    unfold pickQ
    rw [if_pos (h x (List.mem_cons_self ..))]; rfl
def outT (hv want : List GVar) : List GVar := if want = [] then hv else want.map (foundQ hv)
theorem out_good {hv want : List GVar} (g1 : good hv) (g2 : good want) : good (outT hv want) := by
  unfold outT
  split
  · exact g1
  · refine ⟨by rw [List.length_map]; exact g2.1, fun v hv' => ?_, fun v hv' => ?_⟩ <;>
    · obtain ⟨x, hx, rfl⟩ := List.mem_map.1 hv'
      rcases found_or x hv with e | ⟨a, _⟩
      · rw [e]; first | exact g2.2.1 x hx | exact g2.2.2 x hx
      · first | exact g1.2.1 _ a | exact g1.2.2 _ a
theorem wr_len : ∀ l : List GVar, (∀ v ∈ l, short v) → (wr l).length ≤ 802 * l.length
  | [], _ => by simp [wr]
  | x :: l, h => by
    have h1 := item_len x (h x (List.mem_cons_self ..))
    have h2 := wr_len l fun v hv => h v (List.mem_cons_of_mem _ hv)
    rw [wr_cons, List.length_append, List.length_cons]; omega
theorem ans_law {hv want : List GVar} (g1 : good hv) (g2 : good want) (hn : ∀ v ∈ want, v.Name ≠ []) (hs : ∀ v ∈ want, v.Set = false) (hl : (wr want).length ≤ 4000) : libAnswer hv (1 :: wr want) = some (0 :: wr (outT hv want), 0) := by
  have hg := out_good g1 g2
  have ho : outQ hv want = outT hv want := by
    unfold outQ outT
    split
    · rfl
    · exact pick_one hv want hn
  have h1 := g1.1
  have h2 := g2.1
  have h3 := wr_len _ hg.2.1
  have h4 := hg.1
  unfold libAnswer
  rw [if_pos ⟨by omega, by simp; omega⟩]
  simp only [if_true]
  rw [wanted_wr want g2 hs (by omega)]
  simp only [Option.bind_some]
  rw [if_pos (by omega)]
  simp only [if_true]
  rw [ho]
  rcases f10_eq (outT hv want) with ⟨_, e⟩ | ⟨n, _⟩
  · rw [e]
    simp only [Option.bind_some]
    rw [if_pos (by omega)]; rfl
  · exact absurd hg n
end Go.Proofs.Ytdphimcpcclifaa.Re
