/- Environ: EnvironTold, the plain law. -/
import Derived.Test.YtdphimcpcclifaaEnB
import Derived.Test.YtdphimcpcclifaaReC
namespace Go.Proofs.Ytdphimcpcclifaa.Pm
open Go.Proofs.Ytdphimcpcclifaa.Args
open Go.ChangeShapes Go.WideShapes Go.ChangeAt Go.RowKit
set_option linter.unusedVariables false
set_option linter.unusedSimpArgs false
set_option maxRecDepth 100000
theorem esc_re : ∀ s : List UInt8, Re.esc s = esc s := fun _ => rfl
theorem wr_re : ∀ l : List GVar, Re.wr (l.map toRe) = wr l
  | [] => rfl
  | x :: l => by
    rw [wr_cons, List.map_cons, Re.wr_cons, wr_re l]; rfl
theorem good_re {l : List GVar} (h : good l) : Re.good (l.map toRe) := by
  refine ⟨by rw [List.length_map]; exact h.1, fun v hv => ?_, fun v hv => ?_⟩ <;>
  · obtain ⟨x, hx, rfl⟩ := List.mem_map.1 hv
    first | exact h.2.1 x hx | exact h.2.2 x hx
theorem re_good {l : List GVar} (h : Re.good (l.map toRe)) : good l := by
  refine ⟨by have := h.1; rw [List.length_map] at this; exact this, fun v hv => ?_, fun v hv => ?_⟩
  · exact h.2.1 (toRe v) (List.mem_map.2 ⟨v, hv, rfl⟩)
  · exact h.2.2 (toRe v) (List.mem_map.2 ⟨v, hv, rfl⟩)
def fndG (hv : List GVar) (x : GVar) : GVar := hv.foldr (fun v f => if v.User = x.User ∧ v.Name = x.Name then v else f) x
theorem fnd_re (x : GVar) : ∀ hv : List GVar, foundQ (hv.map toRe) (toRe x) = toRe (fndG hv x)
  | [] => rfl
  | v :: hv => by
    have ih := fnd_re x hv
    show (if v.User = x.User ∧ v.Name = x.Name then toRe v else foundQ (hv.map toRe) (toRe x)) = toRe (if v.User = x.User ∧ v.Name = x.Name then v else fndG hv x)
    rw [ih]
    split <;> rfl
theorem fnd_or (x : GVar) : ∀ hv : List GVar, fndG hv x = x ∨ (fndG hv x ∈ hv ∧ (fndG hv x).Name = x.Name ∧ (fndG hv x).User = x.User)
  | [] => .inl rfl
  | v :: hv => by
    have ih := fnd_or x hv
    show (if v.User = x.User ∧ v.Name = x.Name then v else fndG hv x) = x ∨ ((if v.User = x.User ∧ v.Name = x.Name then v else fndG hv x) ∈ v :: hv ∧ (if v.User = x.User ∧ v.Name = x.Name then v else fndG hv x).Name = x.Name ∧ (if v.User = x.User ∧ v.Name = x.Name then v else fndG hv x).User = x.User)
    by_cases h : v.User = x.User ∧ v.Name = x.Name
    · rw [if_pos h]; exact .inr ⟨List.mem_cons_self .., h.2, h.1⟩
    · rw [if_neg h]
      rcases ih with e | ⟨a, b⟩
      · exact .inl e
      · exact .inr ⟨List.mem_cons_of_mem _ a, b⟩
def outG (hv want : List GVar) : List GVar := if want = [] then hv else want.map (fndG hv)
theorem out_re (hv want : List GVar) : Re.outT (hv.map toRe) (want.map toRe) = (outG hv want).map toRe := by
  unfold Re.outT outG
  by_cases h : want = []
  · subst h; rfl
  · rw [if_neg h, if_neg (fun e => h (List.map_eq_nil_iff.1 e)), List.map_map, List.map_map]
    exact List.map_congr_left fun x _ => fnd_re x hv
theorem ans_eq {hv want : List GVar} (g1 : good hv) (g2 : good want) (hn : ∀ v ∈ want, v.Name ≠ []) (hs : ∀ v ∈ want, v.Set = false) (hl : (wr want).length ≤ 4000) : fAns hv (1 :: wr want) = some (0 :: wr (outG hv want), 0) ∧ good (outG hv want) := by
  refine ⟨?_, re_good (by rw [← out_re]; exact Re.out_good (good_re g1) (good_re g2))⟩
  unfold fAns
  have := Re.ans_law (good_re g1) (good_re g2) (fun v hv => by obtain ⟨x, hx, rfl⟩ := List.mem_map.1 hv; exact hn x hx) (fun v hv => by obtain ⟨x, hx, rfl⟩ := List.mem_map.1 hv; exact hs x hx) (by rw [wr_re]; exact hl)
  rw [wr_re, out_re, wr_re] at this
  exact this
theorem inR_nat (i n : Nat) (h : i < n) : inR (i : Int) n = some i := by unfold inR; rw [if_pos (by omega)]; simp
theorem wrap_i (i : Nat) (h : i < 1000000000000000) : IntKind.i64.wrap ((i : Int) + 1) = ((i + 1 : Nat) : Int) := by rw [i64w _ (by omega)]; simp
/-- What is wanted is made so: a name, no value. -/
def fineV (v : GVar) : Prop := v.Name ≠ [] ∧ v.Set = false
theorem j12_eq (a1 a2 p : List GVar) (i : Nat) (hi : i < p.length) (hb : i < 1000000000000000) : f4_l9_j12 a1 a2 p (i : Int) (i : Int) = some (.inl (p.set i ⟨p[i].Name, [], p[i].User, false⟩, ((i + 1 : Nat) : Int))) := by
  unfold f4_l9_j12
  rw [inR_nat i _ hi]
  simp only [Option.bind_some, List.getElem?_eq_getElem hi, List.length_set, inR_nat i _ hi, List.getElem?_set_self hi, List.set_set]
  rw [wrap_i i hb]
theorem want_loop (a1 a2 : List GVar) (hb : a2.length * 40 ≤ 140737488355328) : ∀ (k : Nat) (w : List GVar) (i : Nat), i + k = a2.length → w.length = a2.length → (∀ (j : Nat) v, j < i → w[j]? = some v → fineV v) →
    ∃ w', loopO (f4_l9 a1 a2) (w, (i : Int)) = some w' ∧ w'.length = a2.length ∧ ∀ v ∈ w', fineV v
  | 0, w, i, hk, hw, hf => by
    refine ⟨w, loopO_done ?_, hw, fun v hv => ?_⟩
    · unfold f4_l9 f4_l9_j10
      rw [decide_eq_false (by show ¬ ((i : Int) < _); omega)]; rfl
    · obtain ⟨j, hj⟩ := List.mem_iff_getElem?.1 hv
      exact hf j v (by have := (List.getElem?_eq_some_iff.1 hj).1; omega) hj
  | k + 1, w, i, hk, hw, hf => by
    have hi : i < w.length := by omega
    have hc : f5 w = some w := by
      unfold f5
      rw [app_ok 40 [] w (by simp; omega)]; rfl
    obtain ⟨w2, hw2, hlen, hset⟩ : ∃ w2 : List GVar, f4_l9_j11 a1 a2 w (i : Int) = some (.inl (w2, ((i + 1 : Nat) : Int))) ∧ w2.length = w.length ∧ (∀ (j : Nat) v, j < i + 1 → w2[j]? = some v → fineV v) := by
      unfold f4_l9_j11
      rw [hc]
      simp only [Option.bind_some, inR_nat i _ hi, List.getElem?_eq_getElem hi]
      by_cases hn : w[i].Name = []
      · rw [decide_eq_true hn]
        simp only [cond_true]
        rw [j12_eq a1 a2 _ i (by rw [List.length_set]; exact hi) (by omega)]
        refine ⟨_, rfl, by simp, fun j v hj hv => ?_⟩
        rw [List.set_set] at hv
        by_cases e : j = i
        · subst e
          rw [List.getElem?_set_self hi] at hv
          cases hv
          refine ⟨?_, rfl⟩
          rw [List.getElem_set_self]; simp
        · rw [List.getElem?_set_ne (fun q => e q.symm)] at hv
          exact hf j v (by omega) hv
      · rw [decide_eq_false hn]
        simp only [cond_false]
        rw [j12_eq a1 a2 _ i hi (by omega)]
        refine ⟨_, rfl, by simp, fun j v hj hv => ?_⟩
        by_cases e : j = i
        · subst e
          rw [List.getElem?_set_self hi] at hv
          cases hv
          exact ⟨hn, rfl⟩
        · rw [List.getElem?_set_ne (fun q => e q.symm)] at hv
          exact hf j v (by omega) hv
    obtain ⟨w', h1, h2⟩ := want_loop a1 a2 hb k w2 (i + 1) (by omega) (by omega) hset
    refine ⟨w', loopO_next ?_ h1, h2⟩
    unfold f4_l9 f4_l9_j10
    rw [decide_eq_true (by show ((i : Int) < _); omega)]
    exact hw2
theorem gv_eq (a b : GVar) : (decide (a.Name = b.Name) && (decide (a.Value = b.Value) && (decide (a.User = b.User) && (decide (a.Set = b.Set) && true)))) = true ↔ a = b := by
  obtain ⟨n, v, u, s⟩ := a
  obtain ⟨n', v', u', s'⟩ := b
  simp
theorem has_loop (x : GVar) : ∀ (suf pre : List GVar), pre.length + suf.length ≤ 100000 → x ∈ suf → ∃ i : Nat, loopO (f18_l0 (pre ++ suf) x) (pre.length : Int) = some (.inr (i : Int))
  | [], pre, _, h => by cases h
  | y :: t, pre, h, hx => by
    have e1 : pre ++ y :: t = (pre ++ [y]) ++ t := by simp
    simp only [List.length_cons] at h
    by_cases e : x = y
    · refine ⟨pre.length, loopO_done ?_⟩
      unfold f18_l0 f18_l0_j1 f18_l0_j2
      simp only [lt_mid, cond_true, idx_mid, Option.bind_some]
      rw [(gv_eq x y).2 e]; rfl
    · obtain ⟨i, hi⟩ := has_loop x t (pre ++ [y]) (by simp; omega) ((List.mem_cons.1 hx).resolve_left e)
      rw [← e1] at hi
      refine ⟨i, loopO_next ?_ hi⟩
      unfold f18_l0 f18_l0_j1 f18_l0_j2
      simp only [lt_mid, cond_true, idx_mid, Option.bind_some]
      have : (decide (x.Name = y.Name) && (decide (x.Value = y.Value) && (decide (x.User = y.User) && (decide (x.Set = y.Set) && true)))) = false := by
        rw [← Bool.not_eq_true]; exact fun q => e ((gv_eq x y).1 q)
      rw [this, wrap_nx pre y (by omega)]; rfl
theorem has_ok (l : List GVar) (x : GVar) (h : l.length ≤ 100000) (hx : x ∈ l) : f11 l x = some true := by
  unfold f11 f18
  obtain ⟨i, hi⟩ := has_loop x l [] (by simp; omega) hx
  simp only [List.nil_append, List.length_nil] at hi
  rw [show ((0 : Int)) = ((0 : Nat) : Int) from rfl, hi]
  simp only [Option.bind_some, Sum.elim_inr]
  rw [decide_eq_true (p := ((0 : Nat) : Int) ≤ (i : Int)) (by omega)]; rfl
theorem cmp_loop (a1 a2 want : List GVar) (ha : a1.length ≤ 20) (hw : want.length ≤ 20) : ∀ (k i : Nat), i + k = want.length →
    loopO (f4_l5 a1 a2) (want, want.map (fndG a1), ((want.map (fndG a1)).length : Int), (i : Int)) = some (.inl (want, want.map (fndG a1)))
  | 0, i, hk => loopO_done (by
      unfold f4_l5 f4_l5_j6
      rw [decide_eq_false (by show ¬ ((i : Int) < ((want.map (fndG a1)).length : Int)); rw [List.length_map]; omega)]; rfl)
  | k + 1, i, hk => by
    refine loopO_next ?_ (cmp_loop a1 a2 want ha hw k (i + 1) (by omega))
    have hi : i < want.length := by omega
    have hi2 : i < (want.map (fndG a1)).length := by rw [List.length_map]; exact hi
    have hg : (want.map (fndG a1))[i]? = some (fndG a1 want[i]) := by rw [List.getElem?_map, List.getElem?_eq_getElem hi]; rfl
    have hx : idx want (i : Int) = some want[i] := by unfold idx; rw [if_pos (by omega)]; simp [hi]
    unfold f4_l5 f4_l5_j6 f4_l5_j7
    rw [decide_eq_true (by show ((i : Int) < ((want.map (fndG a1)).length : Int)); omega)]
    simp only [cond_true]
    rw [decide_eq_true (by show (((want.map (fndG a1)).length : Int) = (want.length : Int)); rw [List.length_map])]
    simp only [Bool.not_true, cond_false, inR_nat i _ hi2, Option.bind_some, hg, hx]
    rw [wrap_i i (by omega)]
    rcases fnd_or want[i] a1 with e | ⟨e1, e2, e3⟩
    · rw [(gv_eq _ _).2 e, decide_eq_true (p := (fndG a1 want[i]).Name = want[i].Name) (by rw [e]), decide_eq_true (p := (fndG a1 want[i]).User = want[i].User) (by rw [e])]; rfl
    · rw [decide_eq_true e2, decide_eq_true e3, has_ok a1 _ (by omega) e1]
      simp only [Bool.not_true, cond_false, Option.bind_some]
      cases h : (decide ((fndG a1 want[i]).Value = want[i].Value) && (decide ((fndG a1 want[i]).Set = want[i].Set) && true)) <;> simp
theorem told (a1 a2 : List GVar) (hb : a2.length * 40 ≤ 140737488355328) : f4 a1 a2 = some true := by
  unfold f4
  obtain ⟨w, h1, h2, h3⟩ := want_loop a1 a2 hb a2.length a2 0 (by omega) rfl (fun j v hj _ => by omega)
  rw [show ((a2, 0) : List GVar × Int) = (a2, ((0 : Nat) : Int)) from rfl, h1]
  simp only [Option.bind_some]
  unfold f4_j0
  rw [lives]
  rcases f10_eq w with ⟨gw, ew⟩ | ⟨_, z, hz, ew⟩
  · rcases f10_eq a1 with ⟨ga, ea⟩ | ⟨_, z, hz, ea⟩
    · rw [ew, ea]
      simp only [Option.bind_some, Bool.not_true, cond_false, decide_true]
      by_cases hl : (wr w).length ≤ 4000
      · rw [decide_eq_false (by omega)]
        simp only [cond_false]
        unfold f4_j1
        have hc : cat? [1] (wr w) = some (1 :: wr w) := by
          unfold cat?
          rw [if_pos (by show (((1 : Nat) + (wr w).length : Nat) : Int) ≤ 9223372036854775807; omega)]; rfl
        obtain ⟨hA, go⟩ := ans_eq ga gw (fun v hv => (h3 v hv).1) (fun v hv => (h3 v hv).2) hl
        rw [hc]
        simp only [Option.bind_some]
        rw [hA]
        simp only [Option.bind_some, decide_true, Bool.not_true, cond_false]
        rw [nonil, idx_head]
        simp only [Option.bind_some, cond_false]
        rw [decide_eq_true (by rfl)]
        simp only [Bool.not_true, cond_false]
        unfold f4_j2
        by_cases hl2 : (wr (outG a1 w)).length ≤ 4096
        · rw [decide_eq_false (by simp; omega)]
          simp only [cond_false]
          unfold f4_j3
          rw [sub_tail]
          simp only [Option.bind_some]
          rw [f7_wr _ go hl2]
          simp only [Option.bind_some, decide_true, Bool.not_true, cond_false]
          by_cases hw0 : w = []
          · subst hw0
            rw [decide_eq_true (by rfl)]
            simp only [cond_true]
            unfold f4_j8
            have : outG a1 [] = a1 := rfl
            rw [this, f9_same a1 (by have := ga.1; omega)]; rfl
          · have hw1 : w.length ≠ 0 := fun e => hw0 (List.eq_nil_of_length_eq_zero e)
            rw [decide_eq_false (by omega)]
            simp only [cond_false]
            unfold f4_j4
            have : outG a1 w = w.map (fndG a1) := if_neg hw0
            rw [this]
            have := cmp_loop a1 a2 w ga.1 gw.1 w.length 0 (by omega)
            rw [show ((0 : Int)) = ((0 : Nat) : Int) from rfl, this]
            simp only [Option.bind_some, Sum.elim_inl]
            rw [decide_eq_true (by rw [List.length_map])]; rfl
        · rw [decide_eq_true (by simp; omega)]; rfl
      · rw [decide_eq_true (by omega)]; rfl
    · rw [ew, ea]
      simp only [Option.bind_some, Bool.not_true, cond_false, decide_true]
      rw [decide_eq_false hz]; rfl
  · have : ∃ r, f10 a1 = some r := by
      rcases f10_eq a1 with ⟨_, e⟩ | ⟨_, z, _, e⟩ <;> exact ⟨_, e⟩
    obtain ⟨r, e⟩ := this
    rw [ew, e]
    simp only [Option.bind_some, Bool.not_true, cond_false]
    rw [decide_eq_false hz]; rfl
theorem EnvironTold_walk (v0 v1 : Value) (w : World) (h0 : Arg none Go.Proofs.Try.prog w 22 v0) (h1 : Arg none Go.Proofs.Try.prog w 22 v1) : Calls Go.Proofs.Try.prog 4 #[v0, v1] w fun e w' => e = .returned (.bool true) ∧ Below w.heap.size w w' :=
  EnvironTold_calls none (fun a1 a2 _ h2 => told a1 a2 (by
    have h : a2.length * Go.Proofs.Try.prog.bytesOf 25 ≤ reachBytes := h2.1
    have hb : Go.Proofs.Try.prog.bytesOf 25 = 40 := by kernel_rfl
    have hr : reachBytes = 140737488351232 := rfl
    rw [hb] at h; omega)) v0 v1 w h0 h1
end Go.Proofs.Ytdphimcpcclifaa.Pm
