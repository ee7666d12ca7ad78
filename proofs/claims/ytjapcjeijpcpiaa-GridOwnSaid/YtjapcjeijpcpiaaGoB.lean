/- Grid: GridOwn: the walk and what the machine tells, joined. -/
import Derived.Test.YtjapcjeijpcpiaaGoA
namespace Go.Proofs.Ytjapcjeijpcpiaa.Pm
open Go.Proofs.Ytjapcjeijpcpiaa.Args Go.RowKit Go.Proofs.Ytjapcjeijpcpiaa.Com
set_option linter.unusedVariables false
theorem GridOwn_walk (v0 v1 v2 v3 v4 v5 : Value) (w : World) (h0 : Arg none Go.Proofs.Try.prog w 24 v0) (h1 : Arg none Go.Proofs.Try.prog w 3 v1) (h2 : Arg none Go.Proofs.Try.prog w 3 v2) (h3 : Arg none Go.Proofs.Try.prog w 3 v3) (h4 : Arg none Go.Proofs.Try.prog w 3 v4) (h5 : Arg none Go.Proofs.Try.prog w 26 v5) : Calls Go.Proofs.Try.prog 4 #[v0, v1, v2, v3, v4, v5] w fun e w' => e = .returned (.bool true) ∧ Below w.heap.size w w' := by
  obtain ⟨c0, rfl, g0⟩ := h0.agg (.inl ⟨_, rfl⟩)
  obtain ⟨x, y0, r0⟩ := opn24.op none w _ g0
  obtain ⟨n1, rfl, _⟩ := h1.int rfl
  obtain ⟨n2, rfl, _⟩ := h2.int rfl
  obtain ⟨n3, rfl, _⟩ := h3.int rfl
  obtain ⟨n4, rfl, _⟩ := h4.int rfl
  obtain ⟨c5, rfl, g5⟩ := h5.agg (.inl ⟨_, rfl⟩)
  obtain ⟨z, y5, r5⟩ := opn26.op none w _ g5
  have q0 : RepV NoX w (fun _ _ => False) (.agg [.d (.int .i64 x.Wide), .d (.int .i64 x.High), .d (.sl x.Cells.length (e_GCell.cells x.Cells))]) (.agg c0) := arg_agg r0
  have q5 : RepV NoX w (fun _ _ => False) (.agg [.d (.int .i64 z.Flags), .d (.int .i64 z.Fore), .d (.int .i64 z.Back)]) (.agg c5) := arg_agg r5
  obtain ⟨⟨l0⟩, e0, u0, s0, g00, hu0, u1, s1, g01, hu1, u2, s2, g02, hu2, hs2⟩ := q0
  have hu0 : u0 = .int .i64 x.Wide := hu0
  have hu1 : u1 = .int .i64 x.High := hu1
  have hs2 : s2 = [] := hs2
  have g00 : l0 = u0 :: s0 := g00
  obtain ⟨ga, gc, rfl, hgd⟩ := hu2
  have hgs : RepD NoX w (.sl x.Cells.length (e_GCell.cells x.Cells)) (.slice ga x.Cells.length gc) := ⟨ga, gc, rfl, hgd⟩
  cases e0
  subst hs2 g02 g01 g00 hu0 hu1
  obtain ⟨⟨l5⟩, e5, z0, t0, k00, hz0, z1, t1, k01, hz1, z2, t2, k02, hz2, ht2⟩ := q5
  have hz0 : z0 = .int .i64 z.Flags := hz0
  have hz1 : z1 = .int .i64 z.Fore := hz1
  have hz2 : z2 = .int .i64 z.Back := hz2
  have ht2 : t2 = [] := ht2
  have k00 : l5 = z0 :: t0 := k00
  cases e5
  subst ht2 k02 k01 k00 hz0 hz1 hz2
  have hlen : x.Cells.length ≤ 4398046511104 := by
    have h : x.Cells.length * Go.Proofs.Try.prog.bytesOf 36 ≤ reachBytes := y0.2.2.1
    have hb : Go.Proofs.Try.prog.bytesOf 36 = 32 := by kernel_rfl
    rw [hb] at h
    have : reachBytes = 140737488351232 := rfl
    omega
  have hall := cellsInt x.Cells
  have aG : ∀ W, Below w.heap.size w W → RepV NoX W (fun _ _ => False) (.agg [.d (.int .i64 x.Wide), .d (.int .i64 x.High), .d (.sl x.Cells.length (e_GCell.cells x.Cells))]) (.agg #[.int .i64 x.Wide, .int .i64 x.High, .slice ga x.Cells.length gc]) := fun W hW =>
    ⟨_, rfl, _, _, rfl, rfl, _, _, rfl, rfl, _, _, rfl, rep_on hW hgs, rfl⟩
  have aP : ∀ W, RepV NoX W (fun _ _ => False) (.agg [.d (.int .i64 z.Flags), .d (.int .i64 z.Fore), .d (.int .i64 z.Back)]) (.agg #[.int .i64 z.Flags, .int .i64 z.Fore, .int .i64 z.Back]) := fun W =>
    ⟨_, rfl, _, _, rfl, rfl, _, _, rfl, rfl, _, _, rfl, rfl, rfl⟩
  refine own_walk w x.Wide x.High n1 n2 n3 n4 z.Flags z.Fore z.Back ga x.Cells.length gc (rowI (e_GCell.cells x.Cells)) ?_ ?_ ?_ ?_ ?_ ?_ ?_ ?_
  · intro W hW
    exact told_of (f10_ok base0 9 (by decide) x.Cells x.Cells (clone2 _ hlen)) hall (vs := [_]) ⟨_, _, rfl, rep_on hW hgs, rfl⟩
  · intro W hW
    exact tells_of (f7_ok base0 9 (by decide) x n1 n2 120 z _ (put_ok _ _ _ _ _)) (vs := [_, _, _, _, _]) ⟨_, _, rfl, aG W hW, _, _, rfl, rfl, _, _, rfl, rfl, _, _, rfl, rfl, _, _, rfl, aP W, rfl⟩
  · intro W hW
    exact tells_of (f8_ok base0 9 (by decide) x n1 n2 n3 z _ (fill_ok _ _ _ _ _)) (vs := [_, _, _, _, _]) ⟨_, _, rfl, aG W hW, _, _, rfl, rfl, _, _, rfl, rfl, _, _, rfl, rfl, _, _, rfl, aP W, rfl⟩
  · intro W hW
    exact tells_of (f9_ok base0 9 (by decide) x n1 n2 n3 n4 z _ (shift_ok _ _ _ _ _ _)) (vs := [_, _, _, _, _, _]) ⟨_, _, rfl, aG W hW, _, _, rfl, rfl, _, _, rfl, rfl, _, _, rfl, rfl, _, _, rfl, rfl, _, _, rfl, aP W, rfl⟩
  · intro W hW
    exact tells_of (f11_ok base0 9 (by decide) x n2 n3 n4 z _ (scroll_ok _ _ _ _ _)) (vs := [_, _, _, _, _]) ⟨_, _, rfl, aG W hW, _, _, rfl, rfl, _, _, rfl, rfl, _, _, rfl, rfl, _, _, rfl, aP W, rfl⟩
  · intro W hW
    exact tells_of (f12_ok base0 9 (by decide) x x.Wide x.High z _ (sizeop_ok _ _ _ _)) (vs := [_, _, _, _]) ⟨_, _, rfl, aG W hW, _, _, rfl, rfl, _, _, rfl, rfl, _, _, rfl, aP W, rfl⟩
  · intro W B a m c hW hc
    have hr := cont_rep hall hc
    have hcl : (e_GCell.cells x.Cells).length / 4 = x.Cells.length := by
      rw [e_GCell.cells_len]; exact Nat.mul_div_cancel _ (by decide)
    rw [hcl] at hr
    exact law_calls (base0_snd _) codes_ok (f13_ok base0 9 (by decide) x x true (same_grid2 x hlen)) ⟨_, _, rfl, aG W hW, _, _, rfl, ⟨_, rfl, _, _, rfl, rfl, _, _, rfl, rfl, _, _, rfl, hr, rfl⟩, rfl⟩
  · intro W
    exact law_calls (base0_snd _) codes_ok (f5_ok base0 9 (by decide) true lives) rfl
end Go.Proofs.Ytjapcjeijpcpiaa.Pm
