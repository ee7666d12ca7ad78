/- Environ: EnvironOwn: the walk and what the machine tells, joined. -/
import Derived.Test.YtdphimcpcclifaaOwA
namespace Go.Proofs.Ytdphimcpcclifaa.Pm
open Go.Proofs.Ytdphimcpcclifaa.Args Go.RowKit Go.Proofs.Ytdphimcpcclifaa.Com
set_option linter.unusedVariables false
theorem vscal : ∀ xs : List GVar, (e_GVar.cells xs).all scal = true := fun xs => by rw [cells_re]; exact cells_scal _
theorem rep_on {E : Nat → Prop} {w W : World} {x : PD} {v : Value} (hB : Below w.heap.size w W) (h : RepD E w x v) : RepD NoX W x v :=
  RepD.keep ⟨hB.size, fun b hb _ => ⟨hB.block b hb, fun h => h.elim⟩⟩ x v h
theorem own_cont {w w' : World} {φ1 β : Nat → Phys} {r : PV} {v s : Value} {φ0 : Nat → Phys} {l : List GVar} (ho : OutOk (fun _ => False) w w' φ0 [] r [] v φ1 β) (hm : (0, Blk.own 25 4 (e_GVar.cells l)) ∈ ownsAll r [])
    (hr : RefOut φ1 [] β (.own 0 25 4 l.length (e_GVar.cells l)) s) : Cont w' w.heap.size ((e_GVar.cells l).map valD) s := by
  have hown := ho.own _ hm
  obtain ⟨_, hlen, hr⟩ := hr
  cases hβ : β 0 with
  | nil a =>
    simp only [hβ] at hr
    obtain ⟨rfl, hc⟩ := hr
    exact .inl ⟨by rw [hc]; rfl, _, rfl⟩
  | blk b c =>
    simp only [hβ] at hr hown
    obtain ⟨rfl, hmc⟩ := hr
    obtain ⟨_, cur, xs, p1, p2, p3, p4, p5, p6, p7⟩ := hown
    have hx := vals_rep (vscal l) p7
    exact .inr ⟨b, _, c, cur, rfl, by rw [List.length_map, hlen], hmc, p3, (ho.new 0 b c hβ).1, p1, p2, by rw [List.length_map, p6, hx]⟩
theorem told_clone {l : List GVar} (h : l.length * 40 ≤ 140737488355328) {W : World} {v : Value} (hv : RepD NoX W (.sl l.length (e_GVar.cells l)) v) :
    Calls Go.Proofs.Try.prog 5 #[v] W fun e W' => ∃ s, e = .returned s ∧ Below W.heap.size W W' ∧ Cont W' W.heap.size ((e_GVar.cells l).map valD) s := by
  have hc : f5 l = some l := by
    unfold f5
    rw [app_ok 40 [] l (by simp; omega)]; rfl
  refine (lev_calls (baseL_snd _ _) codes_ok (f5_ok 9 (by decide) l l hc) (vs := [v]) ⟨_, _, rfl, hv, rfl⟩).mono ?_
  rintro e w' ⟨v', φ1, β, rfl, hbl, ho⟩
  exact ⟨v', rfl, hbl, own_cont ho (by show _ ∈ [(0, Blk.own 25 4 (e_GVar.cells l))]; simp) ho.rep⟩
theorem told_read {data : List UInt8} {l : List GVar} {er : Int} (h : f7 data = some (l, er)) (W : World) :
    Calls Go.Proofs.Try.prog 7 #[.string ⟨data.toArray⟩] W fun e W' => ∃ s, e = .returned (.tuple #[s, .int .i64 er]) ∧ Below W.heap.size W W' ∧ Cont W' W.heap.size ((e_GVar.cells l).map valD) s := by
  refine (lev_calls (baseL_snd _ _) codes_ok (f7_ok 9 (by decide) data (l, er) h) (vs := [_]) ⟨_, _, rfl, rfl, rfl⟩).mono ?_
  rintro e w' ⟨v, φ1, β, rfl, hbl, ho⟩
  have hr : RepV _ w' (RefOut φ1 [] β) (.tup [.r (.own 0 25 4 l.length (e_GVar.cells l)), .d (.int .i64 er)]) v := ho.rep
  obtain ⟨⟨l1⟩, rfl, v1, r1, e1, hv1, v2, r2, e2, hv2, hr2⟩ := hr
  have hv2 : v2 = .int .i64 er := hv2
  have hr2 : r2 = [] := hr2
  have e1 : l1 = v1 :: r1 := e1
  subst hr2 e2 e1 hv2
  exact ⟨v1, rfl, hbl, own_cont ho (by show _ ∈ [(0, Blk.own 25 4 (e_GVar.cells l))]; simp) hv1⟩
theorem cont_rep {W : World} {B : Nat} {l : List GVar} {u : Value} (h : Cont W B ((e_GVar.cells l).map valD) u) : RepD NoX W (.sl l.length (e_GVar.cells l)) u := by
  rcases h with ⟨h1, a, rfl⟩ | ⟨b, n, c, cur, rfl, h2, h3, h4, h5, h6, _, h7⟩
  · have hc := List.map_eq_nil_iff.1 h1
    have hl := e_GVar.cells_len l
    rw [hc] at hl
    have hk : e_GVar.k = 4 := rfl
    rw [hk, List.length_nil] at hl
    have : l = [] := List.eq_nil_of_length_eq_zero (by omega)
    subst this
    exact ⟨a, 0, rfl, Nat.le_refl _, Nat.zero_le _, fun _ => rfl, .inl rfl⟩
  · rw [List.length_map, e_GVar.cells_len] at h2
    have hk : e_GVar.k = 4 := rfl
    rw [hk] at h2
    obtain rfl : l.length = n := by omega
    refine ⟨some ⟨b, 0, none⟩, c, rfl, h3, h4, nofun, .inr ⟨b, 0, rfl, fun hx => hx.elim, h6.lt, RepC.of fun j x hj => ?_⟩⟩
    have hs : scal x = true := (List.all_eq_true.1 (vscal l)) x (List.mem_of_getElem? hj)
    refine ⟨valD x, ?_, scal_rep2 hs⟩
    rw [Nat.zero_add, h6.cell]
    have hg : ((e_GVar.cells l).map valD)[j]? = some (valD x) := by rw [List.getElem?_map, hj]; rfl
    have hjl := (List.getElem?_eq_some_iff.1 hg).1
    rw [← h7, List.getElem?_take, if_pos hjl] at hg
    simpa using hg
theorem eq_big (l : List GVar) : ∀ (suf pre : List GVar), pre ++ suf = l → l.length ≤ 10000000 → loopO (f9_l1 l l) (pre.length : Int) = some (.inl ())
  | [], pre, e, h => loopO_done (by
      subst e
      unfold f9_l1 f9_l1_j2
      simp only [lt_end, cond_false])
  | x :: t, pre, e, h => by
    have hx : l = pre ++ x :: t := e.symm
    refine loopO_next ?_ (eq_big l t (pre ++ [x]) (by simp [hx]) h)
    have hp : pre.length < 1000000000 := by rw [hx] at h; simp at h; omega
    rw [hx]
    unfold f9_l1 f9_l1_j2 f9_l1_j3
    simp only [lt_mid, cond_true, idx_mid, Option.bind_some, decide_true, Bool.and_self, Bool.not_true, cond_false]
    rw [wrap_nx pre x hp]
theorem same_big (l : List GVar) (h : l.length ≤ 10000000) : f9 l l = some true := by
  unfold f9
  rw [decide_eq_true rfl]
  simp only [Bool.not_true, cond_false]
  unfold f9_j0
  have := eq_big l l [] rfl h
  rw [show ((0 : Int)) = (([] : List GVar).length : Int) from rfl, this]; rfl
theorem Re.set_any : ∀ (suf pre : List Re.GVar), pre.length + suf.length ≤ 100000 → loopO (Re.f21v1_l0 (pre ++ suf)) (pre.length : Int) = some (.inl ()) ∨ ∃ i : Nat, loopO (Re.f21v1_l0 (pre ++ suf)) (pre.length : Int) = some (.inr (i : Int))
  | [], pre, h => .inl (loopO_done (by
      unfold Re.f21v1_l0 Re.f21v1_l0_j1
      simp only [lt_end, cond_false]))
  | x :: t, pre, h => by
    have e1 : pre ++ x :: t = (pre ++ [x]) ++ t := by simp
    simp only [List.length_cons] at h
    cases hs : x.Set with
    | true =>
      refine .inr ⟨pre.length, loopO_done ?_⟩
      unfold Re.f21v1_l0 Re.f21v1_l0_j1 Re.f21v1_l0_j2
      have hf : Re.f19 x = some true := by unfold Re.f19; rw [hs]
      simp only [lt_mid, cond_true, idx_mid, Option.bind_some, hf]
    | false =>
      have hf : Re.f19 x = some false := by unfold Re.f19; rw [hs]
      have hn : Re.f21v1_l0 (pre ++ x :: t) (pre.length : Int) = some (.inl ((pre ++ [x]).length : Int)) := by
        unfold Re.f21v1_l0 Re.f21v1_l0_j1 Re.f21v1_l0_j2
        simp only [lt_mid, cond_true, idx_mid, Option.bind_some, hf, cond_false]
        rw [wrap_nx pre x (by omega)]
      have := Re.set_any t (pre ++ [x]) (by simp; omega)
      rw [← e1] at this
      rcases this with e | ⟨i, e⟩
      · exact .inl (loopO_next hn e)
      · exact .inr ⟨i, loopO_next hn e⟩
theorem Re.has_set (l : List Re.GVar) (h : l.length ≤ 1000) : ∃ b, Re.f15v1 l = some b := by
  unfold Re.f15v1 Re.f21v1
  have := Re.set_any l [] (by simp; omega)
  simp only [List.nil_append, List.length_nil] at this
  rw [show ((0 : Int)) = ((0 : Nat) : Int) from rfl]
  rcases this with e | ⟨i, e⟩
  · rw [e]; exact ⟨_, rfl⟩
  · rw [e]
    simp only [Option.bind_some, Sum.elim_inr]
    rw [decide_eq_true (p := ((0 : Nat) : Int) ≤ (i : Int)) (by omega)]
    exact ⟨_, rfl⟩
theorem ans_total (hv : List Re.GVar) (data : List UInt8) (h1 : hv.length ≤ 2000000) (h2 : data.length ≤ 10000000) : ∃ r, libAnswer hv data = some r := by
  unfold libAnswer
  rw [if_pos ⟨h1, h2⟩]
  cases data with
  | nil => exact ⟨_, rfl⟩
  | cons b rest =>
    by_cases hb : b = 1
    · simp only [if_pos hb]
      have : ∃ l e, Re.f12 rest = some (l, e) ∧ l.length ≤ 20 ∧ (e = 0 → Re.good l) := by
        rcases Re.f7_eq rest with ⟨l, hg, _, _, e⟩ | ⟨z, hz, e⟩
        · unfold Re.f12
          rw [e]
          simp only [Option.bind_some, decide_true, Bool.not_true, cond_false]
          unfold Re.f12_j0
          obtain ⟨b, hb⟩ := Re.has_set l (by have := hg.1; omega)
          rw [hb]
          cases b
          · exact ⟨l, 0, rfl, hg.1, fun _ => hg⟩
          · exact ⟨[], 4, rfl, Nat.zero_le _, fun h => by cases h⟩
        · refine ⟨[], z, ?_, Nat.zero_le _, fun h => absurd h hz⟩
          unfold Re.f12
          rw [e]
          simp only [Option.bind_some]
          rw [decide_eq_false hz]; rfl
      obtain ⟨l, e, hw, hl, hg⟩ := this
      rw [hw]
      simp only [Option.bind_some]
      rw [if_pos (by omega)]
      by_cases he : e = 0
      · rw [if_pos he]
        rcases Re.f10_eq (outQ hv l) with ⟨g, e1⟩ | ⟨_, z, hz, e1⟩
        · rw [e1]
          simp only [Option.bind_some]
          have h3 := Re.wr_len _ g.2.1
          have h4 := g.1
          rw [if_pos (by omega)]
          exact ⟨_, rfl⟩
        · rw [e1]
          exact ⟨_, rfl⟩
      · rw [if_neg he]; exact ⟨_, rfl⟩
    · simp only [if_neg hb]; exact ⟨_, rfl⟩
theorem EnvironOwn_walk (v0 v1 : Value) (w : World) (h0 : Arg (some 1048576) Go.Proofs.Try.prog w 22 v0) (h1 : Arg (some 1048576) Go.Proofs.Try.prog w 9 v1) : Calls Go.Proofs.Try.prog 3 #[v0, v1] w fun e w' => e = .returned (.bool true) ∧ Below w.heap.size w w' := by
  obtain ⟨v0', rfl, g0, _⟩ := h0.slice rfl
  obtain ⟨x, y0, r0⟩ := (opn_sl (P := Go.Proofs.Try.prog) (t := 22) (e := 25) rfl rfl opn25 (Nat.le_of_ble_eq_true rfl)).op (some 1048576) w _ g0
  obtain ⟨u0, _, e0, r0, q0⟩ := r0
  cases q0; cases e0
  obtain ⟨s, y1, r1⟩ := (opn_str (P := Go.Proofs.Try.prog) (t := 9) rfl rfl).op (some 1048576) w _ h1.1
  obtain ⟨n1, rfl, _⟩ := h1.string rfl
  obtain ⟨u1, _, e1, r1, q1⟩ := r1
  cases q1; cases e1
  have r1 : Value.string n1 = .string ⟨s.toArray⟩ := r1
  cases r1
  have hx : x.length ≤ 1048576 := y0.1
  have hs : s.length ≤ 1048576 := y1.2
  obtain ⟨pa, pc, rfl, hgd⟩ := r0
  have r0 : RepD NoX w (.sl x.length (e_GVar.cells x)) (.slice pa x.length pc) := ⟨pa, pc, rfl, hgd⟩
  obtain ⟨l, er, hl, hrd⟩ : ∃ (l : List GVar) (er : Int), l.length ≤ 20 ∧ f7 s = some (l, er) := by
    rcases f7_eq s with ⟨l, hg, _, _, e⟩ | ⟨z, _, e⟩
    · exact ⟨l, 0, hg.1, e⟩
    · exact ⟨[], z, Nat.zero_le _, e⟩
  refine own_walk w pa x.length pc ⟨s.toArray⟩ er ((e_GVar.cells x).map valD) ((e_GVar.cells l).map valD) ?_ ?_ ?_ ?_ ?_ ?_ ?_
  · intro W hW
    exact told_clone (by omega) (rep_on hW r0)
  · intro W hW
    obtain ⟨r, hr⟩ := ans_total (x.map toRe) s (by rw [List.length_map]; omega) (by omega)
    have h := rep_on hW r0
    rw [cells_re, ← List.length_map (f := toRe)] at h
    have := answers hr h
    rw [List.length_map] at this
    exact this.mono fun e W' ⟨a, b⟩ => ⟨_, a, b⟩
  · intro W
    exact told_read hrd W
  · intro W B v hv
    exact told_clone (by omega) (cont_rep hv)
  · intro W
    exact law_calls (baseL_snd _ _) codes_ok (f8_ok 9 (by decide) true lives) rfl
  · intro W B v hW hv
    have hn : x.length ≤ 10000000 := by omega
    exact law_calls (baseL_snd _ _) codes_ok (f9_ok 9 (by decide) x x true (same_big x hn)) (vs := [_, _]) ⟨_, _, rfl, rep_on hW r0, ⟨_, _, rfl, cont_rep hv, rfl⟩⟩
  · intro W B B' u v hu hv
    exact law_calls (baseL_snd _ _) codes_ok (f9_ok 9 (by decide) l l true (same_big l (by omega))) (vs := [_, _]) ⟨_, _, rfl, cont_rep hu, ⟨_, _, rfl, cont_rep hv, rfl⟩⟩
end Go.Proofs.Ytdphimcpcclifaa.Pm
