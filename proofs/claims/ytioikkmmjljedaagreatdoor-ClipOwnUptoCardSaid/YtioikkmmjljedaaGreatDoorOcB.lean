/- clip: ClipOwn: the walk and what the machine tells, joined. -/
import Derived.Test.YtioikkmmjljedaaGreatDoorOcA
import Derived.Test.YtioikkmmjljedaaGreatDoorClA
namespace Go.Proofs.YtioikkmmjljedaaGreatDoor.Pm
open Go.Proofs.YtioikkmmjljedaaGreatDoor.Args Go.RowKit
set_option linter.unusedVariables false
set_option maxHeartbeats 1000000 in
theorem collect_raw {E : Nat → Prop} {w : World} (hE : ∀ b, E b → b < w.heap.size) {ds : List PD} {rs : List (List PD)} (hr : clRows ds = some rs) {b o : Nat} (hb : b < w.heap.size) (hc : RepC E w ds b o) :
    Calls Go.Proofs.Tryz.prog 18 #[.func (.func 32) #[] #[.pointer (some ⟨b, o, none⟩)]] w fun e w' => ∃ v, e = .returned v ∧ Below w.heap.size w w' ∧ ∃ xs : List Value, xs.length = (rs.map rowI).length ∧ w'.ownsRow w.heap.size 22 1 v xs.length xs ∧ Cl.Conts w.heap.size 51 4 (rs.map rowI) xs w' := by
  unfold clRows at hr
  split at hr
  · rename_i wd hi gn gc pn pc e0 e1 e2 e32
    split at hr
    · rename_i hok
      obtain ⟨⟨hw0, hw1, hh0, hh1⟩, hwh, hgl, hgp, hpl, hpn⟩ := hok
      have hgl := Nat.eq_of_beq_eq_true hgl
      split at hr
      · rename_i l hl
        cases hr
        obtain ⟨v0, c0, r0⟩ := hc.get 0 _ e0
        obtain ⟨v1, c1, r1⟩ := hc.get 1 _ e1
        obtain ⟨v2, c2, r2⟩ := hc.get 2 _ e2
        obtain ⟨v32, c32, r32⟩ := hc.get 32 _ e32
        have r0 : v0 = .int .i64 wd := r0
        have r1 : v1 = .int .i64 hi := r1
        obtain ⟨wn, rfl⟩ := Int.eq_ofNat_of_zero_le hw0
        obtain ⟨hn, rfl⟩ := Int.eq_ofNat_of_zero_le hh0
        simp only [Int.toNat_natCast] at hwh ⊢
        obtain ⟨pl1, pl2⟩ := past_get hl
        obtain ⟨pa, pc0, rfl, _, _, _, hpast⟩ := r32
        obtain ⟨pv, hpv⟩ : ∃ pv : Nat → Value, ∀ j n row, pc[j]? = some (.sl n row) → (∃ pb po, pa = some ⟨pb, po, none⟩ ∧ pb < w.heap.size ∧ w.cell? ⟨pb, po + j, none⟩ = some (pv j)) ∧ RepD E w (.sl n row) (pv j) := by
          rcases hpast with rfl | ⟨pb, po, rfl, _, hpb, hrc⟩
          · exact ⟨fun _ => undef, fun j n row h => by simp at h⟩
          · refine ⟨fun j => (w.cell? ⟨pb, po + j, none⟩).getD undef, fun j n row h => ?_⟩
            obtain ⟨v, q1, q2⟩ := hrc.get j _ h
            simp only [q1, Option.getD_some]
            exact ⟨⟨pb, po, rfl, hpb, q1⟩, q2⟩
        have hglen : (gridRows wn gc hn).length = hn := by unfold gridRows; simp
        have hints : ∀ (i : Nat) cs, (l ++ gridRows wn gc hn)[i]? = some cs → cs.all pInt = true := by
          intro i cs hi'
          rw [List.getElem?_append] at hi'
          split at hi'
          · obtain ⟨_, _, _, _, h⟩ := pl2 i cs hi'; exact h
          · obtain ⟨hj, rfl⟩ := grid_get hi'
            rw [List.all_eq_true] at hgp ⊢
            exact fun x hx => hgp x (List.mem_of_mem_drop (List.mem_of_mem_take hx))
        have hpj : ∀ j, j < pn → ∃ n row, pc[j]? = some (.sl n row) ∧ l[j]? = some row ∧ row.length = n * 4 ∧ n ≤ 1000000 ∧ row.all pInt = true := by
          intro j hj
          obtain ⟨row, hrow⟩ : ∃ row, l[j]? = some row := ⟨_, List.getElem?_eq_getElem (by omega)⟩
          obtain ⟨n, q⟩ := pl2 j row hrow
          exact ⟨n, row, q.1, hrow, q.2⟩
        refine (Cl.collectRows w b o hb pa pn pc0 pv v0 v2 hn ((l ++ gridRows wn gc hn).map rowI) (by rw [List.length_map, List.length_append, hglen, pl1, hpl]) (by omega) c32 c0 (by rw [c1, r1]) c2
          (fun j hj => by obtain ⟨n, row, q1, _⟩ := hpj j hj; exact (hpv j n row q1).1) (fun j hj => by obtain ⟨n, row, q1, _⟩ := hpj j hj; obtain ⟨a, c, q, _⟩ := (hpv j n row q1).2; exact ⟨a, n, c, q⟩) ?_ ?_).mono ?_
        · intro W j row hB hj hrow
          obtain ⟨n, row', q1, q2, q3, q4, q5⟩ := hpj j hj
          rw [List.getElem?_map, List.getElem?_append_left (by omega), q2] at hrow
          cases hrow
          exact told_clone q3 q4 q5 (rep_on hB (hpv j n row' q1).2)
        · intro W j row hB hj hrow
          rw [List.getElem?_map, List.getElem?_append_right (by omega), show pn + j - l.length = j by omega] at hrow
          cases hg : (gridRows wn gc hn)[j]? with
          | none => rw [hg] at hrow; cases hrow
          | some r =>
            rw [hg] at hrow; cases hrow
            obtain ⟨_, hre⟩ := grid_get hg
            exact (told_row r0 rfl (by omega) (by omega) hwh hgl hgp (rep_on hB r2) hj hre).1
        · rintro e W ⟨v, rfl, hB, xs, hxl, hown, hct⟩
          exact ⟨v, rfl, hB, xs, hxl, hown, hct⟩
      · cases hr
    · cases hr
  · cases hr
section
variable {α β : Type} {E : Enc α} {L : Enc β} {get : β → List α}
theorem clT_rows {ds : List PD} {w h : Int} {cs : List α} {past : List β} {r : List (List α)} (hk : E.k = 4) (hE : ∀ x, (E.enc x).all pInt = true) (hL : ∀ x, L.enc x = [.sl (get x).length (E.cells (get x))])
    (e0 : ds[0]? = some (.int .i64 w)) (e1 : ds[1]? = some (.int .i64 h)) (e2 : ds[2]? = some (.sl cs.length (E.cells cs))) (e32 : ds[32]? = some (.sl past.length (L.cells past))) (hS : clT w h cs past get = some r) : clRows ds = some (r.map E.cells) := by
  unfold clT at hS
  split at hS
  · rename_i hok
    obtain ⟨⟨h1, h2, h3, h4⟩, h5, h6, h7⟩ := hok
    cases hS
    have hrows : clRows ds = some ((past.map get ++ (List.range h.toNat).map fun j => (cs.drop (j * w.toNat)).take w.toNat).map E.cells) := by
      unfold clRows
      simp only [e0, e1, e2, e32]
      have hLk : (L.cells past).length = past.length := by
        rw [L.cells_len]
        cases past with
        | nil => simp
        | cons x l => have := L.len x; rw [hL] at this; rw [← this]; simp
      rw [if_pos ⟨⟨h1, h2, h3, h4⟩, h5, by rw [E.cells_len, hk]; exact Nat.beq_refl _, encInt hE cs, hLk, h6⟩, encPast hk hE hL past h7, encGrid hk, List.map_append]
    exact hrows
  · cases hS
end
theorem scr_ds (s : GScreen) (r : List (List GCell)) (h : libCollect s = some r) : clRows (e_RGScreen.enc s) = some (r.map e_GCell.cells) :=
  clT_rows (E := e_GCell) (L := e_GLine) rfl (fun _ => rfl) (fun _ => rfl) rfl rfl rfl rfl h
set_option maxRecDepth 100000 in
set_option maxHeartbeats 4000000 in
theorem rows_walk (W : World) (vs : Array Value) (hvs : vs.size = 33) (r : Int) (R : List (List Value))
    (KCh : ∀ W', Below W.heap.size W W' → Calls Go.Proofs.Tryz.prog 17 #[.agg vs] W' fun e W'' => e = .returned (.int .i64 r) ∧ Below W'.heap.size W' W'')
    (KN : r ≠ 0 → R = [])
    (KCo : r = 0 → ∀ W' bs, Below W.heap.size W W' → W'.heap[bs]? = some (.cells vs 36 (0, 0)) → Calls Go.Proofs.Tryz.prog 18 #[.func (.func 32) #[] #[.pointer (some ⟨bs, 0, none⟩)]] W' fun e W'' =>
      ∃ v, e = .returned v ∧ Below W'.heap.size W' W'' ∧ ∃ xs : List Value, xs.length = R.length ∧ W''.ownsRow W'.heap.size 22 1 v xs.length xs ∧ Cl.Conts W'.heap.size 51 4 R xs W'') :
    Calls Go.Proofs.Tryz.prog 10 #[.agg vs] W fun e W' => ∃ v xs, e = .returned (.tuple #[v, .int .i64 r]) ∧ Below W.heap.size W W' ∧ xs.length = R.length ∧ W'.ownsRow W.heap.size 22 1 v xs.length xs ∧ Cl.Conts W.heap.size 51 4 R xs W' := by
  go_enter Go.Proofs.Tryz.func10, Go.Proofs.Tryz.ntmps10
  go_upto_region 1 with fail
  obtain ⟨b0, hb0⟩ : ∃ b, W.heap.size = b := ⟨_, rfl⟩
  obtain ⟨w0, hw0⟩ : ∃ x, W.alloc (.cells vs 36) = x := ⟨_, rfl⟩
  have hB0 : Below W.heap.size W w0 := by subst hw0; exact (Below.refl _ W).alloc (Nat.le_refl _) _
  have hs0 : w0.heap.size = b0 + 1 := by subst hw0; rw [World.size_alloc, hb0]
  have hr0 : w0.heap[b0]? = some (.cells vs 36 (0, 0)) := by subst hw0; subst hb0; exact World.alloc_heap_new W _
  rw [hw0, hb0]
  have hsz : (Go.Proofs.Tryz.prog.info? 36).map (·.size) = some vs.toList.length := by
    have : vs.toList.length = 33 := by simpa using hvs
    rw [this]; exact Oc.info36
  have cellA : ∀ W', Below w0.heap.size w0 W' → ∀ (j : Nat) v, vs.toList[j]? = some v → W'.cell? ((⟨b0, 0, none⟩ : Addr).add j) = some v := fun W' hW j v hj => by
    rw [show ((⟨b0, 0, none⟩ : Addr).add j) = ⟨b0, j, none⟩ from by unfold Addr.add; split <;> simp_all]
    have h : W'.heap[b0]? = some (.cells vs 36 (0, 0)) := (hW.block b0 (by omega)).trans hr0
    rw [cell_of_row _ _ _ _ _ _ h]; simpa using hj
  go_wp2_with (with_reducible show wpList _ _ _ (Oper.mk _ (Op.load 36 _) _ _ _ _ :: _) _ _; refine Row.wpList_load_part rfl 36 _ rfl ⟨b0, 0, none⟩ rfl _ Go.Proofs.Tryz.underlying36 rfl vs.toList hsz (cellA w0 (.refl _ _)) ?_)
  refine (KCh w0 hB0).mono ?_
  rintro e w1 ⟨rfl, b1⟩
  have hB1 : Below W.heap.size W w1 := hB0.trans (b1.mono hB0.size)
  by_cases hr : r = 0
  · subst hr
    replace KCo := KCo rfl
    go_wp2_with (with_reducible show wpList _ _ _ (Oper.mk _ (Op.load 36 _) _ _ _ _ :: _) _ _; refine Row.wpList_load_part rfl 36 _ rfl ⟨b0, 0, none⟩ rfl _ Go.Proofs.Tryz.underlying36 rfl vs.toList hsz (cellA w1 b1) ?_)
    refine (rows_ok w1 vs).mono ?_
    rintro e w2 ⟨rfl, rfl⟩
    have hN : Below w1.heap.size w1 (w1.alloc (.cells vs 36)) := (Below.refl _ w1).alloc (Nat.le_refl _) _
    have hB2 := hB1.trans (hN.mono hB1.size)
    have hr2 : (w1.alloc (.cells vs 36)).heap[w1.heap.size]? = some (.cells vs 36 (0, 0)) := World.alloc_heap_new w1 _
    go_wp2_with fail
    refine (KCo _ _ hB2 hr2).mono ?_
    rintro e w3 ⟨v, rfl, b3, xs, h1, h2, h3⟩
    go_wp2
    refine bodyPost_ret (results_tmp2 rfl _ _ _) rfl ⟨v, xs, rfl, hB2.trans (b3.mono hB2.size), h1, ⟨h2.1, h2.2.imp id fun ⟨g, cap, cur, q1, q2, q3⟩ => ⟨g, cap, cur, q1, Nat.le_trans hB2.size q2, q3⟩⟩, fun i u hu => ?_⟩
    obtain ⟨row, p1, p2⟩ := h3 i u hu
    exact ⟨row, p1, p2.mono hB2.size⟩
  · have hr2 : (r != 0) = true := by simp [hr]
    go_wp2
    refine bodyPost_ret (results_tmp2 rfl _ _ _) rfl ⟨.slice none 0 0, [], rfl, hB1, by rw [KN hr]; rfl, World.ownsRow_nil .., fun i u hu => by simp at hu⟩
theorem eq_cells (l : List GCell) : ∀ (suf pre : List GCell), pre ++ suf = l → l.length ≤ 10000000 → loopO (f12_l1 l l) (pre.length : Int) = some (.inl ())
  | [], pre, e, h => loopO_done (by
      subst e
      unfold f12_l1 f12_l1_j2
      simp only [lt_end, cond_false])
  | x :: t, pre, e, h => by
    have hx : l = pre ++ x :: t := e.symm
    refine loopO_next ?_ (eq_cells l t (pre ++ [x]) (by simp [hx]) h)
    have hp : pre.length < 1000000000 := by rw [hx] at h; simp at h; omega
    rw [hx]
    unfold f12_l1 f12_l1_j2 f12_l1_j3
    simp only [lt_mid, cond_true, idx_mid, Option.bind_some, decide_true, Bool.and_self, Bool.not_true, cond_false]
    rw [wrap_nx pre x hp]
theorem same_cells (l : List GCell) (h : l.length ≤ 10000000) : f12 l l = some true := by
  unfold f12
  rw [decide_eq_true rfl]
  simp only [Bool.not_true, cond_false]
  unfold f12_j0
  have := eq_cells l l [] rfl h
  rw [show ((0 : Int)) = (([] : List GCell).length : Int) from rfl, this]; rfl
theorem pcells : ∀ xs : List GCell, (e_GCell.cells xs).all pInt = true := fun xs => encInt (E := e_GCell) (fun _ => rfl) xs
theorem clen (xs : List GCell) : (e_GCell.cells xs).length = xs.length * 4 := e_GCell.cells_len xs
theorem rowI_int : ∀ {cs : List PD}, cs.all pInt = true → ∀ u ∈ rowI cs, ∃ n, u = .int .i64 n
  | [], _, u, hu => by cases hu
  | c :: cs, hp, u, hu => by
    rw [List.all_cons, Bool.and_eq_true] at hp
    obtain ⟨n, rfl⟩ := pInt_ex hp.1
    rcases List.mem_cons.1 hu with rfl | hu
    · exact ⟨n, rfl⟩
    · exact rowI_int hp.2 u hu
theorem rowI_at {cs : List PD} (hp : cs.all pInt = true) {j : Nat} {u : Value} (hu : (rowI cs)[j]? = some u) : ∃ n, cs[j]? = some (.int .i64 n) ∧ u = .int .i64 n := by
  have hj : j < cs.length := by have := (List.getElem?_eq_some_iff.1 hu).1; rwa [rowI_len] at this
  obtain ⟨n, hn⟩ := pInt_ex ((List.all_eq_true.1 hp) _ (List.getElem_mem hj))
  have hc : cs[j]? = some (.int .i64 n) := by rw [List.getElem?_eq_getElem hj, hn]
  obtain ⟨v, h1, h2⟩ := rowI_get (X := NoX) (w := default) j _ hp hc
  have h2 : v = .int .i64 n := h2
  rw [h1] at hu; cases hu
  exact ⟨n, hc, h2⟩
theorem rowI_of {cs : List PD} (hp : cs.all pInt = true) {j : Nat} {n : Int} (hc : cs[j]? = some (.int .i64 n)) : (rowI cs)[j]? = some (.int .i64 n) := by
  obtain ⟨v, h1, h2⟩ := rowI_get (X := NoX) (w := default) j _ hp hc
  have h2 : v = .int .i64 n := h2
  rw [h1, h2]
theorem cell_at {w : World} {cs : List PD} (hp : cs.all pInt = true) {a : Option Addr} {n c : Nat} (h : RepD NoX w (.sl n cs) (.slice a n c)) (j : Nat) (u : Value) (hu : (rowI cs)[j]? = some u) : ∃ b o, a = some ⟨b, o, none⟩ ∧ b < w.heap.size ∧ w.cell? ⟨b, o + j, none⟩ = some u := by
  obtain ⟨m, hc, rfl⟩ := rowI_at hp hu
  obtain ⟨a', c', e, _, _, _, h4⟩ := h
  cases e
  rcases h4 with rfl | ⟨b, o, rfl, _, hb, hr⟩
  · simp at hc
  · obtain ⟨v, q1, q2⟩ := hr.get j _ hc
    have q2 : v = .int .i64 m := q2
    exact ⟨b, o, rfl, hb, by rw [q1, q2]⟩
theorem line_get : ∀ (l : List GLine) (k : Nat) (x : GLine), l[k]? = some x → (e_GLine.cells l)[k]? = some (.sl x.Cells.length (e_GCell.cells x.Cells))
  | [], k, x, h => by simp at h
  | y :: l, 0, x, h => by
    have : y = x := by simpa using h
    subst this; rfl
  | y :: l, k + 1, x, h => line_get l k x (by simpa using h)
theorem told_clone2 {W : World} {n : Nat} {row : List PD} {pv : Value} (h1 : row.length = n * 4) (h2 : n ≤ 2000000) (h3 : row.all pInt = true) (hr : RepD NoX W (.sl n row) pv) :
    Cl.Told Go.Proofs.Tryz.prog 11 #[pv] W (rowI row) := by
  obtain ⟨xs, hx1, hx2⟩ := dec4 n row h1 h3
  have h := Rw.f11_ok base0 1 (Nat.le_refl _) xs xs (f11_id xs (by omega))
  subst hx2
  exact told_of Rw.codes_ok h h3 (vs := [pv]) ⟨pv, [], rfl, by rw [hx1]; exact hr, rfl⟩
theorem grid_row (s : GScreen) (f : SF s) (k : Nat) (x : List GCell) (hk : s.Past.length ≤ k) (hx : (rowsS s)[k]? = some x) :
    ∃ W : Nat, s.Grid.Wide = W ∧ W ≤ 100000 ∧ (rowI (e_GCell.cells x)).length = W * 4 ∧ ∀ (j : Nat) u, (rowI (e_GCell.cells x))[j]? = some u → (rowI (e_GCell.cells s.Grid.Cells))[(k - s.Past.length) * W * 4 + j]? = some u := by
  obtain ⟨W, H, hW1, hW2, hH1, hH2, hg, hc, hr⟩ := gcode0 s.Grid f.g
  have hwi : s.Grid.Wide = W := by rw [hg]
  have hhi : s.Grid.High = H := by rw [hg]
  unfold rowsS at hx
  rw [List.getElem?_append_right (by rw [List.length_map]; exact hk), List.length_map] at hx
  have e2 : (gridRows W (e_GCell.cells s.Grid.Cells) H)[k - s.Past.length]? = some (e_GCell.cells x) := by
    rw [encGrid (E := e_GCell) rfl, List.getElem?_map]
    have : gridR s.Grid = (List.range H).map fun j => (s.Grid.Cells.drop (j * W)).take W := by unfold gridR; rw [hwi, hhi, Int.toNat_natCast, Int.toNat_natCast]
    rw [← this, hx]; rfl
  obtain ⟨hj, hcx⟩ := grid_get e2
  obtain ⟨d, hd⟩ : ∃ d, k - s.Past.length = d := ⟨_, rfl⟩
  rw [hd] at hj hcx ⊢
  have hm : (d + 1) * W ≤ W * H := by rw [Nat.mul_comm W H]; exact Nat.mul_le_mul_right W hj
  rw [Nat.add_mul, Nat.one_mul] at hm
  refine ⟨W, hwi, by omega, ?_, fun j u hu => ?_⟩
  · rw [rowI_len, hcx, List.length_take, List.length_drop, clen, hc]; omega
  · obtain ⟨n, h1, rfl⟩ := rowI_at (pcells x) hu
    refine rowI_of (pcells _) ?_
    rw [hcx, List.getElem?_take] at h1
    split at h1
    · rw [List.getElem?_drop] at h1; exact h1
    · cases h1
set_option maxRecDepth 100000 in
theorem ClipOwn_walk (v0 : Value) (w : World) (h0 : Arg (some 1048576) Go.Proofs.Tryz.prog w 36 v0) : Calls Go.Proofs.Tryz.prog 6 #[v0] w fun e w' => e = .returned (.bool true) ∧ Below w.heap.size w w' := by
  obtain ⟨c0, rfl, g0⟩ := h0.agg (.inl ⟨_, rfl⟩)
  obtain ⟨s, y0, r0⟩ := opn36.op (some 1048576) w _ g0
  have r0 : RepCs w (e_RGScreen.enc s) c0.toList := by
    simp only [e_GStops, e_GScreen, eCat, ePre, eNil] at r0
    exact Eq.mp (by kernel_rfl) r0
  have hlen : c0.size = 33 := by
    have := r0.len
    rw [e_RGScreen.len s] at this
    rw [← Array.length_toList, ← this]; rfl
  obtain ⟨u0, p0, q0⟩ := r0.get 0 _ rfl
  obtain ⟨u2, p2, q2⟩ := r0.get 2 _ rfl
  obtain ⟨u32, p32, q32⟩ := r0.get 32 _ rfl
  have q0 : u0 = .int .i64 s.Grid.Wide := q0
  subst q0
  have q2 : RepD NoX w (.sl s.Grid.Cells.length (e_GCell.cells s.Grid.Cells)) u2 := q2
  have q32 : RepD NoX w (.sl s.Past.length (e_GLine.cells s.Past)) u32 := q32
  obtain ⟨ga, gc, rfl, hg2⟩ := q2
  have q2 : RepD NoX w (.sl s.Grid.Cells.length (e_GCell.cells s.Grid.Cells)) (.slice ga s.Grid.Cells.length gc) := ⟨ga, gc, rfl, hg2⟩
  obtain ⟨pa, pc, rfl, _, _, _, hpst⟩ := q32
  rw [Array.getElem?_toList] at p0 p2 p32
  have hl : s.Past.length ≤ 1048576 := by exact y0.2.2.2.2.2.2.2.2.2.2.2.2.2.2.1
  have hcl : s.Grid.Cells.length ≤ 1048576 := by exact y0.1.2.2.1
  obtain ⟨r, RR, hch, hN, hY⟩ : ∃ (r : Int) (RR : List (List GCell)), f17 s = some r ∧ (r ≠ 0 → RR = []) ∧ (RR ≠ [] ∨ r = 0 → RR = rowsS s ∧ libCollect s = some (rowsS s) ∧ (∀ x ∈ rowsS s, Gd x) ∧ (rowsS s).length ≤ 100 ∧ SF s) := by
    rcases scr_check s hl with h | ⟨h, f⟩
    · exact ⟨4, [], h, fun _ => rfl, fun h => by rcases h with h | h; exact absurd rfl h; cases h⟩
    · obtain ⟨a, b, c, d⟩ := rows_good s f
      exact ⟨0, rowsS s, h, fun h => absurd rfl h, fun _ => ⟨rfl, a, b, d, f⟩⟩
  have hgd : ∀ x ∈ RR, x.length ≤ 160 := fun x hx => by
    obtain ⟨e, _, h, _⟩ := hY (.inl (fun e => by rw [e] at hx; cases hx))
    rw [e] at hx; exact (h x hx).le
  have rk : ∀ (k : Nat) row, (RR.map fun x => rowI (e_GCell.cells x))[k]? = some row → ∃ x, RR[k]? = some x ∧ row = rowI (e_GCell.cells x) ∧ RR = rowsS s ∧ SF s := fun k row h => by
    rw [List.getElem?_map] at h
    cases hx : RR[k]? with
    | none => rw [hx] at h; cases h
    | some x =>
      rw [hx] at h; cases h
      obtain ⟨e, _, _, _, f⟩ := hY (.inl (fun e => by rw [e] at hx; cases hx))
      exact ⟨x, rfl, rfl, e, f⟩
  have keepR : ∀ W, Below w.heap.size w W → RepL NoX W (fun _ _ => False) ((e_RGScreen.enc s).map .d) c0.toList := fun W hW =>
    RepL.keep ⟨hW.size, fun b hb hx => ⟨hW.block b hb, hx⟩⟩ (fun _ _ h => h) _ _ r0.repL
  refine Oc.clip_walk w c0 ga s.Grid.Cells.length gc s.Grid.Wide pa s.Past.length pc (RR.map fun x => rowI (e_GCell.cells x)) (rowI (e_GCell.cells s.Grid.Cells)) r hlen p0 p2 p32 ?_ ?_ ?_ ?_ ?_ ?_ ?_ ?_ ?_
  · intro k row hk hrow
    obtain ⟨x, hx, rfl, e, f⟩ := rk k row hrow
    rw [e] at hx
    unfold rowsS at hx
    rw [List.getElem?_append_left (by rw [List.length_map]; exact hk), List.getElem?_map, List.getElem?_eq_getElem hk] at hx
    cases hx
    have hlg := line_get s.Past k _ (List.getElem?_eq_getElem hk)
    rcases hpst with hpst | ⟨pb, po, rfl, _, hpb, hrc⟩
    · rw [hpst] at hlg; simp at hlg
    · obtain ⟨v, z1, z2⟩ := hrc.get k _ hlg
      obtain ⟨ca, cc, rfl, hz⟩ := z2
      have z2 : RepD NoX w (.sl s.Past[k].Cells.length (e_GCell.cells s.Past[k].Cells)) (.slice ca s.Past[k].Cells.length cc) := ⟨ca, cc, rfl, hz⟩
      exact ⟨pb, po, ca, _, cc, rfl, hpb, z1, by rw [rowI_len, clen], fun j u hu => cell_at (pcells _) z2 j u hu⟩
  · intro k row hk hrow
    obtain ⟨x, hx, rfl, e, f⟩ := rk k row hrow
    rw [e] at hx
    exact grid_row s f k x hk hx
  · intro row hrow u hu
    obtain ⟨x, _, rfl⟩ := List.mem_map.1 hrow
    exact rowI_int (pcells x) u hu
  · rw [List.length_map]
    by_cases hne : RR = []
    · rw [hne]; exact Nat.zero_le _
    · obtain ⟨e, _, _, h, _⟩ := hY (.inl hne)
      rw [e]; omega
  · intro row hrow
    obtain ⟨x, hx, rfl⟩ := List.mem_map.1 hrow
    rw [rowI_len, clen]
    have := hgd x hx; omega
  · intro W hW
    refine rows_walk W c0 hlen r _ ?_ (fun h => by rw [hN h]; rfl) ?_
    · intro W' hW'
      have hWW := hW.trans (hW'.mono hW.size)
      have q := keepR W' hWW
      refine (lev_calls (baseL_snd _ _) codes_ok (f17_ok 9 (by decide) s r hch) (vs := [.agg c0]) ⟨_, _, rfl, ⟨_, rfl, Eq.mp (by kernel_rfl) q⟩, rfl⟩).mono ?_
      rintro e w' ⟨v, φ1, β, rfl, hb, ho⟩
      have hv : v = .int .i64 r := ho.rep
      exact ⟨by rw [hv], hb⟩
    · intro hr W' bs hW' hbs
      have hWW := hW.trans (hW'.mono hW.size)
      obtain ⟨e, hcol, _, _, _⟩ := hY (.inr hr)
      have hbl : bs < W'.heap.size := (Array.getElem?_eq_some_iff.1 hbs).1
      have hc : RepC NoX W' (e_RGScreen.enc s) bs 0 := RepC.of_list (fun b _ hx => hx) (keepR W' hWW) fun j u hu => by
        rw [Nat.zero_add, cell_of_row _ _ _ _ _ _ hbs]; simpa using hu
      have := collect_raw (E := NoX) (fun b h => h.elim) (scr_ds s _ hcol) hbl hc
      rw [e]
      rw [List.map_map] at this
      exact this
  · intro W hW
    exact told_clone2 (clen _) (by omega) (pcells _) (rep_on hW q2)
  · intro W B v hW hv
    have hcr := cont_rep (E := NoX) (fun b h => h.elim) (pcells _) hv
    rw [clen, Nat.mul_div_cancel _ (by decide)] at hcr
    exact law_calls (baseL_snd _ _) codes_ok (f12_ok 9 (by decide) s.Grid.Cells s.Grid.Cells true (same_cells _ (by omega))) (vs := [_, _]) ⟨_, _, rfl, rep_on hW q2, ⟨_, _, rfl, hcr, rfl⟩⟩
  · intro W hW
    exact law_calls (baseL_snd _ _) codes_ok (libLives_ok 9 (by decide) true rfl) rfl
end Go.Proofs.YtioikkmmjljedaaGreatDoor.Pm
