/- clip: rows of a screen, collected: told to the small machine. -/
import Derived.Test.YtioikkmmjljedaaGreatDoorClW
import Derived.Test.YtioikkmmjljedaaGreatDoorDRwD
namespace Go.Proofs.YtioikkmmjljedaaGreatDoor.Pm
open Go.RowKit
set_option linter.unusedVariables false
/-- Cells that are all numbers. -/
def pInt : PD → Bool
  | .int .i64 _ => true
  | _ => false
def rowI : List PD → List Value
  | [] => []
  | .int k n :: r => .int k n :: rowI r
  | _ :: r => undef :: rowI r
theorem rowI_len : ∀ cs : List PD, (rowI cs).length = cs.length
  | [] => rfl
  | .int _ _ :: r => congrArg (· + 1) (rowI_len r)
  | .bool _ :: r => congrArg (· + 1) (rowI_len r)
  | .str _ :: r => congrArg (· + 1) (rowI_len r)
  | .sl _ _ :: r => congrArg (· + 1) (rowI_len r)
  | .un :: r => congrArg (· + 1) (rowI_len r)
  | .err _ :: r => congrArg (· + 1) (rowI_len r)
theorem pInt_ex {x : PD} (h : pInt x = true) : ∃ n, x = .int .i64 n := by
  unfold pInt at h
  split at h
  · exact ⟨_, rfl⟩
  · cases h
theorem rowI_rep {X : Nat → Prop} {w : World} {R : Ref → Value → Prop} : ∀ {cs : List PD} {us : List Value}, cs.all pInt = true → RepL X w R (cs.map .d) us → us = rowI cs
  | [], us, _, h => h
  | c :: cs, us, hp, ⟨v, r, e, h1, h2⟩ => by
    rw [List.all_cons, Bool.and_eq_true] at hp
    obtain ⟨n, rfl⟩ := pInt_ex hp.1
    have h1 : v = _ := h1
    subst h1; subst e
    rw [rowI_rep hp.2 h2]; rfl
theorem rowI_get {X : Nat → Prop} {w : World} : ∀ {cs : List PD} (j : Nat) (x : PD), cs.all pInt = true → cs[j]? = some x → ∃ v, (rowI cs)[j]? = some v ∧ RepD X w x v
  | [], j, x, _, h => by simp at h
  | c :: cs, 0, x, hp, h => by
    rw [List.all_cons, Bool.and_eq_true] at hp
    obtain ⟨n, rfl⟩ := pInt_ex hp.1
    simp at h; subst h
    exact ⟨_, rfl, rfl⟩
  | c :: cs, j + 1, x, hp, h => by
    rw [List.all_cons, Bool.and_eq_true] at hp
    obtain ⟨n, rfl⟩ := pInt_ex hp.1
    simp at h
    obtain ⟨v, h1, h2⟩ := rowI_get (X := X) (w := w) j x hp.2 h
    exact ⟨v, h1, h2⟩
/-- Cells of numbers are cells of signs. -/
theorem dec4 : ∀ (n : Nat) (cs : List PD), cs.length = n * 4 → cs.all pInt = true → ∃ xs : List Rw.GCell, xs.length = n ∧ Rw.e_GCell.cells xs = cs
  | 0, cs, h, _ => ⟨[], rfl, (List.eq_nil_of_length_eq_zero (by omega)).symm⟩
  | n + 1, cs, h, hp => by
    match cs, h, hp with
    | [], h, _ => simp at h
    | [_], h, _ => simp at h; omega
    | [_, _], h, _ => simp at h; omega
    | [_, _, _], h, _ => simp at h; omega
    | a :: b :: c :: d :: r, h, hp =>
      simp only [List.all_cons, Bool.and_eq_true] at hp
      obtain ⟨h1, h2, h3, h4, h5⟩ := hp
      obtain ⟨a, rfl⟩ := pInt_ex h1
      obtain ⟨b, rfl⟩ := pInt_ex h2
      obtain ⟨c, rfl⟩ := pInt_ex h3
      obtain ⟨d, rfl⟩ := pInt_ex h4
      obtain ⟨xs, q1, q2⟩ := dec4 n r (by simp at h; omega) h5
      exact ⟨⟨a, ⟨b, c, d⟩⟩ :: xs, by simp [q1], by simp [Enc.cells, Rw.e_GCell, ← q2]⟩
theorem cellsInt : ∀ xs : List Rw.GCell, (Rw.e_GCell.cells xs).all pInt = true
  | [] => rfl
  | x :: xs => by
    have e : Rw.e_GCell.cells (x :: xs) = Rw.e_GCell.enc x ++ Rw.e_GCell.cells xs := rfl
    rw [e, List.all_append, cellsInt xs]; rfl
/-- A slice of its own that a call told is a row of cells. -/
theorem told_of {P : Program} {br : List Nat} {codes : Nat → Option FCode} {n f : Nat} {args : List PV} {m : Nat} {cs : List PD} (hc : ∀ f fc, codes f = some fc → compF P br f = some (eraseF fc)) (h : lev codes base0 n f args [] = some (.r (.own 0 51 4 m cs), [])) (hcs : cs.all pInt = true) {W : World} {vs : List Value} (hargs : RepL NoX W (fun _ _ => False) args vs) :
    Cl.Told P f vs.toArray W (rowI cs) := by
  refine (lev_calls (base0_snd P) hc h hargs).mono ?_
  rintro e w' ⟨v, φ1, β, rfl, hbl, ho⟩
  refine ⟨v, rfl, hbl, ?_⟩
  have hr : RefOut φ1 [] β (.own 0 51 4 m cs) v := ho.rep
  have hown := ho.own (0, .own 51 4 cs) (by show _ ∈ [(0, Blk.own 51 4 cs)]; simp)
  obtain ⟨_, hlen, hr⟩ := hr
  cases hβ : β 0 with
  | nil a =>
    simp only [hβ] at hr
    obtain ⟨rfl, rfl⟩ := hr
    exact .inl ⟨rfl, _, rfl⟩
  | blk b c =>
    simp only [hβ] at hr hown
    obtain ⟨rfl, hmc⟩ := hr
    obtain ⟨_, cur, xs, ⟨fz, p1, pz⟩, p2, p3, p4, p5, p6, p7⟩ := hown
    have hx := rowI_rep hcs p7
    exact .inr ⟨b, m, c, cur, fz, rfl, by rw [rowI_len, hlen], hmc, p3, (ho.new 0 b c hβ).1, p1, by rw [rowI_len, p6, hx], pz, p2⟩
def rowOk (n : Nat) (cs : List PD) : Bool := Nat.beq cs.length (n * 4) && (Nat.ble n 1000000 && cs.all pInt)
def pastRows : List PD → Option (List (List PD))
  | [] => some []
  | .sl n cs :: r => if rowOk n cs = true then (match pastRows r with | some l => some (cs :: l) | none => none) else none
  | _ => none
def gridRows (w : Nat) (cs : List PD) (h : Nat) : List (List PD) := (List.range h).map fun j => (cs.drop (j * w * 4)).take (w * 4)
/-- All rows of a screen: those that are past, those of its grid. -/
def clRows (ds : List PD) : Option (List (List PD)) := match (ds[0]? : Option PD), (ds[1]? : Option PD), (ds[2]? : Option PD), (ds[32]? : Option PD) with
  | some (.int .i64 w), some (.int .i64 h), some (.sl gn gc), some (.sl pn pc) =>
    if (0 ≤ w ∧ w ≤ 100000 ∧ 0 ≤ h ∧ h ≤ 100000) ∧ w.toNat * h.toNat ≤ gn ∧ Nat.beq gc.length (gn * 4) = true ∧ gc.all pInt = true ∧ pc.length = pn ∧ pn ≤ 500000 then
      (match pastRows pc with | some l => some (l ++ gridRows w.toNat gc h.toNat) | none => none) else none
  | _, _, _, _ => none
def dsOf : List PV → Option (List PD)
  | [] => some []
  | .d x :: r => (match dsOf r with | some l => some (x :: l) | none => none)
  | _ => none
/-- clip.rows (fr, its inner function f1) and slices.Collect (fc) of it. -/
def clO (fr fc f1 : Nat) (γ : Orc) : Orc := fun f args bs =>
  if f = fr then (match args, bs with
    | [.agg cs], [] => (match dsOf cs with | some ds => if ds.length = 33 then some (.fn f1 [.rptr ds], []) else none | none => none)
    | _, _ => none)
  else if f = fc then (match args, bs with
    | [.fn g [.rptr ds]], [] => if g = f1 then (match clRows ds with | some rs => some (.d (.sl rs.length (rs.map fun cs => .sl (cs.length / 4) cs)), []) | none => none) else none
    | _, _ => none)
  else γ f args bs
theorem dsOf_eq : ∀ {cs : List PV} {ds : List PD}, dsOf cs = some ds → cs = ds.map .d
  | [], ds, h => by cases h; rfl
  | c :: r, ds, h => by
    unfold dsOf at h
    split at h
    · rename_i h'; cases h'
    · rename_i x r2 h'
      cases h'
      split at h
      · rename_i l hl
        cases h
        rw [dsOf_eq hl]; rfl
      · cases h
    · cases h
theorem past_get : ∀ {pc : List PD} {l : List (List PD)}, pastRows pc = some l → l.length = pc.length ∧ ∀ (j : Nat) row, l[j]? = some row → ∃ n, pc[j]? = some (.sl n row) ∧ row.length = n * 4 ∧ n ≤ 1000000 ∧ row.all pInt = true
  | [], l, h => by cases h; exact ⟨rfl, fun j row hj => by simp at hj⟩
  | c :: r, l, h => by
    unfold pastRows at h
    split at h
    · rename_i h'; cases h'
    · rename_i n cs r2 h'
      cases h'
      split at h
      · rename_i hok
        unfold rowOk at hok
        rw [Bool.and_eq_true, Bool.and_eq_true] at hok
        obtain ⟨o1, o2, o3⟩ := hok
        split at h
        · rename_i l2 hl2
          cases h
          obtain ⟨q1, q2⟩ := past_get hl2
          refine ⟨by simp [q1], fun j row hj => ?_⟩
          cases j with
          | zero => simp at hj; subst hj; exact ⟨n, rfl, Nat.eq_of_beq_eq_true o1, Nat.le_of_ble_eq_true o2, o3⟩
          | succ j => exact q2 j row (by simpa using hj)
        · cases h
      · cases h
    · cases h
theorem grid_get {w : Nat} {cs : List PD} {h : Nat} {j : Nat} {row : List PD} (hj : (gridRows w cs h)[j]? = some row) : j < h ∧ row = (cs.drop (j * w * 4)).take (w * 4) := by
  unfold gridRows at hj
  rw [List.getElem?_map] at hj
  cases hr : (List.range h)[j]? with
  | none => rw [hr] at hj; cases hj
  | some i =>
    rw [hr] at hj
    have h1 := (List.getElem?_eq_some_iff.1 hr).1
    rw [List.length_range] at h1
    rw [List.getElem?_range h1] at hr
    cases hr; cases hj
    exact ⟨h1, rfl⟩
set_option maxRecDepth 100000 in
set_option maxHeartbeats 1000000 in
/-- clip.rows. -/
theorem rows_ok (w : World) (vs : Array Value) : Calls Go.Proofs.Tryz.prog 19 #[.agg vs] w fun e w' => e = .returned (.func (.func 32) #[] #[.pointer (some ⟨w.heap.size, 0, none⟩)]) ∧ w' = w.alloc (.cells vs 36) := by
  go_enter Go.Proofs.Tryz.func19, Go.Proofs.Tryz.ntmps19
  go_wp2
  go_ret
  exact ⟨rfl, rfl⟩
theorem f11_id (xs : List Rw.GCell) (h : xs.length ≤ 100000000000) : Rw.f11 xs = some xs := by
  unfold Rw.f11 app?
  rw [if_pos (by simp; omega)]; rfl
theorem told_clone {W : World} {n : Nat} {row : List PD} {pv : Value} (h1 : row.length = n * 4) (h2 : n ≤ 1000000) (h3 : row.all pInt = true) (hr : RepD NoX W (.sl n row) pv) :
    Cl.Told Go.Proofs.Tryz.prog 11 #[pv] W (rowI row) := by
  obtain ⟨xs, hx1, hx2⟩ := dec4 n row h1 h3
  have h := Rw.f11_ok base0 1 (Nat.le_refl _) xs xs (f11_id xs (by omega))
  subst hx2
  exact told_of Rw.codes_ok h h3 (vs := [pv]) ⟨pv, [], rfl, by rw [hx1]; exact hr, rfl⟩
theorem told_row {W : World} {w h gn : Nat} {gc : List PD} {g0 g1 g2 : Value} {j : Nat} {row : List PD} (hg0 : g0 = .int .i64 w) (hg1 : g1 = .int .i64 h) (hw : w ≤ 100000) (hh : h ≤ 100000) (hwh : w * h ≤ gn) (hl : gc.length = gn * 4) (hp : gc.all pInt = true) (hg2 : RepD NoX W (.sl gn gc) g2) (hj : j < h) (hrow : row = (gc.drop (j * w * 4)).take (w * 4)) :
    Cl.Told Go.Proofs.Tryz.prog 33 #[.agg #[g0, g1, g2], .int .i64 j] W (rowI row) ∧ row.all pInt = true := by
  obtain ⟨xs, hx1, hx2⟩ := dec4 gn gc hl hp
  have hjw : (j + 1) * w ≤ w * h := by rw [Nat.mul_comm w h]; exact Nat.mul_le_mul_right _ hj
  have hwh2 : w * h ≤ 100000 * 100000 := Nat.mul_le_mul hw hh
  have e1 : (j + 1) * w = j * w + w := by rw [Nat.add_mul, Nat.one_mul]
  have w1 : IntKind.i64.wrap ((j : Int) * (w : Int)) = ((j * w : Nat) : Int) := by
    rw [← Int.natCast_mul]; exact IntWalk.i64_in _ (by omega)
  have w2 : IntKind.i64.wrap ((j : Int) + 1) = ((j + 1 : Nat) : Int) := IntWalk.i64_in _ (by omega)
  have w3 : IntKind.i64.wrap (((j + 1 : Nat) : Int) * (w : Int)) = (((j + 1) * w : Nat) : Int) := by
    rw [← Int.natCast_mul]; exact IntWalk.i64_in _ (by omega)
  obtain ⟨r, hr⟩ : ∃ r, (xs.take ((j + 1) * w)).drop (j * w) = r := ⟨_, rfl⟩
  have hs : Rw.f33 ⟨w, h, xs⟩ j = some r := by
    unfold Rw.f33 Rw.f44
    simp only [w1, w2, w3]
    have hsub : sub? xs ((j * w : Nat) : Int) (((j + 1) * w : Nat) : Int) = some r := by
      unfold sub?
      rw [if_pos (by omega), ← hr, Int.toNat_natCast, Int.toNat_natCast]
    rw [hsub]
    simp only [Option.bind_some]
    rw [f11_id r (by rw [← hr]; simp; omega)]; rfl
  have h := Rw.f33_ok base0 2 (Nat.le_refl _) ⟨w, h, xs⟩ j r hs
  have hrc : Rw.e_GCell.cells r = row := by
    rw [hrow, ← hr, ← hx2]
    have a1 := Rw.e_GCell.cells_take xs ((j + 1) * w)
    have a2 := Rw.e_GCell.cells_drop (xs.take ((j + 1) * w)) (j * w)
    rw [← a2, ← a1, List.drop_take]
    have : (Rw.e_GCell).k = 4 := rfl
    rw [this, e1]
    congr 1
    omega
  have hall : row.all pInt = true := by rw [← hrc]; exact cellsInt r
  rw [← hrc]
  refine ⟨?_, by rw [hrc]; exact hall⟩
  refine told_of Rw.codes_ok h (cellsInt r) (vs := [.agg #[g0, g1, g2], .int .i64 j]) ⟨_, _, rfl, ⟨_, rfl, ?_⟩, _, _, rfl, rfl, rfl⟩
  subst hg0; subst hg1; subst hx2
  exact ⟨_, _, rfl, rfl, _, _, rfl, rfl, _, _, rfl, by rw [hx1]; exact hg2, rfl⟩
theorem rep_on {E : Nat → Prop} {w W : World} {x : PD} {v : Value} (hB : Below w.heap.size w W) (h : RepD E w x v) : RepD NoX W x v :=
  RepD.keep ⟨hB.size, fun b hb _ => ⟨hB.block b hb, fun h => h.elim⟩⟩ x v h
theorem cont_rep {E : Nat → Prop} {W : World} {B : Nat} (hE : ∀ b, E b → b < B) {cs : List PD} {u : Value} (hp : cs.all pInt = true) (h : Cl.Cont W B 51 4 (rowI cs) u) : RepD E W (.sl (cs.length / 4) cs) u := by
  rcases h with ⟨h1, a, rfl⟩ | ⟨b, n, c, cur, f, rfl, h2, h3, h4, h5, h6, h7, _, _⟩
  · have : cs = [] := List.eq_nil_of_length_eq_zero (by rw [← rowI_len, h1]; rfl)
    subst this
    exact ⟨a, 0, rfl, Nat.le_refl _, Nat.zero_le _, fun _ => rfl, .inl rfl⟩
  · rw [rowI_len] at h2
    have hb : b < W.heap.size := (Array.getElem?_eq_some_iff.1 h6).1
    refine ⟨some ⟨b, 0, none⟩, c, by rw [h2, Nat.mul_div_cancel _ (by decide)], by omega, h4, nofun, .inr ⟨b, 0, rfl, fun hx => ?_, hb, RepC.of fun j x hj => ?_⟩⟩
    · have := hE b hx; omega
    · obtain ⟨v, q1, q2⟩ := rowI_get (X := E) (w := W) j x hp hj
      refine ⟨v, ?_, q2⟩
      rw [Nat.zero_add, cell_of_row W b j cur _ f h6]
      have hjl : j < (rowI cs).length := (List.getElem?_eq_some_iff.1 q1).1
      rw [← h7, List.getElem?_take, if_pos hjl] at q1
      simpa using q1
set_option maxHeartbeats 1000000 in
theorem collect_ok {E : Nat → Prop} {w : World} (hE : ∀ b, E b → b < w.heap.size) {ds : List PD} {rs : List (List PD)} (hr : clRows ds = some rs) {b o : Nat} (hb : b < w.heap.size) (hc : RepC E w ds b o) :
    Calls Go.Proofs.Tryz.prog 18 #[.func (.func 32) #[] #[.pointer (some ⟨b, o, none⟩)]] w fun e w' => ∃ v, e = .returned v ∧ Below w.heap.size w w' ∧ RepD E w' (.sl rs.length (rs.map fun cs => .sl (cs.length / 4) cs)) v := by
  unfold clRows at hr
  split at hr
  · rename_i wd hi gn gc pn pc e0 e1 e2 e32
    split at hr
    · rename_i hok
      obtain ⟨⟨hw0, hw1, hh0, hh1⟩, hwh, hgl, hgp, hpl, hpn⟩ := hok
      have hgl := Nat.eq_of_beq_eq_true hgl
      split at hr
      · rename_i l hl
        cases hr
        obtain ⟨v0, c0, r0⟩ := hc.get 0 _ e0
        obtain ⟨v1, c1, r1⟩ := hc.get 1 _ e1
        obtain ⟨v2, c2, r2⟩ := hc.get 2 _ e2
        obtain ⟨v32, c32, r32⟩ := hc.get 32 _ e32
        have r0 : v0 = .int .i64 wd := r0
        have r1 : v1 = .int .i64 hi := r1
        obtain ⟨wn, rfl⟩ := Int.eq_ofNat_of_zero_le hw0
        obtain ⟨hn, rfl⟩ := Int.eq_ofNat_of_zero_le hh0
        simp only [Int.toNat_natCast] at hwh ⊢
        obtain ⟨pl1, pl2⟩ := past_get hl
        obtain ⟨pa, pc0, rfl, _, _, _, hpast⟩ := r32
        obtain ⟨pv, hpv⟩ : ∃ pv : Nat → Value, ∀ j n row, pc[j]? = some (.sl n row) → (∃ pb po, pa = some ⟨pb, po, none⟩ ∧ pb < w.heap.size ∧ w.cell? ⟨pb, po + j, none⟩ = some (pv j)) ∧ RepD E w (.sl n row) (pv j) := by
          rcases hpast with rfl | ⟨pb, po, rfl, _, hpb, hrc⟩
          · exact ⟨fun _ => undef, fun j n row h => by simp at h⟩
          · refine ⟨fun j => (w.cell? ⟨pb, po + j, none⟩).getD undef, fun j n row h => ?_⟩
            obtain ⟨v, q1, q2⟩ := hrc.get j _ h
            simp only [q1, Option.getD_some]
            exact ⟨⟨pb, po, rfl, hpb, q1⟩, q2⟩
        have hglen : (gridRows wn gc hn).length = hn := by unfold gridRows; simp
        have hints : ∀ (i : Nat) cs, (l ++ gridRows wn gc hn)[i]? = some cs → cs.all pInt = true := by
          intro i cs hi'
          rw [List.getElem?_append] at hi'
          split at hi'
          · obtain ⟨_, _, _, _, h⟩ := pl2 i cs hi'; exact h
          · obtain ⟨hj, rfl⟩ := grid_get hi'
            rw [List.all_eq_true] at hgp ⊢
            exact fun x hx => hgp x (List.mem_of_mem_drop (List.mem_of_mem_take hx))
        have hpj : ∀ j, j < pn → ∃ n row, pc[j]? = some (.sl n row) ∧ l[j]? = some row ∧ row.length = n * 4 ∧ n ≤ 1000000 ∧ row.all pInt = true := by
          intro j hj
          obtain ⟨row, hrow⟩ : ∃ row, l[j]? = some row := ⟨_, List.getElem?_eq_getElem (by omega)⟩
          obtain ⟨n, q⟩ := pl2 j row hrow
          exact ⟨n, row, q.1, hrow, q.2⟩
        refine (Cl.collectRows w b o hb pa pn pc0 pv v0 v2 hn ((l ++ gridRows wn gc hn).map rowI) (by rw [List.length_map, List.length_append, hglen, pl1, hpl]) (by omega) c32 c0 (by rw [c1, r1]) c2
          (fun j hj => by obtain ⟨n, row, q1, _⟩ := hpj j hj; exact (hpv j n row q1).1) (fun j hj => by obtain ⟨n, row, q1, _⟩ := hpj j hj; obtain ⟨a, c, q, _⟩ := (hpv j n row q1).2; exact ⟨a, n, c, q⟩) ?_ ?_).mono ?_
        · intro W j row hB hj hrow
          obtain ⟨n, row', q1, q2, q3, q4, q5⟩ := hpj j hj
          rw [List.getElem?_map, List.getElem?_append_left (by omega), q2] at hrow
          cases hrow
          exact told_clone q3 q4 q5 (rep_on hB (hpv j n row' q1).2)
        · intro W j row hB hj hrow
          rw [List.getElem?_map, List.getElem?_append_right (by omega), show pn + j - l.length = j by omega] at hrow
          cases hg : (gridRows wn gc hn)[j]? with
          | none => rw [hg] at hrow; cases hrow
          | some r =>
            rw [hg] at hrow; cases hrow
            obtain ⟨_, hre⟩ := grid_get hg
            exact (told_row r0 rfl (by omega) (by omega) hwh hgl hgp (rep_on hB r2) hj hre).1
        · rintro e W ⟨v, rfl, hB, xs, hxl, hown, hct⟩
          refine ⟨v, rfl, hB, ?_⟩
          rw [List.length_map] at hxl
          obtain ⟨_, hown⟩ := hown
          rcases hown with ⟨rfl, h0⟩ | ⟨g, cap, cur, rfl, hg1, hg2, hg3, hg4, hg5, hg6⟩
          · have hz : (l ++ gridRows wn gc hn).length = 0 := by omega
            rw [hz, List.eq_nil_of_length_eq_zero hz]
            exact ⟨none, 0, rfl, Nat.le_refl _, Nat.zero_le _, fun _ => rfl, .inl rfl⟩
          · have hgl2 : g < W.heap.size := (Array.getElem?_eq_some_iff.1 hg2).1
            refine ⟨some ⟨g, 0, none⟩, cap, by rw [hxl], by omega, hg4, nofun, .inr ⟨g, 0, rfl, fun hx => by have := hE g hx; omega, hgl2, RepC.of fun i x hx => ?_⟩⟩
            rw [List.getElem?_map] at hx
            cases hcs : (l ++ gridRows wn gc hn)[i]? with
            | none => rw [hcs] at hx; cases hx
            | some cs =>
              rw [hcs] at hx; cases hx
              have hil : i < xs.length := by have := (List.getElem?_eq_some_iff.1 hcs).1; omega
              obtain ⟨u, hu⟩ : ∃ u, xs[i]? = some u := ⟨_, List.getElem?_eq_getElem hil⟩
              obtain ⟨row, q1, q2⟩ := hct i u hu
              rw [List.getElem?_map, hcs] at q1
              cases q1
              refine ⟨u, ?_, cont_rep hE (hints i cs hcs) q2⟩
              rw [Nat.zero_add, cell_of_row W g i cur _ (0, 0) hg2]
              rw [← hg6, List.getElem?_take, if_pos (by omega)] at hu
              simpa using hu
      · cases hr
    · cases hr
  · cases hr
theorem clO_snd {W : World} {Φ : Nat → Phys} {γ : Orc} (hγ : Snd Go.Proofs.Tryz.prog γ W Φ) (hcr : canEnter Go.Proofs.Tryz.prog 19) (hcc : canEnter Go.Proofs.Tryz.prog 18) :
    Snd Go.Proofs.Tryz.prog (clO 19 18 32 γ) W Φ := by
  intro f args bs r bs' hr
  have hYo : ∀ {E : Nat → Prop} {b : Nat}, ¬ E b → ¬ Yo E (fun _ => .nil none) (fun _ => .nil none) b := fun hx h => by
    rcases h with h | ⟨_, _, h⟩ | ⟨_, _, h⟩
    · exact hx h
    · cases h
    · cases h
  have hout : ∀ {E : Nat → Prop} {w w' : World} {φ0 : Nat → Phys} {r : PV} {v : Value}, ownsAll r [] = [] → RepV (Yo E (fun _ => .nil none) fun _ => .nil none) w' (RefOut (fun _ => .nil none) [] fun _ => .nil none) r v → OutOk E w w' φ0 [] r [] v (fun _ => .nil none) fun _ => .nil none := fun h0 hv =>
    ⟨hv, (fun i b hil _ => by simp at hil), (fun x hx => by rw [h0] at hx; cases hx), .inl rfl, (fun i b hb => by simp at hb), (fun i b c h => by cases h), (fun i j b c c' h => by cases h), (fun i j b c c' h => by cases h), (fun i j b c c' h => by cases h), fun j b c h => by cases h⟩
  unfold clO at hr
  split at hr
  · rename_i hf
    subst hf
    split at hr
    · rename_i cs
      split at hr
      · rename_i ds hds
        split at hr
        · rename_i hlen
          cases hr
          refine ⟨hcr, fun E w φ0 vs hL hE hp ha => ?_⟩
          obtain ⟨v1, r1, rfl, ⟨us, rfl, hus⟩, hr1⟩ := ha
          have hr1 : r1 = [] := hr1
          subst hr1
          rw [dsOf_eq hds] at hus
          refine (rows_ok w us).mono ?_
          rintro e w' ⟨rfl, rfl⟩
          have hB := (Below.refl w.heap.size w).alloc (Nat.le_refl _) (.cells us 36)
          refine ⟨_, fun _ => .nil none, fun _ => .nil none, rfl, ⟨hB.os, hB.tape, hB.output, hB.size, fun k hk _ => hB.block k hk⟩, hout rfl ?_⟩
          refine ⟨_, rfl, _, _, rfl, ⟨w.heap.size, 0, rfl, hYo (fun h => Nat.lt_irrefl _ (hE _ h)), by simp, ?_⟩, rfl⟩
          have hk : RepL E (w.alloc (.cells us 36)) (fun _ _ => True) (ds.map .d) us.toList := RepL.keep ⟨hB.size, fun b hb hx => ⟨hB.block b hb, hx⟩⟩ (fun _ _ _ => trivial) _ _ hus
          refine RepC.of_list (fun b _ hx => hYo hx) hk fun j u hu => ?_
          rw [Nat.zero_add, cell_of_row _ w.heap.size j us _ (0, 0) (World.alloc_heap_new w _)]
          simpa using hu
        · cases hr
      · cases hr
    · cases hr
  · split at hr
    · rename_i hf
      subst hf
      split at hr
      · rename_i g ds
        split at hr
        · rename_i hg
          subst hg
          split at hr
          · rename_i rs hrs
            cases hr
            refine ⟨hcc, fun E w φ0 vs hL hE hp ha => ?_⟩
            obtain ⟨v1, r1, rfl, ⟨us, rfl, hus⟩, hr1⟩ := ha
            have hr1 : r1 = [] := hr1
            subst hr1
            obtain ⟨p, r2, e2, ⟨b, o, rfl, hx, hb, hc⟩, hr2⟩ := hus
            have hr2 : r2 = [] := hr2
            subst hr2
            obtain rfl : us = #[.pointer (some ⟨b, o, none⟩)] := Array.ext' e2
            refine (collect_ok hE hrs hb hc).mono ?_
            rintro e w' ⟨v, rfl, hB, hv⟩
            refine ⟨v, fun _ => .nil none, fun _ => .nil none, rfl, ⟨hB.os, hB.tape, hB.output, hB.size, fun k hk _ => hB.block k hk⟩, hout rfl ?_⟩
            exact RepD.keep (Ch.mk (Nat.le_refl _) fun b _ hx => ⟨rfl, hYo hx⟩) _ _ hv
          · cases hr
        · cases hr
      · cases hr
    · exact hγ f args bs r bs' hr
/-- A function with a body is entered. -/
def canC (P : Program) (f : Nat) : Bool := match P.funcs[f]? with
  | some fn => match fn.body with
    | some _ => !(fn.name == "runtime.NumGoroutine")
    | none => false
  | none => false
theorem canEnter_c {P : Program} {f : Nat} (h : canC P f = true) : canEnter P f := by
  unfold canC at h
  split at h
  · rename_i fn hfn
    split at h
    · rename_i c hbody
      intro args w
      have hname : (fn.name == "runtime.NumGoroutine") = false := by simpa using h
      simp only [callFunc, Sem.run_bind, run_program, Result.andThen_ok, hfn, hbody]
      simp [hname]
    · cases h
  · cases h
/-- For typed functions. -/
def clT {α β : Type} (w h : Int) (cs : List α) (past : List β) (get : β → List α) : Option (List (List α)) :=
  if (0 ≤ w ∧ w ≤ 100000 ∧ 0 ≤ h ∧ h ≤ 100000) ∧ w.toNat * h.toNat ≤ cs.length ∧ past.length ≤ 500000 ∧ (∀ x ∈ past, (get x).length ≤ 1000000) then
    some (past.map get ++ (List.range h.toNat).map fun j => (cs.drop (j * w.toNat)).take w.toNat) else none
section
variable {α β : Type} {E : Enc α} {L : Enc β} {get : β → List α}
theorem encInt (hE : ∀ x, (E.enc x).all pInt = true) : ∀ xs : List α, (E.cells xs).all pInt = true
  | [] => rfl
  | x :: xs => by
    have e : E.cells (x :: xs) = E.enc x ++ E.cells xs := rfl
    rw [e, List.all_append, hE x, encInt hE xs]; rfl
theorem encRows (hk : E.k = 4) : ∀ z : List (List α), (z.map E.cells).map (fun cs => PD.sl (cs.length / 4) cs) = (eSl E).cells z
  | [] => rfl
  | r :: z => by
    have e : (eSl E).cells (r :: z) = [PD.sl r.length (E.cells r)] ++ (eSl E).cells z := rfl
    rw [e, ← encRows hk z]
    simp only [List.map_cons, List.singleton_append, List.cons.injEq, and_true]
    rw [E.cells_len, hk, Nat.mul_div_cancel _ (by decide)]
theorem encGrid (hk : E.k = 4) (w : Nat) (cs : List α) (h : Nat) : gridRows w (E.cells cs) h = ((List.range h).map fun j => (cs.drop (j * w)).take w).map E.cells := by
  unfold gridRows
  rw [List.map_map]
  refine List.map_congr_left fun j _ => ?_
  show _ = E.cells ((cs.drop (j * w)).take w)
  rw [← E.cells_take, ← E.cells_drop, hk]
theorem encPast (hk : E.k = 4) (hE : ∀ x, (E.enc x).all pInt = true) (hL : ∀ x, L.enc x = [.sl (get x).length (E.cells (get x))]) : ∀ l : List β, (∀ x ∈ l, (get x).length ≤ 1000000) → pastRows (L.cells l) = some ((l.map get).map E.cells)
  | [], _ => rfl
  | x :: l, h => by
    have e : L.cells (x :: l) = L.enc x ++ L.cells l := rfl
    rw [e, hL]
    simp only [List.singleton_append]
    unfold pastRows
    have ho : rowOk (get x).length (E.cells (get x)) = true := by
      unfold rowOk
      have h2 : Nat.beq (E.cells (get x)).length ((get x).length * 4) = true := by rw [E.cells_len, hk]; exact Nat.beq_refl _
      have h3 : Nat.ble (get x).length 1000000 = true := Nat.ble_eq_true_of_le (h x List.mem_cons_self)
      rw [h2, h3, encInt hE]; rfl
    rw [if_pos ho, encPast hk hE hL l (fun y hy => h y (List.mem_cons_of_mem _ hy))]; rfl
theorem clR_call {codes : Nat → Option FCode} {γ : Orc} {fr fc f1 : Nat} {cs : List PV} {ds : List PD} (hc : codes fr = none) (hd : dsOf cs = some ds) (hl : ds.length = 33) : ∀ n, lev codes (clO fr fc f1 γ) n fr [.agg cs] [] = some (.fn f1 [.rptr ds], []) := by
  have hb : clO fr fc f1 γ fr [.agg cs] [] = some (.fn f1 [.rptr ds], []) := by
    unfold clO
    rw [if_pos rfl]
    simp only [hd]
    rw [if_pos hl]
  intro n
  cases n with
  | zero => exact hb
  | succ n => simp only [lev, hc]; exact hb
theorem clT_call {codes : Nat → Option FCode} {γ : Orc} {fr fc f1 : Nat} {ds : List PD} {w h : Int} {cs : List α} {past : List β} {r : List (List α)} (hne : Nat.beq fc fr = false) (hc : codes fc = none) (hk : E.k = 4) (hE : ∀ x, (E.enc x).all pInt = true) (hL : ∀ x, L.enc x = [.sl (get x).length (E.cells (get x))])
    (e0 : ds[0]? = some (.int .i64 w)) (e1 : ds[1]? = some (.int .i64 h)) (e2 : ds[2]? = some (.sl cs.length (E.cells cs))) (e32 : ds[32]? = some (.sl past.length (L.cells past))) (hS : clT w h cs past get = some r) : ∀ n, lev codes (clO fr fc f1 γ) n fc [.fn f1 [.rptr ds]] [] = some (.d (.sl r.length ((eSl E).cells r)), []) := by
  unfold clT at hS
  split at hS
  · rename_i hok
    obtain ⟨⟨h1, h2, h3, h4⟩, h5, h6, h7⟩ := hok
    cases hS
    have hrows : clRows ds = some ((past.map get ++ (List.range h.toNat).map fun j => (cs.drop (j * w.toNat)).take w.toNat).map E.cells) := by
      unfold clRows
      simp only [e0, e1, e2, e32]
      have hLk : (L.cells past).length = past.length := by
        rw [L.cells_len]
        cases past with
        | nil => simp
        | cons x l => have := L.len x; rw [hL] at this; rw [← this]; simp
      rw [if_pos ⟨⟨h1, h2, h3, h4⟩, h5, by rw [E.cells_len, hk]; exact Nat.beq_refl _, encInt hE cs, hLk, h6⟩, encPast hk hE hL past h7, encGrid hk, List.map_append]
    generalize (past.map get ++ (List.range h.toNat).map fun j => (cs.drop (j * w.toNat)).take w.toNat) = z at hrows
    have hb : clO fr fc f1 γ fc [.fn f1 [.rptr ds]] [] = some (.d (.sl z.length ((eSl E).cells z)), []) := by
      unfold clO
      rw [if_neg (Nat.ne_of_beq_eq_false hne), if_pos rfl]
      simp only [if_pos rfl, hrows, if_true]
      rw [List.length_map, encRows hk]
    intro n
    cases n with
    | zero => exact hb
    | succ n => simp only [lev, hc]; exact hb
  · cases hS
theorem lib_callC {codes : Nat → Option FCode} {l : List (Nat × (List PV → Option PV))} {f fr fc f1 : Nat} {o : List PV → Option PV} {args : List PV} {r : PV} (h1 : Nat.beq f fr = false) (h2 : Nat.beq f fc = false) (hc : codes f = none) (hf : l.find? (fun x => Nat.beq x.1 f) = some (f, o)) (hp : pl r = true) (ho : o args = some r) : ∀ n, lev codes (clO fr fc f1 (libO l)) n f args [] = some (r, []) := by
  have hb : clO fr fc f1 (libO l) f args [] = some (r, []) := by
    unfold clO
    rw [if_neg (Nat.ne_of_beq_eq_false h1), if_neg (Nat.ne_of_beq_eq_false h2)]
    unfold libO
    rw [hf]; simp only [ho]; rw [if_pos hp]
  intro n
  cases n with
  | zero => exact hb
  | succ n => simp only [lev, hc]; exact hb
end
end Go.Proofs.YtioikkmmjljedaaGreatDoor.Pm
