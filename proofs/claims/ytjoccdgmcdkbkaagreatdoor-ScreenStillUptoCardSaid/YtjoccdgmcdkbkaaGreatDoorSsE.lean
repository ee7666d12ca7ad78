/- ScreenStill: the law. -/
import Derived.Test.YtjoccdgmcdkbkaaGreatDoorSsD
import Derived.Test.YtjoccdgmcdkbkaaGreatDoorRows
import Derived.Lib.LaidTab
import Derived.MakeChecks
import Derived.LaidSub
namespace Go.Proofs.YtjoccdgmcdkbkaaGreatDoor.Pm
open Go.Proofs.YtjoccdgmcdkbkaaGreatDoor.Args
open Go.ChangeShapes Go.WideShapes Go.ChangeAt Go.RowKit
set_option linter.unusedVariables false
set_option linter.unusedSimpArgs false
set_option maxRecDepth 100000
theorem tm21 (c : Int) : -21 < Int.tmod c 21 ∧ Int.tmod c 21 < 21 ∧ (0 ≤ c → 0 ≤ Int.tmod c 21) := by
  rcases Int.le_total 0 c with h | h
  · obtain ⟨n, rfl⟩ := Int.eq_ofNat_of_zero_le h
    have : Int.tmod (n : Int) 21 = ((n % 21 : Nat) : Int) := by simp [Int.tmod]
    omega
  · obtain ⟨n, hn⟩ := Int.eq_ofNat_of_zero_le (show 0 ≤ -c by omega)
    have e : c = -(n : Int) := by omega
    subst e
    have : Int.tmod (n : Int) 21 = ((n % 21 : Nat) : Int) := by simp [Int.tmod]
    rw [Int.neg_tmod]
    omega
instance (c : Int) : Decidable (inCC c) := by unfold inCC; infer_instance
instance (c : Int) : Decidable (inLL c) := by unfold inLL; infer_instance
theorem pick (c : Int) : ∃ z, idx ([65, 66, 67, 68, 69, 70, 71, 72, 73, 90, 100, 102, 103, 104, 108, 109, 110, 114, 115, 117, 96] : List UInt8) (Int.tmod (IntKind.i64.wrap ((Int.tmod c 21) + 21)) 21) = some z ∧ inLL (z.toNat : Int) := by
  have h := tm21 c
  rw [i64w _ (by omega)]
  have h2 := tm21 (Int.tmod c 21 + 21)
  obtain ⟨n, hn⟩ := Int.eq_ofNat_of_zero_le (show 0 ≤ Int.tmod (Int.tmod c 21 + 21) 21 from h2.2.2 (by omega))
  rw [hn]
  have hlt : n < 21 := by omega
  have all : ∀ i : Fin 21, inLL ((([65, 66, 67, 68, 69, 70, 71, 72, 73, 90, 100, 102, 103, 104, 108, 109, 110, 114, 115, 117, 96] : List UInt8).getD i.val 0).toNat : Int) := by decide
  exact ⟨_, idx_nat _ n 0 hlt, all ⟨n, hlt⟩⟩
theorem map_step (s : GScreen) (a2 : List GAct) (p : List GAct) (i : Nat) (hi : i < p.length) (hp : p.length ≤ 1048576) : ∃ c : Int, inLL c ∧ f4_l2_j4 s a2 p (i : Int) = some (.inl (p.set i ⟨4, c, 0, [], p[i].Args, p[i].Text⟩, ((i + 1 : Nat) : Int))) := by
  obtain ⟨z, hz, hc⟩ := pick p[i].Code
  refine ⟨_, hc, ?_⟩
  have h0 : inR ((i : Nat) : Int) p.length = some i := inR_nat i _ hi
  have g0 : p[i]? = some p[i] := List.getElem?_eq_getElem hi
  have gs : ∀ a, (p.set i a)[i]? = some a := by intro a; simp [hi]
  have ss : ∀ a b, (p.set i a).set i b = p.set i b := by intro a b; simp
  have hk : chk (!decide ((([65, 66, 67, 68, 69, 70, 71, 72, 73, 90, 100, 102, 103, 104, 108, 109, 110, 114, 115, 117, 96] : List UInt8).length : Int) = 0)) = some () := chk_ok (by decide)
  have hl : (([65, 66, 67, 68, 69, 70, 71, 72, 73, 90, 100, 102, 103, 104, 108, 109, 110, 114, 115, 117, 96] : List UInt8).length : Int) = 21 := rfl
  unfold f4_l2_j4
  rw [cloneA p hp]
  simp only [hk, bs, List.length_set, h0, g0, gs, ss]
  simp only [hl, hz, bs, wr1 i (by omega)]
theorem map_ok (s : GScreen) (a2 : List GAct) (hl : a2.length ≤ 1048576) (ha : ∀ x ∈ a2, x.Args.length ≤ 1048576) : ∃ l, loopO (f4_l2 s a2) (a2, 0) = some l ∧ l.length ≤ 1048576 ∧ ∀ x ∈ l, OkA x :=
  loopO_ind (fun k (x : List GAct × Int) => ∃ i : Nat, x.2 = (i : Int) ∧ i ≤ a2.length ∧ k = a2.length - i ∧ x.1.length = a2.length ∧ (∀ (j : Nat) (h : j < x.1.length), j < i → OkA x.1[j]) ∧ ∀ y ∈ x.1, y.Args.length ≤ 1048576) (fun (l : List GAct) => l.length ≤ 1048576 ∧ ∀ x ∈ l, OkA x) (by
    rintro k ⟨p, _⟩ ⟨i, rfl, hi, rfl, hpl, ho, hr⟩
    unfold f4_l2
    try dsimp only [] at hpl ho hr ⊢
    by_cases hlt : i < a2.length
    · left
      rw [bct (dt (by omega))]
      unfold f4_l2_j3
      have hip : i < p.length := by omega
      obtain ⟨c, hc, e⟩ := map_step s a2 p i hip (by omega)
      rw [ct, e]
      refine ⟨_, a2.length - (i + 1), rfl, by omega, i + 1, rfl, by omega, rfl, by simp [hpl], ?_, ?_⟩
      · intro j hj hji
        try dsimp only [] at hj ⊢
        by_cases e : i = j
        · subst e
          rw [List.getElem_set_self]
          exact ⟨rfl, rfl, rfl, hc, hr p[i] (List.getElem_mem hip)⟩
        · rw [List.getElem_set_ne e]
          exact ho j (by simpa using hj) (by omega)
      · intro y hy
        rcases List.mem_or_eq_of_mem_set hy with h | h
        · exact hr y h
        · rw [h]; exact hr p[i] (List.getElem_mem hip)
    · right
      rw [bcf (df (by omega))]
      unfold f4_l2_j3
      rw [cf]
      refine ⟨_, rfl, by omega, fun x hx => ?_⟩
      obtain ⟨j, hj, rfl⟩ := List.mem_iff_getElem.1 hx
      exact ho j hj (by omega)) (n := a2.length) ⟨0, rfl, by omega, by omega, rfl, fun j h hj => by omega, ha⟩
theorem screenStill (s : GScreen) (a2 : List GAct) (hs : SzS s) (hl : a2.length ≤ 1048576) (ha : ∀ x ∈ a2, x.Args.length ≤ 1048576) : f4 s a2 = some true := by
  have lv : libLives = some true := rfl
  unfold f4
  obtain ⟨l, h1, h2, h3⟩ := map_ok s a2 hl ha
  rw [h1, bs]
  unfold f4_j0
  obtain ⟨b, hb, hb2⟩ := has117 l h2
  obtain ⟨s', o, n, hr, k⟩ := run_still s l (b = true) hs h2 h3 (fun x hx hc => by
    cases b with
    | true => rfl
    | false => exact absurd hc (hb2 rfl x hx))
  rw [hr, bs, lv]
  simp only [bs, Bool.not_true, cf]
  by_cases n0 : n = 0
  case neg => rw [df n0, Bool.not_false, ct]
  rw [dt n0, Bool.not_true, cf]
  unfold f4_j1
  rw [hb, bs, k.g, same_grid _ hs.g, bs, ct, k.o, same_grid _ hs.o, bs, ct, k.p, dt rfl, ct, k.ti, dt rfl, ct]
  cases b with
  | true => rw [ct]
  | false =>
    have pg := k.pg.resolve_left (by decide)
    have sh := k.sh.resolve_left (by decide)
    rw [cf, pg, sh, dt rfl, dt rfl, dt rfl]; rfl
theorem pow10 {w : World} (hL : laidMetH Go.Proofs.Tryz.prog Rows.screenStillUptoRow.laid w) : Lib.TabIs Go.Proofs.Tryz.prog w "internal/strconv.uint64pow10" .u64 Lib.pow10Tab := by
  have h := hL.filter (fun x => x.1 == "internal/strconv.uint64pow10")
  have e : (Rows.screenStillUptoRow.laid.filter fun x => x.1 == "internal/strconv.uint64pow10") = [("internal/strconv.uint64pow10", Lib.tabData .u64 Lib.pow10Tab)] := by kernel_rfl
  rw [e] at h
  have h2 := (laidMetH_iff.1 h).1
  have e2 : (([("internal/strconv.uint64pow10", Lib.tabData .u64 Lib.pow10Tab)] : List (String × DataW Unit)).filter fun x => x.2.handleName?.isNone) = [("internal/strconv.uint64pow10", Lib.tabData .u64 Lib.pow10Tab)] := by kernel_rfl
  rw [e2] at h2
  exact Lib.tabIs_of_head rfl rfl rfl rfl rfl rfl h2
theorem ScreenStill_walk (v0 v1 : Value) (w : World) (h0 : Arg (some 1048576) Go.Proofs.Tryz.prog w 36 v0) (h1 : Arg (some 1048576) Go.Proofs.Tryz.prog w 37 v1) (hsh : w.ShapedOpen Go.Proofs.Tryz.prog) (hL : laidMetH Go.Proofs.Tryz.prog Rows.screenStillUptoRow.laid w) : Calls Go.Proofs.Tryz.prog 4 #[v0, v1] w fun e w' => e = .returned (.bool true) ∧ Below w.heap.size w w' :=
  ScreenStill_calls (some 1048576) (fun s l hv hl => screenStill s l ⟨by have := hv.1.2.2.1; unfold FitN at this; omega, by have := hv.2.2.2.2.2.2.2.2.2.2.2.2.1.2.2.1; unfold FitN at this; omega, by have := hv.2.2.2.2.2.2.2.2.2.2.2.2.2.2.1; unfold FitN at this; omega, fun x hx => by have := (hv.2.2.2.2.2.2.2.2.2.2.2.2.2.2.2 x hx).1; unfold FitN at this; omega⟩ (by have := hl.1; unfold FitN at this; omega) (fun x hx => by have := (hl.2 x hx).2.2.2.2.1.1; unfold FitN at this; omega)) v0 v1 w h0 h1 (pow10 hL)
end Go.Proofs.YtjoccdgmcdkbkaaGreatDoor.Pm
