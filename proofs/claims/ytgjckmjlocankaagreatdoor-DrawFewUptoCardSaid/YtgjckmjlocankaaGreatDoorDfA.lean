/- DrawFew: what a pen, a sign and a row cost. -/
import Derived.Test.YtgjckmjlocankaaGreatDoorDfG
namespace Go.Proofs.YtgjckmjlocankaaGreatDoor.Pm
open Go.Proofs.YtgjckmjlocankaaGreatDoor.Args
open Go.ChangeShapes Go.WideShapes Go.ChangeAt Go.RowKit
set_option linter.unusedVariables false
set_option linter.unusedSimpArgs false
set_option maxRecDepth 100000
def Sm (l : List Int) : Prop := ∀ n ∈ l, 0 ≤ n ∧ n ≤ 999
theorem dd_len (u : Nat) (h : u < 1000) : (Lib.decDigits u).length ≤ 3 := by
  have one : ∀ u, u < 10 → (Lib.decDigits u).length = 1 := fun u h => by rw [Lib.decDigits_one h]; rfl
  have more : ∀ u, ¬ u < 10 → (Lib.decDigits u).length = (Lib.decDigits (u / 10)).length + 1 := fun u h => by
    have e : Lib.decDigits u = Lib.decDigits (u / 10) ++ [UInt8.ofNat (48 + u % 10)] := by rw [Lib.decDigits, dif_neg h]
    rw [e]; simp
  by_cases h1 : u < 10
  · rw [one u h1]; omega
  rw [more u h1]
  by_cases h2 : u / 10 < 10
  · rw [one _ h2]; omega
  rw [more _ h2, one (u / 10 / 10) (by omega)]; omega
theorem word_len (n : Int) (h : 0 ≤ n ∧ n ≤ 999) : (word n).length ≤ 3 := by
  obtain ⟨u, rfl⟩ := Int.eq_ofNat_of_zero_le h.1
  unfold word
  rw [if_neg (by omega), Lib.itoa_nonneg]
  exact dd_len u (by omega)
theorem args_len (l : List Int) (h : Sm l) : (writeA l).1.length ≤ 4 * l.length := by
  unfold writeA
  by_cases h0 : l = []
  · rw [if_pos h0]; simp
  rw [if_neg h0]
  split
  · simp
  split
  · simp
  obtain ⟨x, xs, rfl⟩ := List.exists_cons_of_ne_nil h0
  have := join_len 59 3 (word x) (xs.map word) (fun w hw => by
    rw [← List.map_cons] at hw
    obtain ⟨n, hn, rfl⟩ := List.mem_map.1 hw
    exact word_len n (h n hn))
  rw [List.length_map] at this
  show (Lib.join (word x :: xs.map word) [59]).length ≤ 4 * (xs.length + 1)
  omega
theorem inters_nil : f37 [] 2 = some true := by
  unfold f37
  rw [loopO_done (r := .inl ()) (by
    unfold f37_l0 f37_l0_j1
    rw [bcf (df (by simp)), cf]), bs]
  rfl
theorem act_ok (code F B K : Int) (args out : List Int) (hw : f36 code 64 126 = some true) (ha : Sm args) (hl : args.length ≤ 32) (ho : out.length ≤ 10000000) :
    ∃ t, f10 code F B K args out = some (out ++ t, F, B, K, args) ∧ t.length ≤ 3 + 4 * args.length := by
  have hp : f34 (GAct.mk 4 code 0 [] args []) = some true := rfl
  have al := args_len args ha
  unfold f10 f23
  rw [hp, bs, Bool.not_true, cf]
  unfold f23_j0
  try dsimp only []
  rw [bcf (df (show ¬ (4 : Int) = 1 by decide)), bcf (df (show ¬ (4 : Int) = 2 by decide)), bcf (df (show ¬ (4 : Int) = 3 by decide)), bct (dt (show (4 : Int) = 4 from rfl)), write_ok args (by omega), bs, bct (dt (show (0 : Int) = 0 from rfl)), inters_nil, bs, ct, hw, bs, ct]
  have none_ : ∃ t, ((some (([] : List Int), (1 : Int))).bind fun z3 => ((app? 8 out z3.1).bind fun z4 => (some (z4, F, B, K, args)))) = some (out ++ t, F, B, K, args) ∧ t.length ≤ 3 + 4 * args.length := by
    rw [bs, app_ok 8 _ _ (by simp; omega), bs]
    exact ⟨[], rfl, by simp⟩
  by_cases e : (writeA args).2 = 0
  case neg => rw [bcf (df e)]; exact none_
  rw [bct (dt e)]
  by_cases wl : ((writeA args).1.length : Int) ≤ 100
  case neg => rw [bcf (df wl)]; exact none_
  rw [bct (dt wl)]
  unfold f23_j2 f23_j3
  try dsimp only []
  have rl := rns_len (writeA args).1.length (writeA args).1 (Nat.le_refl _)
  rw [bcf (by rfl), cat_ok _ _ (by simp; omega), bs, List.append_nil, runes_ok _ (by omega), bs, app_ok 8 _ _ (by simp; omega), bs, app_ok 8 _ _ (by simp; omega), bs, bs, app_ok 8 _ _ (by simp; omega), bs]
  exact ⟨_, rfl, by simp; omega⟩
theorem col_b {c : Int} (h : colB c = true) : (0 ≤ c ∧ c ≤ 256) ∨ (16777216 ≤ c ∧ c < 33554432) := by
  unfold colB at h; simpa using h
theorem paint_ok (c b : Int) (hb : b = 30 ∨ b = 40) (hc : (0 ≤ c ∧ c ≤ 256) ∨ (16777216 ≤ c ∧ c < 33554432)) : ∃ l, f43 c b = some l ∧ l.length ≤ 5 ∧ Sm l := by
  unfold f43
  by_cases h1 : c ≤ 8
  · rw [bct (dt h1), i64w (b + c) (by omega), i64w _ (by omega)]
    refine ⟨_, rfl, by simp, fun n hn => ?_⟩
    simp only [List.mem_cons, List.not_mem_nil, or_false] at hn
    omega
  rw [bcf (df h1)]
  by_cases h2 : c ≤ 16
  · rw [bct (dt h2), i64w (b + 60) (by omega), i64w (b + 60 + c) (by omega), i64w _ (by omega)]
    refine ⟨_, rfl, by simp, fun n hn => ?_⟩
    simp only [List.mem_cons, List.not_mem_nil, or_false] at hn
    omega
  rw [bcf (df h2)]
  by_cases h3 : c ≤ 256
  · rw [bct (dt h3), i64w (b + 8) (by omega), i64w (c - 1) (by omega)]
    refine ⟨_, rfl, by simp, fun n hn => ?_⟩
    simp only [List.mem_cons, List.not_mem_nil, or_false] at hn
    omega
  rw [bcf (df h3)]
  unfold f43_j0
  obtain ⟨k, rfl⟩ := Int.eq_ofNat_of_zero_le (show 0 ≤ c by omega)
  have d16 : Int.fdiv (k : Int) (2 ^ 16) = ((k / 65536 : Nat) : Int) := by
    rw [Int.fdiv_eq_ediv_of_nonneg _ (by decide)]; exact (Int.natCast_ediv k 65536).symm
  have d8 : Int.fdiv (k : Int) (2 ^ 8) = ((k / 256 : Nat) : Int) := by
    rw [Int.fdiv_eq_ediv_of_nonneg _ (by decide)]; exact (Int.natCast_ediv k 256).symm
  rw [d16, d8, and_255 _ (by omega), and_255 _ (by omega), and_255 _ (by omega), i64w (b + 8) (by omega)]
  refine ⟨_, rfl, by simp, fun n hn => ?_⟩
  simp only [List.mem_cons, List.not_mem_nil, or_false] at hn
  omega
theorem sm_app {l m : List Int} (hl : Sm l) (hm : Sm m) : Sm (l ++ m) := fun n hn => by
  rcases List.mem_append.1 hn with h | h
  · exact hl n h
  · exact hm n h
theorem ch1 (p q r : GPen) (o : List Int) (hq : pcB q = true) (ho : o.length ≤ 1) (so : Sm o) : ∃ l e, f24_j1 p q r o = some (l, e) ∧ l.length ≤ 20 ∧ Sm l := by
  have hf : colB q.Fore = true ∧ colB q.Back = true := by
    unfold pcB at hq; rw [Bool.and_eq_true] at hq; have h2 := hq.2; rw [Bool.and_eq_true] at h2; exact h2
  unfold f24_j1
  obtain ⟨x, hx, e1, e2, e3⟩ := loopO_ind (body := f24_l4 p q) (fun k (x : GPen × List Int × Int) => ∃ i : Nat, x.2.2 = ((i + 1 : Nat) : Int) ∧ i ≤ 9 ∧ k = 9 - i ∧ x.1 = r ∧ x.2.1.length ≤ 1 + i ∧ Sm x.2.1) (fun (x : GPen × List Int) => x.1 = r ∧ x.2.length ≤ 10 ∧ Sm x.2) (by
    rintro k ⟨g, o, _⟩ ⟨i, rfl, hi, rfl, rfl, h1, h2⟩
    unfold f24_l4
    try dsimp only [] at h1 h2 ⊢
    by_cases hlt : i < 9
    · left
      rw [bct (dt (by omega))]
      unfold f24_l4_j5 f42
      rw [inR_nat (i + 1) 10 (by omega), bs, bs]
      have hw : IntKind.i64.wrap (((i + 1 : Nat) : Int) + 1) = ((i + 1 + 1 : Nat) : Int) := wr1 (i + 1) (by omega)
      rw [hw]
      cases (!decide (bitI .andNot .i64 (bitI .and .i64 (([0, 1, 2, 4, 8, 16, 0, 32, 64, 128] : List Int).getD (i + 1) 0) q.Flags) g.Flags = 0)) with
      | true =>
        rw [ct, app_ok 8 _ _ (by simp; omega), bs]
        refine ⟨_, 9 - (i + 1), rfl, by omega, i + 1, rfl, by omega, rfl, rfl, by simp; omega, sm_app h2 fun n hn => ?_⟩
        rw [List.mem_singleton] at hn
        omega
      | false =>
        rw [cf]
        exact ⟨_, 9 - (i + 1), rfl, by omega, i + 1, rfl, by omega, rfl, rfl, by show o.length ≤ _; omega, h2⟩
    · right
      rw [bcf (df (by omega))]
      exact ⟨_, rfl, rfl, by show o.length ≤ _; omega, h2⟩) (n := 9) (x := (r, o, 1)) ⟨0, rfl, by omega, by omega, rfl, by simpa using ho, so⟩
  rw [hx, bs]
  unfold f24_j2
  obtain ⟨a, ha, a1, a2⟩ := paint_ok q.Fore 30 (.inl rfl) (col_b hf.1)
  obtain ⟨b, hb, b1, b2⟩ := paint_ok q.Back 40 (.inr rfl) (col_b hf.2)
  have j3 : ∀ m : List Int, m.length ≤ 15 → Sm m → ∃ l e, f24_j3 p q x.1 m = some (l, e) ∧ l.length ≤ 20 ∧ Sm l := fun m m1 m2 => by
    unfold f24_j3
    cases (!decide (q.Back = x.1.Back)) with
    | true =>
      rw [ct, hb, bs, app_ok 8 _ _ (by omega), bs]
      exact ⟨_, _, rfl, by simp; omega, sm_app m2 b2⟩
    | false => rw [cf]; exact ⟨_, _, rfl, by omega, m2⟩
  cases (!decide (q.Fore = x.1.Fore)) with
  | true =>
    rw [ct, ha, bs, app_ok 8 _ _ (by omega), bs]
    exact j3 _ (by simp; omega) (sm_app e3 a2)
  | false => rw [cf]; exact j3 _ (by omega) e3
theorem change_ok (p q : GPen) : ∃ l e, f24 p q = some (l, e) ∧ l.length ≤ 20 ∧ Sm l := by
  have no : ∀ e : Int, ∃ l e', (some (([] : List Int), e)) = some (l, e') ∧ l.length ≤ 20 ∧ Sm l := fun e => ⟨_, _, rfl, by simp, fun n hn => by simp at hn⟩
  unfold f24 f24_j8
  rw [pen_ok, bs]
  by_cases hp : pcI p = 0
  case neg => rw [df hp, Bool.not_false, ct]; exact no _
  rw [dt hp, Bool.not_true, cf]
  unfold f24_j9
  rw [pen_ok, bs]
  by_cases hq : pcI q = 0
  case neg => rw [df hq, Bool.not_false, ct]; exact no _
  rw [dt hq, Bool.not_true, cf]
  have hq' : pcB q = true := by rw [← pcI0]; exact dt hq
  have h6 : ∃ l e, f24_j6 p q = some (l, e) ∧ l.length ≤ 20 ∧ Sm l := by
    unfold f24_j6
    rw [app_ok 8 _ _ (by simp), bs]
    exact ch1 p q _ _ hq' (by simp) (fun n hn => by simp at hn; omega)
  have h7 : ∃ l e, f24_j7 p q = some (l, e) ∧ l.length ≤ 20 ∧ Sm l := by
    unfold f24_j7
    exact ch1 p q _ _ hq' (by simp) (fun n hn => by simp at hn)
  unfold f24_j0
  generalize (!decide ((bitI .andNot .i64 p.Flags q.Flags) = 0)) = b1
  generalize (!decide (p.Fore = 0)) = b2
  generalize (decide (q.Fore = 0)) = b3
  generalize (!decide (p.Back = 0)) = b4
  generalize (decide (q.Back = 0)) = b5
  cases b1 <;> cases b2 <;> cases b3 <;> cases b4 <;> cases b5 <;> first | exact h6 | exact h7
theorem to_ok (q : GPen) (F B K : Int) (out : List Int) (ho : out.length ≤ 10000000) : ∃ t, f11 q F B K out = some (out ++ t, q.Flags, q.Fore, q.Back) ∧ t.length ≤ 83 := by
  unfold f11
  obtain ⟨l, e, h, l1, l2⟩ := change_ok (GPen.mk F B K) q
  rw [h, bs]
  try dsimp only []
  by_cases h0 : (0 : Int) < (l.length : Int)
  · obtain ⟨t, ht, tl⟩ := act_ok 109 F B K l out rfl l2 (by omega) ho
    rw [bct (dt h0), ht, bs]
    exact ⟨t, rfl, by omega⟩
  · rw [bcf (df h0)]
    exact ⟨[], by rw [List.append_nil], by simp⟩
/-- Rows of cells that are the same. -/
theorem eq_ok (l m : List GCell) (hl : l.length ≤ 1000000) : ∃ b, f6 l m = some b ∧ (b = true ↔ l = m) := by
  unfold f6
  by_cases hn : l.length = m.length
  case neg =>
    rw [df (show ¬ (l.length : Int) = (m.length : Int) by omega), Bool.not_false, ct]
    exact ⟨_, rfl, ⟨fun h => (by cases h), fun h => absurd (congrArg List.length h) hn⟩⟩
  rw [dt (show (l.length : Int) = (m.length : Int) by omega), Bool.not_true, cf]
  unfold f6_j0
  have h := loop_scan (body := f6_l1 l m) (fun i => (i : Int)) (.inl ()) (.inr false) l.length (fun i => ceq (cx l i) (cx m i)) ?_ ?_ ?_
  · rw [show ((0 : Nat) : Int) = 0 from rfl] at h
    rw [h, bs]
    by_cases hp : ∀ i, i < l.length → ceq (cx l i) (cx m i) = true
    · rw [if_pos hp, Sum.elim_inl]
      exact ⟨_, rfl, ⟨fun _ => cx_ext l m hn fun i hi => (ceq_iff _ _).1 (hp i hi), fun _ => rfl⟩⟩
    · rw [if_neg hp, Sum.elim_inr]
      exact ⟨_, rfl, ⟨fun q => (by cases q), fun q => absurd (fun i hi => (ceq_iff _ _).2 (by rw [q])) hp⟩⟩
  · intro i hi hp
    unfold f6_l1 f6_l1_j2 f6_l1_j3
    rw [bct (dt (by omega)), ct, cx_idx l i hi, bs, cx_idx m i (by omega), bs, wr1 i (by omega)]
    show (bif !ceq (cx l i) (cx m i) then _ else _) = _
    rw [hp]; rfl
  · intro i hi hp
    unfold f6_l1 f6_l1_j2 f6_l1_j3
    rw [bct (dt (by omega)), ct, cx_idx l i hi, bs, cx_idx m i (by omega), bs]
    show (bif !ceq (cx l i) (cx m i) then _ else _) = _
    rw [hp]; rfl
  · unfold f6_l1 f6_l1_j2
    rw [bcf (df (by omega)), cf]
end Go.Proofs.YtgjckmjlocankaaGreatDoor.Pm
