/- Args: what Write tells; ArgsBack. -/
import Derived.Test.YtncgibcnibbdeaaDoorArP
namespace Go.Proofs.YtncgibcnibbdeaaDoor.Pm
open Go.Proofs.YtncgibcnibbdeaaDoor.Args
open Go.ChangeShapes Go.WideShapes Go.ChangeAt Go.RowKit
set_option linter.unusedVariables false
set_option linter.unusedSimpArgs false
set_option maxRecDepth 100000
def word (n : Int) : List UInt8 := if n < 0 then [] else Lib.itoa n
def badN (n : Int) : Bool := decide (n < -1) || decide (16383 < n)
theorem bad_eq (n : Int) : f36 n = some (badN n) := by
  unfold f36 badN
  by_cases h : n < -1
  · rw [decide_eq_true h]; rfl
  · rw [decide_eq_false h, cf]
    by_cases h2 : 16383 < n
    · rw [decide_eq_true h2]; rfl
    · rw [decide_eq_false h2]; rfl
theorem any_loop (l : List Int) : ∀ (suf pre : List Int), l = pre ++ suf → l.length ≤ 100000000 → ∃ r, loopO (f51_l0 l) (pre.length : Int) = some r ∧ ((suf.any badN = true ∧ ∃ i : Nat, r = .inr (i : Int)) ∨ (suf.any badN = false ∧ r = .inl ()))
  | [], pre, e, h => ⟨_, loopO_done (by
      subst e
      unfold f51_l0 f51_l0_j1
      simp only [lt_end, cond_false]), .inr ⟨rfl, rfl⟩⟩
  | z :: t, pre, e, h => by
    have hp : pre.length < 1000000000 := by rw [e] at h; simp at h; omega
    have hx : idx l (pre.length : Int) = some z := by rw [e]; exact idx_mid pre z t
    have hlt : decide ((pre.length : Int) < (l.length : Int)) = true := by rw [e]; exact lt_mid pre z t
    cases hz : badN z with
    | true =>
      refine ⟨.inr (pre.length : Int), loopO_done ?_, .inl ⟨by rw [List.any_cons, hz]; rfl, pre.length, rfl⟩⟩
      unfold f51_l0 f51_l0_j1 f51_l0_j2
      simp only [hlt, hx, cond_true, Option.bind_some, bad_eq, hz]
    | false =>
      obtain ⟨r, h1, h2⟩ := any_loop l t (pre ++ [z]) (by rw [e]; simp) h
      refine ⟨r, loopO_next ?_ h1, by rw [List.any_cons, hz, Bool.false_or]; exact h2⟩
      unfold f51_l0 f51_l0_j1 f51_l0_j2
      simp only [hlt, hx, cond_true, Option.bind_some, bad_eq, hz, cond_false]
      rw [wrap_nx pre z hp]
theorem any_ok (l : List Int) (h : l.length ≤ 100000000) : f35 l = some (l.any badN) := by
  unfold f35 f51
  obtain ⟨r, h1, h2⟩ := any_loop l l [] rfl h
  rw [show (0 : Int) = (([] : List Int).length : Int) from rfl, h1, bs]
  rcases h2 with ⟨ha, i, rfl⟩ | ⟨ha, rfl⟩
  · rw [Sum.elim_inr, bs, ha, decide_eq_true (by simp)]; rfl
  · rw [Sum.elim_inl, bs, ha, decide_eq_false (by simp)]; rfl
theorem digs : ∀ (u : Nat), u ≤ 16383 → (Lib.decDigits u).foldl numS (-1) = (u : Int) ∧ (∀ b ∈ Lib.decDigits u, 48 ≤ b.toNat ∧ b.toNat ≤ 57) ∧ (Lib.decDigits u).length ≤ u + 1 := by
  intro u
  induction u using Nat.strongRecOn with
  | ind u ih =>
    intro hu
    have hd : ∀ d : Nat, d < 10 → (UInt8.ofNat (48 + d)).toNat = 48 + d := fun d hd => by simp; omega
    have hs : ∀ d : Nat, d < 10 → ((UInt8.ofNat (48 + d)) - 48).toNat = d := fun d hd' => by
      have : ∀ d : Fin 10, ((UInt8.ofNat (48 + d.val)) - 48).toNat = d.val := by decide
      exact this ⟨d, hd'⟩
    by_cases h10 : u < 10
    · rw [Lib.decDigits_one h10]
      refine ⟨?_, fun b hb => ?_, by simp⟩
      · simp only [List.foldl_cons, List.foldl_nil]
        unfold numS
        rw [hs u h10]
        simp only [show (0 : Int) > -1 from by decide, if_true]
        rw [if_neg (by omega)]; omega
      · rw [List.mem_singleton] at hb; subst hb; rw [hd u h10]; omega
    · have e : Lib.decDigits u = Lib.decDigits (u / 10) ++ [UInt8.ofNat (48 + u % 10)] := by
        rw [Lib.decDigits, dif_neg h10]
      obtain ⟨i1, i2, i3⟩ := ih (u / 10) (by omega) (by omega)
      have hm : u % 10 < 10 := Nat.mod_lt _ (by decide)
      rw [e]
      refine ⟨?_, fun b hb => ?_, by simp; omega⟩
      · rw [List.foldl_append, i1]
        simp only [List.foldl_cons, List.foldl_nil]
        unfold numS
        rw [hs _ hm]
        have hg : ¬ (0 : Int) > ((u / 10 : Nat) : Int) := by omega
        simp only [hg, if_false]
        rw [if_neg (by omega)]; omega
      · rcases List.mem_append.1 hb with hb | hb
        · exact i2 b hb
        · rw [List.mem_singleton] at hb; subst hb; rw [hd _ hm]; omega
theorem word_ok (n : Int) (h : badN n = false) : num (word n) = n ∧ (∀ b ∈ word n, 48 ≤ b.toNat ∧ b.toNat ≤ 57) ∧ (word n).length ≤ 16384 := by
  unfold badN at h
  simp at h
  unfold word
  by_cases hn : n < 0
  · rw [if_pos hn]
    have : n = -1 := by omega
    subst this
    exact ⟨rfl, by simp, by simp⟩
  · rw [if_neg hn]
    obtain ⟨u, rfl⟩ := Int.eq_ofNat_of_zero_le (by omega : 0 ≤ n)
    rw [Lib.itoa_nonneg]
    obtain ⟨i1, i2, i3⟩ := digs u (by omega)
    exact ⟨i1, i2, by omega⟩
theorem words_loop (l : List Int) (hl : l.length ≤ 100) (hb : ∀ n ∈ l, badN n = false) : ∀ (suf pre : List Int) (out : List (List UInt8)), l = pre ++ suf → out.length = pre.length →
    loopO (f21_l2 l) (out, (pre.length : Int)) = some (out ++ suf.map word)
  | [], pre, out, e, ho => loopO_done (by
      subst e
      unfold f21_l2 f21_l2_j3
      simp only [lt_end, cond_false]; simp)
  | z :: t, pre, out, e, ho => by
    have hp : pre.length < 100 := by rw [e] at hl; simp at hl; omega
    have hx : idx l (pre.length : Int) = some z := by rw [e]; exact idx_mid pre z t
    have hlt : decide ((pre.length : Int) < (l.length : Int)) = true := by rw [e]; exact lt_mid pre z t
    have ih := words_loop l hl hb t (pre ++ [z]) (out ++ [word z]) (by rw [e]; simp) (by simp [ho])
    have hz := hb z (by rw [e]; simp)
    rw [List.map_cons, show out ++ word z :: t.map word = out ++ [word z] ++ t.map word by simp]
    refine loopO_next ?_ ih
    unfold f21_l2 f21_l2_j3 f21_l2_j4
    simp only [hlt, hx, cond_true, Option.bind_some]
    rw [wrap_nx pre z (by omega)]
    unfold word
    by_cases hn : z < 0
    · rw [decide_eq_true hn, if_pos hn, ct, app_ok 16 _ _ (by simp; omega), bs]
    · have hI : libItoaL z = some (Lib.itoa z) := by
        unfold badN at hz; simp at hz
        unfold libItoaL
        rw [if_pos ⟨by omega, by omega⟩]
      rw [decide_eq_false hn, if_neg hn, cf, hI, bs, app_ok 16 _ _ (by simp; omega), bs]
/-- What Write tells. -/
def writeA (l : List Int) : List UInt8 × Int := if l = [] then ([], 1) else if l.any badN then ([], 1) else if 32 < l.length then ([], 2) else (Lib.join (l.map word) [59], 0)
theorem join_small (l : List Int) (hb : ∀ n ∈ l, badN n = false) (hl : l.length ≤ 32) : (Lib.join (l.map word) [59]).length ≤ 600000 := by
  cases l with
  | nil => simp [Lib.join_nil]
  | cons x xs =>
    have := join_len 59 16384 (word x) (xs.map word) (fun w hw => by
      rw [← List.map_cons] at hw
      obtain ⟨n, hn, rfl⟩ := List.mem_map.1 hw
      exact (word_ok n (hb n hn)).2.2)
    rw [List.map_cons]
    simp only [List.length_map, List.length_cons] at this hl
    have : (xs.length + 1) * (16384 + 1) ≤ 32 * 16385 := Nat.mul_le_mul hl (Nat.le_refl _)
    omega
theorem write_ok (l : List Int) (h : l.length ≤ 10000000) : f21 l = some (writeA l) := by
  unfold f21 writeA
  by_cases h0 : l = []
  · subst h0; rfl
  · have hp := List.length_pos_iff.2 h0
    rw [decide_eq_false (by omega), cf, any_ok l (by omega), bs, if_neg h0]
    cases ha : l.any badN with
    | true => rw [ct]; rfl
    | false =>
      rw [cf]
      unfold f21_j0
      by_cases h32 : 32 < l.length
      · rw [decide_eq_true (by omega), ct, if_neg (by simp), if_pos h32]
      · rw [decide_eq_false (by omega), cf, if_neg (by simp), if_neg h32]
        unfold f21_j1
        have hb : ∀ n ∈ l, badN n = false := fun n hn => by
          have := List.any_eq_false.1 ha n hn
          simpa using this
        rw [show (0 : Int) = (([] : List Int).length : Int) from rfl, words_loop l (by omega) hb l [] [] rfl rfl, bs, List.nil_append]
        have hj := join_small l hb (by omega)
        have : libJoin (l.map word) [59] = some (Lib.join (l.map word) [59]) := by
          unfold libJoin
          rw [if_pos ⟨by simp; omega, by omega⟩]
        rw [this, bs]
theorem read_word (l : List Int) (h0 : l ≠ []) (hb : ∀ n ∈ l, badN n = false) (h32 : l.length ≤ 32) : readA (Lib.join (l.map word) [59]) = (l, 0) := by
  obtain ⟨x, xs, rfl⟩ := List.exists_cons_of_ne_nil h0
  have hw : ∀ w ∈ word x :: xs.map word, ∀ b ∈ w, 48 ≤ b.toNat ∧ b.toNat ≤ 57 := fun w hw b hbw => by
    rw [← List.map_cons] at hw
    obtain ⟨n, hn, rfl⟩ := List.mem_map.1 hw
    exact (word_ok n (hb n hn)).2.1 b hbw
  rw [List.map_cons]
  unfold readA
  have hall : (Lib.join (word x :: xs.map word) [59]).all okB = true := List.all_eq_true.2 fun b hbj => by
    rcases join_mem 59 _ _ b hbj with rfl | ⟨w, h1, h2⟩
    · decide
    · have := hw w h1 b h2
      unfold okB; simp; omega
  rw [if_pos hall, join_split 59 _ _ (fun w h1 b h2 e => by have := hw w h1 b h2; subst e; revert this; decide)]
  rw [← List.map_cons, List.map_map]
  have : (x :: xs).map (num ∘ word) = x :: xs := by
    have h := fun n hn => (word_ok n (hb n hn)).1
    have := List.map_congr_left (f := num ∘ word) (g := id) (l := x :: xs) (fun n hn => h n hn)
    rw [this, List.map_id]
  rw [this, List.take_of_length_le h32]
theorem num_good (w : List UInt8) : badN (num w) = false := by
  have : ∀ (w : List UInt8) (n : Int), -1 ≤ n ∧ n ≤ 16383 → -1 ≤ w.foldl numS n ∧ w.foldl numS n ≤ 16383 := fun w => by
    induction w with
    | nil => intro n h; exact h
    | cons z t ih => intro n h; rw [List.foldl_cons]; have := numS_b n z h; exact ih _ (by omega)
  have := this w (-1) (by omega)
  unfold badN num
  simp; omega
theorem argsBack (l : List Int) (s : List UInt8) (hl : l.length ≤ 1048576) (hs : s.length ≤ 1048576) : f7 l s = some true := by
  have j0 : f7_j0 l s = some true := by
    unfold f7_j0
    rw [read_ok s (by omega), bs, lives, bs, Bool.not_true, cf]
    cases ha : s.all okB with
    | false =>
      have : readA s = ([], 4) := by unfold readA; rw [ha]; rfl
      rw [this]
      simp only
      rw [decide_eq_false (by decide), Bool.not_false, ct]
      unfold f7_j2
      rw [lives, bs, ct]; rfl
    | true =>
      have : readA s = (((splitC 59 s).map num).take 32, 0) := by unfold readA; rw [ha]; rfl
      rw [this]
      simp only [decide_true, Bool.not_true, cf]
      obtain ⟨h, r, e⟩ := splitC_ne 59 s
      generalize hm : ((splitC 59 s).map num).take 32 = m
      have m0 : m ≠ [] := by rw [← hm, e]; simp
      have m32 : m.length ≤ 32 := by rw [← hm]; simp; omega
      have mb : ∀ n ∈ m, badN n = false := fun n hn => by
        rw [← hm] at hn
        obtain ⟨w, _, rfl⟩ := List.mem_map.1 (List.mem_of_mem_take hn)
        exact num_good w
      have hw : writeA m = (Lib.join (m.map word) [59], 0) := by
        unfold writeA
        rw [if_neg m0, if_neg (by rw [Bool.not_eq_true]; exact List.any_eq_false.2 fun n hn => by rw [mb n hn]; simp), if_neg (by omega)]
      have hj := join_small m mb m32
      have mp := List.length_pos_iff.2 m0
      unfold f7_j1
      rw [write_ok m (by omega), bs, hw]
      simp only
      rw [read_ok _ (by omega), bs, read_word m m0 mb m32]
      simp only [decide_true, ct]
      rw [f20_same m (by omega), bs, ct, decide_eq_true (by omega), ct, decide_eq_true (by omega), ct]
  unfold f7
  rw [write_ok l (by omega), bs]
  by_cases h0 : l = []
  · have : writeA l = ([], 1) := by unfold writeA; rw [if_pos h0]
    rw [this]
    simp only
    rw [decide_eq_false (by decide), cf, j0]
  · cases ha : l.any badN with
    | true =>
      have : writeA l = ([], 1) := by unfold writeA; rw [if_neg h0, if_pos ha]
      rw [this]
      simp only
      rw [decide_eq_false (by decide), cf, j0]
    | false =>
      have lb : ∀ n ∈ l, badN n = false := fun n hn => by
        have := List.any_eq_false.1 ha n hn
        simpa using this
      by_cases h32 : 32 < l.length
      · have : writeA l = ([], 2) := by unfold writeA; rw [if_neg h0, if_neg (by rw [ha]; simp), if_pos h32]
        rw [this]
        simp only
        rw [decide_eq_false (by decide), cf, j0]
      · have hw : writeA l = (Lib.join (l.map word) [59], 0) := by unfold writeA; rw [if_neg h0, if_neg (by rw [ha]; simp), if_neg h32]
        have hj := join_small l lb (by omega)
        rw [hw]
        simp only [decide_true, ct]
        rw [read_ok _ (by omega), bs, read_word l h0 lb (by omega)]
        simp only [decide_true, Bool.not_true, cf]
        rw [f20_same l (by omega), bs, Bool.not_true, cf, j0]
theorem maxcell {w : World} (hsh : w.ShapedOpen Go.Proofs.Tryd.prog) : ∃ m, w.cell? ⟨0, 0, none⟩ = some (.int .i64 m) :=
  cell_of_shapedOpen_int (t := 3) (zero := #[.int .i64 0]) hsh (of_decide_eq_true (by kernel_rfl)) (by kernel_rfl) rfl (by kernel_rfl) (by kernel_rfl) (by kernel_rfl)
theorem pow10 {w : World} (hL : laidMetH Go.Proofs.Tryd.prog Rows.argsBackUptoRow.laid w) : Lib.TabIs Go.Proofs.Tryd.prog w "internal/strconv.uint64pow10" .u64 Lib.pow10Tab := by
  have h := hL.filter (fun x => x.1 == "internal/strconv.uint64pow10")
  have e : (Rows.argsBackUptoRow.laid.filter fun x => x.1 == "internal/strconv.uint64pow10") = [("internal/strconv.uint64pow10", Lib.tabData .u64 Lib.pow10Tab)] := by kernel_rfl
  rw [e] at h
  have h2 := (laidMetH_iff.1 h).1
  have e2 : (([("internal/strconv.uint64pow10", Lib.tabData .u64 Lib.pow10Tab)] : List (String × DataW Unit)).filter fun x => x.2.handleName?.isNone) = [("internal/strconv.uint64pow10", Lib.tabData .u64 Lib.pow10Tab)] := by kernel_rfl
  rw [e2] at h2
  exact Lib.tabIs_of_head rfl rfl rfl rfl rfl rfl h2
theorem ArgsBack_walk (v0 v1 : Value) (w : World) (h0 : Arg (some 1048576) Go.Proofs.Tryd.prog w 37 v0) (h1 : Arg (some 1048576) Go.Proofs.Tryd.prog w 9 v1) (hsh : w.ShapedOpen Go.Proofs.Tryd.prog) (hL : laidMetH Go.Proofs.Tryd.prog Rows.argsBackUptoRow.laid w) : Calls Go.Proofs.Tryd.prog 7 #[v0, v1] w fun e w' => e = .returned (.bool true) ∧ Below w.heap.size w w' :=
  ArgsBack_calls (some 1048576) (fun l s hl hs => argsBack l s (by have := hl.1; unfold FitN at this; omega) (by have := hs.2; unfold FitN at this; omega)) v0 v1 w h0 h1 (maxcell hsh) (pow10 hL)
end Go.Proofs.YtncgibcnibbdeaaDoor.Pm
