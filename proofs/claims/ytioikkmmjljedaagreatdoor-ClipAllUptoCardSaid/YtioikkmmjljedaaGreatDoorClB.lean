/- clip: Text; ClipWays, ClipCuts. -/
import Derived.Test.YtioikkmmjljedaaGreatDoorClA
namespace Go.Proofs.YtioikkmmjljedaaGreatDoor.Pm
open Go.Proofs.YtioikkmmjljedaaGreatDoor.Args
open Go.ChangeShapes Go.WideShapes Go.ChangeAt Go.RowKit
set_option linter.unusedVariables false
set_option linter.unusedSimpArgs false
set_option maxRecDepth 100000
def fromS (pr pc qc : Nat) (blk : Bool) (n : Nat) : Nat := if blk = true then min pc qc else if n = pr then pc else 0
def toS (pc qr qc : Nat) (blk : Bool) (n : Nat) : Nat := if blk = true then max pc qc + 1 else if n = qr then qc + 1 else 160
def lineT (R : List (List GCell)) (pr pc qr qc : Nat) (blk : Bool) (n : Nat) : List Int := textS (R.getD n []) (fromS pr pc qc blk n) (toS pc qr qc blk n)
/-- The first k rows of a text, 10 between. -/
def outT (R : List (List GCell)) (pr pc qr qc : Nat) (blk : Bool) : Nat → List Int
  | 0 => []
  | k + 1 => outT R pr pc qr qc blk k ++ (if k = 0 then [] else [10]) ++ lineT R pr pc qr qc blk (pr + k)
def allT (R : List (List GCell)) (pr pc qr qc : Nat) (blk : Bool) : List Int := outT R pr pc qr qc blk (qr + 1 - pr)
theorem getD_good (R : List (List GCell)) (hR : ∀ r ∈ R, Gd r) (n : Nat) (hn : n < R.length) : Gd (R.getD n []) := by
  rw [List.getD_eq_getElem?_getD, List.getElem?_eq_getElem hn]; exact hR _ (List.getElem_mem hn)
theorem outT_len (R : List (List GCell)) (hR : ∀ r ∈ R, Gd r) (pr pc qr qc : Nat) (blk : Bool) : ∀ k, pr + k ≤ R.length → (outT R pr pc qr qc blk k).length ≤ 161 * k
  | 0, _ => by simp [outT]
  | k + 1, h => by
    have ih := outT_len R hR pr pc qr qc blk k (by omega)
    have h1 := textS_len (R.getD (pr + k) []) (fromS pr pc qc blk (pr + k)) (toS pc qr qc blk (pr + k))
    have h2 := (getD_good R hR (pr + k) (by omega)).le
    have h3 : (if k = 0 then ([] : List Int) else [10]).length ≤ 1 := by split <;> simp
    unfold outT lineT
    rw [List.length_append, List.length_append]; omega
theorem min_c (a b : Nat) : (if (b : Int) < (a : Int) then (b : Int) else (a : Int)) = ((min a b : Nat) : Int) := by split <;> omega
theorem max_c (a b : Nat) : (if (b : Int) > (a : Int) then (b : Int) else (a : Int)) = ((max a b : Nat) : Int) := by split <;> omega
theorem all_ok (s : GScreen) (x y : GPlace) (blk : Bool) (R : List (List GCell)) (hR : ∀ r ∈ R, Gd r) (hRl : R.length ≤ 1000) (pr pc qr qc : Nat) (hpq : pr ≤ qr) (hq : qr < R.length) (hpc : pc < 160) (hqc : qc < 160) :
    f7_j2 s x y blk ⟨pr, pc⟩ ⟨qr, qc⟩ R = some (allT R pr pc qr qc blk, 0) := by
  unfold f7_j2
  have step : ∀ i, i < qr + 1 - pr → f7_l3 s x y blk (⟨pr, pc⟩, ⟨qr, qc⟩, R, outT R pr pc qr qc blk i, ((pr + i : Nat) : Int)) = some (.inl (⟨pr, pc⟩, ⟨qr, qc⟩, R, outT R pr pc qr qc blk (i + 1), ((pr + (i + 1) : Nat) : Int))) := by
    intro i hi
    have hn : pr + i < R.length := by omega
    have hg := getD_good R hR (pr + i) hn
    have hout := outT_len R hR pr pc qr qc blk i (by omega)
    have hw : IntKind.i64.wrap (((pr + i : Nat) : Int) + 1) = ((pr + (i + 1) : Nat) : Int) := by rw [i64w _ (by omega)]; omega
    have hix : idx R ((pr + i : Nat) : Int) = some (R.getD (pr + i) []) := idx_nat R _ [] hn
    have hj6 : ∀ (o : List Int) (fr tt : Nat), o.length ≤ 1000000 → f7_l3_j6 s x y blk ⟨pr, pc⟩ ⟨qr, qc⟩ R o ((pr + i : Nat) : Int) (fr : Int) (tt : Int) = some (.inl (⟨pr, pc⟩, ⟨qr, qc⟩, R, o ++ textS (R.getD (pr + i) []) fr tt, ((pr + (i + 1) : Nat) : Int))) := by
      intro o fr tt ho
      unfold f7_l3_j6
      have h1 := textS_len (R.getD (pr + i) []) fr tt
      have h2 := hg.le
      rw [hix, bs, text_ok _ hg, bs, app_ok 8 _ _ (by omega), bs, hw]
    have hj5 : ∀ (fr tt : Nat), f7_l3_j5 s x y blk ⟨pr, pc⟩ ⟨qr, qc⟩ R (outT R pr pc qr qc blk i) ((pr + i : Nat) : Int) (fr : Int) (tt : Int) = some (.inl (⟨pr, pc⟩, ⟨qr, qc⟩, R, outT R pr pc qr qc blk i ++ (if i = 0 then [] else [10]) ++ textS (R.getD (pr + i) []) fr tt, ((pr + (i + 1) : Nat) : Int))) := by
      intro fr tt
      unfold f7_l3_j5
      by_cases h0 : i = 0
      · rw [df (by show ¬ ((pr : Int) < ((pr + i : Nat) : Int)); omega), cf, if_pos h0, List.append_nil, hj6 _ _ _ (by omega)]
      · rw [dt (by show ((pr : Int) < ((pr + i : Nat) : Int)); omega), ct, if_neg h0, app_ok 8 _ _ (by simp; omega), bs, hj6 _ _ _ (by simp; omega)]
    unfold f7_l3
    rw [dt (by show ((pr + i : Nat) : Int) ≤ (qr : Int); omega), ct]
    unfold f7_l3_j4
    show (bif blk then _ else _) = _
    have fin : ∀ fr tt, fr = fromS pr pc qc blk (pr + i) → tt = toS pc qr qc blk (pr + i) → outT R pr pc qr qc blk i ++ (if i = 0 then [] else [10]) ++ textS (R.getD (pr + i) []) fr tt = outT R pr pc qr qc blk (i + 1) := by
      rintro fr tt rfl rfl; rfl
    cases blk with
    | true =>
      rw [ct]
      have hm : IntKind.i64.wrap (((max pc qc : Nat) : Int) + 1) = ((max pc qc + 1 : Nat) : Int) := by rw [i64w _ (by omega)]; rfl
      show f7_l3_j5 s x y true ⟨pr, pc⟩ ⟨qr, qc⟩ R (outT R pr pc qr qc true i) ((pr + i : Nat) : Int) (if (qc : Int) < (pc : Int) then (qc : Int) else (pc : Int)) (IntKind.i64.wrap ((if (qc : Int) > (pc : Int) then (qc : Int) else (pc : Int)) + 1)) = _
      rw [min_c, max_c, hm, hj5, fin (min pc qc) (max pc qc + 1) (by unfold fromS; rw [if_pos rfl]) (by unfold toS; rw [if_pos rfl])]
    | false =>
      rw [cf]
      have hj7 : ∀ fr : Nat, fr = fromS pr pc qc false (pr + i) → f7_l3_j7 s x y false ⟨pr, pc⟩ ⟨qr, qc⟩ R (outT R pr pc qr qc false i) ((pr + i : Nat) : Int) (fr : Int) = some (.inl (⟨pr, pc⟩, ⟨qr, qc⟩, R, outT R pr pc qr qc false (i + 1), ((pr + (i + 1) : Nat) : Int))) := by
        intro fr hfr
        unfold f7_l3_j7
        by_cases hq : pr + i = qr
        · have hm : IntKind.i64.wrap ((qc : Int) + 1) = ((qc + 1 : Nat) : Int) := by rw [i64w _ (by omega)]; rfl
          rw [dt (by show ((pr + i : Nat) : Int) = (qr : Int); omega), ct]
          show f7_l3_j5 s x y false ⟨pr, pc⟩ ⟨qr, qc⟩ R (outT R pr pc qr qc false i) ((pr + i : Nat) : Int) (fr : Int) (IntKind.i64.wrap ((qc : Int) + 1)) = _
          rw [hm, hj5, fin _ _ hfr (by unfold toS; rw [if_neg (by simp), if_pos hq])]
        · rw [df (by show ¬ ((pr + i : Nat) : Int) = (qr : Int); omega), cf]
          have h160 := hj5 fr 160
          have h160 : f7_l3_j5 s x y false ⟨pr, pc⟩ ⟨qr, qc⟩ R (outT R pr pc qr qc false i) ((pr + i : Nat) : Int) (fr : Int) 160 = _ := h160
          rw [h160, fin _ _ hfr (by unfold toS; rw [if_neg (by simp), if_neg hq])]
      by_cases h0 : i = 0
      · rw [dt (by show ((pr + i : Nat) : Int) = (pr : Int); omega), ct]
        exact hj7 pc (by unfold fromS; rw [if_neg (by simp), if_pos (by omega)])
      · rw [df (by show ¬ ((pr + i : Nat) : Int) = (pr : Int); omega), cf]
        exact hj7 0 (by unfold fromS; rw [if_neg (by simp), if_neg (by omega)])
  have hend : f7_l3 s x y blk (⟨pr, pc⟩, ⟨qr, qc⟩, R, outT R pr pc qr qc blk (qr + 1 - pr), ((pr + (qr + 1 - pr) : Nat) : Int)) = some (.inr (outT R pr pc qr qc blk (qr + 1 - pr))) := by
    unfold f7_l3
    rw [df (by show ¬ ((pr + (qr + 1 - pr) : Nat) : Int) ≤ (qr : Int); omega), cf]
  have h := loop_to (body := f7_l3 s x y blk) (fun i => (⟨pr, pc⟩, ⟨qr, qc⟩, R, outT R pr pc qr qc blk i, ((pr + i : Nat) : Int))) _ (qr + 1 - pr) hend 0 (Nat.zero_le _) (fun i _ hi => step i hi)
  have h : loopO (f7_l3 s x y blk) (⟨pr, pc⟩, ⟨qr, qc⟩, R, [], (pr : Int)) = some (outT R pr pc qr qc blk (qr + 1 - pr)) := h
  show (loopO (f7_l3 s x y blk) (⟨pr, pc⟩, ⟨qr, qc⟩, R, [], (pr : Int))).bind _ = _
  rw [h, bs]; rfl
/-- A place on the rows. -/
def okP (R : List (List GCell)) (p : GPlace) : Prop := 0 ≤ p.Row ∧ p.Row < R.length ∧ 0 ≤ p.Col ∧ p.Col < 160
instance (R : List (List GCell)) (p : GPlace) : Decidable (okP R p) := by unfold okP; infer_instance
def less (a b : GPlace) : Prop := b.Row < a.Row ∨ b.Row = a.Row ∧ b.Col < a.Col
instance (a b : GPlace) : Decidable (less a b) := by unfold less; infer_instance
def allI (R : List (List GCell)) (p q : GPlace) (blk : Bool) : List Int := allT R p.Row.toNat p.Col.toNat q.Row.toNat q.Col.toNat blk
def textR (R : List (List GCell)) (a b : GPlace) (blk : Bool) : List Int × Int :=
  if okP R a ∧ okP R b then ((if less a b then allI R b a blk else allI R a b blk), 0) else ([], 1)
theorem allI_ok (s : GScreen) (x y : GPlace) (blk : Bool) (R : List (List GCell)) (hR : ∀ r ∈ R, Gd r) (hRl : R.length ≤ 1000) (p q : GPlace) (hp : okP R p) (hq : okP R q) (h : p.Row ≤ q.Row) : f7_j2 s x y blk p q R = some (allI R p q blk, 0) := by
  obtain ⟨pr, pc⟩ := p
  obtain ⟨qr, qc⟩ := q
  obtain ⟨p1, p2, p3, p4⟩ := hp
  obtain ⟨q1, q2, q3, q4⟩ := hq
  simp only at p1 p2 p3 p4 q1 q2 q3 q4 h
  obtain ⟨a, rfl⟩ := Int.eq_ofNat_of_zero_le p1
  obtain ⟨b, rfl⟩ := Int.eq_ofNat_of_zero_le p3
  obtain ⟨c, rfl⟩ := Int.eq_ofNat_of_zero_le q1
  obtain ⟨d, rfl⟩ := Int.eq_ofNat_of_zero_le q3
  exact all_ok s x y blk R hR hRl a b c d (by omega) (by omega) (by omega) (by omega)
theorem text_spec (s : GScreen) (a b : GPlace) (blk : Bool) (R : List (List GCell)) (hs : f10 s = some (R, 0)) (hR : ∀ r ∈ R, Gd r) (hRl : R.length ≤ 1000) : f7 s a b blk = some (textR R a b blk) := by
  unfold f7 textR
  rw [hs, bs, dt rfl, Bool.not_true, cf]
  unfold f7_j0 f7_j8
  simp only
  by_cases a1 : a.Row < 0
  · rw [dt a1, ct, if_neg (fun h => by have := h.1.1; omega)]
  rw [df a1, cf]
  by_cases a2 : (R.length : Int) ≤ a.Row
  · rw [dt a2, ct, if_neg (fun h => by have := h.1.2.1; omega)]
  rw [df a2, cf]
  by_cases a3 : a.Col < 0
  · rw [dt a3, ct, if_neg (fun h => by have := h.1.2.2.1; omega)]
  rw [df a3, cf]
  by_cases a4 : 160 ≤ a.Col
  · rw [dt a4, ct, if_neg (fun h => by have := h.1.2.2.2; omega)]
  rw [df a4, cf]
  unfold f7_j9
  by_cases b1 : b.Row < 0
  · rw [dt b1, ct, if_neg (fun h => by have := h.2.1; omega)]
  rw [df b1, cf]
  by_cases b2 : (R.length : Int) ≤ b.Row
  · rw [dt b2, ct, if_neg (fun h => by have := h.2.2.1; omega)]
  rw [df b2, cf]
  by_cases b3 : b.Col < 0
  · rw [dt b3, ct, if_neg (fun h => by have := h.2.2.2.1; omega)]
  rw [df b3, cf]
  by_cases b4 : 160 ≤ b.Col
  · rw [dt b4, ct, if_neg (fun h => by have := h.2.2.2.2; omega)]
  rw [df b4, cf]
  have oa : okP R a := ⟨by omega, by omega, by omega, by omega⟩
  have ob : okP R b := ⟨by omega, by omega, by omega, by omega⟩
  rw [if_pos ⟨oa, ob⟩]
  unfold f7_j1
  by_cases c1 : b.Row < a.Row
  · rw [dt c1, ct, if_pos (.inl c1), allI_ok s a b blk R hR hRl b a ob oa (by omega)]
  rw [df c1, cf]
  by_cases c2 : b.Row = a.Row
  · rw [dt c2, ct]
    by_cases c3 : b.Col < a.Col
    · rw [dt c3, ct, if_pos (.inr ⟨c2, c3⟩), allI_ok s a b blk R hR hRl b a ob oa (by omega)]
    · rw [df c3, cf, if_neg (by rintro (h | h) <;> omega), allI_ok s a b blk R hR hRl a b oa ob (by omega)]
  · rw [df c2, cf, if_neg (by rintro (h | h) <;> omega), allI_ok s a b blk R hR hRl a b oa ob (by omega)]
theorem text_none (s : GScreen) (a b : GPlace) (blk : Bool) (hs : f10 s = some ([], 4)) : f7 s a b blk = some ([], 4) := by
  unfold f7
  rw [hs, bs]; rfl
theorem ints_loop (l : List Int) (hl : l.length ≤ 1000000) : ∀ (suf pre : List Int), l = pre ++ suf → loopO (f9_l1 l l) (pre.length : Int) = some (.inl ())
  | [], pre, e => loopO_done (by
      subst e
      unfold f9_l1 f9_l1_j2
      simp only [lt_end, cond_false])
  | c :: suf, pre, e => by
    have hp : pre.length < 1000000 := by rw [e] at hl; simp at hl; omega
    have hlt : decide ((pre.length : Int) < (l.length : Int)) = true := by rw [e]; exact lt_mid pre c suf
    have hx : idx l (pre.length : Int) = some c := by rw [e]; exact idx_mid pre c suf
    refine loopO_next ?_ (ints_loop l hl suf (pre ++ [c]) (by simp [e]))
    unfold f9_l1 f9_l1_j2 f9_l1_j3
    simp only [hlt, cond_true]
    rw [hx, bs, bs, dt rfl, Bool.not_true, cf, wrap_nx pre c (by omega)]
theorem ints_same (l : List Int) (hl : l.length ≤ 1000000) : f9 l l = some true := by
  unfold f9
  rw [dt rfl, Bool.not_true, cf]
  unfold f9_j0
  have h := ints_loop l hl l [] rfl
  rw [show ((([] : List Int).length : Nat) : Int) = 0 from rfl] at h
  rw [h, bs, Sum.elim_inl]
theorem allI_len (R : List (List GCell)) (hR : ∀ r ∈ R, Gd r) (hRl : R.length ≤ 1000) (p q : GPlace) (hp : okP R p) (hq : okP R q) (blk : Bool) : (allI R p q blk).length ≤ 1000000 := by
  obtain ⟨p1, p2, p3, p4⟩ := hp
  obtain ⟨q1, q2, q3, q4⟩ := hq
  unfold allI allT
  by_cases h : p.Row ≤ q.Row
  · have := outT_len R hR p.Row.toNat p.Col.toNat q.Row.toNat q.Col.toNat blk (q.Row.toNat + 1 - p.Row.toNat) (by omega)
    omega
  · rw [show q.Row.toNat + 1 - p.Row.toNat = 0 by omega]; simp [outT]
theorem textR_len (R : List (List GCell)) (hR : ∀ r ∈ R, Gd r) (hRl : R.length ≤ 1000) (a b : GPlace) (blk : Bool) : (textR R a b blk).1.length ≤ 1000000 := by
  unfold textR
  split
  · rename_i h
    show (if less a b then allI R b a blk else allI R a b blk).length ≤ _
    split
    · exact allI_len R hR hRl b a h.2 h.1 blk
    · exact allI_len R hR hRl a b h.1 h.2 blk
  · simp
theorem textR_sym (R : List (List GCell)) (a b : GPlace) (blk : Bool) : textR R a b blk = textR R b a blk := by
  unfold textR
  by_cases h : okP R a ∧ okP R b
  · rw [if_pos h, if_pos (show okP R b ∧ okP R a from ⟨h.2, h.1⟩)]
    by_cases h1 : less a b
    · rw [if_pos h1, if_neg (by rcases h1 with h1 | ⟨h1, h2⟩ <;> rintro (h | h) <;> omega)]
    · rw [if_neg h1]
      by_cases h2 : less b a
      · rw [if_pos h2]
      · rw [if_neg h2]
        have : a = b := by
          obtain ⟨x, y⟩ := a
          obtain ⟨z, w⟩ := b
          unfold less at h1 h2
          simp only at h1 h2
          have e1 : x = z := by omega
          have e2 : y = w := by omega
          rw [e1, e2]
        rw [this]
  · rw [if_neg h, if_neg (show ¬ (okP R b ∧ okP R a) from fun q => h ⟨q.2, q.1⟩)]
theorem one_row (R : List (List GCell)) (p q : GPlace) (h : p.Row = q.Row) (hc : p.Col.toNat ≤ q.Col.toNat) (blk : Bool) : allI R p q blk = textS (R.getD p.Row.toNat []) p.Col.toNat (q.Col.toNat + 1) := by
  unfold allI allT
  rw [← h, show p.Row.toNat + 1 - p.Row.toNat = 1 by omega]
  unfold outT outT lineT fromS toS
  rw [if_pos rfl, List.nil_append, List.nil_append, Nat.add_zero]
  cases blk with
  | true => rw [if_pos rfl, if_pos rfl, Nat.min_eq_left hc, Nat.max_eq_right hc]
  | false => simp
theorem textR_row (R : List (List GCell)) (a b : GPlace) (h : a.Row = b.Row) (b1 b2 : Bool) : textR R a b b1 = textR R a b b2 := by
  unfold textR
  by_cases ho : okP R a ∧ okP R b
  · rw [if_pos ho, if_pos ho]
    obtain ⟨⟨_, _, o1, _⟩, ⟨_, _, o2, _⟩⟩ := ho
    by_cases h1 : less a b
    · rw [if_pos h1, if_pos h1]
      have hc : b.Col.toNat ≤ a.Col.toNat := by rcases h1 with h1 | ⟨_, h1⟩ <;> omega
      rw [one_row R b a h.symm hc, one_row R b a h.symm hc]
    · rw [if_neg h1, if_neg h1]
      have hc : a.Col.toNat ≤ b.Col.toNat := by unfold less at h1; omega
      rw [one_row R a b h hc, one_row R a b h hc]
  · rw [if_neg ho, if_neg ho]
theorem clipWays (s : GScreen) (a b : GPlace) (blk : Bool) (hl : s.Past.length ≤ 1048576) : f3 s a b blk = some true := by
  unfold f3
  rcases rows_spec s hl with h | ⟨h, hR, h1, h2⟩
  · rw [text_none s _ _ _ h, text_none s _ _ _ h, text_none s _ _ _ h, bs, bs, bs]
    unfold libLives
    rw [bs, ct, ints_same [] (by simp), bs, ct, dt rfl, ct]
    by_cases hr : a.Row = b.Row
    · rw [dt hr, Bool.not_true, cf, bs, ct]; rfl
    · rw [df hr, Bool.not_false, ct]
  · rw [text_spec s a b blk _ h hR (by omega), text_spec s b a blk _ h hR (by omega), text_spec s a b (!blk) _ h hR (by omega), bs, bs, bs]
    unfold libLives
    have hlen := textR_len (rowsS s) hR (by omega) a b blk
    rw [bs, ct, ← textR_sym (rowsS s) a b blk, ints_same _ hlen, bs, ct, dt rfl, ct]
    by_cases hr : a.Row = b.Row
    · rw [dt hr, Bool.not_true, cf, textR_row (rowsS s) a b hr (!blk) blk, ints_same _ hlen, bs, ct, dt rfl, ct]
    · rw [df hr, Bool.not_false, ct]
end Go.Proofs.YtioikkmmjljedaaGreatDoor.Pm
