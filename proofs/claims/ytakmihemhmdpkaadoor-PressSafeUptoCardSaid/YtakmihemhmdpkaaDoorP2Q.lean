/- Parse: Check, ParserRight, Feed; ParsePlain, ParseRight, ParseCuts, ParseHeals. -/
import Derived.Test.YtakmihemhmdpkaaDoorP2P
import Derived.Lib.LaidTab
import Derived.MakeChecks
import Derived.LaidSub
import Derived.Test.YtakmihemhmdpkaaDoorRows
namespace Go.Proofs.YtakmihemhmdpkaaDoor.Pm
open Go.Proofs.YtakmihemhmdpkaaDoor.Args
open Go.ChangeShapes Go.WideShapes Go.ChangeAt Go.RowKit
set_option linter.unusedVariables false
set_option linter.unusedSimpArgs false
set_option maxRecDepth 100000
/-- Check. -/
def inB (b : UInt8) : Bool := decide ((32 : Int) ≤ (b.toNat : Int)) && decide ((b.toNat : Int) ≤ 47)
theorem inters_loop (a : Str) (k : Int) : ∀ (suf pre : Str), a = pre ++ suf → a.length ≤ 100000000 →
    loopO (f33_l0 a k) (pre.length : Int) = some (if suf.all inB then .inl () else .inr false)
  | [], pre, e, h => loopO_done (by
      subst e
      unfold f33_l0 f33_l0_j1
      simp only [lt_end, cond_false]; rfl)
  | z :: t, pre, e, h => by
    have hp : pre.length < 1000000000 := by rw [e] at h; simp at h; omega
    have hx : idx a (pre.length : Int) = some z := by rw [e]; exact idx_mid pre z t
    have hlt : decide ((pre.length : Int) < (a.length : Int)) = true := by rw [e]; exact lt_mid pre z t
    have hw : f32 (z.toNat : Int) 32 47 = some (inB z) := within_ok _ _ _
    rw [List.all_cons]
    cases hz : inB z with
    | true =>
      have ih := inters_loop a k t (pre ++ [z]) (by rw [e]; simp) h
      rw [Bool.true_and]
      refine loopO_next ?_ ih
      unfold f33_l0 f33_l0_j1 f33_l0_j2
      simp only [hlt, cond_true]
      rw [hx, bs, hw, bs, hz, Bool.not_true, cf, wrap_nx pre z hp]
    | false =>
      rw [Bool.false_and, if_neg (by simp)]
      refine loopO_done ?_
      unfold f33_l0 f33_l0_j1 f33_l0_j2
      simp only [hlt, cond_true]
      rw [hx, bs, hw, bs, hz, Bool.not_false, ct]
theorem inters_ok (a : Str) (k : Int) (h : a.length ≤ 100000000) : f33 a k = some (a.all inB && decide ((a.length : Int) ≤ k)) := by
  unfold f33
  have := inters_loop a k a [] rfl h
  rw [show ((([] : Str).length : Nat) : Int) = 0 from rfl] at this
  rw [this, bs]
  cases a.all inB with
  | true =>
    rw [if_pos rfl, Sum.elim_inl, Bool.true_and]
    cases decide ((a.length : Int) ≤ k) <;> rfl
  | false => rw [if_neg (by simp), Sum.elim_inr]; rfl
def tB (p : GParser) : Bool := decide ((p.Text.length : Int) ≤ 256) && (decide (p.Text = []) || (decide (p.State = 7) || decide (p.State = 8)))
def aB (p : GParser) : Bool := decide ((p.Args.length : Int) ≤ 100) && (decide (p.Args = []) || (decide (p.State = 4) || decide (p.State = 5)))
def iB (p : GParser) (q : Bool) : Bool := (p.Inter.all inB && decide ((p.Inter.length : Int) ≤ 3)) && ((!decide (p.Inter = [])) == q)
def mB (p : GParser) : Bool := decide (p.Mark = 0) || ((decide (60 ≤ p.Mark) && decide (p.Mark ≤ 63)) && (decide (p.State = 4) || decide (p.State = 5)))
def okP (p : GParser) : Bool := (decide (0 ≤ p.State) && decide (p.State ≤ 10)) && mB p && iB p (decide (p.State = 2) || decide (p.State = 5)) && (decide ((readA p.Args).2 = 0) && aB p) && tB p
theorem chk3 (p : GParser) (b : Bool) : f15_j3 p b = some (bif b && tB p then 0 else 4) := by
  unfold f15_j3 tB
  generalize decide ((p.Text.length : Int) ≤ 256) = x1
  generalize decide (p.Text = []) = x2
  generalize decide (p.State = 7) = x3
  generalize decide (p.State = 8) = x4
  cases b <;> cases x1 <;> cases x2 <;> cases x3 <;> cases x4 <;> rfl
theorem chk2 (p : GParser) (e : Int) (b : Bool) : f15_j2 p e b = some (bif b && (decide (e = 0) && aB p) && tB p then 0 else 4) := by
  unfold f15_j2 aB
  simp only [chk3]
  generalize tB p = t
  generalize decide (e = 0) = x0
  generalize decide ((p.Args.length : Int) ≤ 100) = x1
  generalize decide (p.Args = []) = x2
  generalize decide (p.State = 4) = x3
  generalize decide (p.State = 5) = x4
  cases b <;> cases t <;> cases x0 <;> cases x1 <;> cases x2 <;> cases x3 <;> cases x4 <;> rfl
theorem chk1 (p : GParser) (q : Bool) (e : Int) (b : Bool) (h : p.Inter.length ≤ 100000000) : f15_j1 p q e b = some (bif b && iB p q && (decide (e = 0) && aB p) && tB p then 0 else 4) := by
  unfold f15_j1 iB
  simp only [chk2, inters_ok _ _ h, bs]
  generalize tB p = t
  generalize (decide (e = 0) && aB p) = x0
  generalize (p.Inter.all inB && decide ((p.Inter.length : Int) ≤ 3)) = x1
  generalize decide (p.Inter = []) = x2
  cases b <;> cases q <;> cases t <;> cases x0 <;> cases x1 <;> cases x2 <;> rfl
theorem chk0 (p : GParser) (q : Bool) (h : p.Inter.length ≤ 10000000) (hA : p.Args.length ≤ 10000000) : f15_j0 p q = some (bif (decide (0 ≤ p.State) && decide (p.State ≤ 10)) && mB p && iB p q && (decide ((readA p.Args).2 = 0) && aB p) && tB p then 0 else 4) := by
  unfold f15_j0 mB
  have h' : p.Inter.length ≤ 100000000 := by omega
  rw [read_ok _ hA, bs, within_ok, bs, within_ok, bs]
  simp only [chk1 _ _ _ _ h']
  generalize tB p = t
  generalize (decide ((readA p.Args).2 = 0) && aB p) = x0
  generalize iB p q = x1
  generalize (decide (0 ≤ p.State) && decide (p.State ≤ 10)) = x2
  generalize decide (p.Mark = 0) = x3
  generalize (decide (60 ≤ p.Mark) && decide (p.Mark ≤ 63)) = x4
  generalize decide (p.State = 4) = x5
  generalize decide (p.State = 5) = x6
  cases t <;> cases x0 <;> cases x1 <;> cases x2 <;> cases x3 <;> cases x4 <;> cases x5 <;> cases x6 <;> rfl
theorem check_ok (p : GParser) (h : p.Inter.length ≤ 10000000) (hA : p.Args.length ≤ 10000000) : f15 p = some (bif okP p then 0 else 4) := by
  unfold f15 okP
  simp only [chk0 p _ h hA]
  cases decide (p.State = 2) <;> cases decide (p.State = 5) <;> rfl
structure OkP (p : GParser) : Prop where
  st : 0 ≤ p.State ∧ p.State ≤ 10
  mA : p.Mark = 0 ∨ (60 ≤ p.Mark ∧ p.Mark ≤ 63 ∧ (p.State = 4 ∨ p.State = 5))
  ia : p.Inter.all inB = true
  il : p.Inter.length ≤ 3
  ie : (p.State = 2 ∨ p.State = 5) ↔ p.Inter ≠ []
  aa : p.Args.all okB = true
  al : p.Args.length ≤ 100
  ae : p.Args = [] ∨ p.State = 4 ∨ p.State = 5
  tl : p.Text.length ≤ 256
  te : p.Text = [] ∨ p.State = 7 ∨ p.State = 8
theorem read_all (s : Str) : (readA s).2 = 0 ↔ s.all okB = true := by
  unfold readA
  split
  · rename_i h; simp [h]
  · rename_i h; simp [h]
theorem ok_iff (p : GParser) : okP p = true ↔ OkP p := by
  unfold okP mB iB aB tB
  simp only [Bool.and_eq_true, Bool.or_eq_true, decide_eq_true_eq, read_all]
  have hie : ((!decide (p.Inter = [])) == (decide (p.State = 2) || decide (p.State = 5))) = true ↔ ((p.State = 2 ∨ p.State = 5) ↔ p.Inter ≠ []) := by
    by_cases a : p.State = 2 <;> by_cases b : p.State = 5 <;> by_cases c : p.Inter = [] <;> simp [a, b, c] <;> omega
  rw [hie]
  constructor
  · rintro ⟨⟨⟨⟨h1, h2⟩, ⟨h3, h4⟩, h5⟩, h6, h7, h8⟩, h9, h10⟩
    exact ⟨h1, by omega, h3, by omega, h5, h6, by omega, h8, by omega, h10⟩
  · intro h
    exact ⟨⟨⟨⟨h.st, by have := h.mA; omega⟩, ⟨h.ia, by have := h.il; omega⟩, h.ie⟩, h.aa, by have := h.al; omega, h.ae⟩, by have := h.tl; omega, h.te⟩
/-- ParserRight. -/
theorem inR_nat (i n : Nat) (h : i < n) : inR (i : Int) n = some i := by unfold inR; rw [if_pos (by omega)]; simp
/-- What stays so. -/
def GoodA (a : GAct) : Prop := a.Text.length ≤ 256 ∧ a.Inter.length ≤ 2 ∧ a.Args.length ≤ 32 ∧ 1 ≤ a.Kind ∧ a.Kind ≤ 6
def ctl (c : Int) : Nat := if 0 ≤ c ∧ c < 32 then 1 else 0
def ctrls (l : List GAct) : Nat := (l.filter fun a => decide (a.Kind = 2)).length
theorem ctrls_app (l m : List GAct) : ctrls (l ++ m) = ctrls l + ctrls m := by simp [ctrls]
structure Fine (n k : Nat) (r : GParser × List GAct) : Prop where
  ok : OkP r.1
  len : r.2.length ≤ n
  good : ∀ a ∈ r.2, GoodA a
  ctl : ctrls r.2 ≤ k
theorem nil_okP (s : Int) (h : 0 ≤ s ∧ s ≤ 10) (h2 : s ≠ 2) (h5 : s ≠ 5) : OkP (nilP s) :=
  ⟨h, .inl rfl, rfl, by simp [nilP], ⟨fun hh => by simp only [nilP] at hh; omega, fun hh => absurd rfl hh⟩, rfl, by simp [nilP], .inl rfl, by simp [nilP], .inl rfl⟩
theorem drp_good : GoodA drp := by simp [GoodA, drp]
theorem fine0 {p : GParser} (k : Nat) (h : OkP p) : Fine 1 k (p, []) := ⟨h, by simp, fun a ha => by simp at ha, by simp [ctrls]⟩
theorem fine1 {p : GParser} {a : GAct} (k : Nat) (h : OkP p) (ha : GoodA a) (h2 : a.Kind ≠ 2) : Fine 1 k (p, [a]) :=
  ⟨h, by simp, fun b hb => by simp at hb; rw [hb]; exact ha, by simp [ctrls, h2]⟩
theorem fined (s : Int) (k : Nat) (h : 0 ≤ s ∧ s ≤ 10) (h2 : s ≠ 2) (h5 : s ≠ 5) : Fine 1 k (nilP s, [drp]) := fine1 k (nil_okP s h h2 h5) drp_good (by simp [drp])
theorem final_fine (a : GAct) (p : GParser) (k : Nat) (hI : p.Inter.length ≤ 3) (ha : p.Inter.length ≤ 2 → GoodA a) (h2 : a.Kind ≠ 2) : Fine 1 k (finalP a p) := by
  unfold finalP
  by_cases h : p.Inter.length = 3
  · rw [if_pos h]; exact fined 0 k (by omega) (by omega) (by omega)
  · rw [if_neg h]; exact fine1 k (nil_okP 0 (by omega) (by omega) (by omega)) (ha (by omega)) h2
theorem text_fine (p : GParser) (c : Int) (h : OkP p) (h7 : p.State = 7 ∨ p.State = 9) (k : Nat) : Fine 1 k (textP p c) := by
  obtain ⟨st, mA, ia, il, ie, aa, al, ae, tl, te⟩ := h
  have h0 : OkP p := ⟨st, mA, ia, il, ie, aa, al, ae, tl, te⟩
  have hI : p.Inter = [] := Classical.byContradiction fun hh => by have := ie.2 hh; omega
  unfold textP
  split
  · refine fine0 k ⟨by dsimp only; omega, by dsimp only; omega, ia, il, ⟨fun hh => by dsimp only at hh; omega, fun hh => absurd hI hh⟩, aa, al, ?_, tl, ?_⟩
    · rcases ae with e | e
      · exact .inl e
      · omega
    · rcases te with e | e
      · exact .inl e
      · exact .inr (by dsimp only; omega)
  split
  · exact fined 0 k (by omega) (by omega) (by omega)
  split
  · exact fined 0 k (by omega) (by omega) (by omega)
  split
  · exact fine0 k h0
  split
  · exact fine1 k (nil_okP 0 (by omega) (by omega) (by omega)) ⟨tl, by simp, by simp, by simp, by simp⟩ (by simp)
  split
  · exact fine0 k h0
  split
  · exact fine0 k h0
  split
  · rename_i h9 _ _ _ hl
    exact fine0 k ⟨st, mA, ia, il, ie, aa, al, ae, hl, .inr (by dsimp only; omega)⟩
  · exact fine0 k h0
theorem sg_in (c : Int) (h : 32 ≤ c ∧ c < 48) : inB (sg c) = true := by
  unfold inB sg
  have : (UInt8.ofNat c.toNat).toNat = c.toNat := by simp; omega
  rw [this, decide_eq_true (by omega), decide_eq_true (by omega)]; rfl
theorem sg_ok (c : Int) (h : 48 ≤ c ∧ c < 60 ∧ c ≠ 58) : okB (sg c) = true := by
  unfold okB sg
  have : (UInt8.ofNat c.toNat).toNat = c.toNat := by simp; omega
  rw [this]
  by_cases h59 : c.toNat = 59
  · rw [decide_eq_true h59]; rfl
  · rw [decide_eq_true (show 48 ≤ c.toNat by omega), decide_eq_true (show c.toNat ≤ 57 by omega), Bool.and_self, Bool.or_true]
theorem more_in (I : Str) (c : Int) (h : 32 ≤ c ∧ c < 48) (ia : I.all inB = true) (il : I.length ≤ 3) : (moreI I c).all inB = true ∧ (moreI I c).length ≤ 3 ∧ moreI I c ≠ [] := by
  unfold moreI
  by_cases h3 : I.length < 3
  · rw [if_pos h3]
    refine ⟨by rw [List.all_append, ia]; simp [sg_in c h], by simp; omega, by simp⟩
  · rw [if_neg h3]
    exact ⟨ia, il, fun hh => by rw [hh] at h3; simp at h3⟩
theorem esc_fine (p : GParser) (c : Int) (h : OkP p) (h2 : p.State = 1 ∨ p.State = 2) (hc : 32 ≤ c) (k : Nat) : Fine 1 k (escP p c) := by
  obtain ⟨st, mA, ia, il, ie, aa, al, ae, tl, te⟩ := h
  have hA : p.Args = [] := by rcases ae with e | e; exact e; omega
  have hT : p.Text = [] := by rcases te with e | e; exact e; omega
  have hM : p.Mark = 0 := by omega
  unfold escP
  split
  · rename_i h48
    obtain ⟨m1, m2, m3⟩ := more_in p.Inter c ⟨hc, h48⟩ ia il
    exact fine0 k ⟨by dsimp only; omega, .inl hM, m1, m2, ⟨fun _ => m3, fun _ => .inl rfl⟩, aa, al, .inl hA, tl, .inl hT⟩
  split
  · exact final_fine _ p k il (fun hh => ⟨by simp, hh, by simp, by simp, by simp⟩) (by simp)
  rename_i hs2
  have hI : p.Inter = [] := Classical.byContradiction fun hh => by have := ie.2 hh; omega
  have hne : ∀ s : Int, s ≠ 2 → s ≠ 5 → 0 ≤ s ∧ s ≤ 10 → OkP ⟨s, p.Mark, p.Inter, p.Args, p.Text⟩ := fun s s2 s5 sb =>
    ⟨sb, .inl hM, ia, il, ⟨fun hh => by dsimp only at hh; omega, fun hh => absurd hI hh⟩, aa, al, .inl hA, tl, .inl hT⟩
  split
  · exact fine0 k (hne 3 (by omega) (by omega) (by omega))
  split
  · exact fine0 k (hne 7 (by omega) (by omega) (by omega))
  split
  · exact fine0 k (hne 9 (by omega) (by omega) (by omega))
  · exact final_fine _ p k il (fun hh => ⟨by simp, by simp, by simp, by simp, by simp⟩) (by simp)
theorem csi_fine (p : GParser) (c : Int) (h : OkP p) (h2 : 3 ≤ p.State ∧ p.State ≤ 6) (hc : 32 ≤ c) (k : Nat) : Fine 1 k (csiP p c) := by
  obtain ⟨st, mA, ia, il, ie, aa, al, ae, tl, te⟩ := h
  have h0 : OkP p := ⟨st, mA, ia, il, ie, aa, al, ae, tl, te⟩
  have hT : p.Text = [] := by rcases te with e | e; exact e; omega
  have f6 : Fine 1 k (nilP 6, []) := fine0 k (nil_okP 6 (by omega) (by omega) (by omega))
  unfold csiP
  split
  · split
    · exact fined 0 k (by omega) (by omega) (by omega)
    · exact fine0 k h0
  split
  · rename_i h48
    obtain ⟨m1, m2, m3⟩ := more_in p.Inter c ⟨hc, h48⟩ ia il
    exact fine0 k ⟨by dsimp only; omega, by dsimp only; omega, m1, m2, ⟨fun _ => m3, fun _ => .inr rfl⟩, aa, al, .inr (.inr rfl), tl, .inl hT⟩
  split
  · exact final_fine _ p k il (fun hh => ⟨by simp, hh, readA_len _, by simp, by simp⟩) (by simp)
  split
  · exact f6
  split
  · exact f6
  rename_i h6 h48 h64 h5 h58
  have hI : p.Inter = [] := Classical.byContradiction fun hh => by have := ie.2 hh; omega
  split
  · rename_i h60
    refine fine0 k ⟨by dsimp only; omega, by dsimp only; omega, ia, il, ⟨fun hh => by dsimp only at hh; omega, fun hh => absurd hI hh⟩, ?_, ?_, .inr (.inl rfl), tl, .inl hT⟩
    · dsimp only
      split
      · rw [List.all_append, aa]; simp [sg_ok c (by omega)]
      · exact aa
    · dsimp only
      split
      · simp; omega
      · exact al
  split
  · rename_i h60 h3
    refine fine0 k ⟨by dsimp only; omega, .inr ⟨by dsimp only; omega, by dsimp only; omega, .inl rfl⟩, ia, il, ⟨fun hh => by dsimp only at hh; omega, fun hh => absurd hI hh⟩, aa, al, .inr (.inl rfl), tl, .inl hT⟩
  · exact f6
theorem after_fine (p : GParser) (c : Int) (h : OkP p) (h6 : p.State ≤ 6) (hc : 0 ≤ c) : Fine 1 (ctl c) (afterP p c) := by
  have hs := h.st
  have hd : ∀ s : Int, (s = 0 ∨ s = 1) → Fine 1 (ctl c) (nilP s, if p.State = 0 then [] else [drp]) := fun s hs' => by
    split
    · exact fine0 _ (nil_okP s (by omega) (by omega) (by omega))
    · exact fined s _ (by omega) (by omega) (by omega)
  have core : ∀ o, o = ctrlP p c → Fine 1 (ctl c) (match o with | some r => r | none => if p.State = 0 then (p, [⟨1, c, 0, [], [], []⟩]) else if 160 ≤ c then (nilP 0, [drp]) else if p.State ≤ 2 then escP p c else csiP p c) := by
    intro o ho
    cases o with
    | none =>
      have hn := (ctrl_none ho.symm).1
      simp only
      split
      · exact fine1 _ h ⟨by simp, by simp, by simp, by simp, by simp⟩ (by simp)
      split
      · exact fined 0 _ (by omega) (by omega) (by omega)
      split
      · exact esc_fine p c h (by omega) hn _
      · exact csi_fine p c h (by omega) hn _
    | some r =>
      simp only
      unfold ctrlP at ho
      split at ho
      · cases ho; exact hd 1 (.inr rfl)
      split at ho
      · cases ho; exact hd 0 (.inl rfl)
      split at ho
      · cases ho; exact hd 0 (.inl rfl)
      split at ho
      · rename_i h32
        cases ho
        refine ⟨h, by simp, fun a ha => ?_, ?_⟩
        · simp at ha; subst ha; exact ⟨by simp, by simp, by simp, by simp, by simp⟩
        · have : ctl c = 1 := if_pos ⟨hc, h32⟩
          rw [this]
          simp [ctrls]
      split at ho
      · cases ho; exact fine0 _ h
      · cases ho
  exact core _ rfl
theorem take_fine (p : GParser) (c : Int) (h : OkP p) : Fine 2 (ctl c) (takeP p c) := by
  have wide : ∀ {r}, Fine 1 (ctl c) r → Fine 2 (ctl c) r := fun f => ⟨f.ok, by have := f.len; omega, f.good, f.ctl⟩
  have hs := h.st
  unfold takeP
  split
  · exact wide (fine0 _ h)
  split
  · exact wide (fine0 _ h)
  split
  · rename_i h7; exact wide (text_fine p c h h7 _)
  split
  · split
    · refine wide (fine1 _ (nil_okP 0 (by omega) (by omega) (by omega)) ?_ ?_)
      · split
        · exact ⟨h.tl, by simp, by simp, by simp, by simp⟩
        · exact drp_good
      · split <;> simp [drp]
    · have f := after_fine (nilP 1) c (nil_okP 1 (by omega) (by omega) (by omega)) (by simp [nilP]) (by omega)
      refine ⟨f.ok, by have := f.len; simp only [List.length_cons]; omega, fun a ha => ?_, ?_⟩
      · rcases List.mem_cons.1 ha with rfl | ha
        · exact drp_good
        · exact f.good a ha
      · have := f.ctl
        simp only [ctrls] at this ⊢
        rw [List.filter_cons_of_neg (by simp [drp])]
        exact this
  · rename_i h7 h8
    exact wide (after_fine p c h (by omega) (by omega))
/-- Feed. -/
def feedP : GParser → List Int → GParser × List GAct
  | p, [] => (p, [])
  | p, c :: t => ((feedP (takeP p c).1 t).1, (takeP p c).2 ++ (feedP (takeP p c).1 t).2)
theorem feed_app : ∀ (a b : List Int) (p : GParser), feedP p (a ++ b) = ((feedP (feedP p a).1 b).1, (feedP p a).2 ++ (feedP (feedP p a).1 b).2)
  | [], b, p => by simp [feedP]
  | c :: a, b, p => by
    rw [List.cons_append]
    simp only [feedP]
    rw [feed_app a b]
    simp
def ctlN (l : List Int) : Nat := (l.filter fun c => decide (0 ≤ c ∧ c < 32)).length
theorem feed_fine : ∀ (l : List Int) (p : GParser), OkP p → Fine (2 * l.length) (ctlN l) (feedP p l)
  | [], p, h => ⟨h, by simp [feedP], fun a ha => by simp [feedP] at ha, by simp [feedP, ctrls]⟩
  | c :: t, p, h => by
    have f := take_fine p c h
    have g := feed_fine t _ f.ok
    refine ⟨g.ok, ?_, fun a ha => ?_, ?_⟩
    · have := f.len; have := g.len
      simp only [feedP, List.length_append, List.length_cons]; omega
    · simp only [feedP, List.mem_append] at ha
      rcases ha with ha | ha
      · exact f.good a ha
      · exact g.good a ha
    · have h1 := f.ctl; have h2 := g.ctl
      simp only [feedP]
      rw [ctrls_app]
      have : ctlN (c :: t) = ctl c + ctlN t := by
        unfold ctlN ctl
        by_cases hc : 0 ≤ c ∧ c < 32
        · rw [List.filter_cons_of_pos (by simpa using hc), if_pos hc, List.length_cons]; omega
        · rw [List.filter_cons_of_neg (by simpa using hc), if_neg hc]; omega
      omega
theorem feed_loop (a1 : GParser) (a2 : List Int) (hl : a2.length ≤ 4000000) : ∀ (suf pre : List Int) (p : GParser) (l : List GAct), a2 = pre ++ suf → OkP p → l.length ≤ 2 * pre.length →
    loopO (f11_l2 a1 a2) (p.State, p.Mark, p.Inter, p.Args, p.Text, l, (pre.length : Int)) = some (pk l (feedP p suf))
  | [], pre, p, l, e, h, hk => loopO_done (by
      subst e
      unfold f11_l2 f11_l2_j3
      simp only [lt_end, cond_false]
      simp [feedP, pk])
  | c :: t, pre, p, l, e, h, hk => by
    have hp : pre.length < 1000000000 := by rw [e] at hl; simp at hl; omega
    have hp2 : pre.length ≤ 4000000 := by rw [e] at hl; simp at hl; omega
    have hx : idx a2 (pre.length : Int) = some c := by rw [e]; exact idx_mid pre c t
    have hlt : decide ((pre.length : Int) < (a2.length : Int)) = true := by rw [e]; exact lt_mid pre c t
    have f := take_fine p c h
    have fl := f.len
    have ih := feed_loop a1 a2 hl t (pre ++ [c]) (takeP p c).1 (l ++ (takeP p c).2) (by rw [e]; simp) f.ok (by simp; omega)
    have er : pk l (feedP p (c :: t)) = pk (l ++ (takeP p c).2) (feedP (takeP p c).1 t) := by simp [pk, feedP]
    rw [er]
    refine loopO_next ?_ ih
    unfold f11_l2 f11_l2_j3 f11_l2_j4
    simp only [hlt, cond_true]
    rw [hx, bs, take_ok c p l (by omega) h.st h.al h.tl, bs, wrap_nx pre c hp]
    rfl
theorem feed_ok (p : GParser) (l : List Int) (hl : l.length ≤ 4000000) (h : OkP p) : f11 p l = some ((feedP p l).1, (feedP p l).2, 0) := by
  unfold f11
  have hi := h.il; have ha := h.al
  rw [check_ok p (by omega) (by omega), (ok_iff p).2 h, bs, ct, decide_eq_true rfl, Bool.not_true, cf]
  unfold f11_j0
  have := feed_loop p l hl l [] p [] rfl h (by simp)
  rw [show ((([] : List Int).length : Nat) : Int) = 0 from rfl] at this
  rw [this, bs]
  unfold f11_j1 pk
  simp
theorem feed_bad (p : GParser) (l : List Int) (hi : p.Inter.length ≤ 10000000) (ha : p.Args.length ≤ 10000000) (h : ¬ OkP p) : f11 p l = some (p, [], 4) := by
  unfold f11
  have hb : okP p = false := by
    cases hc : okP p with
    | false => rfl
    | true => exact absurd ((ok_iff p).1 hc) h
  rw [check_ok p hi ha, hb, bs, cf, decide_eq_false (by decide), Bool.not_false, ct]
end Go.Proofs.YtakmihemhmdpkaaDoor.Pm
