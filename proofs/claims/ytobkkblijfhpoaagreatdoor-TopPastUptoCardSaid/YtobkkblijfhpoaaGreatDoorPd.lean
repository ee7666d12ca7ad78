/- The small machine: typed data, loops, and the rules by which a run is shown to be a typed function. No program is named here. -/
import Derived.Test.YtobkkblijfhpoaaGreatDoorPl
namespace Go.Proofs.YtobkkblijfhpoaaGreatDoor.Pm
set_option linter.unusedVariables false

structure Enc (α : Type) where
 k : Nat
 enc : α → List PD
 len : ∀ x, (enc x).length = k
def Enc.cells {α : Type} (E : Enc α) : List α → List PD
 | [] => []
 | x :: xs => E.enc x ++ E.cells xs
def Enc.row {α : Type} (E : Enc α) (n : Nat) (f : Nat → α) : List PV := (E.cells ((List.range n).map f)).map .d
def eInt (k : IntKind) : Enc Int := ⟨1, fun x => [.int k x], fun _ => rfl⟩
def eU8 : Enc UInt8 := ⟨1, fun x => [.int .u8 (x.toNat : Int)], fun _ => rfl⟩
def eStr : Enc (List UInt8) := ⟨1, fun x => [.str x], fun _ => rfl⟩
def eSl {α : Type} (E : Enc α) : Enc (List α) := ⟨1, fun x => [.sl x.length (E.cells x)], fun _ => rfl⟩
section
variable {α : Type} (E : Enc α)
theorem Enc.cells_len : ∀ xs : List α, (E.cells xs).length = xs.length * E.k
 | [] => by simp [Enc.cells]
 | x :: xs => by simp [Enc.cells, E.len, Enc.cells_len xs, Nat.succ_mul, Nat.add_comm]
theorem Enc.cells_app : ∀ xs ys : List α, E.cells (xs ++ ys) = E.cells xs ++ E.cells ys
 | [], _ => rfl
 | x :: xs, ys => by simp [Enc.cells, Enc.cells_app xs ys]
theorem Enc.cells_drop : ∀ (xs : List α) (n : Nat), (E.cells xs).drop (n * E.k) = E.cells (xs.drop n)
 | xs, 0 => by simp
 | [], n + 1 => by simp [Enc.cells]
 | x :: xs, n + 1 => by
  rw [List.drop_succ_cons, ← Enc.cells_drop xs n]
  simp only [Enc.cells]
  rw [show (n + 1) * E.k = (E.enc x).length + n * E.k by rw [E.len, Nat.succ_mul, Nat.add_comm], List.drop_append]
  simp
theorem Enc.cells_take : ∀ (xs : List α) (n : Nat), (E.cells xs).take (n * E.k) = E.cells (xs.take n)
 | xs, 0 => by simp [Enc.cells]
 | [], n + 1 => by simp [Enc.cells]
 | x :: xs, n + 1 => by
  rw [List.take_succ_cons]
  simp only [Enc.cells]
  rw [← Enc.cells_take xs n, show (n + 1) * E.k = (E.enc x).length + n * E.k by rw [E.len, Nat.succ_mul, Nat.add_comm], List.take_append]
  simp
  exact (List.take_of_length_le (by rw [E.len]; omega))
theorem Enc.cells_get {xs : List α} {n : Nat} {y : α} (h : xs[n]? = some y) : E.cells xs = E.cells (xs.take n) ++ (E.enc y ++ E.cells (xs.drop (n + 1))) := by
 obtain ⟨hl, rfl⟩ := List.getElem?_eq_some_iff.1 h
 have : xs = xs.take n ++ (xs[n] :: xs.drop (n + 1)) := by rw [← List.drop_eq_getElem_cons hl, List.take_append_drop]
 conv => lhs; rw [this]
 rw [Enc.cells_app]; rfl
theorem Enc.cells_set {xs : List α} {n : Nat} {y z : α} (h : xs[n]? = some y) : E.cells (xs.set n z) = E.cells (xs.take n) ++ (E.enc z ++ E.cells (xs.drop (n + 1))) := by
 obtain ⟨hl, rfl⟩ := List.getElem?_eq_some_iff.1 h
 rw [Enc.cells_get E (n := n) (y := z) (by simp [hl])]
 simp [List.take_set_of_le, List.drop_set_of_lt]
end
theorem u8_cells : ∀ s : List UInt8, (s.map fun b => PD.int .u8 (b.toNat : Int)) = eU8.cells s
 | [] => rfl
 | x :: s => by simp [Enc.cells, eU8, u8_cells s]

def idx {α : Type} (xs : List α) (j : Int) : Option α := if 0 ≤ j then xs[j.toNat]? else none
def inR (j : Int) (n : Nat) : Option Nat := if 0 ≤ j ∧ j < n then some j.toNat else none
def sub? {α : Type} (xs : List α) (lo hi : Int) : Option (List α) := if 0 ≤ lo ∧ lo ≤ hi ∧ hi ≤ xs.length then some ((xs.take hi.toNat).drop lo.toNat) else none
def app? {α : Type} (b : Nat) (xs ys : List α) : Option (List α) := if (xs.length + ys.length) * b ≤ 140737488355328 then some (xs ++ ys) else none
def cat? (xs ys : List UInt8) : Option (List UInt8) := if ((xs.length + ys.length : Nat) : Int) ≤ IntKind.i64.max then some (xs ++ ys) else none
def chk (b : Bool) : Option Unit := if b = true then some () else none
theorem bind_some {α β : Type} {o : Option α} {f : α → Option β} {r : β} (h : o.bind f = some r) : ∃ x, o = some x ∧ f x = some r := by
 cases o with
 | none => cases h
 | some x => exact ⟨x, rfl, h⟩
theorem bindE {α β : Type} {o : Option α} {f : α → Option β} {r : β} {P : Prop} (h : o.bind f = some r) (K : ∀ x, o = some x → f x = some r → P) : P := by
 obtain ⟨x, h1, h2⟩ := bind_some h
 exact K x h1 h2
theorem endQ {α : Type} {F : α → PX → St → Prop} {Q : PX → St → Prop} {X r : α} {e : PX} {st : St} (hS : some X = some r) (hQ : ∀ e st', F r e st' → Q e st') (h : F X e st) : Q e st := by
 cases hS; exact hQ _ _ h
theorem cond_t {α : Type} {c : Bool} {a b r : α} (hc : c = true) (h : (bif c then a else b) = r) : a = r := by subst hc; exact h
theorem cond_f {α : Type} {c : Bool} {a b r : α} (hc : c = false) (h : (bif c then a else b) = r) : b = r := by subst hc; exact h
theorem chk_t {b : Bool} {u : Unit} (h : chk b = some u) : b = true := by
 unfold chk at h; split at h
 ·assumption
 ·cases h

def loopF {σ ρ : Type} (body : σ → Option (σ ⊕ ρ)) : Nat → σ → Option ρ
 | 0, _ => none
 | n + 1, x => match body x with
  | none => none
  | some (.inl y) => loopF body n y
  | some (.inr r) => some r
theorem loopF_mono {σ ρ : Type} {body : σ → Option (σ ⊕ ρ)} : ∀ {n m : Nat} {x : σ} {r : ρ}, n ≤ m → loopF body n x = some r → loopF body m x = some r
 | 0, _, _, _, _, h => by cases h
 | n + 1, 0, _, _, hl, _ => by omega
 | n + 1, m + 1, x, r, hl, h => by
  simp only [loopF] at h ⊢
  split at h
  ·cases h
  ·exact loopF_mono (by omega) h
  ·exact h
open Classical in
noncomputable def loopO {σ ρ : Type} (body : σ → Option (σ ⊕ ρ)) (x : σ) : Option ρ := if h : ∃ n r, loopF body n x = some r then some h.choose_spec.choose else none
theorem loopO_of {σ ρ : Type} {body : σ → Option (σ ⊕ ρ)} {x : σ} {n : Nat} {r : ρ} (h : loopF body n x = some r) : loopO body x = some r := by
 have hx : ∃ n r, loopF body n x = some r := ⟨n, r, h⟩
 unfold loopO
 rw [dif_pos hx]
 have h2 := hx.choose_spec.choose_spec
 have a := loopF_mono (Nat.le_max_left n hx.choose) h
 have b := loopF_mono (Nat.le_max_right n hx.choose) h2
 rw [a] at b
 exact b.symm
theorem loopO_ex {σ ρ : Type} {body : σ → Option (σ ⊕ ρ)} {x : σ} {r : ρ} (h : loopO body x = some r) : ∃ n, loopF body n x = some r := by
 unfold loopO at h
 split at h
 ·rename_i hx
  refine ⟨hx.choose, ?_⟩
  rw [hx.choose_spec.choose_spec]; exact h
 ·cases h
theorem loopO_done {σ ρ : Type} {body : σ → Option (σ ⊕ ρ)} {x : σ} {r : ρ} (h : body x = some (.inr r)) : loopO body x = some r := loopO_of (n := 1) (by simp [loopF, h])
theorem loopO_next {σ ρ : Type} {body : σ → Option (σ ⊕ ρ)} {x y : σ} {r : ρ} (h : body x = some (.inl y)) (h2 : loopO body y = some r) : loopO body x = some r := by
 obtain ⟨n, hn⟩ := loopO_ex h2
 exact loopO_of (n := n + 1) (by simp [loopF, h, hn])

section
variable {γ : Orc} {Q : PX → St → Prop} {k : List It} {st : St} {p : List PO} {prs : List (Nat × Nat)} {acc : List (List (Nat × Bool))}
theorem rSeq {a b : PCode} (h : R γ Q a (.seq b :: k) st) : R γ Q (.seq a b) k st := by rw [R_seq]; exact h
theorem rBlk {id : Nat} {c : PCode} (h : R γ Q c (.blk id :: k) st) : R γ Q (.block id c) k st := by rw [R_block]; exact h
theorem rSkip (h : Kont γ Q k .normal st) : R γ Q .skip k st := by rw [R_skip]; exact h
theorem rExit {i : Nat} (h : Kont γ Q k (.exit i) st) : R γ Q (.exit i) k st := by rw [R_exit]; exact h
theorem rRet (h : Kont γ Q k .ret st) : R γ Q .ret k st := by rw [R_ret]; exact h
theorem rKeep {L : List Nat} {B : List (Nat × Loc)} {A : List NA} {c : PCode} {J : St} (e : keepSt L B A st = J) (h : R γ Q c k J) : R γ Q (.keep L B A c) k st := by rw [R_keep, e]; exact h
theorem rCondT {c : Operand} {t e : PCode} (hc : (ρof st.s c).bool? = some true) (h : R γ Q t k st) : R γ Q (.cond c t e) k st := by rw [R_cond, hc]; exact h
theorem rCondF {c : Operand} {t e : PCode} (hc : (ρof st.s c).bool? = some false) (h : R γ Q e k st) : R γ Q (.cond c t e) k st := by rw [R_cond, hc]; exact h
theorem kSeq {b : PCode} (h : R γ Q b k st) : Kont γ Q (.seq b :: k) .normal st := h
theorem kSeqX {b : PCode} {i : Nat} (h : Kont γ Q k (.exit i) st) : Kont γ Q (.seq b :: k) (.exit i) st := h
theorem kSeqR {b : PCode} (h : Kont γ Q k .ret st) : Kont γ Q (.seq b :: k) .ret st := h
theorem kBlk {id : Nat} (h : Kont γ Q k .normal st) : Kont γ Q (.blk id :: k) .normal st := h
theorem kBlkX {id : Nat} (h : Kont γ Q k .normal st) : Kont γ Q (.blk id :: k) (.exit id) st := by rw [K_blkX, if_pos rfl]; exact h
theorem kBlkY {id i : Nat} (hne : Nat.beq i id = false) (h : Kont γ Q k (.exit i) st) : Kont γ Q (.blk id :: k) (.exit i) st := by rw [K_blkX, if_neg (by intro e; subst e; simp at hne)]; exact h
theorem kBlkR {id : Nat} (h : Kont γ Q k .ret st) : Kont γ Q (.blk id :: k) .ret st := h
theorem kNil {e : PX} (h : Q e st) : Kont γ Q [] e st := by rw [K_nil]; exact h
theorem rLoop1 {c : PCode} (h : R γ Q c (.seq (.loop c) :: k) st) : R γ Q (.loop c) k st := by
 obtain ⟨n, e, st1, h1, q⟩ := h
 cases e with
 | normal =>
  obtain ⟨n2, e2, st2, h2, q⟩ := q
  refine ⟨max n n2 + 1, e2, st2, ?_, q⟩
  simp only [prun] at h2 ⊢
  simp only [iter, prun_mono (show n ≤ max n n2 + 1 by omega) _ _ _ h1]
  exact iter_mono (fun st r => prun_mono (show n2 ≤ max n n2 + 1 by omega) c st r) n2 _ _ _ (by omega) h2
 | exit i => exact ⟨n + 1, _, st1, by simp only [prun, iter, prun_mono (Nat.le_succ n) _ _ _ h1], q⟩
 | ret => exact ⟨n + 1, _, st1, by simp only [prun, iter, prun_mono (Nat.le_succ n) _ _ _ h1], q⟩
def finL {σ ρ : Type} (H : σ → St → Prop) (X : ρ → PX → St → Prop) : σ ⊕ ρ → PX → St → Prop
 | .inl y, e, st => e = .normal ∧ H y st
 | .inr z, e, st => e ≠ .normal ∧ X z e st
theorem finL_n {σ ρ : Type} {H : σ → St → Prop} {X : ρ → PX → St → Prop} {y : σ} {st : St} (h : H y st) : finL H X (.inl y) .normal st := ⟨rfl, h⟩
theorem finL_x {σ ρ : Type} {H : σ → St → Prop} {X : ρ → PX → St → Prop} {z : ρ} {e : PX} {st : St} (hne : e ≠ .normal) (h : X z e st) : finL H X (.inr z) e st := ⟨hne, h⟩
theorem rLoop {σ ρ : Type} {body : σ → Option (σ ⊕ ρ)} {c : PCode} (H : σ → St → Prop) (X : ρ → PX → St → Prop)
  (hb : ∀ x st r (Q' : PX → St → Prop), H x st → body x = some r → (∀ e st', finL H X r e st' → Q' e st') → R γ Q' c [] st)
  {x : σ} {z : ρ} (h0 : H x st) (hS : loopO body x = some z) (hk : ∀ e st', e ≠ .normal → X z e st' → Kont γ Q k e st') : R γ Q (.loop c) k st := by
 obtain ⟨n, hn⟩ := loopO_ex hS
 clear hS
 induction n generalizing x st with
 | zero => cases hn
 | succ n ih =>
  simp only [loopF] at hn
  split at hn
  ·cases hn
  ·rename_i y hy
   have h1 := hb x st _ (fun e st' => match e with
    | .normal => H y st'
    | _ => False) h0 hy (fun e st' h => by obtain ⟨rfl, h⟩ := h; exact h)
   obtain ⟨m, e, st1, h1, q⟩ := h1
   rw [K_nil] at q
   cases e with
   | normal => exact rLoop1 ⟨m, .normal, st1, h1, ih q hn⟩
   | exit i => exact q.elim
   | ret => exact q.elim
  ·rename_i r hr
   cases hn
   have h1 := hb x st _ (fun e st' => match e with
    | .normal => False
    | e => X z e st') h0 hr (fun e st' h => by
     obtain ⟨hne, hX⟩ := h
     cases e with
     | normal => exact absurd rfl hne
     | exit => exact hX
     | ret => exact hX)
   obtain ⟨m, e, st1, h1, q⟩ := h1
   rw [K_nil] at q
   cases e with
   | normal => exact q.elim
   | exit i => exact rLoop1 ⟨m, .exit i, st1, h1, hk _ _ (by simp) q⟩
   | ret => exact rLoop1 ⟨m, .ret, st1, h1, hk _ _ (by simp) q⟩

-- statements
def stD (o : Option (List Out × St)) : St := match o with | some x => x.2 | none => ⟨fun _ => .un, fun _ => ⟨0, none⟩⟩
def tcD (o : Option (List Out × St)) : List (List (Nat × Bool)) := match o with | some x => x.1.map (·.tc) | none => []
def putS (d : Option Nat) (v : PV) (s : Nat → PV) : Nat → PV := match d with | some d => up s d v | none => s
def putO (st : St) (d : Option Nat) (v : PV) (ups : Ups) : St := ⟨putS d v st.s, setH st.h ups⟩
def putB (st : St) (d : Nat) (b : Bool) : St := ⟨up st.s d (.d (.bool b)), st.h⟩
def tcO (st : St) (d : Option Nat) (op : POp) : List (Nat × Bool) := touch (ρof st.s) st.h (d.getD 0) op
theorem RD_run : ∀ (l r : List PO) (acc : List (List (Nat × Bool))) (st : St), (runD γ l st).isSome = true → RD γ Q prs k (acc ++ tcD (runD γ l st)) r (stD (runD γ l st)) → RD γ Q prs k acc (l ++ r) st
 | [], r, acc, st, _, h => by simpa [runD, stD, tcD] using h
 | o :: l, r, acc, st, h1, h => by
  simp only [runD] at h1 h
  simp only [List.cons_append, RD]
  cases hx : exec1 γ o st with
  | none => rw [hx] at h1; cases h1
  | some x =>
   rw [hx] at h1 h
   simp only at h1 h ⊢
   cases hy : runD γ l (apply x st) with
   | none => rw [hy] at h1; cases h1
   | some y =>
    obtain ⟨a, b⟩ := y
    rw [hy] at h
    refine RD_run l r _ _ (by rw [hy]; rfl) ?_
    rw [hy]
    simpa [stD, tcD] using h
theorem dRun {i n j : Nat} {ts acc' : List (List (Nat × Bool))} (hj : i + n = j) (h1 : (runD γ ((p.drop i).take n) st).isSome = true) (ht : tcD (runD γ ((p.drop i).take n) st) = ts) (ha : acc ++ ts = acc')
  (h : RD γ Q prs k acc' (p.drop j) (stD (runD γ ((p.drop i).take n) st))) : RD γ Q prs k acc (p.drop i) st := by
 have e : p.drop i = (p.drop i).take n ++ p.drop j := by rw [← hj, ← List.drop_drop, List.take_append_drop]
 rw [e]
 exact RD_run _ _ _ _ h1 (by rw [ht, ha]; exact h)
theorem dEnd {i : Nat} (h0 : p.drop i = []) (ha : (prs.all fun x => apart (acc.getD x.1 []) (acc.getD x.2 [])) = true) (h : Kont γ Q k .normal st) : RD γ Q prs k acc (p.drop i) st := by
 rw [h0]; exact ⟨ha, h⟩
def gok (s : Nat → PV) : Option (Nat × Bool) → Bool
 | none => true
 | some (t, b) => match (s t).guard? with | some c => (if c = some b then true else false) | none => false
theorem dOp {i j : Nat} {d : Option Nat} {op : POp} {g : Option (Nat × Bool)} {v : PV} {ups : Ups} {t1 : List (Nat × Bool)} {acc' : List (List (Nat × Bool))} (ht1 : tcO st d op = t1) (ha : acc ++ [t1] = acc') (hj : i + 1 = j) (hp : (p.drop i).take 1 = [⟨d, op, g⟩]) (hg : gok st.s g = true)
  (h1 : peval γ st.h (d.getD 0) (ρof st.s) op = some (v, ups))
  (h : RD γ Q prs k acc' (p.drop j) (putO st d v ups)) : RD γ Q prs k acc (p.drop i) st := by
 subst ht1 ha
 have hx : exec1 γ ⟨d, op, g⟩ st = some ⟨d, v, ups, touch (ρof st.s) st.h (d.getD 0) op⟩ := by
  cases g with
  | none => simp only [exec1, h1]
  | some q =>
   obtain ⟨t, b⟩ := q
   simp only [gok] at hg
   simp only [exec1]
   split at hg
   ·rename_i c hc
    split at hg
    ·rename_i hcb; rw [hc]; simp only [if_pos hcb, h1]
    ·cases hg
   ·cases hg
 have e : p.drop i = ⟨d, op, g⟩ :: p.drop j := by
  conv => lhs; rw [← List.take_append_drop 1 (p.drop i), hp, List.drop_drop, hj]
  rfl
 rw [e]
 simp only [RD, hx]
 exact h
theorem dBool {i j d : Nat} (c : Bool) {op : POp} {t1 : List (Nat × Bool)} {acc' : List (List (Nat × Bool))} (ht1 : tcO st (some d) op = t1) (ha : acc ++ [t1] = acc') (hj : i + 1 = j) {g : Option (Nat × Bool)} (hp : (p.drop i).take 1 = [⟨some d, op, g⟩]) (hg : gok st.s g = true)
  (h1 : peval γ st.h d (ρof st.s) op = some (.d (.bool c), []))
  (ht : c = true → RD γ Q prs k acc' (p.drop j) (putB st d true)) (hf : c = false → RD γ Q prs k acc' (p.drop j) (putB st d false)) : RD γ Q prs k acc (p.drop i) st := by
 refine dOp (v := .d (.bool c)) ht1 ha hj hp hg h1 ?_
 cases c with
 | true => exact ht rfl
 | false => exact hf rfl
theorem up_id (s : Nat → PV) (t : Nat) {v : PV} (h : s t = v) : up s t v = s := by
 funext x
 by_cases e : x = t
 ·subst e; rw [up_same, h]
 ·rw [up_ne _ _ _ _ e]
theorem dSplit {l : List PO} (t : Nat) (c : Bool) (h1 : st.s t = .d (.bool c)) (ht : c = true → RD γ Q prs k acc l (putB st t true)) (hf : c = false → RD γ Q prs k acc l (putB st t false)) : RD γ Q prs k acc l st := by
 obtain ⟨s, h⟩ := st
 cases c with
 | true => have := ht rfl; rw [putB, up_id _ _ h1] at this; exact this
 | false => have := hf rfl; rw [putB, up_id _ _ h1] at this; exact this
theorem rSplit {c0 : PCode} (t : Nat) (c : Bool) (h1 : st.s t = .d (.bool c)) (ht : c = true → R γ Q c0 k (putB st t true)) (hf : c = false → R γ Q c0 k (putB st t false)) : R γ Q c0 k st := by
 obtain ⟨s, h⟩ := st
 cases c with
 | true => have := ht rfl; rw [putB, up_id _ _ h1] at this; exact this
 | false => have := hf rfl; rw [putB, up_id _ _ h1] at this; exact this
theorem rRegD (h : RD γ Q prs k [] (p.drop 0) st) : R γ Q (.regD p prs) k st := by rw [R_regD]; exact h
def RL (γ : Orc) (Q : PX → St → Prop) (k : List It) (l : List PO) (st : St) : Prop := RD γ Q [] k [] l st
theorem RL_acc : ∀ (l : List PO) (acc acc' : List (List (Nat × Bool))) (st : St), RD γ Q [] k acc l st → RD γ Q [] k acc' l st
 | [], _, _, _, h => ⟨rfl, h.2⟩
 | o :: l, acc, acc', st, h => by
  simp only [RD] at h ⊢
  split at h
  ·exact RL_acc l _ _ _ h
  ·exact h
theorem rReg (h : RL γ Q k (p.drop 0) st) : R γ Q (.reg p) k st := by rw [← R_regD0, R_regD]; exact h
theorem lRun {i n j : Nat} (hj : i + n = j) (h1 : (runD γ ((p.drop i).take n) st).isSome = true) (h : RL γ Q k (p.drop j) (stD (runD γ ((p.drop i).take n) st))) : RL γ Q k (p.drop i) st := dRun hj h1 rfl rfl (RL_acc _ _ _ _ h)
theorem lEnd {i : Nat} (h0 : p.drop i = []) (h : Kont γ Q k .normal st) : RL γ Q k (p.drop i) st := dEnd h0 rfl h
theorem lOp {i j : Nat} {d : Option Nat} {op : POp} {g : Option (Nat × Bool)} {v : PV} {ups : Ups} (hj : i + 1 = j) (hp : (p.drop i).take 1 = [⟨d, op, g⟩]) (hg : gok st.s g = true)
  (h1 : peval γ st.h (d.getD 0) (ρof st.s) op = some (v, ups)) (h : RL γ Q k (p.drop j) (putO st d v ups)) : RL γ Q k (p.drop i) st := dOp rfl rfl hj hp hg h1 (RL_acc _ _ _ _ h)
theorem lBool {i j d : Nat} (c : Bool) (hj : i + 1 = j) {g : Option (Nat × Bool)} {op : POp} (hp : (p.drop i).take 1 = [⟨some d, op, g⟩]) (hg : gok st.s g = true)
  (h1 : peval γ st.h d (ρof st.s) op = some (.d (.bool c), []))
  (ht : c = true → RL γ Q k (p.drop j) (putB st d true)) (hf : c = false → RL γ Q k (p.drop j) (putB st d false)) : RL γ Q k (p.drop i) st := dBool c rfl rfl hj hp hg h1 (fun h => RL_acc _ _ _ _ (ht h)) (fun h => RL_acc _ _ _ _ (hf h))
theorem lSplit {l : List PO} (t : Nat) (c : Bool) (h1 : st.s t = .d (.bool c)) (ht : c = true → RL γ Q k l (putB st t true)) (hf : c = false → RL γ Q k l (putB st t false)) : RL γ Q k l st := dSplit t c h1 ht hf
theorem outX_f {fx : Bool} {m : Nat} {rs : List PR} {r : PV × List Blk} (hx : fx = false) (h : outR st m rs = some r) : outX fx st m rs = some r := by subst hx; exact h
theorem outX_t {fx : Bool} {m : Nat} {rs : List PR} {r : PV} {bs : List Blk} (hx : fx = true) (hg : genOk st.h m = true) (h : outR st m rs = some (r, bs)) : outX fx st m rs = some (r, bs ++ [.box []]) := by
 subst hx
 simp only [outX, h]
 rw [if_pos hg]
theorem fRet {m : Nat} {fc : FCode} {r : PV × List Blk} (hx : fxC fc.fin = false) (h : outR (finSt fc.fin st) m fc.res = some r) : DoneF fc m r .ret st := outX_f hx h
theorem fNorm {m : Nat} {fc : FCode} {r : PV × List Blk} (hx : fxC fc.fin = false) (h : outR (finSt fc.fin st) m fc.res = some r) : DoneF fc m r .normal st := outX_f hx h
theorem fRetX {m : Nat} {fc : FCode} {s : St} {r : PV} {bs : List Blk} (hx : fxC fc.fin = true) (he : finSt fc.fin st = s) (hg : genOk s.h m = true) (h : outR s m fc.res = some (r, bs)) : DoneF fc m (r, bs ++ [.box []]) .ret st := by
 subst he; exact outX_t hx hg h
theorem fNormX {m : Nat} {fc : FCode} {s : St} {r : PV} {bs : List Blk} (hx : fxC fc.fin = true) (he : finSt fc.fin st = s) (hg : genOk s.h m = true) (h : outR s m fc.res = some (r, bs)) : DoneF fc m (r, bs ++ [.box []]) .normal st := by
 subst he; exact outX_t hx hg h

-- the same, told by structures (what is to be shown is not unfolded)
structure ZR (γ : Orc) (Q : PX → St → Prop) (c : PCode) (k : List It) (st : St) : Prop where
 out : R γ Q c k st
structure ZK (γ : Orc) (Q : PX → St → Prop) (k : List It) (e : PX) (st : St) : Prop where
 out : Kont γ Q k e st
structure ZL (γ : Orc) (Q : PX → St → Prop) (k : List It) (l : List PO) (st : St) : Prop where
 out : RL γ Q k l st
structure ZD (γ : Orc) (Q : PX → St → Prop) (prs : List (Nat × Nat)) (k : List It) (acc : List (List (Nat × Bool))) (l : List PO) (st : St) : Prop where
 out : RD γ Q prs k acc l st
theorem zrSeq {a b : PCode} (h : ZR γ Q a (.seq b :: k) st) : ZR γ Q (.seq a b) k st := ⟨rSeq h.out⟩
theorem zrBlk {id : Nat} {c : PCode} (h : ZR γ Q c (.blk id :: k) st) : ZR γ Q (.block id c) k st := ⟨rBlk h.out⟩
theorem zrSkip (h : ZK γ Q k .normal st) : ZR γ Q .skip k st := ⟨rSkip h.out⟩
theorem zrExit {i : Nat} (h : ZK γ Q k (.exit i) st) : ZR γ Q (.exit i) k st := ⟨rExit h.out⟩
theorem zrRet (h : ZK γ Q k .ret st) : ZR γ Q .ret k st := ⟨rRet h.out⟩
theorem zrKeep {L : List Nat} {B : List (Nat × Loc)} {A : List NA} {c : PCode} {J : St} (e : keepSt L B A st = J) (h : ZR γ Q c k J) : ZR γ Q (.keep L B A c) k st := ⟨rKeep e h.out⟩
theorem zrCondT {c : Operand} {t e : PCode} (hc : (ρof st.s c).bool? = some true) (h : ZR γ Q t k st) : ZR γ Q (.cond c t e) k st := ⟨rCondT hc h.out⟩
theorem zrCondF {c : Operand} {t e : PCode} (hc : (ρof st.s c).bool? = some false) (h : ZR γ Q e k st) : ZR γ Q (.cond c t e) k st := ⟨rCondF hc h.out⟩
theorem zkSeq {b : PCode} (h : ZR γ Q b k st) : ZK γ Q (.seq b :: k) .normal st := ⟨kSeq h.out⟩
theorem zkSeqX {b : PCode} {i : Nat} (h : ZK γ Q k (.exit i) st) : ZK γ Q (.seq b :: k) (.exit i) st := ⟨kSeqX h.out⟩
theorem zkSeqR {b : PCode} (h : ZK γ Q k .ret st) : ZK γ Q (.seq b :: k) .ret st := ⟨kSeqR h.out⟩
theorem zkBlk {id : Nat} (h : ZK γ Q k .normal st) : ZK γ Q (.blk id :: k) .normal st := ⟨kBlk h.out⟩
theorem zkBlkX {id : Nat} (h : ZK γ Q k .normal st) : ZK γ Q (.blk id :: k) (.exit id) st := ⟨kBlkX h.out⟩
theorem zkBlkY {id i : Nat} (hne : Nat.beq i id = false) (h : ZK γ Q k (.exit i) st) : ZK γ Q (.blk id :: k) (.exit i) st := ⟨kBlkY hne h.out⟩
theorem zkBlkR {id : Nat} (h : ZK γ Q k .ret st) : ZK γ Q (.blk id :: k) .ret st := ⟨kBlkR h.out⟩
theorem zkNil {e : PX} (h : Q e st) : ZK γ Q [] e st := ⟨kNil h⟩
theorem zrLoop1 {c : PCode} (h : ZR γ Q c (.seq (.loop c) :: k) st) : ZR γ Q (.loop c) k st := ⟨rLoop1 h.out⟩
theorem zrLoop {σ ρ : Type} {body : σ → Option (σ ⊕ ρ)} {c : PCode} (H : σ → St → Prop) (X : ρ → PX → St → Prop)
  (hb : ∀ x st r (Q' : PX → St → Prop), H x st → body x = some r → (∀ e st', finL H X r e st' → Q' e st') → ZR γ Q' c [] st)
  {x : σ} {z : ρ} (h0 : H x st) (hS : loopO body x = some z) (hk : ∀ e st', e ≠ .normal → X z e st' → ZK γ Q k e st') : ZR γ Q (.loop c) k st :=
 ⟨rLoop H X (fun x st r Q' a b c => (hb x st r Q' a b c).out) h0 hS fun e st' a b => (hk e st' a b).out⟩
theorem zrRegD (h : ZD γ Q prs k [] (p.drop 0) st) : ZR γ Q (.regD p prs) k st := ⟨rRegD h.out⟩
theorem zrReg (h : ZL γ Q k (p.drop 0) st) : ZR γ Q (.reg p) k st := ⟨rReg h.out⟩
theorem zrSplit {c0 : PCode} (t : Nat) (c : Bool) (h1 : st.s t = .d (.bool c)) (ht : c = true → ZR γ Q c0 k (putB st t true)) (hf : c = false → ZR γ Q c0 k (putB st t false)) : ZR γ Q c0 k st := ⟨rSplit t c h1 (fun h => (ht h).out) fun h => (hf h).out⟩
theorem zdRun {i n j : Nat} {ts acc' : List (List (Nat × Bool))} (hj : i + n = j) (h1 : (runD γ ((p.drop i).take n) st).isSome = true) (ht : tcD (runD γ ((p.drop i).take n) st) = ts) (ha : acc ++ ts = acc')
  (h : ZD γ Q prs k acc' (p.drop j) (stD (runD γ ((p.drop i).take n) st))) : ZD γ Q prs k acc (p.drop i) st := ⟨dRun hj h1 ht ha h.out⟩
theorem zdEnd {i : Nat} (h0 : p.drop i = []) (ha : (prs.all fun x => apart (acc.getD x.1 []) (acc.getD x.2 [])) = true) (h : ZK γ Q k .normal st) : ZD γ Q prs k acc (p.drop i) st := ⟨dEnd h0 ha h.out⟩
theorem zdOp {i j : Nat} {d : Option Nat} {op : POp} {g : Option (Nat × Bool)} {v : PV} {ups : Ups} {t1 : List (Nat × Bool)} {acc' : List (List (Nat × Bool))} (ht1 : tcO st d op = t1) (ha : acc ++ [t1] = acc') (hj : i + 1 = j) (hp : (p.drop i).take 1 = [⟨d, op, g⟩]) (hg : gok st.s g = true)
  (h1 : peval γ st.h (d.getD 0) (ρof st.s) op = some (v, ups)) (h : ZD γ Q prs k acc' (p.drop j) (putO st d v ups)) : ZD γ Q prs k acc (p.drop i) st := ⟨dOp ht1 ha hj hp hg h1 h.out⟩
theorem zdBool {i j d : Nat} (c : Bool) {op : POp} {t1 : List (Nat × Bool)} {acc' : List (List (Nat × Bool))} (ht1 : tcO st (some d) op = t1) (ha : acc ++ [t1] = acc') (hj : i + 1 = j) {g : Option (Nat × Bool)} (hp : (p.drop i).take 1 = [⟨some d, op, g⟩]) (hg : gok st.s g = true)
  (h1 : peval γ st.h d (ρof st.s) op = some (.d (.bool c), []))
  (ht : c = true → ZD γ Q prs k acc' (p.drop j) (putB st d true)) (hf : c = false → ZD γ Q prs k acc' (p.drop j) (putB st d false)) : ZD γ Q prs k acc (p.drop i) st := ⟨dBool c ht1 ha hj hp hg h1 (fun h => (ht h).out) fun h => (hf h).out⟩
theorem zlRun {i n j : Nat} (hj : i + n = j) (h1 : (runD γ ((p.drop i).take n) st).isSome = true) (h : ZL γ Q k (p.drop j) (stD (runD γ ((p.drop i).take n) st))) : ZL γ Q k (p.drop i) st := ⟨lRun hj h1 h.out⟩
theorem zlEnd {i : Nat} (h0 : p.drop i = []) (h : ZK γ Q k .normal st) : ZL γ Q k (p.drop i) st := ⟨lEnd h0 h.out⟩
theorem zlOp {i j : Nat} {d : Option Nat} {op : POp} {g : Option (Nat × Bool)} {v : PV} {ups : Ups} (hj : i + 1 = j) (hp : (p.drop i).take 1 = [⟨d, op, g⟩]) (hg : gok st.s g = true)
  (h1 : peval γ st.h (d.getD 0) (ρof st.s) op = some (v, ups)) (h : ZL γ Q k (p.drop j) (putO st d v ups)) : ZL γ Q k (p.drop i) st := ⟨lOp hj hp hg h1 h.out⟩
theorem zlBool {i j d : Nat} (c : Bool) (hj : i + 1 = j) {g : Option (Nat × Bool)} {op : POp} (hp : (p.drop i).take 1 = [⟨some d, op, g⟩]) (hg : gok st.s g = true)
  (h1 : peval γ st.h d (ρof st.s) op = some (.d (.bool c), []))
  (ht : c = true → ZL γ Q k (p.drop j) (putB st d true)) (hf : c = false → ZL γ Q k (p.drop j) (putB st d false)) : ZL γ Q k (p.drop i) st := ⟨lBool c hj hp hg h1 (fun h => (ht h).out) fun h => (hf h).out⟩
theorem zlSplit {l : List PO} (t : Nat) (c : Bool) (h1 : st.s t = .d (.bool c)) (ht : c = true → ZL γ Q k l (putB st t true)) (hf : c = false → ZL γ Q k l (putB st t false)) : ZL γ Q k l st := ⟨lSplit t c h1 (fun h => (ht h).out) fun h => (hf h).out⟩
theorem lev_go {codes : Nat → Option FCode} {base : Orc} {d f : Nat} {fc : FCode} {args : List PV} {bs : List Blk} {r : PV × List Blk} (hc : codes f = some fc) (hz : fc.z = false) (hl : Nat.ble args.length fc.N = true) (hd : 1 ≤ d)
  (h : ∀ Q : PX → St → Prop, (∀ e st', DoneF fc bs.length r e st' → Q e st') → ZR (lev codes base (d - 1)) Q fc.body [] (st0 args bs)) : lev codes base d f args bs = some r :=
 lev_of hc hz (Nat.le_of_ble_eq_true hl) hd (h _ fun _ _ h => h).out
theorem lev_goZ {codes : Nat → Option FCode} {base : Orc} {d f m : Nat} {fc : FCode} {cs : List PD} {ar : List PV} {bs : List Blk} {r : PV × List Blk} (hc : codes f = some fc) (hz : fc.z = true) (hl : Nat.ble (ar.length + 1) fc.N = true) (hd : 1 ≤ d)
  (h1 : ∀ Q : PX → St → Prop, (∀ e st', DoneF fc bs.length r e st' → Q e st') → ZR (lev codes base (d - 1)) Q fc.body [] (st0 (.slz false m cs :: ar) bs))
  (h2 : m = 0 → ∀ Q : PX → St → Prop, (∀ e st', DoneF fc bs.length r e st' → Q e st') → ZR (lev codes base (d - 1)) Q fc.body [] (st0 (.slz true 0 [] :: ar) bs)) : lev codes base d f (.d (.sl m cs) :: ar) bs = some r :=
 lev_ofZ hc hz (Nat.le_of_ble_eq_true hl) hd (h1 _ fun _ _ h => h).out fun hm => (h2 hm _ fun _ _ h => h).out
end
end Go.Proofs.YtobkkblijfhpoaaGreatDoor.Pm
