/- The small machine: arguments of a law as typed data, and a law's call out of a typed function. No program is named here. -/
import Derived.Test.YtobkkblijfhpoaaGreatDoorPa
import Derived.Test.YtobkkblijfhpoaaGreatDoorArg
namespace Go.Proofs.YtobkkblijfhpoaaGreatDoor.Pm
open Go.Proofs.YtobkkblijfhpoaaGreatDoor.Args
open Go.ChangeShapes Go.WideShapes Go.ChangeAt Go.RowKit

abbrev NoX : Nat → Prop := fun _ => False
def RepCs (w : World) : List PD → List Value → Prop
 | [], vs => vs = []
 | x :: xs, vs => ∃ v r, vs = v :: r ∧ RepD NoX w x v ∧ RepCs w xs r
theorem RepCs.app {w : World} : ∀ {a b : List PD} {u v : List Value}, RepCs w a u → RepCs w b v → RepCs w (a ++ b) (u ++ v)
 | [], _, _, _, h, k => by have : _ = [] := h; subst this; exact k
 | _ :: _, _, _, _, ⟨v, r, e, h1, h2⟩, k => by subst e; exact ⟨v, r ++ _, rfl, h1, RepCs.app h2 k⟩
theorem RepCs.len {w : World} : ∀ {a : List PD} {u : List Value}, RepCs w a u → a.length = u.length
 | [], _, h => by have : _ = [] := h; subst this; rfl
 | _ :: _, _, ⟨v, r, e, _, h2⟩ => by subst e; simp [RepCs.len h2]
theorem RepCs.get {w : World} : ∀ {a : List PD} {u : List Value}, RepCs w a u → ∀ (i : Nat) x, a[i]? = some x → ∃ v, u[i]? = some v ∧ RepD NoX w x v
 | _ :: _, _, ⟨v, r, e, h1, h2⟩, 0, x, hx => by simp at hx; subst hx; subst e; exact ⟨v, rfl, h1⟩
 | _ :: _, _, ⟨v, r, e, h1, h2⟩, i + 1, x, hx => by
  obtain ⟨v', h3, h4⟩ := RepCs.get h2 i x (by simpa using hx)
  exact ⟨v', by subst e; simpa using h3, h4⟩
structure Opn (P : Program) (t : TypeId) {α : Type} (E : Enc α) (V : Option Nat → α → Prop) : Prop where
 op : ∀ (m : Option Nat) (w : World) (cs : List Value), Rd m P w t cs → ∃ x, V m x ∧ RepCs w (E.enc x) cs
 k : P.cellsOf t = E.k
section
variable {P : Program} {t e : TypeId} {k : IntKind} {α β : Type} {E : Enc α} {V : Option Nat → α → Prop}
theorem opn_str (ht : P.underlying t = some .string) (hc : P.cellsOf t = 1) : Opn P t eStr (fun m s => s.length ≤ maxLen ∧ FitN m s.length 1) :=
 ⟨fun m w cs h => by
  obtain ⟨s, rfl, h1, h2⟩ := h.string ht
  exact ⟨s.data.toList, ⟨by simpa using h1, by simpa using h2⟩, _, [], rfl, rfl, rfl⟩, hc⟩
theorem opn_sl (ht : P.underlying t = some (.slice e)) (hc : P.cellsOf t = 1) (O : Opn P e E V) (hk : 0 < E.k) : Opn P t (eSl E) (fun m xs => FitN m xs.length (P.bytesOf e) ∧ ∀ x ∈ xs, V m x) :=
 ⟨fun m w cs h => by
  rcases h.slice ht with rfl | ⟨a, len, cap, rfl, h2, h3, h4, h5⟩
  ·refine ⟨[], ⟨by cases m <;> simp [FitN], by simp⟩, .slice none 0 0, [], rfl, ⟨none, 0, rfl, Nat.le_refl _, by simp, fun _ => rfl, .inl rfl⟩, rfl⟩
  ·have one : ∀ i, i < cap → ∃ x, V m x ∧ ∃ cs', (List.range E.k).mapM (fun j => w.cell? ((a.add (i * E.k)).add j)) = some cs' ∧ RepCs w (E.enc x) cs' := fun i hi => by
    obtain ⟨cs', h6, h7⟩ := h5 i hi
    obtain ⟨x, h8, h9⟩ := O.op m w cs' h7
    rw [O.k] at h6
    exact ⟨x, h8, cs', h6, h9⟩
   have all : ∀ n, n ≤ cap → ∃ xs : List α, xs.length = n ∧ (∀ x ∈ xs, V m x) ∧ ∀ i x, xs[i]? = some x → ∃ cs', (List.range E.k).mapM (fun j => w.cell? ((a.add (i * E.k)).add j)) = some cs' ∧ RepCs w (E.enc x) cs' := by
    intro n
    induction n with
    | zero => exact fun _ => ⟨[], rfl, by simp, fun i x h => by simp at h⟩
    | succ n ih =>
     intro hn
     obtain ⟨xs, hl, hv, hx⟩ := ih (by omega)
     obtain ⟨y, hy, cs', h6, h7⟩ := one n (by omega)
     refine ⟨xs ++ [y], by simp [hl], fun x hx => ?_, fun i x hi => ?_⟩
     ·rcases List.mem_append.1 hx with h | h
      ·exact hv x h
      ·simp at h; subst h; exact hy
     ·by_cases hin : i < xs.length
      ·rw [List.getElem?_append_left hin] at hi; exact hx i x hi
      ·have : i = xs.length := by
        have := (List.getElem?_eq_some_iff.1 hi).1
        simp at this; omega
       subst this
       simp at hi; subst hi
       rw [hl]; exact ⟨cs', h6, h7⟩
   obtain ⟨xs, hl, hv, hx⟩ := all len h2
   refine ⟨xs, ⟨?_, hv⟩, .slice (some a) len cap, [], rfl, ?_, rfl⟩
   ·cases m with
    | none => exact Nat.le_trans (Nat.mul_le_mul_right _ (by omega)) h4
    | some K => exact Nat.le_trans (by omega) h4
   ·show RepD NoX w (.sl xs.length (E.cells xs)) _
    subst hl
    refine ⟨some a, cap, rfl, h2, h3, (fun h => by cases h), ?_⟩
    cases xs with
    | nil => exact .inl rfl
    | cons x0 xs' =>
     have cell : ∀ i x, (x0 :: xs')[i]? = some x → ∀ j y, (E.enc x)[j]? = some y → ∃ v, w.cell? ((a.add (i * E.k)).add j) = some v ∧ RepD NoX w y v := by
      intro i x hi j y hj
      obtain ⟨cs', h6, h7⟩ := hx i x hi
      obtain ⟨v, hv1, hv2⟩ := h7.get j y hj
      refine ⟨v, ?_, hv2⟩
      have hjk : j < E.k := by rw [← E.len x]; exact (List.getElem?_eq_some_iff.1 hj).1
      have hm : ∀ (l : List Nat) (cs' : List Value), l.mapM (fun j => w.cell? ((a.add (i * E.k)).add j)) = some cs' → ∀ (q j0 : Nat), l[q]? = some j0 → w.cell? ((a.add (i * E.k)).add j0) = cs'[q]? := by
       intro l
       induction l with
       | nil => intro cs' _ q j0 h; simp at h
       | cons b l ih =>
        intro cs' h q j0 hq
        simp only [List.mapM_cons, Option.bind_eq_bind, Option.bind_eq_some_iff] at h
        obtain ⟨v0, h8, r0, h9, h10⟩ := h
        simp at h10; subst h10
        cases q with
        | zero => simp at hq; subst hq; simpa using h8
        | succ q => have := ih r0 h9 q j0 (by simpa using hq); simpa using this
      rw [hm _ _ h6 j j (by simp [hjk]), hv1]
     obtain ⟨ab, ao, asp⟩ := a
     have hlen0 : 0 < (E.enc x0).length := by rw [E.len]; exact hk
     obtain ⟨v0, hc0, _⟩ := cell 0 x0 rfl 0 (E.enc x0)[0] (by simp [hlen0])
     have hspot : asp = none := by simpa [Addr.add] using World.cell?_spot hc0
     subst hspot
     have hsz : ab < w.heap.size := by
      have h0 : w.cell? ⟨ab, ao + 0 * E.k + 0, none⟩ = some v0 := by rw [← hc0, add_off, add_off]
      cases hb : w.heap[ab]? with
      | none => simp [World.cell?, hb] at h0
      | some _ => exact (Array.getElem?_eq_some_iff.1 hb).1
     refine .inr ⟨ab, ao, rfl, fun h => h, hsz, RepC.of fun q y hq => ?_⟩
     have hk0 := hk
     have hq' : q < (x0 :: xs').length * E.k := by rw [← E.cells_len]; exact (List.getElem?_eq_some_iff.1 hq).1
     have hi : q / E.k < (x0 :: xs').length := Nat.div_lt_of_lt_mul (by rw [Nat.mul_comm]; exact hq')
     have hg : (x0 :: xs')[q / E.k]? = some (x0 :: xs')[q / E.k] := by simp [hi]
     have hce := E.cells_get hg
     have hml : (E.cells ((x0 :: xs').take (q / E.k))).length = q / E.k * E.k := by rw [E.cells_len, List.length_take, Nat.min_eq_left (by omega)]
     have hqd : q = q / E.k * E.k + q % E.k := by have := Nat.div_add_mod q E.k; rw [Nat.mul_comm] at this; omega
     have hmod := Nat.mod_lt q hk0
     have hy : (E.enc (x0 :: xs')[q / E.k])[q % E.k]? = some y := by
      rw [hce, List.getElem?_append_right (by omega), List.getElem?_append_left (by rw [E.len]; omega)] at hq
      rw [← hq]; congr 1; omega
     obtain ⟨v, hv1, hv2⟩ := cell _ _ hg _ _ hy
     refine ⟨v, ?_, hv2⟩
     rw [← hv1]
     rw [add_off, add_off, Nat.add_assoc, ← hqd], hc⟩
theorem Opn.field (O : Opn P e E V) {m : Option Nat} {w : World} {fs : Array Field} {cs : List Value} (h : ∀ (i : Nat) (f : Field), fs[i]? = some f → Rd m P w f.type ((cs.drop f.offset).take (P.cellsOf f.type))) (i : Nat) (f : Field) (hf : fs[i]? = some f) (he : f.type = e) : ∃ x, V m x ∧ RepCs w (E.enc x) ((cs.drop f.offset).take E.k) := by
 have := h i f hf
 rw [he, O.k] at this
 exact O.op m w _ this
end
theorem law_calls {P : Program} {br : List Nat} {codes : Nat → Option FCode} {base : Orc} {w : World} (hb : Snd P base w fun _ => .nil none) (hc : ∀ f fc, codes f = some fc → OkF P br f fc) {n f : Nat} {args : List PV} {vs : List Value} (h : lev codes base n f args [] = some (.d (.bool true), [])) (hargs : RepL NoX w (fun _ _ => False) args vs) :
  Calls P f vs.toArray w fun e w' => e = .returned (.bool true) ∧ Below w.heap.size w w' := by
 refine (lev_calls hb hc h hargs).mono ?_
 rintro e w' ⟨v, φ1, β, rfl, hbl, ho⟩
 have := ho.rep
 have hv : v = .bool true := this
 subst hv
 exact ⟨rfl, hbl⟩
theorem loopO_ind {σ ρ : Type} {body : σ → Option (σ ⊕ ρ)} (I : Nat → σ → Prop) (Post : ρ → Prop) (hb : ∀ n x, I n x → (∃ y m, body x = some (.inl y) ∧ m < n ∧ I m y) ∨ ∃ r, body x = some (.inr r) ∧ Post r) {n : Nat} {x : σ} (h : I n x) : ∃ r, loopO body x = some r ∧ Post r := by
 induction n using Nat.strongRecOn generalizing x with
 | ind n ih =>
  rcases hb n x h with ⟨y, m, h1, h2, h3⟩ | ⟨r, h1, h2⟩
  ·obtain ⟨r, h4, h5⟩ := ih m h2 h3
   exact ⟨r, loopO_next h1 h4, h5⟩
  ·exact ⟨r, loopO_done h1, h2⟩
theorem seL {α β γ : Type} (f : α → γ) (g : β → γ) (a : α) : Sum.elim f g (Sum.inl a) = f a := by
 have h : ∀ s : α ⊕ β, s = .inl a → Sum.elim f g s = f a := fun s hs => by cases hs; simp
 exact h _ (by simp)
theorem seR {α β γ : Type} (f : α → γ) (g : β → γ) (b : β) : Sum.elim f g (Sum.inr b) = g b := by
 have h : ∀ s : α ⊕ β, s = .inr b → Sum.elim f g s = g b := fun s hs => by cases hs; simp
 exact h _ (by simp)
end Go.Proofs.YtobkkblijfhpoaaGreatDoor.Pm
