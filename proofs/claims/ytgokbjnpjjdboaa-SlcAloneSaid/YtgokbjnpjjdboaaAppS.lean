/- 'append(out, src...)' to a slice of the call's own. No program is named here. -/
import Derived.Test.YtgokbjnpjjdboaaCom
import Derived.Laws.AppendOwnNone
namespace Go.Proofs.Ytgokbjnpjjdboaa.Com
open Go.ChangeShapes Go.WideShapes Go.ChangeAt Go.RowKit

theorem wpList_app_src {P : Program} {ops : Array Oper} {rest : List Oper} {o : Oper} {a : Act} {Q : Exit → Act → World → Prop} {w : World} (hgd : o.guard = none) (s x : Operand) (t e : TypeId)
    (ho : o.op = .call { callee := .builtin .append, args := #[s, x], argTypes := #[t, t] }) (B : Nat) (i : TypeInfo) (z : Value) (bytes : Nat)
    (ht : P.underlying t = some (.slice e)) (hi : P.info? e = some i) (hz : i.zero = some z) (hsize : i.size = 1) (hby : i.bytes = bytes) (hzs : z.cells.size = 1)
    (v : Value) (xs : List Value) (hs : a.eval s = v) (hown : Own w B e v xs) (sv : Value) (ys : List Value) (hx : a.eval x = sv) (hsrc : Rs w sv ys) (hnil : ∀ c, sv = .slice none 0 c → c = 0)
    (h1 : ∀ u ∈ ys, u.oneCell' = true) (hb1 : 1 ≤ bytes) (hbytes : (xs.length + ys.length) * bytes ≤ 140737488355328) (hB : B ≤ w.heap.size)
    (h : ∀ v' w', Own w' B e v' (xs ++ ys) → Below B w w' → wpList P ops Q rest (a.put o.dst v') w') : wpList P ops Q (o :: rest) a w := by
  have hle : xs.length + ys.length ≤ 140737488355328 := Nat.le_trans (by have := Nat.mul_le_mul_left (xs.length + ys.length) hb1; simpa using this) hbytes
  have own := fun (ad : Addr) (c : Nat) (news : List Value) (hn : ys = news) (hx : a.eval x = .slice (some ad) news.length c) (hc : ∀ j u, news[j]? = some u → w.cell? (ad.add j) = some u) =>
    wpList_append_own w hgd s x t ho B e i z 1 bytes ht hi hz hsize hby hzs (by decide) v xs.length xs hs hown ad news.length c news hx (by simp) hc (by rw [← hn]; exact h1) (by rw [← hn]; unfold maxLen; omega) (by rw [← hn]; exact hbytes) hB
      (h := fun v' w' hown' hg _ => h v' w' (by unfold Own; rw [List.length_append, hn]; exact hown') (Below.grown (Below.refl _ _) hg hB (fun k hk => ((World.ownsRow.lt (h := hown)) k hk).1)))
  rcases hsrc with ⟨rfl, ad, c, rfl⟩ | ⟨b, off, c, rfl, _, _, hc⟩
  · cases ad with
    | none =>
      obtain rfl := hnil c rfl
      refine wpList_append_own_none hgd s x t ho B e i 1 ht hi v xs.length xs hs hown hx (h v w ?_ (Below.refl _ _))
      rw [List.append_nil]; exact hown
    | some ad => exact own ad c [] rfl hx (fun j u hj => by simp at hj)
  · exact own ⟨b, off, none⟩ c ys rfl hx (fun j u hj => by
      have hp : (⟨b, off, none⟩ : Addr).add j = ⟨b, off + j, none⟩ := by unfold Addr.add; split <;> simp_all
      rw [hp]; exact hc j u hj)

/-- The same as one step of a statement whose order is open. -/
theorem step_app_src {P : Program} {ops : Array Oper} {o : Oper} {a : Act} {K : Act → World → Prop} {Q : Exit → Act → World → Prop} {E : Prop} {w : World} (hgd : o.guard = none) (s x : Operand) (t e : TypeId)
    (ho : o.op = .call { callee := .builtin .append, args := #[s, x], argTypes := #[t, t] }) (B : Nat) (i : TypeInfo) (z : Value) (bytes : Nat)
    (ht : P.underlying t = some (.slice e)) (hi : P.info? e = some i) (hz : i.zero = some z) (hsize : i.size = 1) (hby : i.bytes = bytes) (hzs : z.cells.size = 1)
    (v : Value) (xs : List Value) (hs : a.eval s = v) (hown : Own w B e v xs) (sv : Value) (ys : List Value) (hx : a.eval x = sv) (hsrc : Rs w sv ys) (hnil : ∀ c, sv = .slice none 0 c → c = 0)
    (h1 : ∀ u ∈ ys, u.oneCell' = true) (hb1 : 1 ≤ bytes) (hbytes : (xs.length + ys.length) * bytes ≤ 140737488355328) (hB : B ≤ w.heap.size)
    (h : ∀ v' w', Own w' B e v' (xs ++ ys) → Below B w w' → K (a.put o.dst v') w') : if Region.wanted o (yielded ops a.tmps) = true then Oper.wp P o a w K Q else E := by
  have hw : Region.wanted o (yielded ops a.tmps) = true := by simp [Region.wanted, hgd]
  rw [if_pos hw]
  have hle : xs.length + ys.length ≤ 140737488355328 := Nat.le_trans (by have := Nat.mul_le_mul_left (xs.length + ys.length) hb1; simpa using this) hbytes
  have own := fun (ad : Addr) (c : Nat) (news : List Value) (hn : ys = news) (hx : a.eval x = .slice (some ad) news.length c) (hc : ∀ j u, news[j]? = some u → w.cell? (ad.add j) = some u) =>
    wp_append_own (K := K) (Q := Q) w s x t ho B e i z 1 bytes ht hi hz hsize hby hzs (by decide) v xs.length xs hs hown ad news.length c news hx (by simp) hc (by rw [← hn]; exact h1) (by rw [← hn]; unfold maxLen; omega) (by rw [← hn]; exact hbytes) hB
      (h := fun v' w' hown' hg _ => h v' w' (by unfold Own; rw [List.length_append, hn]; exact hown') (Below.grown (Below.refl _ _) hg hB (fun k hk => ((World.ownsRow.lt (h := hown)) k hk).1)))
  rcases hsrc with ⟨rfl, ad, c, rfl⟩ | ⟨b, off, c, rfl, _, _, hc⟩
  · cases ad with
    | none =>
      obtain rfl := hnil c rfl
      have hrun := run_append_owned_none (P := P) (w := w) B t o.type e i 1 ht hi v xs.length xs hown
      unfold Oper.wp
      simp [execOp, ho, resolve, invoke, builtin, hs, hx, hrun, Result.andThen]
      exact h v w (by rw [List.append_nil]; exact hown) (Below.refl _ _)
    | some ad => exact own ad c [] rfl hx (fun j u hj => by simp at hj)
  · exact own ⟨b, off, none⟩ c ys rfl hx (fun j u hj => by
      have hp : (⟨b, off, none⟩ : Addr).add j = ⟨b, off + j, none⟩ := by unfold Addr.add; split <;> simp_all
      rw [hp]; exact hc j u hj)
end Go.Proofs.Ytgokbjnpjjdboaa.Com
