/- The small machine: a call that is handed blocks. No program is named here. -/
import Derived.Test.YtobkkblijfhpoaaGreatDoorPu
namespace Go.Proofs.YtobkkblijfhpoaaGreatDoor.Pm
open Go.RowKit

section
theorem nodup_dedup : ∀ (l : List Nat), (dedup l).Nodup
 | [] => List.nodup_nil
 | y :: l => by
  unfold dedup
  split
  ·exact nodup_dedup l
  ·rename_i h
   refine List.nodup_cons.2 ⟨fun hy => h (List.any_eq_true.2 ⟨y, hy, by simp⟩), nodup_dedup l⟩
theorem pos_get : ∀ {ids : List Nat} {i p : Nat}, posOf ids i = some p → ids[p]? = some i
 | [], i, p, h => by cases h
 | x :: xs, i, p, h => by
  unfold posOf at h
  split at h
  ·rename_i e; subst e; cases h; rfl
  ·split at h
   ·rename_i q hq; cases h; simpa using pos_get hq
   ·cases h
theorem get_pos : ∀ {ids : List Nat}, ids.Nodup → ∀ {i p : Nat}, ids[p]? = some i → posOf ids i = some p
 | [], _, i, p, h => by simp at h
 | x :: xs, hn, i, p, h => by
  obtain ⟨hx, hn⟩ := List.nodup_cons.1 hn
  unfold posOf
  cases p with
  | zero => simp at h; subst h; simp
  | succ p =>
   have h : xs[p]? = some i := by simpa using h
   have hne : x ≠ i := fun e => hx (e ▸ List.mem_of_getElem? h)
   rw [if_neg hne, get_pos hn h]
theorem blks_get {H : Nat → Cel} : ∀ {ids : List Nat} {bs : List Blk}, blksOf H ids = some bs → bs.length = ids.length ∧ ∀ (p i : Nat), ids[p]? = some i → ∃ b, bs[p]? = some b ∧ (H i).b = some b
 | [], bs, h => by simp only [blksOf, Option.some.injEq] at h; subst h; exact ⟨rfl, fun p i hp => by simp at hp⟩
 | i :: ids, bs, h => by
  simp only [blksOf] at h
  split at h
  ·rename_i b l h1 h2
   simp only [Option.some.injEq] at h; subst h
   obtain ⟨h3, h4⟩ := blks_get h2
   refine ⟨by simp [h3], fun p j hp => ?_⟩
   cases p with
   | zero => simp at hp; subst hp; exact ⟨b, rfl, h1⟩
   | succ p => simpa using h4 p j (by simpa using hp)
  ·cases h
theorem setH_app : ∀ (a b : Ups) (H : Nat → Cel), setH H (a ++ b) = setH (setH H a) b
 | [], _, _ => rfl
 | x :: a, b, H => by simp only [List.cons_append, setH]; exact setH_app a b _
theorem upsP_ids {fx : Bool} {H : Nat → Cel} {all : List Nat} {d : Nat} : ∀ (is : List Nat) (bs : List Blk) (x : Nat × Cel), x ∈ upsP fx H all d is bs → x.1 ∈ is
 | [], _, x, h => by simp [upsP] at h
 | i :: is, [], x, h => by simp [upsP] at h
 | i :: is, b :: bs, x, h => by
  simp only [upsP, List.mem_cons] at h
  rcases h with rfl | h
  ·exact List.mem_cons_self
  ·exact List.mem_cons_of_mem _ (upsP_ids is bs x h)
theorem setH_upsP {fx : Bool} {H0' H : Nat → Cel} {all : List Nat} {d : Nat} : ∀ (is : List Nat) (bs : List Blk) (H0' : Nat → Cel), is.Nodup → is.length ≤ bs.length → ∀ (p i : Nat) (b : Blk), is[p]? = some i → bs[p]? = some b → setH H0' (upsP fx H all d is bs) i = ⟨newg fx H i, some (bkB fx all H d b)⟩
 | [], _, _, _, _, p, i, b, h, _ => by simp at h
 | i :: is, [], _, _, hl, _, _, _, _, _ => by simp at hl
 | i :: is, b :: bs, H0', hn, hl, p, j, c, h1, h2 => by
  obtain ⟨hx, hn⟩ := List.nodup_cons.1 hn
  simp only [upsP, setH]
  cases p with
  | zero =>
   simp at h1 h2; subst h1; subst h2
   rw [setH_one _ _ _ (fun y hy e => hx (by have := upsP_ids is bs y hy; rwa [e] at this)), up_same]
  | succ p => exact setH_upsP (H0' := H0') is bs _ hn (by simpa using hl) p j c (by simpa using h1) (by simpa using h2)

variable {P : Program} {E : Nat → Prop} {m : List Blk} {φ0 φ : Nat → Phys} {H : Nat → Cel} {w0 w : World} {γ : Orc} {d : Nat} {fx : Bool}
def φat (φ : Nat → Phys) (ids : List Nat) (p : Nat) : Phys := match ids[p]? with | some i => φ i | none => .nil none
mutual
theorem trV_rep {X : Nat → Prop} {ids : List Nat} {bs : List Blk} (hb : blksOf H ids = some bs) : ∀ (p : PV) (v : Value), RepV X w (RefAt φ H) p v → RepV X w (RefAt (φat φ ids) (H0 (bs.map (trB ids H)))) (trV ids H p) v
 | .d x, v, q => q
 | .agg cs, v, ⟨vs, e, q⟩ => ⟨vs, e, trL_rep hb cs _ q⟩
 | .tup cs, v, ⟨vs, e, q⟩ => ⟨vs, e, trL_rep hb cs _ q⟩
 | .fn f cs, v, ⟨vs, e, q⟩ => ⟨vs, e, trL_rep hb cs _ q⟩
 | .rptr cs, v, q => q
 | .nil, v, q => q
 | .slz z n cs, v, q => q
 | .un, v, q => trivial
 | .r (.own ..), v, q => trivial
 | .r (.ptr i g o), v, q => by
  simp only [trV]
  split
  ·rename_i b p hl hp
   unfold look at hl
   split at hl
   ·rename_i hg
    obtain ⟨q1, _, q3⟩ := q
    obtain ⟨b1, c1, h1, h2⟩ := q3 hg (by rw [hl]; rfl)
    refine ⟨q1, Nat.le_refl _, fun _ _ => ⟨b1, c1, ?_, h2⟩⟩
    unfold φat
    rw [pos_get hp]; exact h1
   ·cases hl
  ·trivial
 | .r (.msl i g l n), v, q => by
  simp only [trV]
  split
  ·rename_i b p hl hp
   unfold look at hl
   split at hl
   ·rename_i hg
    obtain ⟨q1, _, q3⟩ := q
    refine ⟨q1, Nat.le_refl _, fun _ e k cs hbp => ?_⟩
    obtain ⟨b2, h2, h3⟩ := (blks_get hb).2 p i (pos_get hp)
    have hown : (H i).b = some (.own e k cs) := by
     simp only [H0, List.getElem?_map, h2, Option.map_some, Option.some.injEq] at hbp
     rw [h3]
     cases b2 with
     | box => simp [trB] at hbp
     | own => simp only [trB] at hbp; rw [hbp]
    have := q3 hg e k cs hown
    unfold φat
    rw [pos_get hp]; exact this
   ·cases hl
  ·trivial
theorem trL_rep {X : Nat → Prop} {ids : List Nat} {bs : List Blk} (hb : blksOf H ids = some bs) : ∀ (ps : List PV) (vs : List Value), RepL X w (RefAt φ H) ps vs → RepL X w (RefAt (φat φ ids) (H0 (bs.map (trB ids H)))) (trL ids H ps) vs
 | [], vs, q => q
 | p :: ps, vs, ⟨v, r, e, q1, q2⟩ => ⟨v, r, e, trV_rep hb p v q1, trL_rep hb ps r q2⟩
end
theorem RepL.d_any {X : Nat → Prop} {R R' : Ref → Value → Prop} {w : World} {cs : List PD} {vs : List Value} (h : RepL X w R (cs.map .d) vs) : RepL X w R' (cs.map .d) vs := RepL.sub_d (fun _ _ h => h) h
mutual
theorem bkV_rep {Y X' : Nat → Prop} {w' : World} {φ1 β φ' : Nat → Phys} {bs' : List Blk} {ids : List Nat} {H' : Nat → Cel} (hXY : ∀ b, b < w'.heap.size → ¬ Y b → ¬ X' b) (hlen : ids.length ≤ bs'.length)
  (hat : ∀ (p i : Nat) (b : Blk), ids[p]? = some i → bs'[p]? = some b → H' i = ⟨newg fx H i, some (bkB fx ids H d b)⟩ ∧ φ' i = φ1 p)
  (h2 : ∀ j e k n cs v, RefOut φ1 bs' β (.own j e k n cs) v → H' (bid d j) = ⟨(H (bid d j)).g + 1, some (.own e k cs)⟩ → φ' (bid d j) = β j → RefAt φ' H' (.msl (bid d j) ((H (bid d j)).g + 1) 0 n) v) :
  ∀ (p : PV) (v : Value), (∀ x ∈ owns p, H' (bid d x.1) = ⟨(H (bid d x.1)).g + 1, some x.2⟩ ∧ φ' (bid d x.1) = β x.1) → RepV Y w' (RefOut φ1 bs' β) p v → RepV X' w' (RefAt φ' H') (bkV fx ids H d p) v
 | .d x, v, _, q => RepD.sub hXY q
 | .agg cs, v, ho, ⟨vs, e, q⟩ => ⟨vs, e, bkL_rep hXY hlen hat h2 cs _ ho q⟩
 | .tup cs, v, ho, ⟨vs, e, q⟩ => ⟨vs, e, bkL_rep hXY hlen hat h2 cs _ ho q⟩
 | .fn f cs, v, ho, ⟨vs, e, q⟩ => ⟨vs, e, bkL_rep hXY hlen hat h2 cs _ ho q⟩
 | .rptr cs, v, _, ⟨b, o, e, h3, h4, h5⟩ => ⟨b, o, e, hXY b h4 h3, h4, h5.sub hXY h3 h4⟩
 | .nil, v, _, q => q
 | .slz z n cs, v, _, q => ⟨RepD.sub hXY q.1, q.2⟩
 | .un, v, _, q => trivial
 | .r (.ptr p g o), v, _, q => by
  simp only [bkV]
  split
  ·rename_i i hi
   obtain ⟨b, hb⟩ : ∃ b, bs'[p]? = some b := by
    have := (List.getElem?_eq_some_iff.1 hi).1
    exact ⟨_, List.getElem?_eq_getElem (by omega)⟩
   obtain ⟨a1, a2⟩ := hat p i b hi hb
   have q : RefAt φ1 (H0 bs') (.ptr p g o) v := q
   obtain ⟨q1, q2, q3⟩ := q
   have hg0 : g = 0 := Nat.le_zero.1 q2
   obtain ⟨b1, c1, h1, h2'⟩ := q3 (by rw [hg0]; rfl) (by simp only [H0, hb]; rfl)
   refine ⟨q1, by rw [a1]; exact Nat.le_refl _, fun _ _ => ⟨b1, c1, by rw [a2]; exact h1, h2'⟩⟩
  ·trivial
 | .r (.msl p g l n), v, _, q => by
  simp only [bkV]
  split
  ·rename_i i hi
   obtain ⟨b, hb⟩ : ∃ b, bs'[p]? = some b := by
    have := (List.getElem?_eq_some_iff.1 hi).1
    exact ⟨_, List.getElem?_eq_getElem (by omega)⟩
   obtain ⟨a1, a2⟩ := hat p i b hi hb
   have q : RefAt φ1 (H0 bs') (.msl p g l n) v := q
   obtain ⟨q1, q2, q3⟩ := q
   have hg0 : g = 0 := Nat.le_zero.1 q2
   refine ⟨q1, by rw [a1]; exact Nat.le_refl _, fun _ e k cs hbk => ?_⟩
   rw [a1] at hbk
   have hbe : b = .own e k cs := by
    simp only [Option.some.injEq] at hbk
    cases b with
    | box => simp [bkB] at hbk
    | own => simp only [bkB] at hbk; exact hbk
   subst hbe
   have := q3 (by rw [hg0]; rfl) e k cs (by simp only [H0, hb])
   rw [a2]; exact this
  ·trivial
 | .r (.own j e k n cs), v, ho, q => by
  obtain ⟨h3, h4⟩ := ho (j, .own e k cs) (by simp [owns])
  exact h2 j e k n cs v q h3 h4
theorem bkL_rep {Y X' : Nat → Prop} {w' : World} {φ1 β φ' : Nat → Phys} {bs' : List Blk} {ids : List Nat} {H' : Nat → Cel} (hXY : ∀ b, b < w'.heap.size → ¬ Y b → ¬ X' b) (hlen : ids.length ≤ bs'.length)
  (hat : ∀ (p i : Nat) (b : Blk), ids[p]? = some i → bs'[p]? = some b → H' i = ⟨newg fx H i, some (bkB fx ids H d b)⟩ ∧ φ' i = φ1 p)
  (h2 : ∀ j e k n cs v, RefOut φ1 bs' β (.own j e k n cs) v → H' (bid d j) = ⟨(H (bid d j)).g + 1, some (.own e k cs)⟩ → φ' (bid d j) = β j → RefAt φ' H' (.msl (bid d j) ((H (bid d j)).g + 1) 0 n) v) :
  ∀ (ps : List PV) (vs : List Value), (∀ x ∈ ownsL ps, H' (bid d x.1) = ⟨(H (bid d x.1)).g + 1, some x.2⟩ ∧ φ' (bid d x.1) = β x.1) → RepL Y w' (RefOut φ1 bs' β) ps vs → RepL X' w' (RefAt φ' H') (bkL fx ids H d ps) vs
 | [], vs, _, q => q
 | p :: ps, vs, ho, ⟨v, r, e, q1, q2⟩ => ⟨v, r, e, bkV_rep hXY hlen hat h2 p v (fun x hx => ho x (by simp [ownsL, hx])) q1, bkL_rep hXY hlen hat h2 ps r (fun x hx => ho x (by simp [ownsL, hx])) q2⟩
end
theorem sameL_at : ∀ {ids : List Nat} {bs' : List Blk} {q i : Nat} {e k e' k' : Nat} {cs cs' : List PD}, sameL H ids bs' = true → ids[q]? = some i → bs'[q]? = some (.own e' k' cs') → (H i).b = some (.own e k cs) → cs'.length = cs.length
 | [], _, q, _, _, _, _, _, _, _, _, h, _, _ => by simp at h
 | _ :: _, [], q, _, _, _, _, _, _, _, _, _, h, _ => by simp at h
 | x :: is, b :: bs, 0, i, _, _, _, _, cs, cs', hs, h1, h2, h3 => by
  simp at h1 h2; subst h1; subst h2
  simp only [sameL, h3, Bool.and_eq_true] at hs
  exact of_decide_eq_true hs.1
 | x :: is, b :: bs, q + 1, i, _, _, _, _, cs, cs', hs, h1, h2, h3 => by
  simp only [sameL, Bool.and_eq_true] at hs
  exact sameL_at hs.2 (by simpa using h1) (by simpa using h2) h3
theorem does_callR (hm : Mem E m φ0 w0 φ H w) (hγ : Snd P γ w0 φ0) {f : Nat} {args : List PV} {vs : List Value} {p : PV} {ups : Ups} (hargs : RepL (Xof E φ) w (RefAt φ H) args vs) (he : doCallR γ H d f args = some (p, ups)) {x : Sem Next}
  (hx : x.run P w = (callFunc f vs.toArray).run P w) : Does P E m φ0 w0 φ H w p ups x := by
 unfold doCallR at he
 have hnd : (idsOf H args).Nodup := nodup_dedup _
 generalize idsOf H args = ids at he hnd
 split at he
 ·cases he
 ·rename_i bs hbs
  split at he
  ·cases he
  ·rename_i r bs' hr
   split at he
   ·rename_i hcond
    simp only [Option.some.injEq, Prod.mk.injEq] at he
    obtain ⟨rfl, rfl⟩ := he
    simp only [Bool.and_eq_true, List.all_eq_true, decide_eq_true_eq, Bool.not_eq_true'] at hcond
    obtain ⟨⟨⟨hok, hl8⟩, hdist⟩, hj⟩ := hcond
    obtain ⟨hbl, hbg⟩ := blks_get hbs
    have hlen : ids.length ≤ bs'.length := by
     unfold okL at hok
     split at hok
     ·rename_i h; have := Nat.eq_of_beq_eq_true h; omega
     ·have := of_decide_eq_true hok; omega
    have hsame : fxOf ids bs' = true → sameL H ids bs' = true := fun h => by unfold okL at hok; rwa [if_pos h] at hok
    have hfl : fxOf ids bs' = true → bs'.length = (bs.map (trB ids H)).length + 1 := fun h => by have := Nat.eq_of_beq_eq_true h; rw [List.length_map]; omega
    generalize fxOf ids bs' = fx at hsame hfl ⊢
    obtain ⟨hcan, hcall⟩ := hγ f _ _ r bs' hr
    have hE : ∀ b, Xof E φ b → b < w.heap.size := by
     intro b hb
     rcases hb with h | ⟨i, c, h⟩
     ·exact Nat.lt_of_lt_of_le (hm.ext b h) hm.sz
     ·exact (hm.lt i b c h).1
    have φat_ids : ∀ q b c, φat φ ids q = .blk b c → ∃ i, ids[q]? = some i ∧ φ i = .blk b c := by
     intro q b c h
     unfold φat at h
     split at h
     ·rename_i i hi; exact ⟨i, hi, h⟩
     ·cases h
    have hpas : Passed (Xof E φ) w (φat φ ids) (bs.map (trB ids H)) := by
     refine ⟨by simp; omega, fun q b c h => ?_, fun i j b c c' h1 h2 => ?_, fun q b h => ?_⟩
     ·obtain ⟨i, hi, h⟩ := φat_ids q b c h
      have := (List.getElem?_eq_some_iff.1 hi).1
      exact ⟨by simp; omega, .inr ⟨i, c, h⟩⟩
     ·obtain ⟨a, ha, h1⟩ := φat_ids i b c h1
      obtain ⟨a2, ha2, h2⟩ := φat_ids j b c' h2
      have := hm.inj a a2 b c c' h1 h2
      subst this
      exact (List.getElem?_inj (List.getElem?_eq_some_iff.1 ha).1 hnd).1 (ha.trans ha2.symm)
     ·simp only [List.getElem?_map, Option.map_eq_some_iff] at h
      obtain ⟨b0, hb0, rfl⟩ := h
      have hql : q < ids.length := by have := (List.getElem?_eq_some_iff.1 hb0).1; omega
      have hi : ids[q]? = some ids[q] := List.getElem?_eq_getElem hql
      obtain ⟨b1, hb1, hHb⟩ := hbg q _ hi
      rw [hb0] at hb1; cases hb1
      have hrep := hm.rep _ _ hHb
      have hφ : φat φ ids q = φ ids[q] := by unfold φat; rw [hi]
      rw [hφ]
      cases hφi : φ ids[q] with
      | nil a => rw [hφi] at hrep; cases b0 <;> exact hrep
      | blk b c =>
       rw [hφi] at hrep
       cases b0 with
       | box cs =>
        obtain ⟨vs', T, h1, h2⟩ := hrep
        exact ⟨vs', T, h1, trL_rep hbs cs _ h2⟩
       | own e k cs =>
        obtain ⟨q0, cur, xs, r1, r2, r3, r4, r5, r6, r7⟩ := hrep
        exact ⟨q0, cur, xs, r1, r2, r3, r4, r5, r6, r7.d_any⟩
    have hc := hcall (Xof E φ) w (φat φ ids) vs (hm.later.sub fun q b c h => by obtain ⟨i, _, h⟩ := φat_ids q b c h; exact ⟨i, c, h⟩) hE hpas (trL_rep hbs args vs hargs)
    refine .inr (.inr ⟨f, vs.toArray, by rw [hx]; exact hcan _ _, hc.mono ?_⟩)
    rintro e w' ⟨v, φ1, β, rfl, hb, ho⟩
    refine ⟨v, rfl, ?_⟩
    have hbinj : ∀ a b, bid d a = bid d b → a = b := fun a b h => by unfold bid at h; omega
    let os := ownsAll r bs'
    let I : Nat → Prop := fun i => i ∈ ids ∨ ∃ y ∈ os, i = bid d y.1
    have hdis : ∀ y ∈ os, bid d y.1 ∉ ids := fun y hy hmem => by
     have := (hj y hy).2
     rw [List.any_eq_true.2 ⟨_, hmem, by simp⟩] at this
     cases this
    let H' := setH H (upsP fx H ids d ids bs' ++ os.map fun x => nw H (bid d x.1) x.2)
    have hH' : H' = setH (setH H (upsP fx H ids d ids bs')) (os.map fun x => nw H (bid d x.1) x.2) := setH_app _ _ _
    have hH : ∀ y ∈ os, H' (bid d y.1) = ⟨(H (bid d y.1)).g + 1, some y.2⟩ := fun y hy => by
     rw [hH']
     exact setH_at os (bid d) (fun y => ⟨(H (bid d y.1)).g + 1, some y.2⟩) _ y (fun _ _ _ _ h => hbinj _ _ h) hdist hy
    have hHno : ∀ i, (¬ ∃ y ∈ os, i = bid d y.1) → H' i = setH H (upsP fx H ids d ids bs') i := fun i hi => by
     rw [hH']
     exact setH_one _ _ _ (fun y hy e => by
      obtain ⟨z, hz, rfl⟩ := List.mem_map.1 hy
      exact hi ⟨z, hz, e.symm⟩)
    have hHid : ∀ (q i : Nat) (b : Blk), ids[q]? = some i → bs'[q]? = some b → H' i = ⟨newg fx H i, some (bkB fx ids H d b)⟩ := fun q i b hi hb' => by
     rw [hHno i (fun ⟨y, hy, e⟩ => hdis y hy (e ▸ List.mem_of_getElem? hi))]
     exact setH_upsP (H0' := H) ids bs' H hnd hlen q i b hi hb'
    have hHel : ∀ i, ¬ I i → H' i = H i := fun i hi => by
     rw [hHno i (fun h => hi (.inr h))]
     exact setH_one _ _ _ (fun y hy e => hi (.inl (e ▸ upsP_ids ids bs' y hy)))
    let φ' : Nat → Phys := fun i => if os.any (fun y => Nat.beq i (bid d y.1)) then β (i - 8 * d - 8) else match posOf ids i with | some q => φ1 q | none => φ i
    have hφ1 : ∀ y ∈ os, φ' (bid d y.1) = β y.1 := fun y hy => by
     show (if _ then _ else _) = _
     rw [if_pos (List.any_eq_true.2 ⟨y, hy, by simp⟩), bid_sub]
    have hnoany : ∀ i, (¬ ∃ y ∈ os, i = bid d y.1) → ¬ (os.any (fun y => Nat.beq i (bid d y.1)) = true) := fun i hi h => by
     obtain ⟨y, hy, e⟩ := List.any_eq_true.1 h
     exact hi ⟨y, hy, by simpa using e⟩
    have hφid : ∀ q i, ids[q]? = some i → φ' i = φ1 q := fun q i hi => by
     show (if _ then _ else _) = _
     rw [if_neg (hnoany i (fun ⟨y, hy, e⟩ => hdis y hy (e ▸ List.mem_of_getElem? hi))), get_pos hnd hi]
    have hφel : ∀ i, ¬ I i → φ' i = φ i := fun i hi => by
     show (if _ then _ else _) = _
     rw [if_neg (hnoany i (fun h => hi (.inr h)))]
     cases hp : posOf ids i with
     | none => rfl
     | some q => exact absurd (.inl (List.mem_of_getElem? (pos_get hp))) hi
    have hidx : ∀ i, i ∈ ids → ∃ q b b0, ids[q]? = some i ∧ bs'[q]? = some b ∧ (bs.map (trB ids H))[q]? = some (trB ids H b0) ∧ (H i).b = some b0 := fun i hi => by
     obtain ⟨q, hq, rfl⟩ := List.getElem_of_mem hi
     obtain ⟨b0, h1, h2⟩ := hbg q _ (List.getElem?_eq_getElem hq)
     exact ⟨q, bs'[q]'(by omega), b0, List.getElem?_eq_getElem hq, List.getElem?_eq_getElem (by omega), (by rw [List.getElem?_map, h1]; rfl), h2⟩
    have hXY : ∀ b, b < w'.heap.size → ¬ Yo (Xof E φ) φ1 β b → ¬ Xof E φ' b := by
     intro b _ hn hx'
     rcases hx' with h | ⟨i, c, h⟩
     ·exact hn (.inl (.inl h))
     ·by_cases h1 : ∃ y ∈ os, i = bid d y.1
      ·obtain ⟨y, hy, rfl⟩ := h1
       rw [hφ1 y hy] at h
       exact hn (.inr (.inr ⟨_, _, h⟩))
      ·by_cases h2 : i ∈ ids
       ·obtain ⟨q, _, _, hq, _⟩ := hidx i h2
        rw [hφid q i hq] at h
        exact hn (.inr (.inl ⟨_, _, h⟩))
       ·rw [hφel i (fun h => h.elim h2 h1)] at h
        exact hn (.inl (.inr ⟨i, c, h⟩))
    have hown : ∀ {φ' : Nat → Phys} {H' : Nat → Cel} (j : Nat) (e : TypeId) (k n : Nat) (cs : List PD) (v : Value), RefOut φ1 bs' β (.own j e k n cs) v → H' (bid d j) = ⟨(H (bid d j)).g + 1, some (.own e k cs)⟩ → φ' (bid d j) = β j → RefAt φ' H' (.msl (bid d j) ((H (bid d j)).g + 1) 0 n) v := by
     intro φ' H' j e k n cs v' hr' hHj hφj
     obtain ⟨hk, hlen, hv'⟩ := hr'
     cases hβ : β j with
     | nil a =>
      rw [hβ] at hv' hφj
      obtain ⟨rfl, rfl⟩ := hv'
      have hn : n = 0 := by
       rw [List.length_nil] at hlen
       rcases Nat.mul_eq_zero.1 hlen.symm with h | h
       ·exact h
       ·omega
      subst hn
      have := ref_nil (H := H') (i := bid d j) (e := e) hφj (by rw [hHj]) hk
      rw [hHj] at this
      exact this
     | blk b c =>
      rw [hβ] at hv' hφj
      obtain ⟨rfl, hn⟩ := hv'
      have := ref_own (H := H') (i := bid d j) (e := e) (cs := cs) hφj (by rw [hHj]) hk hlen hn
      rw [hHj] at this
      exact this
    have kinds : ∀ {i q : Nat} {b b0 : Blk}, ids[q]? = some i → bs'[q]? = some b → (bs.map (trB ids H))[q]? = some (trB ids H b0) → (H i).b = some b0 →
      (∃ cs cs', b0 = .box cs ∧ b = .box cs' ∧ φ1 q = φ i) ∨ (∃ e k cs cs', b0 = .own e k cs ∧ b = .own e k cs' ∧ (fx = true → φ1 q = φ i ∧ cs.length = cs'.length)) := by
     intro i q b b0 hi hb' hb0 hHb
     obtain ⟨k1, k2⟩ := ho.kind q _ hb0
     rw [hb'] at k1
     cases b0 with
     | box cs =>
      cases b with
      | box cs' =>
       refine .inl ⟨cs, cs', rfl, rfl, ?_⟩
       rw [k2 (.inl rfl)]; unfold φat; rw [hi]
      | own => exact k1.elim
     | own e k cs =>
      cases b with
      | box => exact k1.elim
      | own e' k' cs' =>
       obtain ⟨rfl, rfl⟩ := k1
       refine .inr ⟨_, _, cs, cs', rfl, rfl, fun hf => ⟨?_, ?_⟩⟩
       ·rw [k2 (.inr (hfl hf))]; unfold φat; rw [hi]
       ·exact (sameL_at (hsame hf) hi hb' hHb).symm
    have hup := hm.upd (φ' := φ') (w' := w') (H' := H') I (fun j hj => ⟨hφel j hj, hHel j hj⟩)
     (fun j hj => by
      by_cases h1 : ∃ y ∈ os, j = bid d y.1
      ·obtain ⟨y, hy, rfl⟩ := h1; rw [hH y hy]; exact .inl (Nat.lt_succ_self _)
      ·have h2 := hj.resolve_right h1
       obtain ⟨q, b, b0, hq, hb', hb0, hHb⟩ := hidx j h2
       rw [hHid q j b hq hb']
       rcases kinds hq hb' hb0 hHb with ⟨cs, cs', rfl, rfl, hφe⟩ | ⟨e, k, cs, cs', rfl, rfl, hfx⟩
       ·exact .inr ⟨by rw [hφid q j hq, hφe], by show newg fx H j = _; unfold newg; rw [hHb]; cases fx <;> rfl, by rw [hHb]; trivial⟩
       ·cases hf : fx with
        | false => exact .inl (by show _ < newg false H j; unfold newg; rw [hHb]; exact Nat.lt_succ_self _)
        | true =>
         obtain ⟨hφe, hle⟩ := hfx hf
         exact .inr ⟨by rw [hφid q j hq, hφe], by show newg true H j = _; unfold newg; rfl, by rw [hHb]; exact ⟨rfl, rfl, hle⟩⟩)
     (fun b hb' hne => hb.blk b hb' (fun q c h => by
      obtain ⟨i, hi, h⟩ := φat_ids q b c h
      exact hne i c (.inl (List.mem_of_getElem? hi)) h))
     (fun j b c hj hp => by
      by_cases h1 : ∃ y ∈ os, j = bid d y.1
      ·obtain ⟨y, hy, rfl⟩ := h1; rw [hφ1 y hy] at hp; have := ho.new _ _ _ hp; exact ⟨this.2, .inl this.1⟩
      ·have h2 := hj.resolve_right h1
       obtain ⟨q, _, _, hq, _⟩ := hidx j h2
       rw [hφid q j hq] at hp
       obtain ⟨_, h4, h5⟩ := ho.dom _ _ _ hp
       refine ⟨h4, h5.imp id fun ⟨c', h⟩ => ?_⟩
       obtain ⟨i, hi, h⟩ := φat_ids q b c' h
       rw [hq] at hi; cases hi
       exact ⟨c', h⟩)
     (fun i j b c c' hi hj h1 h2 => by
      by_cases a1 : ∃ y ∈ os, i = bid d y.1
      ·obtain ⟨y, hy, rfl⟩ := a1
       rw [hφ1 y hy] at h1
       by_cases a2 : ∃ y ∈ os, j = bid d y.1
       ·obtain ⟨z, hz, rfl⟩ := a2
        rw [hφ1 z hz] at h2
        rw [ho.inj _ _ _ _ _ h1 h2]
       ·obtain ⟨q, _, _, hq, _⟩ := hidx j (hj.resolve_right a2)
        rw [hφid q j hq] at h2
        exact (ho.parted _ _ _ _ _ h2 h1).elim
      ·obtain ⟨q, _, _, hq, _⟩ := hidx i (hi.resolve_right a1)
       rw [hφid q i hq] at h1
       by_cases a2 : ∃ y ∈ os, j = bid d y.1
       ·obtain ⟨z, hz, rfl⟩ := a2
        rw [hφ1 z hz] at h2
        exact (ho.parted _ _ _ _ _ h1 h2).elim
       ·obtain ⟨q2, _, _, hq2, _⟩ := hidx j (hj.resolve_right a2)
        rw [hφid q2 j hq2] at h2
        have := ho.inj1 _ _ _ _ _ h1 h2
        subst this
        rw [hq] at hq2; cases hq2; rfl)
     (fun j hj hjm => by
      have h8 := hm.m8
      by_cases h1 : ∃ y ∈ os, j = bid d y.1
      ·obtain ⟨y, hy, rfl⟩ := h1; unfold bid at hjm; omega
      ·have h2 := hj.resolve_right h1
       obtain ⟨q, b, b0, hq, hb', hb0, hHb⟩ := hidx j h2
       rw [hHid q j b hq hb', hHb]
       rcases kinds hq hb' hb0 hHb with ⟨cs, cs', rfl, rfl, hφe⟩ | ⟨e, k, cs, cs', rfl, rfl, _⟩
       ·exact ⟨fun b1 hk => by cases b1 <;> exact hk, .inl (by rw [hφid q j hq, hφe])⟩
       ·exact ⟨fun b1 hk => by cases b1 <;> exact hk, .inr ⟨_, _, _, rfl⟩⟩)
     hb.size ⟨hb.os, hb.tape, hb.out⟩ (by
      intro tr j b hj hb'
      by_cases h1 : ∃ y ∈ os, j = bid d y.1
      ·obtain ⟨y, hy, rfl⟩ := h1
       rw [hH y hy] at hb'
       simp only [Option.some.injEq] at hb'
       subst hb'
       rw [hφ1 y hy]
       have q := ho.own y hy
       have hyo : ∃ e k cs, y.2 = .own e k cs := by
        rcases List.mem_append.1 hy with h | h
        ·exact owns_own r y h
        ·obtain ⟨bb, hbb, h⟩ := List.mem_flatMap.1 h
         cases bb with
         | box cs => exact ownsL_own cs y h
         | own => simp [ownsB] at h
       obtain ⟨e, k, cs, hown'⟩ := hyo
       rw [hown'] at q ⊢
       cases hβ : β y.1 with
       | nil a => rw [hβ] at q; exact q
       | blk b1 c1 =>
        rw [hβ] at q
        obtain ⟨q0, cur, xs, r1, r2, r3, r4, r5, r6, r7⟩ := q
        exact ⟨q0, cur, xs, r1, r2, r3, r4, r5, r6, RepL.sub_d hXY r7⟩
      ·have h2 := hj.resolve_right h1
       obtain ⟨q, b1, b0, hq, hbq, hb0, hHb⟩ := hidx j h2
       rw [hHid q j b1 hq hbq] at hb'
       simp only [Option.some.injEq] at hb'
       subst hb'
       rw [hφid q j hq]
       have hrep := ho.brep q b1 (by have := (List.getElem?_eq_some_iff.1 hq).1; rw [List.length_map]; omega) hbq
       cases hφq : φ1 q with
       | nil a => rw [hφq] at hrep; cases b1 <;> exact hrep
       | blk b2 c2 =>
        rw [hφq] at hrep
        cases b1 with
        | box cs =>
         obtain ⟨vs', T, h3, h4⟩ := hrep
         refine ⟨vs', T, h3, ?_⟩
         exact bkL_rep hXY hlen (fun q i b hi hb' => ⟨hHid q i b hi hb', hφid q i hi⟩) (fun j e k n cs v => hown j e k n cs v) cs _ (fun x hx => by
          have : x ∈ os := List.mem_append.2 (.inr (List.mem_flatMap.2 ⟨_, List.mem_of_getElem? hbq, hx⟩))
          exact ⟨hH x this, hφ1 x this⟩) h4
        | own e k cs =>
         obtain ⟨q0, cur, xs, r1, r2, r3, r4, r5, r6, r7⟩ := hrep
         exact ⟨q0, cur, xs, r1, r2, r3, r4, r5, r6, RepL.sub_d hXY r7⟩)
    refine ⟨φ', hup.1, hup.2, ?_⟩
    exact bkV_rep hXY hlen (fun q i b hi hb' => ⟨hHid q i b hi hb', hφid q i hi⟩) (fun j e k n cs v => hown j e k n cs v) r v (fun x hx => by
     have : x ∈ os := List.mem_append.2 (.inl hx)
     exact ⟨hH x this, hφ1 x this⟩) ho.rep
   ·cases he
end
end Go.Proofs.YtobkkblijfhpoaaGreatDoor.Pm
