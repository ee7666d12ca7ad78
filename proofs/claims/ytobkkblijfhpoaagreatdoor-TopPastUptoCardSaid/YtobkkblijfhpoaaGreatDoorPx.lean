/- The small machine: what an operation looks at. No program is named here. -/
import Derived.Test.YtobkkblijfhpoaaGreatDoorPw
namespace Go.Proofs.YtobkkblijfhpoaaGreatDoor.Pm
open Go.RowKit

def oL : Option Operand → List Operand
 | some x => [x]
 | none => []
def opds : POp → List Operand
 | .mov x | .un _ x | .cvI _ x | .cvBS x | .cvIS x | .cvSS x | .box _ x | .load _ _ x | .nilC x | .fld _ x | .fldV _ _ _ x | .slE _ _ x | .clr _ _ x | .ext x _ | .len _ x | .isN _ x | .isE _ x | .cvSB x | .cvSO _ x | .rng x | .nxt x => [x]
 | .nilS .. | .alloc _ | .allocB _ => []
 | .pick c a b => [c, a, b]
 | .arI _ x y | .sh _ x y | .cmpI _ x y | .strO _ x y | .eqB _ x y | .eqA _ _ x y | .store _ x y | .ixA _ _ x y | .ixS _ _ x y | .ixV _ _ _ x y | .ixStr x y | .app _ _ _ x y | .mks _ _ _ _ x y | .cpy _ x y => [x, y]
 | .build _ ps | .bsl _ _ _ _ ps => ps.map (·.2.2)
 | .slS _ _ x lo hi | .slA _ _ x lo hi | .slC _ _ x lo hi | .slStr x lo hi => x :: oL lo ++ oL hi
 | .mkF _ cs | .call _ cs | .callr _ cs | .callf _ cs | .mx cs | .mn cs => cs
 | .callv x cs => x :: cs

section
variable {γ : Orc} {H H' : Nat → Cel} {ρ ρ' : Operand → PV} {d : Nat}
theorem fillP_loc : ∀ (ps : List (Nat × Nat × Operand)) (cs : List PV), (∀ x ∈ ps.map (·.2.2), ρ x = ρ' x) → fillP ρ cs ps = fillP ρ' cs ps
 | [], cs, _ => rfl
 | (o, n, x) :: r, cs, h => by
  simp only [fillP, h x (by simp)]
  split
  ·split
   ·exact fillP_loc r _ (fun y hy => h y (by simp at hy ⊢; exact .inr hy))
   ·rfl
  ·rfl
theorem ints_loc : ∀ (xs : List Operand), (∀ x ∈ xs, ρ x = ρ' x) → ints ρ xs = ints ρ' xs
 | [], _ => rfl
 | x :: xs, h => by simp only [ints, h x (by simp), ints_loc xs (fun y hy => h y (by simp [hy]))]
theorem bnd_loc (n : Nat) (x : Option Operand) (h : ∀ y ∈ oL x, ρ y = ρ' y) : bnd ρ n x = bnd ρ' n x := by
 cases x with
 | none => rfl
 | some x => simp only [bnd, h x (by simp [oL])]
theorem look_loc {i : Nat} (h : H i = H' i) (g : Nat) : look H i g = look H' i g := by simp only [look, h]
theorem asL_loc {p : PV} (h : ∀ i ∈ refsV p, H i = H' i) : asL H p = asL H' p := by
 unfold asL
 split
 ·rfl
 ·rfl
 ·rfl
 ·rename_i i g l n; rw [look_loc (h i (by simp [refsV]))]
 ·rfl
theorem asB_loc {k : Nat} {p : PV} (h : ∀ i ∈ refsV p, H i = H' i) : asB H k p = asB H' k p := by
 unfold asB
 split
 ·rfl
 ·exact asL_loc h
mutual
theorem lendV_loc : ∀ (p : PV), (∀ i ∈ refsV p, H i = H' i) → lendV H p = lendV H' p
 | .d _, _ => rfl
 | .agg cs, h => by simp only [lendV, lendL_loc cs h]
 | .fn f cs, h => by simp only [lendV, lendL_loc cs h]
 | .rptr _, _ => rfl
 | .nil, _ => rfl
 | .slz .., _ => rfl
 | .un, _ => rfl
 | .tup _, _ => rfl
 | .r (.ptr i g o), h => by simp only [lendV, look_loc (h i (by simp [refsV])) g]
 | .r (.msl i g l n), h => by simp only [lendV, look_loc (h i (by simp [refsV])) g]
 | .r (.own ..), _ => rfl
theorem lendL_loc : ∀ (ps : List PV), (∀ i ∈ refsL ps, H i = H' i) → lendL H ps = lendL H' ps
 | [], _ => rfl
 | p :: ps, h => by simp only [lendL, lendV_loc p (fun i hi => h i (by simp [refsL, hi])), lendL_loc ps (fun i hi => h i (by simp [refsL, hi]))]
end
mutual
theorem adV_loc : ∀ (p : PV), (∀ x ∈ owns p, H (bid d x.1) = H' (bid d x.1)) → adV H d p = adV H' d p
 | .d _, _ => rfl
 | .agg cs, h => by simp only [adV, adL_loc cs h]
 | .tup cs, h => by simp only [adV, adL_loc cs h]
 | .fn f cs, h => by simp only [adV, adL_loc cs h]
 | .rptr _, _ => rfl
 | .nil, _ => rfl
 | .slz .., _ => rfl
 | .un, _ => rfl
 | .r (.ptr i g o), h => rfl
 | .r (.msl i g l n), h => rfl
 | .r (.own j e k n cs), h => by simp only [adV, h (j, .own e k cs) (by simp [owns])]
theorem adL_loc : ∀ (ps : List PV), (∀ x ∈ ownsL ps, H (bid d x.1) = H' (bid d x.1)) → adL H d ps = adL H' d ps
 | [], _ => rfl
 | p :: ps, h => by simp only [adL, adV_loc p (fun x hx => h x (by simp [ownsL, hx])), adL_loc ps (fun x hx => h x (by simp [ownsL, hx]))]
end
theorem doCall_loc {f : Nat} {args : List PV} (h1 : ∀ i ∈ refsL args, H i = H' i) (h2 : ∀ j, j < 8 → H (bid d j) = H' (bid d j)) : doCall γ H d f args = doCall γ H' d f args := by
 unfold doCall
 rw [lendL_loc args h1]
 split
 ·rfl
 ·split
  ·rfl
  ·rename_i r _
   split
   ·rename_i hc
    simp only [Bool.and_eq_true, List.all_eq_true, decide_eq_true_eq] at hc
    rw [adV_loc r (fun x hx => h2 _ (hc.2 x hx))]
    congr 2
    apply List.map_congr_left
    intro x hx
    simp only [nw, h2 _ (hc.2 x hx)]
   ·rfl
mutual
theorem trV_loc {ids : List Nat} (h : ∀ i ∈ ids, H i = H' i) : ∀ (p : PV), trV ids H p = trV ids H' p
 | .d _ => rfl
 | .agg cs => by simp only [trV, trL_loc h cs]
 | .tup cs => by simp only [trV, trL_loc h cs]
 | .fn f cs => by simp only [trV, trL_loc h cs]
 | .rptr _ => rfl
 | .nil => rfl
 | .slz .. => rfl
 | .un => rfl
 | .r (.own ..) => rfl
 | .r (.ptr i g o) => by
  simp only [trV]
  cases hp : posOf ids i with
  | none => cases look H i g <;> cases look H' i g <;> rfl
  | some q => rw [look_loc (h i (List.mem_of_getElem? (pos_get hp))) g]
 | .r (.msl i g l n) => by
  simp only [trV]
  cases hp : posOf ids i with
  | none => cases look H i g <;> cases look H' i g <;> rfl
  | some q => rw [look_loc (h i (List.mem_of_getElem? (pos_get hp))) g]
theorem trL_loc {ids : List Nat} (h : ∀ i ∈ ids, H i = H' i) : ∀ (ps : List PV), trL ids H ps = trL ids H' ps
 | [] => rfl
 | p :: ps => by simp only [trL, trV_loc h p, trL_loc h ps]
end
theorem trB_loc {ids : List Nat} (h : ∀ i ∈ ids, H i = H' i) (b : Blk) : trB ids H b = trB ids H' b := by
 cases b with
 | box cs => simp only [trB, trL_loc h cs]
 | own => rfl
mutual
theorem bkV_loc {fx : Bool} {ids : List Nat} (h : ∀ i ∈ ids, H i = H' i) : ∀ (p : PV), (∀ x ∈ owns p, H (bid d x.1) = H' (bid d x.1)) → bkV fx ids H d p = bkV fx ids H' d p
 | .d _, _ => rfl
 | .agg cs, h2 => by simp only [bkV, bkL_loc h cs h2]
 | .tup cs, h2 => by simp only [bkV, bkL_loc h cs h2]
 | .fn f cs, h2 => by simp only [bkV, bkL_loc h cs h2]
 | .rptr _, _ => rfl
 | .nil, _ => rfl
 | .slz .., _ => rfl
 | .un, _ => rfl
 | .r (.own j e k n cs), h2 => by simp only [bkV, h2 (j, .own e k cs) (by simp [owns])]
 | .r (.ptr p g o), _ => by
  simp only [bkV]
  cases hi : ids[p]? with
  | none => rfl
  | some i => simp only [newg, h i (List.mem_of_getElem? hi)]
 | .r (.msl p g l n), _ => by
  simp only [bkV]
  cases hi : ids[p]? with
  | none => rfl
  | some i => simp only [newg, h i (List.mem_of_getElem? hi)]
theorem bkL_loc {fx : Bool} {ids : List Nat} (h : ∀ i ∈ ids, H i = H' i) : ∀ (ps : List PV), (∀ x ∈ ownsL ps, H (bid d x.1) = H' (bid d x.1)) → bkL fx ids H d ps = bkL fx ids H' d ps
 | [], _ => rfl
 | p :: ps, h2 => by simp only [bkL, bkV_loc h p (fun x hx => h2 x (by simp [ownsL, hx])), bkL_loc h ps (fun x hx => h2 x (by simp [ownsL, hx]))]
end
theorem upsP_loc {fx : Bool} {all : List Nat} (h : ∀ i ∈ all, H i = H' i) : ∀ (is : List Nat) (bs : List Blk), (∀ i ∈ is, i ∈ all) → (∀ b ∈ bs, ∀ x ∈ ownsB b, H (bid d x.1) = H' (bid d x.1)) → upsP fx H all d is bs = upsP fx H' all d is bs
 | [], _, _, _ => rfl
 | i :: is, [], _, _ => rfl
 | i :: is, b :: bs, hi, h2 => by
  have e1 : bkB fx all H d b = bkB fx all H' d b := by
   cases b with
   | box cs => have := bkL_loc (fx := fx) (d := d) h cs (h2 (.box cs) (by simp)); simp only [bkB, this]
   | own => rfl
  simp only [upsP, e1, newg, h i (hi i (by simp)), upsP_loc h is bs (fun j hj => hi j (by simp [hj])) (fun b hb => h2 b (by simp [hb]))]
theorem blksOf_loc : ∀ {ids : List Nat}, (∀ i ∈ ids, H i = H' i) → blksOf H ids = blksOf H' ids
 | [], _ => rfl
 | i :: ids, h => by simp only [blksOf, h i (by simp), blksOf_loc (ids := ids) (fun j hj => h j (by simp [hj]))]
theorem idsOf_loc {args : List PV} (h : ∀ i ∈ refsL args, H i = H' i) : idsOf H args = idsOf H' args := by
 have : ∀ (l : List Nat), (∀ i ∈ l, H i = H' i) → (l.flatMap fun i => refsB (H i).b) = l.flatMap fun i => refsB (H' i).b := by
  intro l
  induction l with
  | nil => intro _; rfl
  | cons x l ih => intro h; simp only [List.flatMap_cons, h x (by simp), ih (fun i hi => h i (by simp [hi]))]
 unfold idsOf
 rw [this _ h]
theorem sameL_loc {H H' : Nat → Cel} : ∀ {ids : List Nat} {bs : List Blk}, (∀ i ∈ ids, H i = H' i) → sameL H ids bs = sameL H' ids bs
 | [], _, _ => by simp [sameL]
 | _ :: _, [], _ => by simp [sameL]
 | i :: ids, b :: bs, h => by simp only [sameL, h i (by simp), sameL_loc (ids := ids) (bs := bs) (fun j hj => h j (by simp [hj]))]
theorem doCallR_loc {f : Nat} {args : List PV} (h0 : ∀ i ∈ refsL args, H i = H' i) (h1 : ∀ i ∈ idsOf H args, H i = H' i) (h2 : ∀ j, j < 8 → H (bid d j) = H' (bid d j)) : doCallR γ H d f args = doCallR γ H' d f args := by
 have e := idsOf_loc h0
 unfold doCallR
 rw [← e]
 generalize idsOf H args = ids at h1
 rw [blksOf_loc h1]
 split
 ·rfl
 ·rename_i bs _
  have e2 : bs.map (trB ids H) = bs.map (trB ids H') := List.map_congr_left fun b _ => trB_loc h1 b
  rw [trL_loc h1, e2]
  split
  ·rfl
  ·rename_i r bs' _
   have e3 : okL H ids bs' = okL H' ids bs' := by unfold okL; rw [sameL_loc h1]
   rw [e3]
   split
   ·rename_i hc
    simp only [Bool.and_eq_true, List.all_eq_true, decide_eq_true_eq] at hc
    have ho : ∀ x ∈ ownsAll r bs', H (bid d x.1) = H' (bid d x.1) := fun x hx => h2 _ (hc.2 x hx).1
    rw [bkV_loc h1 r (fun x hx => ho x (List.mem_append.2 (.inl hx))), upsP_loc h1 ids bs' (fun _ h => h) (fun b hb x hx => ho x (List.mem_append.2 (.inr (List.mem_flatMap.2 ⟨b, hb, hx⟩))))]
    congr 3
    apply List.map_congr_left
    intro x hx
    simp only [nw, ho x hx]
   ·rfl
theorem refsL_app : ∀ (a b : List PV), refsL (a ++ b) = refsL a ++ refsL b
 | [], _ => rfl
 | p :: a, b => by simp [refsL, refsL_app a b]
theorem refsL_mem {i : Nat} : ∀ {l : List PV}, i ∈ refsL l ↔ ∃ p ∈ l, i ∈ refsV p
 | [] => by simp [refsL]
 | p :: l => by simp [refsL, refsL_mem (l := l)]
theorem cells_refs {p : PV} {l : List PV} (h : p.cells? = some l) {i : Nat} (hi : i ∈ refsL l) : i ∈ refsV p := by
 cases p <;> simp only [PV.cells?, Option.some.injEq] at h <;> first | cases h; done | (subst h; have := hi; rw [show ∀ p : PV, refsL [p] = refsV p from fun p => by rw [refsL, refsL, List.append_nil]] at this; exact this) | (subst h; exact hi)
theorem fillP_refs : ∀ (ps : List (Nat × Nat × Operand)) (cs cs' : List PV), fillP ρ cs ps = some cs' → ∀ i ∈ refsL cs', i ∈ refsL cs ∨ i ∈ refsL (ps.map fun x => ρ x.2.2)
 | [], cs, cs', h, i, hi => by cases h; exact .inl hi
 | (o, n, x) :: r, cs, cs', h, i, hi => by
  simp only [fillP] at h
  split at h
  ·rename_i new hn
   split at h
   ·rcases fillP_refs r _ _ h i hi with h1 | h1
    ·obtain ⟨p, hp, hip⟩ := refsL_mem.1 h1
     simp only [splice, List.mem_append] at hp
     rcases hp with (hp | hp) | hp
     ·exact .inl (refsL_mem.2 ⟨p, List.mem_of_mem_take hp, hip⟩)
     ·exact .inr (by simp only [List.map_cons, refsL, List.mem_append]; exact .inl (cells_refs hn (refsL_mem.2 ⟨p, hp, hip⟩)))
     ·exact .inl (refsL_mem.2 ⟨p, List.mem_of_mem_drop hp, hip⟩)
    ·exact .inr (by simp only [List.map_cons, refsL, List.mem_append]; exact .inr h1)
   ·cases h
  ·cases h
theorem unrle_refs : ∀ (z : List (Nat × Value)), refsL (unrle z) = []
 | [] => rfl
 | (n, v) :: r => by
  simp only [unrle, refsL_app, unrle_refs r, List.append_nil]
  have hv : refsV (ofConst v) = [] := by unfold ofConst; split <;> rfl
  induction n with
  | zero => rfl
  | succ n ih => simp [List.replicate_succ, refsL, hv, ih]
mutual
theorem frzV_loc (D : Nat → Bool) : ∀ (p : PV), (∀ i ∈ refsV p, H i = H' i) → frzV D H p = frzV D H' p
 | .d _, _ => rfl
 | .agg cs, h => by simp only [frzV, frzL_loc D cs h]
 | .tup cs, h => by simp only [frzV, frzL_loc D cs h]
 | .fn f cs, h => by simp only [frzV, frzL_loc D cs h]
 | .rptr _, _ => rfl
 | .nil, _ => rfl
 | .slz .., _ => rfl
 | .un, _ => rfl
 | .r (.ptr i g o), h => rfl
 | .r (.msl i g l n), h => by simp only [frzV, look_loc (h i (by simp [refsV])) g]
 | .r (.own ..), _ => rfl
theorem frzL_loc (D : Nat → Bool) : ∀ (ps : List PV), (∀ i ∈ refsL ps, H i = H' i) → frzL D H ps = frzL D H' ps
 | [], _ => rfl
 | p :: ps, h => by simp only [frzL, frzV_loc D p (fun i hi => h i (by simp [refsL, hi])), frzL_loc D ps (fun i hi => h i (by simp [refsL, hi]))]
end
mutual
theorem frzV_refs (D : Nat → Bool) (H : Nat → Cel) : ∀ (p : PV), (∀ i ∈ refsV p, D i = true) → refsV (frzV D H p) = []
 | .d _, _ => rfl
 | .agg cs, h => by simp only [frzV, refsV]; exact frzL_refs D H cs h
 | .tup cs, h => by simp only [frzV, refsV]; exact frzL_refs D H cs h
 | .fn f cs, h => by simp only [frzV, refsV]; exact frzL_refs D H cs h
 | .rptr _, _ => rfl
 | .nil, _ => rfl
 | .slz .., _ => rfl
 | .un, _ => rfl
 | .r (.ptr i g o), h => by simp only [frzV, h i (by simp [refsV]), if_true]; rfl
 | .r (.msl i g l n), h => by
  simp only [frzV, h i (by simp [refsV]), if_true]
  split <;> rfl
 | .r (.own ..), _ => rfl
theorem frzL_refs (D : Nat → Bool) (H : Nat → Cel) : ∀ (ps : List PV), (∀ i ∈ refsL ps, D i = true) → refsL (frzL D H ps) = []
 | [], _ => rfl
 | p :: ps, h => by simp only [frzL, refsL, frzV_refs D H p (fun i hi => h i (by simp [refsL, hi])), frzL_refs D H ps (fun i hi => h i (by simp [refsL, hi])), List.append_nil]
end
theorem peval_loc {pop : POp} (h1 : ∀ x ∈ opds pop, ρ x = ρ' x) (h2 : ∀ a ∈ touch ρ H d pop, H a.1 = H' a.1) : peval γ H d ρ pop = peval γ H' d ρ' pop := by
 have rf : ∀ {p : PV} {c : Bool}, (∀ a ∈ (refsV p).map (fun i => (i, c)), H a.1 = H' a.1) → ∀ i ∈ refsV p, H i = H' i := fun h i hi => h (i, _) (List.mem_map_of_mem hi)
 cases pop with
 | nilS e k => simp only [peval, nw, h2 (bid d 0, true) (by simp [touch])]
 | alloc z => simp only [peval, nw, h2 (bid d 0, true) (by simp [touch])]
 | allocB z => simp only [peval, nw, h2 (bid d 0, true) (by simp [touch])]
 | box n x => simp only [peval, nw, h2 (bid d 0, true) (by simp [touch]), h1 x (by simp [opds])]
 | bsl e k n z ps =>
  simp only [peval, ← fillP_loc ps _ h1]
  cases hf : fillP ρ (unrle z) ps with
  | none => rfl
  | some cs =>
   have hs : ∀ i ∈ refsL cs, H i = H' i := fun i hi => by
    rcases fillP_refs ps _ _ hf i hi with h | h
    ·rw [unrle_refs] at h; cases h
    ·exact h2 (i, true) (by simp only [touch, List.mem_cons]; exact .inr (List.mem_map_of_mem h))
   have e1 : (refsL cs).map (fun i => (i, (⟨(H i).g + 1, none⟩ : Cel))) = (refsL cs).map (fun i => (i, (⟨(H' i).g + 1, none⟩ : Cel))) := List.map_congr_left fun i hi => by rw [hs i hi]
   simp only [frzL_loc _ cs hs, e1, nw, h2 (bid d 0, true) (by simp [touch])]
 | slE e k x =>
  have hx := h1 x (by simp [opds])
  have := asL_loc (rf (p := ρ x) (c := false) (fun a ha => h2 a (by simp only [touch, rd, List.mem_cons]; exact .inr ha)))
  simp only [peval, nw, h2 (bid d 0, true) (by simp [touch]), ← hx, this]
 | cvBS x =>
  have hx := h1 x (by simp [opds])
  have := asL_loc (rf (p := ρ x) (c := false) h2)
  simp only [peval, ← hx, this]
 | load a n x =>
  have hx := h1 x (by simp [opds])
  have hr := rf (p := ρ x) (c := false) h2
  simp only [peval, ← hx]
  split <;> first | rfl | (rename_i e; rw [e] at hr; rw [look_loc (hr _ (by simp [refsV]))])
 | nilC x => simp only [peval, ← h1 x (by simp [opds])]
 | fld o x => simp only [peval, ← h1 x (by simp [opds])]
 | ixA len k x i => simp only [peval, ← h1 x (by simp [opds]), ← h1 i (by simp [opds])]
 | ixS e k x i =>
  have hx := h1 x (by simp [opds])
  have hi := h1 i (by simp [opds])
  have hr := rf (p := ρ x) (c := false) h2
  simp only [peval, ← hx, ← hi]
  split <;> first | rfl | (rename_i e _; rw [e] at hr; rw [look_loc (hr _ (by simp [refsV]))])
 | slS e k x lo hi =>
  have hx := h1 x (by simp [opds])
  have hr := rf (p := ρ x) (c := false) h2
  have hl := fun n => bnd_loc (ρ := ρ) (ρ' := ρ') n lo (fun y hy => h1 y (by simp [opds, hy]))
  have hh := fun n => bnd_loc (ρ := ρ) (ρ' := ρ') n hi (fun y hy => h1 y (by simp [opds, hy]))
  simp only [peval, ← hx, ← hl, ← hh]
  split <;> first | rfl | (rename_i e; rw [e] at hr; rw [look_loc (hr _ (by simp [refsV]))])
 | slA n k x lo hi =>
  have hx := h1 x (by simp [opds])
  have hr := rf (p := ρ x) (c := true) h2
  have hl := fun n => bnd_loc (ρ := ρ) (ρ' := ρ') n lo (fun y hy => h1 y (by simp [opds, hy]))
  have hh := fun n => bnd_loc (ρ := ρ) (ρ' := ρ') n hi (fun y hy => h1 y (by simp [opds, hy]))
  simp only [peval, ← hx, ← hl, ← hh]
  split <;> first | rfl | (rename_i e; rw [e] at hr; rw [look_loc (hr _ (by simp [refsV]))])
 | clr k z x =>
  have hx := h1 x (by simp [opds])
  have hr := rf (p := ρ x) (c := true) h2
  simp only [peval, ← hx]
  split <;> first | rfl | (rename_i e; rw [e] at hr; rw [look_loc (hr _ (by simp [refsV]))])
 | slC e k x lo hi =>
  have hx := h1 x (by simp [opds])
  have hr := rf (p := ρ x) (c := true) h2
  have hl := fun n => bnd_loc (ρ := ρ) (ρ' := ρ') n lo (fun y hy => h1 y (by simp [opds, hy]))
  have hh := fun n => bnd_loc (ρ := ρ) (ρ' := ρ') n hi (fun y hy => h1 y (by simp [opds, hy]))
  simp only [peval, ← hx, ← hl, ← hh]
  split <;> first | rfl | (rename_i e; rw [e] at hr; rw [look_loc (hr _ (by simp [refsV]))])
 | mks e k b z l c => simp only [peval, nw, h2 (bid d 0, true) (by simp [touch]), h1 l (by simp [opds]), h1 c (by simp [opds])]
 | rng x => simp only [peval, nw, h2 (bid d 0, true) (by simp [touch]), h1 x (by simp [opds])]
 | nxt x =>
  have hx := h1 x (by simp [opds])
  have hr := rf (p := ρ x) (c := true) h2
  simp only [peval, ← hx]
  split <;> first | rfl | (rename_i e; rw [e] at hr; rw [look_loc (hr _ (by simp [refsV]))])
 | cpy k x y =>
  have hx := h1 x (by simp [opds])
  have hy := h1 y (by simp [opds])
  have hrx := rf (p := ρ x) (c := true) (fun a ha => h2 a (by simp only [touch, List.mem_append]; exact .inl ha))
  have hry := rf (p := ρ y) (c := false) (fun a ha => h2 a (by simp only [touch, rd, List.mem_append]; exact .inr ha))
  simp only [peval, ← hx, ← hy, asL_loc hry]
  split <;> first | rfl | (rename_i e _; rw [e] at hrx; rw [look_loc (hrx _ (by simp [refsV]))])
 | len s x =>
  have hx := h1 x (by simp [opds])
  have hr := rf (p := ρ x) (c := false) h2
  cases s
  ·simp only [peval, ← hx]
   split <;> first | rfl | (rename_i e; rw [e] at hr; rw [look_loc (hr _ (by simp [refsV]))])
  ·simp only [peval, ← hx]
 | store n x y =>
  have hx := h1 x (by simp [opds])
  have hy := h1 y (by simp [opds])
  have hr := rf (p := ρ x) (c := true) h2
  simp only [peval, ← hx, ← hy]
  split <;> first | rfl | (rename_i e _; rw [e] at hr; rw [look_loc (hr _ (by simp [refsV]))])
 | app e k b x y =>
  have hx := h1 x (by simp [opds])
  have hy := h1 y (by simp [opds])
  have hrx := rf (p := ρ x) (c := true) (fun a ha => h2 a (by simp only [touch, List.mem_cons, List.mem_append, List.cons_append]; exact .inr (.inl ha)))
  have hry := rf (p := ρ y) (c := false) (fun a ha => h2 a (by simp only [touch, rd, List.mem_cons, List.mem_append, List.cons_append]; exact .inr (.inr ha)))
  simp only [peval, ← hx, ← hy, asB_loc hry, h2 (bid d 0, true) (by simp [touch])]
  split
  ·rfl
  ·split
   ·split <;> first | rfl | (rename_i e; rw [e] at hrx; rw [look_loc (hrx _ (by simp [refsV]))])
   ·rfl
 | call f xs =>
  have hx : xs.map ρ' = xs.map ρ := List.map_congr_left fun x hx => (h1 x hx).symm
  simp only [peval, hx]
  exact doCall_loc (fun i hi => h2 (i, false) (by simp only [touch, List.mem_append]; exact .inl (List.mem_map_of_mem hi))) (fun j hj => h2 (bid d j, true) (by simp only [touch, List.mem_append]; exact .inr (List.mem_map_of_mem (f := fun j => (bid d j, true)) (List.mem_range.2 hj))))
 | callf f xs =>
  have hx : xs.map ρ' = xs.map ρ := List.map_congr_left fun x hx => (h1 x hx).symm
  have hr : ∀ i ∈ refsL (xs.map ρ), H i = H' i := fun i hi => h2 (i, true) (by simp only [touch, List.mem_append]; exact .inl (List.mem_map_of_mem hi))
  have hb : ∀ j, j < 8 → H (bid d j) = H' (bid d j) := fun j hj => h2 (bid d j, true) (by simp only [touch, List.mem_append]; exact .inr (List.mem_map_of_mem (f := fun j => (bid d j, true)) (List.mem_range.2 hj)))
  simp only [peval, hx, doCallF]
  have e1 : dropUps H (refsL (xs.map ρ)) = dropUps H' (refsL (xs.map ρ)) := List.map_congr_left fun i hi => by rw [hr i hi]
  rw [← frzL_loc _ _ hr, ← e1]
  split
  ·rename_i hall
   have e2 : doCall γ (setH' H (dropUps H (refsL (xs.map ρ)))) d f (frzL (inL (refsL (xs.map ρ))) H (xs.map ρ)) = doCall γ (setH' H' (dropUps H (refsL (xs.map ρ)))) d f (frzL (inL (refsL (xs.map ρ))) H (xs.map ρ)) := by
    refine doCall_loc (fun i hi => ?_) (fun j hj => ?_)
    ·rw [frzL_refs _ H _ (fun i hi => by simp only [inL, List.any_eq_true]; exact ⟨i, hi, by simp⟩)] at hi; cases hi
    ·rw [setH_eq, setH_eq]
     have hn : ∀ y ∈ dropUps H (refsL (xs.map ρ)), y.1 ≠ bid d j := by
      intro y hy e
      obtain ⟨i, hi, rfl⟩ := List.mem_map.1 hy
      have := List.all_eq_true.1 hall i hi
      simp only [Bool.and_eq_true, List.all_eq_true, List.mem_range] at this
      have := this.2 j hj
      simp only at e
      rw [e] at this; simp at this
     rw [setH_one _ _ _ hn, setH_one _ _ _ hn, hb j hj]
   rw [e2]
  ·rfl
 | callr f xs =>
  have hx : xs.map ρ' = xs.map ρ := List.map_congr_left fun x hx => (h1 x hx).symm
  simp only [peval, hx]
  exact doCallR_loc (fun i hi => h2 (i, false) (by simp only [touch, List.mem_append]; exact .inl (.inr (List.mem_map_of_mem hi)))) (fun i hi => h2 (i, true) (by simp only [touch, List.mem_append]; exact .inl (.inl (List.mem_map_of_mem hi)))) (fun j hj => h2 (bid d j, true) (by simp only [touch, List.mem_append]; exact .inr (List.mem_map_of_mem (f := fun j => (bid d j, true)) (List.mem_range.2 hj))))
 | callv x xs =>
  have hy := h1 x (by simp [opds])
  have hx : xs.map ρ' = xs.map ρ := List.map_congr_left fun y hy => (h1 y (by simp [opds, hy])).symm
  simp only [peval, hx, ← hy]
  split
  ·rename_i f cs e
   refine doCall_loc (fun i hi => ?_) (fun j hj => h2 (bid d j, true) (by simp only [touch, List.mem_append]; exact .inr (List.mem_map_of_mem (f := fun j => (bid d j, true)) (List.mem_range.2 hj))))
   have happ : ∀ (l r : List PV), refsL (l ++ r) = refsL l ++ refsL r := by
    intro l r
    induction l with
    | nil => rfl
    | cons p l ih => simp [refsL, ih]
   rw [happ, List.mem_append] at hi
   rcases hi with hi | hi
   ·exact h2 (i, false) (by simp only [touch, List.mem_append]; exact .inl (.inl (List.mem_map_of_mem hi)))
   ·exact h2 (i, false) (by simp only [touch, List.mem_append, rd, e]; exact .inl (.inr (List.mem_map_of_mem (show i ∈ refsV (.fn f cs) from hi))))
  ·rfl
 | mov x => simp only [peval, h1 x (by simp [opds])]
 | pick c a b => simp only [peval, h1 c (by simp [opds]), h1 a (by simp [opds]), h1 b (by simp [opds])]
 | arI op x y => simp only [peval, h1 x (by simp [opds]), h1 y (by simp [opds])]
 | sh op x y => simp only [peval, h1 x (by simp [opds]), h1 y (by simp [opds])]
 | cmpI op x y => simp only [peval, h1 x (by simp [opds]), h1 y (by simp [opds])]
 | strO op x y => simp only [peval, h1 x (by simp [opds]), h1 y (by simp [opds])]
 | eqB op x y => simp only [peval, h1 x (by simp [opds]), h1 y (by simp [opds])]
 | eqA op ks x y => simp only [peval, h1 x (by simp [opds]), h1 y (by simp [opds])]
 | isN op x => simp only [peval, h1 x (by simp [opds])]
 | isE op x => simp only [peval, h1 x (by simp [opds])]
 | cvSB x => simp only [peval, h1 x (by simp [opds])]
 | cvSO e x => simp only [peval, nw, h1 x (by simp [opds]), h2 (bid d 0, true) (by simp [touch])]
 | un op x => simp only [peval, h1 x (by simp [opds])]
 | cvI k x => simp only [peval, h1 x (by simp [opds])]
 | cvIS x => simp only [peval, h1 x (by simp [opds])]
 | cvSS x => simp only [peval, h1 x (by simp [opds])]
 | build z ps => simp only [peval, fillP_loc ps _ h1]
 | fldV a o n x => simp only [peval, h1 x (by simp [opds])]
 | ixV a l k x i => simp only [peval, h1 x (by simp [opds]), h1 i (by simp [opds])]
 | ixStr x i => simp only [peval, h1 x (by simp [opds]), h1 i (by simp [opds])]
 | slStr x lo hi =>
  have hl := fun n => bnd_loc (ρ := ρ) (ρ' := ρ') n lo (fun y hy => h1 y (by simp [opds, hy]))
  have hh := fun n => bnd_loc (ρ := ρ) (ρ' := ρ') n hi (fun y hy => h1 y (by simp [opds, hy]))
  simp only [peval, h1 x (by simp [opds]), hl, hh]
 | ext x i => simp only [peval, h1 x (by simp [opds])]
 | mkF f cs =>
  have hx : cs.map ρ' = cs.map ρ := List.map_congr_left fun x hx => (h1 x hx).symm
  simp only [peval, hx]
 | mx xs => simp only [peval, ints_loc xs h1]
 | mn xs => simp only [peval, ints_loc xs h1]
theorem ups_touch {pop : POp} {p : PV} {ups : Ups} (h : peval γ H d ρ pop = some (p, ups)) : ∀ x ∈ ups, (x.1, true) ∈ touch ρ H d pop := by
 have dc' : ∀ {H : Nat → Cel} {f : Nat} {args : List PV} {p : PV} {ups : Ups}, doCall γ H d f args = some (p, ups) → ∀ x ∈ ups, (x.1, true) ∈ (List.range 8).map fun j => (bid d j, true) := by
  intro H f args p ups h x hx
  unfold doCall at h
  split at h
  ·cases h
  ·split at h
   ·cases h
   ·split at h
    ·rename_i hc
     simp only [Option.some.injEq, Prod.mk.injEq] at h
     obtain ⟨rfl, rfl⟩ := h
     simp only [Bool.and_eq_true, List.all_eq_true, decide_eq_true_eq] at hc
     obtain ⟨y, hy, rfl⟩ := List.mem_map.1 hx
     exact List.mem_map.2 ⟨y.1, List.mem_range.2 (hc.2 y hy), rfl⟩
    ·cases h
 have dc : ∀ {f : Nat} {args : List PV}, doCall γ H d f args = some (p, ups) → ∀ x ∈ ups, (x.1, true) ∈ (List.range 8).map fun j => (bid d j, true) := fun h => dc' h
 cases pop with
 | call f xs =>
  simp only [peval] at h
  intro x hx; simp only [touch, List.mem_append]; exact .inr (dc h x hx)
 | callf f xs =>
  simp only [peval, doCallF] at h
  intro x hx
  split at h
  ·split at h
   ·rename_i p' ups' hc
    simp only [Option.some.injEq, Prod.mk.injEq] at h
    obtain ⟨rfl, rfl⟩ := h
    simp only [touch, List.mem_append]
    rcases List.mem_append.1 hx with hx | hx
    ·obtain ⟨i, hi, rfl⟩ := List.mem_map.1 hx
     exact .inl (List.mem_map_of_mem hi)
    ·exact .inr (dc' hc x hx)
   ·cases h
  ·cases h
 | callr f xs =>
  simp only [peval] at h
  intro x hx
  unfold doCallR at h
  split at h
  ·cases h
  ·split at h
   ·cases h
   ·split at h
    ·rename_i hc
     simp only [Option.some.injEq, Prod.mk.injEq] at h
     obtain ⟨rfl, rfl⟩ := h
     simp only [Bool.and_eq_true, List.all_eq_true, decide_eq_true_eq] at hc
     simp only [touch, List.mem_append]
     rcases List.mem_append.1 hx with hx | hx
     ·exact .inl (.inl (List.mem_map.2 ⟨_, upsP_ids _ _ _ hx, rfl⟩))
     ·obtain ⟨y, hy, rfl⟩ := List.mem_map.1 hx
      exact .inr (List.mem_map.2 ⟨y.1, List.mem_range.2 (hc.2 y hy).1, rfl⟩)
    ·cases h
 | callv y xs =>
  simp only [peval] at h
  split at h
  ·intro x hx; simp only [touch, List.mem_append]; exact .inr (dc h x hx)
  ·cases h
 | bsl e k n z ps =>
  simp only [peval] at h
  split at h
  ·rename_i cs hf
   split at h
   ·split at h
    ·split at h
     ·cases h
      intro x hx
      rcases List.mem_append.1 hx with hx | hx
      ·obtain ⟨i, hi, rfl⟩ := List.mem_map.1 hx
       rcases fillP_refs ps _ _ hf i hi with h | h
       ·rw [unrle_refs] at h; cases h
       ·simp only [touch, List.mem_cons]; exact .inr (List.mem_map_of_mem h)
      ·simp only [nw, List.mem_singleton] at hx; subst hx; simp [touch]
     ·cases h
    ·cases h
   ·cases h
  ·cases h
 | len s x =>
  cases s
  all_goals
   simp only [peval] at h
   repeat' split at h
   all_goals first | (cases h; done) | skip
   all_goals
    cases h
    intro z hz
    cases hz
 | slA n k x lo hi =>
  simp only [peval] at h
  repeat' split at h
  all_goals first | (cases h; done) | skip
  all_goals
   cases h
   intro z hz
   simp only [List.mem_singleton] at hz
   subst hz
   simp only [touch, ‹ρ x = _›, refsV, List.map_cons, List.map_nil, List.mem_singleton]
 | clr k z x =>
  simp only [peval] at h
  repeat' split at h
  all_goals first | (cases h; done) | skip
  all_goals
   cases h
   intro z hz
   simp only [List.mem_singleton] at hz
   subst hz
   simp only [touch, ‹ρ x = _›, refsV, List.map_cons, List.map_nil, List.mem_singleton]
 | slC n k x lo hi =>
  simp only [peval] at h
  repeat' split at h
  all_goals first | (cases h; done) | skip
  all_goals
   cases h
   intro z hz
   simp only [List.mem_singleton] at hz
   subst hz
   simp only [touch, ‹ρ x = _›, refsV, List.map_cons, List.map_nil, List.mem_singleton]
 | nxt x =>
  simp only [peval] at h
  repeat' split at h
  all_goals first | (cases h; done) | skip
  all_goals
   cases h
   intro z hz
   first
    | (cases hz; done)
    | (simp only [List.mem_singleton] at hz
       subst hz
       simp only [touch, ‹ρ x = _›, refsV, List.map_cons, List.map_nil, List.mem_singleton])
 | cpy k x y =>
  simp only [peval] at h
  repeat' split at h
  all_goals first | (cases h; done) | skip
  all_goals
   cases h
   intro z hz
   simp only [List.mem_singleton] at hz
   subst hz
   simp only [touch, ‹ρ x = _›, refsV, List.map_cons, List.map_nil, List.mem_append, List.mem_singleton, true_or]
 | store n x y =>
  simp only [peval] at h
  repeat' split at h
  all_goals first | (cases h; done) | skip
  all_goals
   cases h
   intro z hz
   simp only [List.mem_singleton] at hz
   subst hz
   simp only [touch, ‹ρ x = _›, refsV, List.map_cons, List.map_nil, List.mem_singleton]
 | app e k b x y =>
  simp only [peval] at h
  repeat' split at h
  all_goals first | (cases h; done) | skip
  all_goals
   cases h
   intro z hz
   simp only [List.mem_singleton] at hz
   subst hz
   simp only [touch, ‹ρ x = _›, refsV, List.map_cons, List.map_nil, List.mem_cons, List.cons_append, List.mem_append, true_or, or_true]
 | _ =>
  simp only [peval] at h
  repeat' split at h
  all_goals first | (cases h; done) | skip
  all_goals
   cases h
   intro z hz
   first
    | (cases hz; done)
    | (simp only [nw, List.mem_singleton] at hz; subst hz; simp [touch])
end
end Go.Proofs.YtobkkblijfhpoaaGreatDoor.Pm
