/- environ.Answer: told to the small machine. -/
import Derived.Test.YtdphimcpcclifaaAnX
import Derived.Test.YtdphimcpcclifaaDReD
namespace Go.Proofs.Ytdphimcpcclifaa.Pm
open Go.RowKit
set_option linter.unusedVariables false
/-- The value of a datum of one cell. -/
def valD : PD → Value
  | .int k n => .int k n
  | .bool b => .bool b
  | .str s => .string ⟨s.toArray⟩
  | _ => undef
def scal : PD → Bool
  | .int _ _ => true
  | .bool _ => true
  | .str _ => true
  | _ => false
theorem scal_rep {X : Nat → Prop} {w : World} {x : PD} {v : Value} (h : scal x = true) (hr : RepD X w x v) : v = valD x := by
  cases x <;> first | exact hr | cases h
theorem scal_rep2 {X : Nat → Prop} {w : World} {x : PD} (h : scal x = true) : RepD X w x (valD x) := by
  cases x <;> first | rfl | cases h
theorem vals_rep {X : Nat → Prop} {w : World} {R : Ref → Value → Prop} : ∀ {cs : List PD} {us : List Value}, cs.all scal = true → RepL X w R (cs.map .d) us → us = cs.map valD
  | [], us, _, h => h
  | c :: cs, us, hp, ⟨v, r, e, h1, h2⟩ => by
    rw [List.all_cons, Bool.and_eq_true] at hp
    have h1 := scal_rep hp.1 h1
    subst h1; subst e
    rw [vals_rep hp.2 h2]; rfl
def toV (x : Re.GVar) : An.V := ⟨⟨x.Name.toArray⟩, ⟨x.Value.toArray⟩, x.User, x.Set⟩
theorem cells_val : ∀ xs : List Re.GVar, (Re.e_GVar.cells xs).map valD = An.flat (xs.map toV)
  | [] => rfl
  | x :: xs => by
    have e : Re.e_GVar.cells (x :: xs) = Re.e_GVar.enc x ++ Re.e_GVar.cells xs := rfl
    rw [e, List.map_append, cells_val xs]; rfl
theorem cells_scal : ∀ xs : List Re.GVar, (Re.e_GVar.cells xs).all scal = true
  | [] => rfl
  | x :: xs => by
    have e : Re.e_GVar.cells (x :: xs) = Re.e_GVar.enc x ++ Re.e_GVar.cells xs := rfl
    rw [e, List.all_append, cells_scal xs]; rfl
theorem cell_get {xs : List Re.GVar} {j k : Nat} {x : An.V} {u : Value} (hj : (xs.map toV)[j]? = some x) (hu : x.cs[k]? = some u) : ∃ d, (Re.e_GVar.cells xs)[j * 4 + k]? = some d ∧ scal d = true ∧ valD d = u := by
  have hk : k < 4 := by have := (List.getElem?_eq_some_iff.1 hu).1; simpa [An.V.cs] using this
  have h := An.flat_get (xs.map toV) j x k u hj hu hk
  rw [← cells_val, List.getElem?_map] at h
  cases hd : (Re.e_GVar.cells xs)[j * 4 + k]? with
  | none => rw [hd] at h; cases h
  | some d =>
    rw [hd] at h; cases h
    exact ⟨d, rfl, (List.all_eq_true.1 (cells_scal xs)) d (List.mem_of_getElem? hd), rfl⟩
theorem vs_rep {E : Nat → Prop} {w : World} {xs : List Re.GVar} {v : Value} (h : RepD E w (.sl xs.length (Re.e_GVar.cells xs)) v) :
    ∃ a c, v = .slice a (xs.map toV).length c ∧ An.Vs w w.heap.size a (xs.map toV) ∧ (xs.map toV).length ≤ c ∧ c ≤ maxLen ∧ (a = none → c = 0) := by
  obtain ⟨a, c, rfl, h1, h2, h3, h4⟩ := h
  refine ⟨a, c, by rw [List.length_map], fun j x hj => ?_, by rw [List.length_map]; exact h1, h2, h3⟩
  rcases h4 with h4 | ⟨b, o, rfl, _, hb, hc⟩
  · have hl := Re.e_GVar.cells_len xs
    rw [h4] at hl
    have hx : xs = [] := List.eq_nil_of_length_eq_zero (by have : Re.e_GVar.k = 4 := rfl; rw [this] at hl; simp at hl; omega)
    subst hx; simp at hj
  · refine ⟨b, o, rfl, hb, fun k u hu => ?_⟩
    obtain ⟨d, q1, q2, q3⟩ := cell_get hj hu
    obtain ⟨v, p1, p2⟩ := hc.get _ _ q1
    rw [scal_rep q2 p2, q3, ← Nat.add_assoc] at p1
    exact p1
theorem repc_vs {X : Nat → Prop} {w : World} {b : Nat} : ∀ (xs : List Re.GVar) (o : Nat), (∀ (j : Nat) (x : Re.GVar), xs[j]? = some x → ∀ (k : Nat) (u : Value), (toV x).cs[k]? = some u → w.cell? ⟨b, o + j * 4 + k, none⟩ = some u) → RepC X w (Re.e_GVar.cells xs) b o
  | [], _, _ => trivial
  | x :: xs, o, h => by
    have e : Re.e_GVar.cells (x :: xs) = .str x.Name :: .str x.Value :: .bool x.User :: .bool x.Set :: Re.e_GVar.cells xs := rfl
    rw [e]
    have h0 := h 0 x rfl
    simp only [Nat.zero_mul, Nat.add_zero] at h0
    refine ⟨⟨_, h0 0 _ rfl, rfl⟩, ⟨_, h0 1 _ rfl, rfl⟩, ⟨_, h0 2 _ rfl, rfl⟩, ⟨_, h0 3 _ rfl, rfl⟩, repc_vs xs (o + 1 + 1 + 1 + 1) fun j y hj k u hu => ?_⟩
    have := h (j + 1) y (by simpa using hj) k u hu
    rwa [show o + (j + 1) * 4 + k = o + 1 + 1 + 1 + 1 + j * 4 + k by omega] at this
theorem rep_vs {W : World} {B : Nat} {a : Option Addr} {c : Nat} {xs : List Re.GVar} (hB : B ≤ W.heap.size) (h : An.Vs W B a (xs.map toV)) (h1 : (xs.map toV).length ≤ c) (h2 : c ≤ maxLen) (h3 : a = none → c = 0) : RepD NoX W (.sl xs.length (Re.e_GVar.cells xs)) (.slice a (xs.map toV).length c) := by
  rw [List.length_map] at h1 ⊢
  refine ⟨a, c, rfl, h1, h2, h3, ?_⟩
  cases xs with
  | nil => exact .inl rfl
  | cons x xs =>
    obtain ⟨b, o, rfl, hb, _⟩ := h 0 _ rfl
    refine .inr ⟨b, o, rfl, fun hx => hx.elim, by omega, repc_vs _ _ fun j y hj k u hu => ?_⟩
    obtain ⟨b', o', e, _, hc⟩ := h j (toV y) (by rw [List.getElem?_map, hj]; rfl)
    cases e
    exact hc k u hu
/-- environ.Wanted. -/
theorem wanted {rest : List UInt8} {l : List Re.GVar} {err : Int} (h : Re.f12 rest = some (l, err)) (w : World) :
    Calls Go.Proofs.Try.prog 12 #[.string ⟨rest.toArray⟩] w fun e W => ∃ la lc, e = .returned (.tuple #[.slice la (l.map toV).length lc, .int .i64 err]) ∧ Below w.heap.size w W ∧ An.Vs W W.heap.size la (l.map toV) := by
  refine (lev_calls (base0_snd _) Re.codes_ok (Re.f12_ok base0 9 (by decide) rest (l, err) h) (vs := [_]) ⟨_, _, rfl, rfl, rfl⟩).mono ?_
  rintro e w' ⟨v, φ1, β, rfl, hbl, ho⟩
  have hr : RepV _ w' (RefOut φ1 [] β) (.tup [.r (.own 0 25 4 l.length (Re.e_GVar.cells l)), .d (.int .i64 err)]) v := ho.rep
  have hown := ho.own (0, .own 25 4 (Re.e_GVar.cells l)) (by show _ ∈ [(0, Blk.own 25 4 (Re.e_GVar.cells l))]; simp)
  obtain ⟨⟨l1⟩, rfl, v1, r1, e1, hv1, v2, r2, e2, hv2, hr2⟩ := hr
  have hv2 : v2 = .int .i64 err := hv2
  have hr2 : r2 = [] := hr2
  have hr : RefOut φ1 [] β (.own 0 25 4 l.length (Re.e_GVar.cells l)) v1 := hv1
  have e1 : l1 = v1 :: r1 := e1
  subst hr2 e2 e1 hv2
  obtain ⟨_, hlen, hr⟩ := hr
  cases hβ : β 0 with
  | nil a =>
    simp only [hβ] at hr
    obtain ⟨hn, hc0⟩ := hr
    subst hn
    rw [hc0, List.length_nil] at hlen
    have hx : l = [] := List.eq_nil_of_length_eq_zero (by omega)
    subst hx
    exact ⟨a, 0, rfl, hbl, fun j x hj => by simp at hj⟩
  | blk b c =>
    simp only [hβ] at hr hown
    obtain ⟨rfl, hmc⟩ := hr
    obtain ⟨_, cur, xs, p1, p2, p3, p4, p5, p6, p7⟩ := hown
    have hx := vals_rep (cells_scal l) p7
    refine ⟨some ⟨b, 0, none⟩, c, by rw [List.length_map], hbl, fun j x hj => ⟨b, 0, rfl, (ho.new 0 b c hβ).2, fun k u hu => ?_⟩⟩
    obtain ⟨d, q1, q2, q3⟩ := cell_get hj hu
    obtain ⟨fz, p8, _⟩ := p1
    rw [cell_of_row _ _ _ _ _ _ p8, Nat.zero_add]
    have hg : xs[j * 4 + k]? = some u := by rw [hx, List.getElem?_map, q1, ← q3]; rfl
    rw [← p6, List.getElem?_take] at hg
    split at hg
    · simpa using hg
    · cases hg
/-- environ.Write. -/
theorem writes {l : List Re.GVar} {so : List UInt8} {eo : Int} (h : Re.f10 l = some (so, eo)) {W : World} {v : Value} (hv : RepD NoX W (.sl l.length (Re.e_GVar.cells l)) v) :
    Calls Go.Proofs.Try.prog 10 #[v] W fun e W' => e = .returned (.tuple #[.string ⟨so.toArray⟩, .int .i64 eo]) ∧ Below W.heap.size W W' := by
  refine (lev_calls (base0_snd _) Re.codes_ok (Re.f10_ok base0 9 (by decide) l (so, eo) h) (vs := [_]) ⟨_, _, rfl, hv, rfl⟩).mono ?_
  rintro e w' ⟨v, φ1, β, rfl, hbl, ho⟩
  have hr : RepV _ w' (RefOut φ1 [] β) (.tup [.d (.str so), .d (.int .i64 eo)]) v := ho.rep
  obtain ⟨⟨l1⟩, rfl, v1, r1, e1, hv1, v2, r2, e2, hv2, hr2⟩ := hr
  have hv1 : v1 = .string ⟨so.toArray⟩ := hv1
  have hv2 : v2 = .int .i64 eo := hv2
  have hr2 : r2 = [] := hr2
  have e1 : l1 = v1 :: r1 := e1
  subst hr2 e2 e1 hv2 hv1
  exact ⟨rfl, hbl⟩
/-- What is told of a name that is wanted. -/
def foundQ (hv : List Re.GVar) (x : Re.GVar) : Re.GVar := hv.foldr (fun v f => if v.User = x.User ∧ v.Name = x.Name then v else f) x
def pickQ (hv : List Re.GVar) (x : Re.GVar) : List Re.GVar := if x.Name ≠ [] then [foundQ hv x] else hv.filter fun v => v.User == x.User
def outQ (hv l : List Re.GVar) : List Re.GVar := if l = [] then hv else l.flatMap (pickQ hv)
noncomputable def libAnswer (hv : List Re.GVar) (data : List UInt8) : Option (List UInt8 × Int) :=
  if hv.length ≤ 2000000 ∧ data.length ≤ 10000000 then
    match data with
    | [] => some ([], 4)
    | b :: rest => if b = 1 then (Re.f12 rest).bind fun p => if p.1.length ≤ 10000 then (if p.2 = 0 then (Re.f10 (outQ hv p.1)).bind fun q => if q.1.length ≤ 1000000000 then some (if q.2 = 0 then ((0 : UInt8) :: q.1, 0) else ([], q.2)) else none else some ([], p.2)) else none else some ([], 4)
  else none
theorem ba_inj {a b : List UInt8} (h : (⟨a.toArray⟩ : ByteArray) = ⟨b.toArray⟩) : a = b := by
  have : a.toArray = b.toArray := congrArg ByteArray.data h
  simpa using congrArg Array.toList this
theorem ba_list (a : List UInt8) : (⟨a.toArray⟩ : ByteArray).toList = a := by rw [ByteArray.toList_eq]
theorem found_map (x : Re.GVar) : ∀ hv : List Re.GVar, An.foundF (hv.map toV) (toV x) = toV (foundQ hv x)
  | [] => rfl
  | v :: hv => by
    have ih := found_map x hv
    show (if (toV v).u = (toV x).u ∧ (toV v).n = (toV x).n then toV v else An.foundF (hv.map toV) (toV x)) = toV (if v.User = x.User ∧ v.Name = x.Name then v else foundQ hv x)
    rw [ih]
    by_cases h : v.User = x.User ∧ v.Name = x.Name
    · rw [if_pos h, if_pos ⟨h.1, by show (⟨v.Name.toArray⟩ : ByteArray) = _; rw [h.2]; rfl⟩]
    · rw [if_neg h, if_neg (fun q => h ⟨q.1, ba_inj q.2⟩)]
theorem pick_map (hv : List Re.GVar) (x : Re.GVar) : An.pickF (hv.map toV) (toV x) = (pickQ hv x).map toV := by
  unfold An.pickF pickQ
  have e : (toV x).n.toList = x.Name := ba_list _
  rw [e]
  by_cases h : x.Name ≠ []
  · rw [if_pos h, if_pos h, found_map]; rfl
  · rw [if_neg h, if_neg h, List.filter_map]; rfl
theorem outF_map (hv : List Re.GVar) : ∀ l : List Re.GVar, An.outF (hv.map toV) (l.map toV) = (l.flatMap (pickQ hv)).map toV
  | [] => rfl
  | x :: l => by
    show An.pickF (hv.map toV) (toV x) ++ An.outF (hv.map toV) (l.map toV) = _
    rw [outF_map hv l, pick_map, List.flatMap_cons, List.map_append]
theorem ext_one (b : UInt8) (rest : List UInt8) : (⟨(b :: rest).toArray⟩ : ByteArray).extract 1 (⟨(b :: rest).toArray⟩ : ByteArray).size = ⟨rest.toArray⟩ := by
  apply ByteArray.ext
  rw [ByteArray.data_extract]
  apply Array.toList_inj.1
  have : (⟨(b :: rest).toArray⟩ : ByteArray).size = rest.length + 1 := by show (b :: rest).toArray.size = _; simp
  rw [this]; simp
set_option maxRecDepth 100000 in
set_option maxHeartbeats 1000000 in
theorem answer_no1 (w : World) (v : Value) (data : ByteArray) (he0 : data.toList.isEmpty = true) :
    Calls Go.Proofs.Try.prog 6 #[v, .string data] w fun e w' => e = .returned (.tuple #[.string ⟨#[]⟩, .int .i64 4]) ∧ Below w.heap.size w w' := by
  go_enter Go.Proofs.Try.func6, Go.Proofs.Try.ntmps6
  go_wp2
  exact bodyPost_ret (results_tmp2 rfl _ _ _) rfl ⟨rfl, Below.refl _ _⟩
set_option maxRecDepth 100000 in
set_option maxHeartbeats 1000000 in
theorem answer_no2 (w : World) (v : Value) (data : ByteArray) (hs0 : 0 < data.size) (he0 : data.toList.isEmpty = false) (hb0 : (((data[0]'hs0).toNat : Int) != 1) = true) :
    Calls Go.Proofs.Try.prog 6 #[v, .string data] w fun e w' => e = .returned (.tuple #[.string ⟨#[]⟩, .int .i64 4]) ∧ Below w.heap.size w w' := by
  go_enter Go.Proofs.Try.func6, Go.Proofs.Try.ntmps6
  go_wp2
  exact bodyPost_ret (results_tmp2 rfl _ _ _) rfl ⟨rfl, Below.refl _ _⟩
/-- environ.Answer. -/
theorem answers {hv : List Re.GVar} {data : List UInt8} {r : List UInt8 × Int} (hr : libAnswer hv data = some r) {E : Nat → Prop} {w : World} {v : Value} (h : RepD E w (.sl hv.length (Re.e_GVar.cells hv)) v) :
    Calls Go.Proofs.Try.prog 6 #[v, .string ⟨data.toArray⟩] w fun e w' => e = .returned (.tuple #[.string ⟨r.1.toArray⟩, .int .i64 r.2]) ∧ Below w.heap.size w w' := by
  unfold libAnswer at hr
  split at hr
  · rename_i hsz
    obtain ⟨a, c, rfl, hV, h1, h2, h3⟩ := vs_rep h
    cases data with
    | nil =>
      cases hr
      exact answer_no1 w _ ⟨#[]⟩ (by rw [ByteArray.toList_eq]; rfl)
    | cons b rest =>
      simp only at hr
      split at hr
      · rename_i hb
        subst hb
        obtain ⟨⟨l, err⟩, hw, hr⟩ := Option.bind_eq_some_iff.1 hr
        simp only at hr
        have hsd : (⟨((1 : UInt8) :: rest).toArray⟩ : ByteArray).size = rest.length + 1 := by show ((1 : UInt8) :: rest).toArray.size = _; simp
        have kW := wanted hw w
        rw [← ext_one 1 rest] at kW
        split at hr
        · rename_i hll
          by_cases herr : err = 0
          · subst herr
            rw [if_pos rfl] at hr
            · obtain ⟨⟨so, eo⟩, hwr, hr⟩ := Option.bind_eq_some_iff.1 hr
              simp only at hr
              split at hr
              · rename_i hso
                cases hr
                refine (callsIn_wide.1 (An.answer w a c (hv.map toV) (l.map toV) ((outQ hv l).map toV) (fun q => ?_) (fun q => ?_) 0 ⟨((1 : UInt8) :: rest).toArray⟩ ⟨so.toArray⟩ eo (by rw [List.length_map]; exact hsz.1) (by rw [List.length_map]; exact hll) (by rw [hsd]; have := hsz.2; simpa using this) h1 h2 h3 hV (by rw [hsd]; omega) (by rw [ba_list]; rfl) rfl (by show so.toArray.size ≤ _; simpa using hso) kW (fun _ W a' c' hW hV' g1 g2 g3 => writes hwr (rep_vs (Nat.le_refl _) hV' g1 g2 g3)))).mono ?_
                · have : l = [] := List.map_eq_nil_iff.1 q
                  subst this; rfl
                · have : l ≠ [] := fun e => q (by rw [e]; rfl)
                  unfold outQ
                  rw [if_neg this, outF_map]
                · rintro e w' ⟨rfl, hb⟩
                  refine ⟨?_, hb⟩
                  rw [if_pos rfl]
                  by_cases heo : eo = 0
                  · rw [if_pos heo, if_pos heo]
                    have : (⟨#[0]⟩ ++ ⟨so.toArray⟩ : ByteArray) = ⟨((0 : UInt8) :: so).toArray⟩ := by
                      apply ByteArray.ext
                      rw [ByteArray.data_append]
                      apply Array.toList_inj.1; simp
                    rw [this]
                  · rw [if_neg heo, if_neg heo]
              · cases hr
          · rw [if_neg herr] at hr
            cases hr
            refine (callsIn_wide.1 (An.answer w a c (hv.map toV) (l.map toV) (if l = [] then hv.map toV else An.outF (hv.map toV) (l.map toV)) (fun q => if_pos (List.map_eq_nil_iff.1 q)) (fun q => if_neg (fun e => q (by rw [e]; rfl))) err ⟨((1 : UInt8) :: rest).toArray⟩ ⟨#[]⟩ 0 (by rw [List.length_map]; exact hsz.1) ?_ (by rw [hsd]; have := hsz.2; simpa using this) h1 h2 h3 hV (by rw [hsd]; omega) (by rw [ba_list]; rfl) rfl (by decide) kW (fun q => absurd q herr))).mono ?_
            · rw [List.length_map]; exact hll
            · rintro e w' ⟨rfl, hb⟩
              refine ⟨?_, hb⟩
              rw [if_neg herr]
        · cases hr
      · rename_i hb
        cases hr
        have hs0 : 0 < (⟨(b :: rest).toArray⟩ : ByteArray).size := by show 0 < (b :: rest).toArray.size; simp
        refine answer_no2 w _ ⟨(b :: rest).toArray⟩ hs0 (by rw [ba_list]; rfl) ?_
        have hb2 : b.toNat ≠ 1 := fun q => hb (UInt8.toNat_inj.1 (q.trans rfl))
        show (((b.toNat : Nat) : Int) != 1) = true
        rw [bne_iff_ne]; omega
  · cases hr
/-- A function with a body is entered. -/
def canC (P : Program) (f : Nat) : Bool := match P.funcs[f]? with
  | some fn => match fn.body with
    | some _ => !(fn.name == "runtime.NumGoroutine")
    | none => false
  | none => false
theorem canEnter_c {P : Program} {f : Nat} (h : canC P f = true) : canEnter P f := by
  unfold canC at h
  split at h
  · rename_i fn hfn
    split at h
    · rename_i c hbody
      intro args w
      have hname : (fn.name == "runtime.NumGoroutine") = false := by simpa using h
      simp only [callFunc, Sem.run_bind, run_program, Result.andThen_ok, hfn, hbody]
      simp [hname]
    · cases h
  · cases h
/-- Variables out of their cells. -/
def decV : List PD → Option (List Re.GVar)
  | [] => some []
  | .str n :: .str v :: .bool u :: .bool s :: r => (decV r).map (⟨n, v, u, s⟩ :: ·)
  | _ => none
theorem decV_enc : ∀ xs : List Re.GVar, decV (Re.e_GVar.cells xs) = some xs
  | [] => rfl
  | x :: xs => by
    have e : Re.e_GVar.cells (x :: xs) = .str x.Name :: .str x.Value :: .bool x.User :: .bool x.Set :: Re.e_GVar.cells xs := rfl
    rw [e]
    unfold decV
    rw [decV_enc xs]; rfl
theorem decV_ok : ∀ {cs : List PD} {xs : List Re.GVar}, decV cs = some xs → Re.e_GVar.cells xs = cs
  | [], xs, h => by unfold decV at h; cases h; rfl
  | .str n :: .str v :: .bool u :: .bool s :: r, xs, h => by
    unfold decV at h
    obtain ⟨ys, h1, rfl⟩ := Option.map_eq_some_iff.1 h
    have := decV_ok h1
    show Re.e_GVar.enc ⟨n, v, u, s⟩ ++ Re.e_GVar.cells ys = _
    rw [this]; rfl
def oVS (g : List Re.GVar → List UInt8 → Option (List UInt8 × Int)) : List PV → Option PV
  | [.d (.sl n cs), .d (.str t)] => (decV cs).bind fun xs => if xs.length = n then ((g xs t).map fun z => .tup [.d (.str z.1), .d (.int .i64 z.2)]) else none
  | _ => none
theorem oVS_ {g : List Re.GVar → List UInt8 → Option (List UInt8 × Int)} {xs : List Re.GVar} {t : List UInt8} {z : List UInt8 × Int} (h : g xs t = some z) : oVS g [.d (.sl xs.length (Re.e_GVar.cells xs)), .d (.str t)] = some (.tup [.d (.str z.1), .d (.int .i64 z.2)]) := by
  unfold oVS
  simp only [decV_enc, Option.bind_some, if_true, h, Option.map_some]
theorem lok_Answer {W : World} {Φ : Nat → Phys} (he : canEnter Go.Proofs.Try.prog 6) : LibOk Go.Proofs.Try.prog W Φ (6, oVS libAnswer) := by
  refine ⟨he, fun args r hr => ?_⟩
  unfold oVS at hr
  simp only at hr
  split at hr
  · rename_i n cs t
    obtain ⟨xs, hx, hr⟩ := Option.bind_eq_some_iff.1 hr
    split at hr
    · rename_i hn
      obtain ⟨z, hz, rfl⟩ := Option.map_eq_some_iff.1 hr
      refine fun E w φ0 R vs hL hE ha => ?_
      obtain ⟨v1, r1, rfl, e1, v2, r2, rfl, e2, rfl⟩ := ha
      have e2 : v2 = .string ⟨t.toArray⟩ := e2
      subst e2; subst hn
      rw [← decV_ok hx] at e1
      exact (answers hz e1).mono fun e w' ⟨h1, h2⟩ => ⟨_, h1, ⟨_, rfl, _, _, rfl, rfl, _, _, rfl, rfl, rfl⟩, h2⟩
    · cases hr
  · cases hr
end Go.Proofs.Ytdphimcpcclifaa.Pm
