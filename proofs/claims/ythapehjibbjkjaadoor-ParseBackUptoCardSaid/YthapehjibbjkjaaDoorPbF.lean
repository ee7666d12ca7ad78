/- ParseBack: what is written is read as it was. -/
import Derived.Test.YthapehjibbjkjaaDoorPbE
namespace Go.Proofs.YthapehjibbjkjaaDoor.Pm
open Go.Proofs.YthapehjibbjkjaaDoor.Args
open Go.ChangeShapes Go.WideShapes Go.ChangeAt Go.RowKit
set_option linter.unusedVariables false
set_option linter.unusedSimpArgs false
set_option maxRecDepth 100000
theorem feed_step {p q : GParser} {c : Int} {t : List Int} (h : takeP p c = (q, [])) : feedP p (c :: t) = feedP q t := by
  simp only [feedP]; rw [h]; simp
theorem feed_last {p : GParser} {c : Int} {a : GAct} (h : takeP p c = (nilP 0, [a])) : feedP p [c] = (nilP 0, [a]) := by
  simp only [feedP]; rw [h]; simp
theorem ctrl_no (p : GParser) (c : Int) (h : 32 ≤ c ∧ ¬ (127 ≤ c ∧ c ≤ 159)) : ctrlP p c = none := by
  unfold ctrlP
  rw [if_neg (by omega), if_neg (by omega), if_neg (by omega), if_neg (by omega), if_neg h.2]
theorem take_mid (p : GParser) (c : Int) (hs : 1 ≤ p.State ∧ p.State ≤ 6) (hc : 32 ≤ c ∧ c ≤ 126) : takeP p c = if p.State ≤ 2 then escP p c else csiP p c := by
  unfold takeP
  rw [if_neg (by omega), if_neg (by omega), if_neg (by omega), if_neg (by omega)]
  unfold afterP
  rw [ctrl_no p c (by omega)]
  simp only
  rw [if_neg (by omega), if_neg (by omega)]
theorem take_ctrl (c : Int) (h : 0 ≤ c ∧ c ≤ 31) (h1 : c ≠ 24) (h2 : c ≠ 26) (h3 : c ≠ 27) : takeP (nilP 0) c = (nilP 0, [⟨2, c, 0, [], [], []⟩]) := by
  unfold takeP
  rw [if_neg (by omega), if_neg (by omega), if_neg (by simp [nilP]), if_neg (by simp [nilP])]
  unfold afterP ctrlP
  rw [if_neg h3, if_neg h1, if_neg h2, if_pos (by omega)]
theorem take27 : takeP (nilP 0) 27 = (nilP 1, []) := rfl
theorem take91 : takeP (nilP 1) 91 = (nilP 3, []) := rfl
theorem take93 : takeP (nilP 1) 93 = (nilP 7, []) := rfl
theorem sg_byte (b : UInt8) : sg (b.toNat : Int) = b := by
  unfold sg
  apply UInt8.toNat.inj
  simp
def bts (l : List UInt8) : List Int := l.map fun b => (b.toNat : Int)
/-- Intermediate bytes behind an escape. -/
theorem esc_in (s : Int) (I : Str) (c : Int) (hs : s = 1 ∨ s = 2) (hc : 32 ≤ c ∧ c ≤ 47) : takeP ⟨s, 0, I, [], []⟩ c = (⟨2, 0, moreI I c, [], []⟩, []) := by
  rw [take_mid _ _ (by dsimp only; omega) (by omega), if_pos (by dsimp only; omega)]
  unfold escP
  rw [if_pos (by omega)]
theorem esc_ins : ∀ (J I : Str) (s : Int) (t : List Int), (s = 1 ∨ s = 2) → J.all inB = true → (I ++ J).length ≤ 3 → feedP ⟨s, 0, I, [], []⟩ (bts J ++ t) = feedP ⟨if J = [] then s else 2, 0, I ++ J, [], []⟩ t
  | [], I, s, t, hs, hj, hl => by simp [bts]
  | b :: J, I, s, t, hs, hj, hl => by
    rw [List.all_cons, Bool.and_eq_true] at hj
    have hb : (32 : Int) ≤ (b.toNat : Int) ∧ (b.toNat : Int) ≤ 47 := by
      have := hj.1; unfold inB at this; simpa using this
    have e : bts (b :: J) ++ t = (b.toNat : Int) :: (bts J ++ t) := rfl
    have em : moreI I (b.toNat : Int) = I ++ [b] := by
      unfold moreI
      rw [if_pos (by simp at hl; omega), sg_byte]
    rw [e, feed_step (esc_in s I _ hs hb), em, esc_ins J (I ++ [b]) 2 t (.inr rfl) hj.2 (by simpa using hl)]
    simp
theorem esc_end2 (I : Str) (c : Int) (hI : I.length ≤ 2) (hc : 48 ≤ c ∧ c ≤ 126) : takeP ⟨2, 0, I, [], []⟩ c = (nilP 0, [⟨3, c, 0, I, [], []⟩]) := by
  rw [take_mid _ _ (by dsimp only; omega) (by omega), if_pos (by dsimp only; omega)]
  unfold escP
  rw [if_neg (by omega), if_pos rfl]
  unfold finalP
  rw [if_neg (by dsimp only; omega)]
theorem esc_tab : ((List.range 79).all fun n => decide (0 ≤ Lib.indexByte [91, 93, 80, 88, 94, 95] (u8 ((n + 48 : Nat) : Int))) || (!decide (n + 48 = 91) && (!decide (n + 48 = 93) && !decide (0 ≤ Lib.indexByte [80, 88, 94, 95] (u8 ((n + 48 : Nat) : Int)))))) = true := by kernel_rfl
theorem esc_end1 (c : Int) (hc : 48 ≤ c ∧ c ≤ 126) (h : ¬ 0 ≤ Lib.indexByte [91, 93, 80, 88, 94, 95] (u8 c)) : takeP (nilP 1) c = (nilP 0, [⟨3, c, 0, [], [], []⟩]) := by
  obtain ⟨n, hn⟩ := Int.eq_ofNat_of_zero_le (show 0 ≤ c - 48 by omega)
  have e : c = ((n + 48 : Nat) : Int) := by omega
  subst e
  have ht := List.all_eq_true.1 esc_tab n (List.mem_range.2 (by omega))
  rw [decide_eq_false h, Bool.false_or, Bool.and_eq_true, Bool.and_eq_true] at ht
  obtain ⟨t1, t2, t3⟩ := ht
  have u1 : ¬ n + 48 = 91 := by simpa using t1
  have u2 : ¬ n + 48 = 93 := by simpa using t2
  have u3 : ¬ 0 ≤ Lib.indexByte [80, 88, 94, 95] (u8 ((n + 48 : Nat) : Int)) := by
    intro q; rw [decide_eq_true q] at t3; cases t3
  rw [take_mid _ _ (by simp [nilP]) (by omega), if_pos (by simp [nilP])]
  unfold escP
  rw [if_neg (by omega), if_neg (by simp [nilP]), if_neg (by omega), if_neg (by omega), if_neg u3]
  rfl
theorem back_esc (c : Int) (I : Str) (hI : I.all inB = true) (hl : I.length ≤ 2) (hc : 48 ≤ c ∧ c ≤ 126) (h : I = [] → ¬ 0 ≤ Lib.indexByte [91, 93, 80, 88, 94, 95] (u8 c)) : feedP (nilP 0) (27 :: (bts I ++ [c])) = (nilP 0, [⟨3, c, 0, I, [], []⟩]) := by
  rw [feed_step take27]
  have e := esc_ins I [] 1 [c] (.inl rfl) hI (by simp; omega)
  have e' : feedP (nilP 1) (bts I ++ [c]) = _ := e
  rw [e', List.nil_append]
  by_cases q : I = []
  · rw [if_pos q]
    have h1 := feed_last (esc_end1 c hc (h q))
    rw [q]
    exact h1
  · rw [if_neg q, feed_last (esc_end2 I c hl hc)]
/-- A control sequence. -/
theorem csi_arg (s m : Int) (A : Str) (c : Int) (hs : s = 3 ∨ s = 4) (hc : 48 ≤ c ∧ c < 60 ∧ c ≠ 58) (hA : A.length < 100) : takeP ⟨s, m, [], A, []⟩ c = (⟨4, m, [], A ++ [sg c], []⟩, []) := by
  rw [take_mid _ _ (by dsimp only; omega) (by omega), if_neg (by dsimp only; omega)]
  unfold csiP
  rw [if_neg (by dsimp only; omega), if_neg (by omega), if_neg (by omega), if_neg (by dsimp only; omega), if_neg (by omega), if_pos (by omega)]
  dsimp only
  rw [if_pos hA]
theorem csi_args : ∀ (B A : Str) (s m : Int) (t : List Int), (s = 3 ∨ s = 4) → B.all okB = true → (A ++ B).length ≤ 100 → feedP ⟨s, m, [], A, []⟩ (bts B ++ t) = feedP ⟨if B = [] then s else 4, m, [], A ++ B, []⟩ t
  | [], A, s, m, t, hs, hj, hl => by simp [bts]
  | b :: B, A, s, m, t, hs, hj, hl => by
    rw [List.all_cons, Bool.and_eq_true] at hj
    have hb : 48 ≤ b.toNat ∧ b.toNat < 60 ∧ b.toNat ≠ 58 := by
      have := hj.1; unfold okB at this; simp at this; omega
    have e : bts (b :: B) ++ t = (b.toNat : Int) :: (bts B ++ t) := rfl
    rw [e, feed_step (csi_arg s m A _ hs (by omega) (by simp at hl; omega)), sg_byte, csi_args B (A ++ [b]) 4 m t (.inr rfl) hj.2 (by simpa using hl)]
    simp
theorem csi_in (s m : Int) (A I : Str) (c : Int) (hs : s = 3 ∨ s = 4 ∨ s = 5) (hc : 32 ≤ c ∧ c ≤ 47) : takeP ⟨s, m, I, A, []⟩ c = (⟨5, m, moreI I c, A, []⟩, []) := by
  rw [take_mid _ _ (by dsimp only; omega) (by omega), if_neg (by dsimp only; omega)]
  unfold csiP
  rw [if_neg (by dsimp only; omega), if_pos (by omega)]
theorem csi_ins : ∀ (J I A : Str) (s m : Int) (t : List Int), (s = 3 ∨ s = 4 ∨ s = 5) → J.all inB = true → (I ++ J).length ≤ 3 → feedP ⟨s, m, I, A, []⟩ (bts J ++ t) = feedP ⟨if J = [] then s else 5, m, I ++ J, A, []⟩ t
  | [], I, A, s, m, t, hs, hj, hl => by simp [bts]
  | b :: J, I, A, s, m, t, hs, hj, hl => by
    rw [List.all_cons, Bool.and_eq_true] at hj
    have hb : (32 : Int) ≤ (b.toNat : Int) ∧ (b.toNat : Int) ≤ 47 := by
      have := hj.1; unfold inB at this; simpa using this
    have e : bts (b :: J) ++ t = (b.toNat : Int) :: (bts J ++ t) := rfl
    have em : moreI I (b.toNat : Int) = I ++ [b] := by
      unfold moreI
      rw [if_pos (by simp at hl; omega), sg_byte]
    rw [e, feed_step (csi_in s m A I _ hs hb), em, csi_ins J (I ++ [b]) A 5 m t (.inr (.inr rfl)) hj.2 (by simpa using hl)]
    simp
theorem csi_end (s m : Int) (A I : Str) (c : Int) (hs : s = 3 ∨ s = 4 ∨ s = 5) (hI : I.length ≤ 2) (hc : 64 ≤ c ∧ c ≤ 126) : takeP ⟨s, m, I, A, []⟩ c = (nilP 0, [⟨4, c, m, I, (readA A).1, []⟩]) := by
  rw [take_mid _ _ (by dsimp only; omega) (by omega), if_neg (by dsimp only; omega)]
  unfold csiP
  rw [if_neg (by dsimp only; omega), if_neg (by omega), if_pos hc.1]
  unfold finalP
  rw [if_neg (by dsimp only; omega)]
theorem csi_mark (m : Int) (hm : 60 ≤ m ∧ m ≤ 63) : takeP (nilP 3) m = (⟨4, m, [], [], []⟩, []) := by
  rw [take_mid _ _ (by simp [nilP]) (by omega), if_neg (by simp [nilP])]
  unfold csiP
  rw [if_neg (by simp [nilP]), if_neg (by omega), if_neg (by omega), if_neg (by simp [nilP]), if_neg (by omega), if_neg (by omega), if_pos (by rfl)]
  rfl
theorem csi_tail (s m : Int) (A I : Str) (c : Int) (hs : s = 3 ∨ s = 4) (hA : A.all okB = true) (lA : A.length ≤ 100) (hI : I.all inB = true) (lI : I.length ≤ 2) (hc : 64 ≤ c ∧ c ≤ 126) : feedP ⟨s, m, [], [], []⟩ (bts (A ++ I) ++ [c]) = (nilP 0, [⟨4, c, m, I, (readA A).1, []⟩]) := by
  have e : bts (A ++ I) ++ [c] = bts A ++ (bts I ++ [c]) := by simp [bts]
  rw [e, csi_args A [] s m _ hs hA (by simpa using lA), List.nil_append]
  have h1 : (if A = [] then s else 4) = 3 ∨ (if A = [] then s else 4) = 4 := by split <;> omega
  generalize (if A = [] then s else 4) = s1 at h1
  rw [csi_ins I [] A s1 m _ (by omega) hI (by simp; omega), List.nil_append]
  have h2 : (if I = [] then s1 else 5) = 3 ∨ (if I = [] then s1 else 5) = 4 ∨ (if I = [] then s1 else 5) = 5 := by split <;> omega
  generalize (if I = [] then s1 else 5) = s2 at h2
  exact feed_last (csi_end s2 m A I c h2 lI hc)
theorem back_csi0 (A I : Str) (c : Int) (hA : A.all okB = true) (lA : A.length ≤ 100) (hI : I.all inB = true) (lI : I.length ≤ 2) (hc : 64 ≤ c ∧ c ≤ 126) : feedP (nilP 0) (27 :: 91 :: (bts (A ++ I) ++ [c])) = (nilP 0, [⟨4, c, 0, I, (readA A).1, []⟩]) := by
  rw [feed_step take27, feed_step take91]
  exact csi_tail 3 0 A I c (.inl rfl) hA lA hI lI hc
theorem back_csim (A I : Str) (m c : Int) (hm : 60 ≤ m ∧ m ≤ 63) (hA : A.all okB = true) (lA : A.length ≤ 100) (hI : I.all inB = true) (lI : I.length ≤ 2) (hc : 64 ≤ c ∧ c ≤ 126) : feedP (nilP 0) (27 :: 91 :: m :: (bts (A ++ I) ++ [c])) = (nilP 0, [⟨4, c, m, I, (readA A).1, []⟩]) := by
  rw [feed_step take27, feed_step take91, feed_step (csi_mark m hm)]
  exact csi_tail 4 m A I c (.inr rfl) hA lA hI lI hc
/-- A title. -/
theorem osc_rune (T : Str) (r : Int) (hr : 32 ≤ r ∧ r ≤ 1114111) (hw : ¬ (127 ≤ r ∧ r ≤ 159)) (hl : (T ++ encT r).length ≤ 256) : takeP ⟨7, 0, [], [], T⟩ r = (⟨7, 0, [], [], T ++ encT r⟩, []) := by
  unfold takeP
  rw [if_neg (by omega), if_neg (by omega), if_pos (.inl rfl)]
  unfold textP
  rw [if_neg (by omega), if_neg (by omega), if_neg (by omega), if_neg (by dsimp only; omega), if_neg (by omega), if_neg (by omega), if_neg hw, if_pos hl]
theorem osc_end (T : Str) : takeP ⟨7, 0, [], [], T⟩ 7 = (nilP 0, [⟨5, 0, 0, [], [], T⟩]) := by
  unfold takeP
  rw [if_neg (by omega), if_neg (by omega), if_pos (.inl rfl)]
  unfold textP
  rw [if_neg (by omega), if_neg (by omega), if_neg (by omega), if_neg (by dsimp only; omega), if_pos rfl]
def okR (r : Int) : Bool := !(decide (r < 32) || (decide (127 ≤ r) && decide (r ≤ 159)))
theorem osc_text : ∀ (n : Nat) (l T : Str) (t : List Int), l.length ≤ n → Lib.validD l = true → (rns l).all okR = true → (T ++ l).length ≤ 256 → feedP ⟨7, 0, [], [], T⟩ (rns l ++ t) = feedP ⟨7, 0, [], [], T ++ l⟩ t
  | _, [], T, t, _, _, _, _ => by simp [rns_nil]
  | 0, _ :: _, _, _, h, _, _, _ => by simp at h
  | n + 1, x :: l, T, t, hn, hv, hr, hl => by
    have hne : x :: l ≠ [] := by simp
    have hp := dec_pos (x :: l) hne
    have hd := dec_rune (x :: l)
    have he := enc_take (x :: l) hne hv
    have hv2 := (valid_cons (x :: l) hne hv).2
    rw [rns_cons _ hne] at hr ⊢
    rw [List.all_cons, Bool.and_eq_true] at hr
    generalize hc : Lib.decodeL (x :: l) = d at hp hd he hv2 hr ⊢
    have h1 : ¬ ((d.1 : Int) < 32) ∧ ¬ ((127 : Int) ≤ (d.1 : Int) ∧ (d.1 : Int) ≤ 159) := by
      have := hr.1; unfold okR at this; simp at this; omega
    have hlen : (T ++ encT (d.1 : Int)).length ≤ 256 := by
      rw [he, List.length_append, List.length_take]
      rw [List.length_append] at hl
      omega
    rw [List.cons_append, feed_step (osc_rune T _ (by omega) h1.2 hlen), he]
    rw [osc_text n ((x :: l).drop d.2) (T ++ (x :: l).take d.2) t (by rw [List.length_drop]; simp only [List.length_cons] at hn ⊢; omega) hv2 hr.2 (by rw [List.append_assoc, List.take_append_drop]; exact hl), List.append_assoc, List.take_append_drop]
theorem back_osc (T : Str) (hv : Lib.validD T = true) (hr : (rns T).all okR = true) (hl : T.length ≤ 256) : feedP (nilP 0) (27 :: 93 :: (rns T ++ [7])) = (nilP 0, [⟨5, 0, 0, [], [], T⟩]) := by
  rw [feed_step take27, feed_step take93]
  have := osc_text T.length T [] [7] (Nat.le_refl _) hv hr (by simpa using hl)
  have h' : feedP (nilP 7) (rns T ++ [7]) = _ := this
  rw [h', List.nil_append]
  exact feed_last (osc_end T)
theorem back_print (c : Int) (h : 32 ≤ c ∧ c ≤ 1114111) (hw : ¬ (127 ≤ c ∧ c ≤ 159)) : feedP (nilP 0) [c] = (nilP 0, [⟨1, c, 0, [], [], []⟩]) := by
  refine feed_last ?_
  rw [plain_take c (by omega)]
  unfold pr
  rw [if_pos ⟨h.1, h.2, by omega⟩]
theorem back_ctrl (c : Int) (h : 0 ≤ c ∧ c ≤ 31) (h1 : c ≠ 24) (h2 : c ≠ 26) (h3 : c ≠ 27) : feedP (nilP 0) [c] = (nilP 0, [⟨2, c, 0, [], [], []⟩]) := feed_last (take_ctrl c h h1 h2 h3)
/-- Bytes below 128 are runes. -/
theorem dec_asc (b : UInt8) (t : List UInt8) (h : b.toNat < 128) : Lib.decodeL (b :: t) = (b.toNat, 1) := Lib.decodeL_ascii b t h
theorem rns_asc : ∀ l : List UInt8, (∀ b ∈ l, b.toNat < 128) → rns l = bts l
  | [], _ => rfl
  | b :: t, h => by
    rw [rns_cons _ (by simp), dec_asc b t (h b (by simp))]
    dsimp only
    rw [List.drop_one, List.tail_cons, rns_asc t (fun x hx => h x (by simp [hx]))]; rfl
end Go.Proofs.YthapehjibbjkjaaDoor.Pm
