/- The small machine's codes of some functions. Printed by dec.py. -/
import Derived.Test.YtjoccdgmcdkbkaaGreatDoorKrn
import Derived.Test.YtjoccdgmcdkbkaaGreatDoorLib1
import Derived.Test.YtjoccdgmcdkbkaaGreatDoorProg
namespace Go.Proofs.YtjoccdgmcdkbkaaGreatDoor.Pm
set_option maxRecDepth 1000000
set_option maxHeartbeats 20000000
set_option linter.unusedVariables false
abbrev tm (n : Nat) : Operand := .tmp n
abbrev ki (n : Int) : Operand := .const (.int .i64 n)
abbrev po (d : Nat) (o : POp) : PO := ⟨some d, o, none⟩
abbrev pm (d s : Nat) : PO := ⟨some d, .mov (.tmp s), none⟩
abbrev dI (x : Int) : PV := .d (.int .i64 x)
abbrev dB (b : Bool) : PV := .d (.bool b)
abbrev pt (n : Nat) : PV := .r (.ptr n 0 0)
abbrev u0 : Nat → PV := fun _ => .un
abbrev h0 : Nat → Cel := hB fun _ => 0
section
variable {γ : Orc} {Q : PX → St → Prop} {k : List It} {st : St} {p : List PO}
theorem zL {i : Nat} (n j : Nat) (h : ZL γ Q k (p.drop j) (stD (runD γ ((p.drop i).take n) st))) (hj : i + n = j := by rfl) (h1 : (runD γ ((p.drop i).take n) st).isSome = true := by kernel_rfl) : ZL γ Q k (p.drop i) st := zlRun hj h1 h
theorem zE {i : Nat} (h : ZK γ Q k .normal st) (h0 : p.drop i = [] := by kernel_rfl) : ZL γ Q k (p.drop i) st := zlEnd h0 h
theorem zT {c : Operand} {t e : PCode} (h : ZR γ Q t k st) (hc : (ρof st.s c).bool? = some true := by kernel_rfl) : ZR γ Q (.cond c t e) k st := zrCondT hc h
theorem zF {c : Operand} {t e : PCode} (h : ZR γ Q e k st) (hc : (ρof st.s c).bool? = some false := by kernel_rfl) : ZR γ Q (.cond c t e) k st := zrCondF hc h
theorem zB {i : Nat} (d j : Nat) (op : POp) (c : Bool) (ht : c = true → ZL γ Q k (p.drop j) (putB st d true)) (hf : c = false → ZL γ Q k (p.drop j) (putB st d false)) (hp : (p.drop i).take 1 = [⟨some d, op, none⟩] := by kernel_rfl) (h1 : peval γ st.h d (ρof st.s) op = some (.d (.bool c), []) := by kernel_rfl) (hj : i + 1 = j := by rfl) (hg : gok st.s none = true := by rfl) : ZL γ Q k (p.drop i) st := zlBool c hj hp hg h1 ht hf
theorem zO {i : Nat} {v : PV} {ups : Ups} (d : Option Nat) (j : Nat) (op : POp) (h1 : peval γ st.h (d.getD 0) (ρof st.s) op = some (v, ups)) (h : ZL γ Q k (p.drop j) (putO st d v ups)) (hp : (p.drop i).take 1 = [⟨d, op, none⟩] := by kernel_rfl) (hj : i + 1 = j := by rfl) (hg : gok st.s none = true := by rfl) : ZL γ Q k (p.drop i) st := zlOp hj hp hg h1 h
theorem fN {m : Nat} {fc : FCode} {r : PV × List Blk} {s : St} (h : outR s m fc.res = some r) (he : finSt fc.fin st = s := by kernel_rfl) (hx : fxC fc.fin = false := by kernel_rfl) : DoneF fc m r .normal st := fNorm hx ((congrArg (fun s => outR s m fc.res) he).trans h)
theorem fR {m : Nat} {fc : FCode} {r : PV × List Blk} {s : St} (h : outR s m fc.res = some r) (he : finSt fc.fin st = s := by kernel_rfl) (hx : fxC fc.fin = false := by kernel_rfl) : DoneF fc m r .ret st := fRet hx ((congrArg (fun s => outR s m fc.res) he).trans h)
end
structure GPen where
  Flags : Int
  Fore : Int
  Back : Int
structure GCell where
  Rune : Int
  Pen : GPen
structure GGrid where
  Wide : Int
  High : Int
  Cells : List GCell
structure GStops where
  Bits : Nat → Int
structure GSaved where
  Row : Int
  Col : Int
  Pen : GPen
  Origin : Bool
  Pages : Int × Int
  Shift : Int
structure GLine where
  Cells : List GCell
structure GScreen where
  Grid : GGrid
  Row : Int
  Col : Int
  Late : Bool
  Top : Int
  Bottom : Int
  Pen : GPen
  Modes : Int
  Stops : GStops
  Pages : Int × Int
  Shift : Int
  Saved : GSaved
  Other : GGrid
  Title : List UInt8
  Past : List GLine
structure GAct where
  Kind : Int
  Code : Int
  Mark : Int
  Inter : List UInt8
  Args : List Int
  Text : List UInt8
structure Gterminal where
  Screen : GScreen
  sent : List UInt8
def e_GAct : Enc GAct := ⟨6, fun x => [.int .i64 x.Kind, .int .i64 x.Code, .int .i64 x.Mark, .str x.Inter, .sl x.Args.length ((eInt .i64).cells x.Args), .str x.Text], fun _ => rfl⟩
def e_GPen : Enc GPen := ⟨3, fun x => [.int .i64 x.Flags, .int .i64 x.Fore, .int .i64 x.Back], fun _ => rfl⟩
def e_GCell : Enc GCell := ⟨4, fun x => [.int .i64 x.Rune, .int .i64 x.Pen.Flags, .int .i64 x.Pen.Fore, .int .i64 x.Pen.Back], fun _ => rfl⟩
def e_A31 : Enc (Int × Int) := ⟨2, fun x => [.int .i64 x.1, .int .i64 x.2], fun _ => rfl⟩
def e_GLine : Enc GLine := ⟨1, fun x => [.sl x.Cells.length (e_GCell.cells x.Cells)], fun _ => rfl⟩
def e_UGterminal : Enc Gterminal := ⟨34, fun x => (.int .i64 x.Screen.Grid.Wide :: (.int .i64 x.Screen.Grid.High :: (.un :: (.int .i64 x.Screen.Row :: (.int .i64 x.Screen.Col :: (.bool x.Screen.Late :: (.int .i64 x.Screen.Top :: (.int .i64 x.Screen.Bottom :: (.int .i64 x.Screen.Pen.Flags :: (.int .i64 x.Screen.Pen.Fore :: (.int .i64 x.Screen.Pen.Back :: (.int .i64 x.Screen.Modes :: ((eInt .u64).rowD 4 x.Screen.Stops.Bits ++ (.int .i64 x.Screen.Pages.1 :: (.int .i64 x.Screen.Pages.2 :: (.int .i64 x.Screen.Shift :: (.int .i64 x.Screen.Saved.Row :: (.int .i64 x.Screen.Saved.Col :: (.int .i64 x.Screen.Saved.Pen.Flags :: (.int .i64 x.Screen.Saved.Pen.Fore :: (.int .i64 x.Screen.Saved.Pen.Back :: (.bool x.Screen.Saved.Origin :: (.int .i64 x.Screen.Saved.Pages.1 :: (.int .i64 x.Screen.Saved.Pages.2 :: (.int .i64 x.Screen.Saved.Shift :: (.int .i64 x.Screen.Other.Wide :: (.int .i64 x.Screen.Other.High :: (.un :: (.str x.Screen.Title :: (.un :: (.str x.sent :: []))))))))))))))))))))))))))))))), fun x => by simp only [List.length_append, List.length_cons, List.length_nil, Enc.rowD_len]; rfl⟩
def e_GGrid : Enc GGrid := ⟨3, fun x => [.int .i64 x.Wide, .int .i64 x.High, .sl x.Cells.length (e_GCell.cells x.Cells)], fun _ => rfl⟩
def e_GSaved : Enc GSaved := ⟨9, fun x => [.int .i64 x.Row, .int .i64 x.Col, .int .i64 x.Pen.Flags, .int .i64 x.Pen.Fore, .int .i64 x.Pen.Back, .bool x.Origin, .int .i64 x.Pages.1, .int .i64 x.Pages.2, .int .i64 x.Shift], fun _ => rfl⟩
def bx_GScreen (x : GScreen) (c3 c2 c1 : PV) : List PV := ((dI x.Grid.Wide) :: ((dI x.Grid.High) :: (c3 :: ((dI x.Row) :: ((dI x.Col) :: ((dB x.Late) :: ((dI x.Top) :: ((dI x.Bottom) :: ((dI x.Pen.Flags) :: ((dI x.Pen.Fore) :: ((dI x.Pen.Back) :: ((dI x.Modes) :: (((eInt .u64).row 4 x.Stops.Bits) ++ ((dI x.Pages.1) :: ((dI x.Pages.2) :: ((dI x.Shift) :: ((dI x.Saved.Row) :: ((dI x.Saved.Col) :: ((dI x.Saved.Pen.Flags) :: ((dI x.Saved.Pen.Fore) :: ((dI x.Saved.Pen.Back) :: ((dB x.Saved.Origin) :: ((dI x.Saved.Pages.1) :: ((dI x.Saved.Pages.2) :: ((dI x.Saved.Shift) :: ((dI x.Other.Wide) :: ((dI x.Other.High) :: (c2 :: ((.d (.str x.Title)) :: (c1 :: []))))))))))))))))))))))))))))))
def bx_Gterminal (x : Gterminal) (c3 c2 c1 : PV) : List PV := ((dI x.Screen.Grid.Wide) :: ((dI x.Screen.Grid.High) :: (c3 :: ((dI x.Screen.Row) :: ((dI x.Screen.Col) :: ((dB x.Screen.Late) :: ((dI x.Screen.Top) :: ((dI x.Screen.Bottom) :: ((dI x.Screen.Pen.Flags) :: ((dI x.Screen.Pen.Fore) :: ((dI x.Screen.Pen.Back) :: ((dI x.Screen.Modes) :: (((eInt .u64).row 4 x.Screen.Stops.Bits) ++ ((dI x.Screen.Pages.1) :: ((dI x.Screen.Pages.2) :: ((dI x.Screen.Shift) :: ((dI x.Screen.Saved.Row) :: ((dI x.Screen.Saved.Col) :: ((dI x.Screen.Saved.Pen.Flags) :: ((dI x.Screen.Saved.Pen.Fore) :: ((dI x.Screen.Saved.Pen.Back) :: ((dB x.Screen.Saved.Origin) :: ((dI x.Screen.Saved.Pages.1) :: ((dI x.Screen.Saved.Pages.2) :: ((dI x.Screen.Saved.Shift) :: ((dI x.Screen.Other.Wide) :: ((dI x.Screen.Other.High) :: (c2 :: ((.d (.str x.Screen.Title)) :: (c1 :: ((.d (.str x.sent)) :: [])))))))))))))))))))))))))))))))
def bx_GAct (x : GAct) (c1 : PV) : List PV := ((dI x.Kind) :: ((dI x.Code) :: ((dI x.Mark) :: ((.d (.str x.Inter)) :: (c1 :: ((.d (.str x.Text)) :: []))))))
abbrev gx_GScreen (x : GScreen) (i0 i1 i2 : Nat) : Blk := .box (bx_GScreen x (.r (.msl i0 0 0 x.Grid.Cells.length)) (.r (.msl i1 0 0 x.Other.Cells.length)) (.r (.msl i2 0 0 x.Past.length)))
abbrev go0_GScreen (x : GScreen) : Blk := .own 58 4 (e_GCell.cells x.Grid.Cells)
abbrev go1_GScreen (x : GScreen) : Blk := .own 58 4 (e_GCell.cells x.Other.Cells)
abbrev go2_GScreen (x : GScreen) : Blk := .own 87 1 (e_GLine.cells x.Past)
abbrev gd0_GScreen (x : GScreen) : PV := .d (.sl x.Grid.Cells.length (e_GCell.cells x.Grid.Cells))
abbrev gw0_GScreen (x : GScreen) : PV := .r (.own 0 58 4 x.Grid.Cells.length (e_GCell.cells x.Grid.Cells))
abbrev gd1_GScreen (x : GScreen) : PV := .d (.sl x.Other.Cells.length (e_GCell.cells x.Other.Cells))
abbrev gw1_GScreen (x : GScreen) : PV := .r (.own 1 58 4 x.Other.Cells.length (e_GCell.cells x.Other.Cells))
abbrev gd2_GScreen (x : GScreen) : PV := .d (.sl x.Past.length (e_GLine.cells x.Past))
abbrev gw2_GScreen (x : GScreen) : PV := .r (.own 2 87 1 x.Past.length (e_GLine.cells x.Past))
abbrev bd_GScreen (x : GScreen) : List PV := bx_GScreen x (gd0_GScreen x) (gd1_GScreen x) (gd2_GScreen x)
abbrev bw_GScreen (x : GScreen) : List PV := bx_GScreen x (gw0_GScreen x) (gw1_GScreen x) (gw2_GScreen x)
abbrev bm_GScreen (x : GScreen) (i0 ji0 i1 ji1 i2 ji2 : Nat) : List PV := bx_GScreen x (.r (.msl i0 ji0 0 x.Grid.Cells.length)) (.r (.msl i1 ji1 0 x.Other.Cells.length)) (.r (.msl i2 ji2 0 x.Past.length))
abbrev gb_GScreen (x : GScreen) (i0 i1 i2 : Nat) : List Blk := [gx_GScreen x i0 i1 i2, go0_GScreen x, go1_GScreen x, go2_GScreen x]
abbrev gh_GScreen (h : Nat → Cel) (x : GScreen) (i : Nat) (i0 i1 i2 : Nat) : Nat → Cel := up (up (up (up h i2 ⟨0, some (go2_GScreen x)⟩) i1 ⟨0, some (go1_GScreen x)⟩) i0 ⟨0, some (go0_GScreen x)⟩) i ⟨0, some (gx_GScreen x i0 i1 i2)⟩
abbrev gx_Gterminal (x : Gterminal) (i0 i1 i2 : Nat) : Blk := .box (bx_Gterminal x (.r (.msl i0 0 0 x.Screen.Grid.Cells.length)) (.r (.msl i1 0 0 x.Screen.Other.Cells.length)) (.r (.msl i2 0 0 x.Screen.Past.length)))
abbrev go0_Gterminal (x : Gterminal) : Blk := .own 58 4 (e_GCell.cells x.Screen.Grid.Cells)
abbrev go1_Gterminal (x : Gterminal) : Blk := .own 58 4 (e_GCell.cells x.Screen.Other.Cells)
abbrev go2_Gterminal (x : Gterminal) : Blk := .own 87 1 (e_GLine.cells x.Screen.Past)
abbrev gd0_Gterminal (x : Gterminal) : PV := .d (.sl x.Screen.Grid.Cells.length (e_GCell.cells x.Screen.Grid.Cells))
abbrev gw0_Gterminal (x : Gterminal) : PV := .r (.own 0 58 4 x.Screen.Grid.Cells.length (e_GCell.cells x.Screen.Grid.Cells))
abbrev gd1_Gterminal (x : Gterminal) : PV := .d (.sl x.Screen.Other.Cells.length (e_GCell.cells x.Screen.Other.Cells))
abbrev gw1_Gterminal (x : Gterminal) : PV := .r (.own 1 58 4 x.Screen.Other.Cells.length (e_GCell.cells x.Screen.Other.Cells))
abbrev gd2_Gterminal (x : Gterminal) : PV := .d (.sl x.Screen.Past.length (e_GLine.cells x.Screen.Past))
abbrev gw2_Gterminal (x : Gterminal) : PV := .r (.own 2 87 1 x.Screen.Past.length (e_GLine.cells x.Screen.Past))
abbrev bd_Gterminal (x : Gterminal) : List PV := bx_Gterminal x (gd0_Gterminal x) (gd1_Gterminal x) (gd2_Gterminal x)
abbrev bw_Gterminal (x : Gterminal) : List PV := bx_Gterminal x (gw0_Gterminal x) (gw1_Gterminal x) (gw2_Gterminal x)
abbrev bm_Gterminal (x : Gterminal) (i0 ji0 i1 ji1 i2 ji2 : Nat) : List PV := bx_Gterminal x (.r (.msl i0 ji0 0 x.Screen.Grid.Cells.length)) (.r (.msl i1 ji1 0 x.Screen.Other.Cells.length)) (.r (.msl i2 ji2 0 x.Screen.Past.length))
abbrev gb_Gterminal (x : Gterminal) (i0 i1 i2 : Nat) : List Blk := [gx_Gterminal x i0 i1 i2, go0_Gterminal x, go1_Gterminal x, go2_Gterminal x]
abbrev gh_Gterminal (h : Nat → Cel) (x : Gterminal) (i : Nat) (i0 i1 i2 : Nat) : Nat → Cel := up (up (up (up h i2 ⟨0, some (go2_Gterminal x)⟩) i1 ⟨0, some (go1_Gterminal x)⟩) i0 ⟨0, some (go0_Gterminal x)⟩) i ⟨0, some (gx_Gterminal x i0 i1 i2)⟩
def p19_1 : List PO := [po 2 (.nilS 45 6)]
def p19_2 : List PO := [pm 3 0, po 4 (.isN .false (tm 3))]
def p19_3 : List PO := [po 2 (.nilS 45 6)]
def p19_4 : List PO := [po 5 (.bsl 45 6 0 [] []), pm 6 0, po 7 (.app 45 6 80 (tm 5) (tm 6)), pm 2 7]
def c19_b : PCode := (.seq (.reg p19_1) (.seq (.seq (.reg p19_2) (.cond (.tmp 4) (.seq (.reg p19_3) .ret) .skip)) (.seq (.reg p19_4) .ret)))
def c19 : FCode := ⟨8, c19_b, [(.tmp 2)], some ([2], [(97, (.slot 2 none))], []), true⟩
theorem c19_ok : compF Go.Proofs.Tryz.prog [100014, 100017, 100019, 100031, 100035, 100036, 38, 100054, 100056, 63, 64, 65, 66, 68, 100070, 75, 80, 100081, 86, 87, 89, 91, 93, 95, 96, 97, 98, 102, 103, 104, 105, 113, 115, 117, 118, 120, 121, 123, 125, 126, 127, 129] 19 = some (eraseF c19) := by kernel_rfl
def p74_1 : List PO := [po 4 (.mov (ki 0))]
def p74_2 : List PO := [pm 5 0, po 6 (.cmpI .lss (tm 5) (ki 1)), pm 7 6, ⟨(.some 8), (.mov (tm 0)), (.some (7, .false))⟩, ⟨(.some 9), (.cmpI .gtr (tm 8) (ki 160)), (.some (7, .false))⟩, po 10 (.pick (tm 7) (.const (.bool .true)) (tm 9)), pm 11 10, ⟨(.some 12), (.mov (tm 1)), (.some (11, .false))⟩, ⟨(.some 13), (.cmpI .lss (tm 12) (ki 1)), (.some (11, .false))⟩, po 14 (.pick (tm 11) (.const (.bool .true)) (tm 13)), pm 15 14, ⟨(.some 16), (.mov (tm 1)), (.some (15, .false))⟩, ⟨(.some 17), (.cmpI .gtr (tm 16) (ki 60)), (.some (15, .false))⟩, po 18 (.pick (tm 15) (.const (.bool .true)) (tm 17))]
def p74_3 : List PO := [po 4 (.mov (ki 1))]
def p74_4 : List PO := [po 4 (.mov (ki 0))]
def c74_b : PCode := (.seq (.reg p74_1) (.seq (.seq (.reg p74_2) (.cond (.tmp 18) (.seq (.reg p74_3) .ret) .skip)) (.seq (.reg p74_4) .ret)))
def c74 : FCode := ⟨19, c74_b, [(.tmp 4)], some ([4], [], []), false⟩
theorem c74_ok : compF Go.Proofs.Tryz.prog [100014, 100017, 100019, 100031, 100035, 100036, 38, 100054, 100056, 63, 64, 65, 66, 68, 100070, 75, 80, 100081, 86, 87, 89, 91, 93, 95, 96, 97, 98, 102, 103, 104, 105, 113, 115, 117, 118, 120, 121, 123, 125, 126, 127, 129] 74 = some (eraseF c74) := by kernel_rfl
def p75_1 : List PO := [po 2 (.box 3 (tm 0)), po 4 (.nilS 58 4)]
def p75_2 : List PO := [po 5 (.fld 2 (tm 2)), po 6 (.load .false 1 (tm 5)), pm 7 1, po 8 (.fld 0 (tm 2)), po 9 (.load .false 1 (tm 8)), po 10 (.arI .mul (tm 7) (tm 9)), pm 11 1, po 12 (.arI .add (tm 11) (ki 1)), po 13 (.fld 0 (tm 2)), po 14 (.load .false 1 (tm 13)), po 15 (.arI .mul (tm 12) (tm 14)), po 16 (.slS 58 4 (tm 6) (.some (tm 10)) (.some (tm 15))), pm 4 16]
def c75_b : PCode := (.seq (.reg p75_1) (.seq (.reg p75_2) .ret))
def c75 : FCode := ⟨17, c75_b, [(.tmp 4)], some ([4, 2000000], [(0, .id 0)], []), false⟩
theorem c75_ok : compF Go.Proofs.Tryz.prog [100014, 100017, 100019, 100031, 100035, 100036, 38, 100054, 100056, 63, 64, 65, 66, 68, 100070, 75, 80, 100081, 86, 87, 89, 91, 93, 95, 96, 97, 98, 102, 103, 104, 105, 113, 115, 117, 118, 120, 121, 123, 125, 126, 127, 129] 75 = some (eraseF c75) := by kernel_rfl
def p78_1 : List PO := [po 2 (.mov (.const (.bool .false)))]
def p78_2 : List PO := [pm 3 0, po 4 (.cmpI .geq (tm 3) (ki 0)), pm 5 4, ⟨(.some 6), (.mov (tm 0)), (.some (5, .true))⟩, ⟨(.some 7), (.cmpI .leq (tm 6) (ki 256)), (.some (5, .true))⟩, po 8 (.pick (tm 5) (tm 7) (.const (.bool .false))), pm 9 8, ⟨(.some 10), (.mov (tm 0)), (.some (9, .false))⟩, ⟨(.some 11), (.cmpI .geq (tm 10) (ki 16777216)), (.some (9, .false))⟩, ⟨(.some 12), (.mov (tm 11)), (.some (9, .false))⟩, ⟨(.some 13), (.mov (tm 0)), (.some (12, .true))⟩, ⟨(.some 14), (.cmpI .lss (tm 13) (ki 33554432)), (.some (12, .true))⟩, ⟨(.some 15), (.pick (tm 12) (tm 14) (.const (.bool .false))), (.some (9, .false))⟩, po 16 (.pick (tm 9) (.const (.bool .true)) (tm 15)), pm 2 16]
def c78_b : PCode := (.seq (.reg p78_1) (.seq (.reg p78_2) .ret))
def c78 : FCode := ⟨17, c78_b, [(.tmp 2)], some ([2], [], []), false⟩
theorem c78_ok : compF Go.Proofs.Tryz.prog [100014, 100017, 100019, 100031, 100035, 100036, 38, 100054, 100056, 63, 64, 65, 66, 68, 100070, 75, 80, 100081, 86, 87, 89, 91, 93, 95, 96, 97, 98, 102, 103, 104, 105, 113, 115, 117, 118, 120, 121, 123, 125, 126, 127, 129] 78 = some (eraseF c78) := by kernel_rfl
def p50_1 : List PO := [po 1 (.box 3 (tm 0)), po 2 (.mov (ki 0))]
def p50_2 : List PO := [po 3 (.fld 0 (tm 1)), po 4 (.load .false 1 (tm 3)), po 5 (.cmpI .lss (tm 4) (ki 0)), pm 6 5, ⟨(.some 7), (.fld 0 (tm 1)), (.some (6, .false))⟩, ⟨(.some 8), (.load .false 1 (tm 7)), (.some (6, .false))⟩, ⟨(.some 9), (.cmpI .gtr (tm 8) (ki 255)), (.some (6, .false))⟩, po 10 (.pick (tm 6) (.const (.bool .true)) (tm 9)), pm 11 10, ⟨(.some 12), (.fld 1 (tm 1)), (.some (11, .false))⟩, ⟨(.some 13), (.load .false 1 (tm 12)), (.some (11, .false))⟩, ⟨(.some 14), (.call 78 [(tm 13)]), (.some (11, .false))⟩, ⟨(.some 15), (.un .not (tm 14)), (.some (11, .false))⟩, po 16 (.pick (tm 11) (.const (.bool .true)) (tm 15)), pm 17 16, ⟨(.some 18), (.fld 2 (tm 1)), (.some (17, .false))⟩, ⟨(.some 19), (.load .false 1 (tm 18)), (.some (17, .false))⟩, ⟨(.some 20), (.call 78 [(tm 19)]), (.some (17, .false))⟩, ⟨(.some 21), (.un .not (tm 20)), (.some (17, .false))⟩, po 22 (.pick (tm 17) (.const (.bool .true)) (tm 21))]
def p50_3 : List PO := [po 2 (.mov (ki 4))]
def p50_4 : List PO := [po 2 (.mov (ki 0))]
def c50_b : PCode := (.seq (.reg p50_1) (.seq (.seq (.reg p50_2) (.cond (.tmp 22) (.seq (.reg p50_3) .ret) .skip)) (.seq (.reg p50_4) .ret)))
def c50 : FCode := ⟨23, c50_b, [(.tmp 2)], some ([2], [], []), false⟩
theorem c50_ok : compF Go.Proofs.Tryz.prog [100014, 100017, 100019, 100031, 100035, 100036, 38, 100054, 100056, 63, 64, 65, 66, 68, 100070, 75, 80, 100081, 86, 87, 89, 91, 93, 95, 96, 97, 98, 102, 103, 104, 105, 113, 115, 117, 118, 120, 121, 123, 125, 126, 127, 129] 50 = some (eraseF c50) := by kernel_rfl
def p107_4 : List PO := [po 4 (.mov (.const (.bool .false)))]
def p107_5 : List PO := [pm 7 1, po 8 (.len .false (tm 7)), po 9 (.mov (ki 0))]
def p107_6 : List PO := [po 10 (.cmpI .lss (tm 9) (tm 8))]
def p107_7 : List PO := [po 11 (.ixS 31 2 (tm 7) (tm 9)), po 12 (.load .true 2 (tm 11)), po 6 (.alloc [(2, (.int .i64 0))]), ⟨.none, (.store 2 (tm 6) (tm 12)), .none⟩]
def p107_8 : List PO := [pm 13 0, po 14 (.ixA 2 1 (tm 6) (ki 0)), po 15 (.load .false 1 (tm 14)), po 16 (.cmpI .geq (tm 13) (tm 15)), pm 17 16, ⟨(.some 18), (.mov (tm 0)), (.some (17, .true))⟩, ⟨(.some 19), (.ixA 2 1 (tm 6) (ki 1)), (.some (17, .true))⟩, ⟨(.some 20), (.load .false 1 (tm 19)), (.some (17, .true))⟩, ⟨(.some 21), (.cmpI .leq (tm 18) (tm 20)), (.some (17, .true))⟩, po 22 (.pick (tm 17) (tm 21) (.const (.bool .false)))]
def p107_9 : List PO := [po 4 (.mov (.const (.bool .true)))]
def p107_10 : List PO := [po 23 (.arI .add (tm 9) (ki 1)), pm 9 23]
def c107_1 : PCode := (.keep [0, 7, 8, 9] [] [] (.seq (.block 1 (.seq (.reg p107_7) (.seq (.reg p107_8) (.cond (.tmp 22) (.seq (.reg p107_9) .ret) .skip)))) (.reg p107_10)))
def c107_2 : PCode := (.keep [0, 7, 8, 9, 10] [] [] (.seq (.cond (.tmp 10) .skip (.keep [] [] [] (.exit 0))) c107_1))
def c107_3 : PCode := (.keep [0, 7, 8, 9] [] [] (.seq (.reg p107_6) c107_2))
def p107_11 : List PO := [po 4 (.mov (.const (.bool .false)))]
def c107_b : PCode := (.seq (.reg p107_4) (.seq (.seq (.reg p107_5) (.block 0 (.loop c107_3))) (.seq (.reg p107_11) .ret)))
def c107 : FCode := ⟨24, c107_b, [(.tmp 4)], some ([4], [], []), false⟩
theorem c107_ok : compF Go.Proofs.Tryz.prog [100014, 100017, 100019, 100031, 100035, 100036, 38, 100054, 100056, 63, 64, 65, 66, 68, 100070, 75, 80, 100081, 86, 87, 89, 91, 93, 95, 96, 97, 98, 102, 103, 104, 105, 113, 115, 117, 118, 120, 121, 123, 125, 126, 127, 129] 107 = some (eraseF c107) := by kernel_rfl
def p76_3 : List PO := [po 2 (.mov (ki 0))]
def p76_4 : List PO := [po 5 (.build [(2, (.int .i64 0))] [(0, (1, (ki 0))), (1, (1, (ki 31)))]), po 6 (.build [(2, (.int .i64 0))] [(0, (1, (ki 127))), (1, (1, (ki 159)))]), po 7 (.build [(2, (.int .i64 0))] [(0, (1, (ki 768))), (1, (1, (ki 879)))]), po 8 (.build [(2, (.int .i64 0))] [(0, (1, (ki 8203))), (1, (1, (ki 8207)))]), po 9 (.build [(2, (.int .i64 0))] [(0, (1, (ki 55296))), (1, (1, (ki 57343)))]), po 10 (.build [(2, (.int .i64 0))] [(0, (1, (ki 65024))), (1, (1, (ki 65039)))]), po 11 (.build [(12, (.int .i64 0))] [(0, (2, (tm 5))), (2, (2, (tm 6))), (4, (2, (tm 7))), (6, (2, (tm 8))), (8, (2, (tm 9))), (10, (2, (tm 10)))]), po 3 (.alloc [(12, (.int .i64 0))]), ⟨.none, (.store 12 (tm 3) (tm 11)), .none⟩]
def p76_5 : List PO := [po 12 (.build [(2, (.int .i64 0))] [(0, (1, (ki 4352))), (1, (1, (ki 4447)))]), po 13 (.build [(2, (.int .i64 0))] [(0, (1, (ki 11904))), (1, (1, (ki 12350)))]), po 14 (.build [(2, (.int .i64 0))] [(0, (1, (ki 12353))), (1, (1, (ki 19903)))]), po 15 (.build [(2, (.int .i64 0))] [(0, (1, (ki 19968))), (1, (1, (ki 42191)))]), po 16 (.build [(2, (.int .i64 0))] [(0, (1, (ki 44032))), (1, (1, (ki 55203)))]), po 17 (.build [(2, (.int .i64 0))] [(0, (1, (ki 63744))), (1, (1, (ki 64255)))]), po 18 (.build [(2, (.int .i64 0))] [(0, (1, (ki 65072))), (1, (1, (ki 65135)))]), po 19 (.build [(2, (.int .i64 0))] [(0, (1, (ki 65280))), (1, (1, (ki 65376)))]), po 20 (.build [(2, (.int .i64 0))] [(0, (1, (ki 65504))), (1, (1, (ki 65510)))]), po 21 (.build [(2, (.int .i64 0))] [(0, (1, (ki 127744))), (1, (1, (ki 128591)))]), po 22 (.build [(2, (.int .i64 0))] [(0, (1, (ki 129280))), (1, (1, (ki 129535)))]), po 23 (.build [(2, (.int .i64 0))] [(0, (1, (ki 131072))), (1, (1, (ki 262141)))]), po 24 (.build [(24, (.int .i64 0))] [(0, (2, (tm 12))), (2, (2, (tm 13))), (4, (2, (tm 14))), (6, (2, (tm 15))), (8, (2, (tm 16))), (10, (2, (tm 17))), (12, (2, (tm 18))), (14, (2, (tm 19))), (16, (2, (tm 20))), (18, (2, (tm 21))), (20, (2, (tm 22))), (22, (2, (tm 23)))]), po 4 (.alloc [(24, (.int .i64 0))]), ⟨.none, (.store 24 (tm 4) (tm 24)), .none⟩]
def p76_6 : List PO := [pm 26 0, po 27 (.cmpI .lss (tm 26) (ki 0)), pm 28 27, ⟨(.some 29), (.mov (tm 0)), (.some (28, .false))⟩, ⟨(.some 30), (.cmpI .gtr (tm 29) (ki 1114111)), (.some (28, .false))⟩, po 31 (.pick (tm 28) (.const (.bool .true)) (tm 30)), pm 32 31, ⟨(.some 33), (.mov (tm 0)), (.some (32, .false))⟩, ⟨(.some 34), (.slA 6 2 (tm 3) .none .none), (.some (32, .false))⟩, ⟨(.some 35), (.call 107 [(tm 33), (tm 34)]), (.some (32, .false))⟩, po 36 (.pick (tm 32) (.const (.bool .true)) (tm 35)), pm 25 36]
def p76_7 : List PO := [po 2 (.mov (ki 0))]
def p76_8 : List PO := [pm 38 0, po 39 (.slA 12 2 (tm 4) .none .none), po 40 (.call 107 [(tm 38), (tm 39)]), pm 37 40]
def p76_9 : List PO := [po 2 (.mov (ki 2))]
def c76_1 : PCode := (.keep [0, 4, 25] [(40, .id 40)] [] (.cond (.tmp 25) (.seq (.reg p76_7) .ret) (.seq (.reg p76_8) (.cond (.tmp 37) (.seq (.reg p76_9) .ret) .skip))))
def p76_10 : List PO := [po 2 (.mov (ki 1))]
def c76_2 : PCode := (.seq (.reg p76_10) .ret)
def c76_b : PCode := (.seq (.reg p76_3) (.seq (.reg p76_4) (.seq (.reg p76_5) (.seq (.block 0 (.seq (.reg p76_6) c76_1)) c76_2))))
def c76 : FCode := ⟨41, c76_b, [(.tmp 2)], some ([2], [], []), false⟩
theorem c76_ok : compF Go.Proofs.Tryz.prog [100014, 100017, 100019, 100031, 100035, 100036, 38, 100054, 100056, 63, 64, 65, 66, 68, 100070, 75, 80, 100081, 86, 87, 89, 91, 93, 95, 96, 97, 98, 102, 103, 104, 105, 113, 115, 117, 118, 120, 121, 123, 125, 126, 127, 129] 76 = some (eraseF c76) := by kernel_rfl
def p108_1 : List PO := [po 3 (.mov (.const (.bool .false)))]
def p108_2 : List PO := [pm 4 0, po 5 (.load .false 1 (tm 1)), po 6 (.len .false (tm 5)), po 7 (.cmpI .lss (tm 4) (tm 6)), pm 8 7, ⟨(.some 9), (.load .false 1 (tm 1)), (.some (8, .true))⟩, ⟨(.some 10), (.mov (tm 0)), (.some (8, .true))⟩, ⟨(.some 11), (.ixS 58 4 (tm 9) (tm 10)), (.some (8, .true))⟩, ⟨(.some 12), (.fld 0 (tm 11)), (.some (8, .true))⟩, ⟨(.some 13), (.load .false 1 (tm 12)), (.some (8, .true))⟩, ⟨(.some 14), (.cmpI .eql (tm 13) (ki 0)), (.some (8, .true))⟩, po 15 (.pick (tm 8) (tm 14) (.const (.bool .false))), pm 16 15, ⟨(.some 17), (.load .false 1 (tm 1)), (.some (16, .true))⟩, ⟨(.some 18), (.mov (tm 0)), (.some (16, .true))⟩, ⟨(.some 19), (.ixS 58 4 (tm 17) (tm 18)), (.some (16, .true))⟩, ⟨(.some 20), (.fld 1 (tm 19)), (.some (16, .true))⟩, ⟨(.some 21), (.load .true 3 (tm 20)), (.some (16, .true))⟩, ⟨(.some 22), (.load .false 1 (tm 1)), (.some (16, .true))⟩, ⟨(.some 23), (.mov (tm 0)), (.some (16, .true))⟩, ⟨(.some 24), (.arI .sub (tm 23) (ki 1)), (.some (16, .true))⟩, ⟨(.some 25), (.ixS 58 4 (tm 22) (tm 24)), (.some (16, .true))⟩, ⟨(.some 26), (.fld 1 (tm 25)), (.some (16, .true))⟩, ⟨(.some 27), (.load .true 3 (tm 26)), (.some (16, .true))⟩, ⟨(.some 28), (.eqA .false [(3, .int)] (tm 21) (tm 27)), (.some (16, .true))⟩, po 29 (.pick (tm 16) (tm 28) (.const (.bool .false))), pm 3 29]
def c108_b : PCode := (.seq (.reg p108_1) (.seq (.regD p108_2 []) .ret))
def c108 : FCode := ⟨30, c108_b, [(.tmp 3)], some ([3], [], []), false⟩
theorem c108_ok : compF Go.Proofs.Tryz.prog [100014, 100017, 100019, 100031, 100035, 100036, 38, 100054, 100056, 63, 64, 65, 66, 68, 100070, 75, 80, 100081, 86, 87, 89, 91, 93, 95, 96, 97, 98, 102, 103, 104, 105, 113, 115, 117, 118, 120, 121, 123, 125, 126, 127, 129] 108 = some (eraseF c108) := by kernel_rfl
def p77_2 : List PO := [po 2 (.box 1 (tm 0)), po 4 (.mov (.const (.bool .false)))]
def p77_3 : List PO := [po 6 (.mkF 108 [(tm 2)]), pm 5 6]
def p77_4 : List PO := [po 7 (.load .false 1 (tm 2)), pm 8 1, po 9 (.ixS 58 4 (tm 7) (tm 8)), po 10 (.fld 0 (tm 9)), po 11 (.load .false 1 (tm 10)), po 12 (.cmpI .eql (tm 11) (ki 0))]
def p77_5 : List PO := [pm 13 1, po 14 (.cmpI .eql (tm 13) (ki 0)), pm 15 14, ⟨(.some 16), (.load .false 1 (tm 2)), (.some (15, .false))⟩, ⟨(.some 17), (.mov (tm 1)), (.some (15, .false))⟩, ⟨(.some 18), (.arI .sub (tm 17) (ki 1)), (.some (15, .false))⟩, ⟨(.some 19), (.ixS 58 4 (tm 16) (tm 18)), (.some (15, .false))⟩, ⟨(.some 20), (.fld 0 (tm 19)), (.some (15, .false))⟩, ⟨(.some 21), (.load .false 1 (tm 20)), (.some (15, .false))⟩, ⟨(.some 22), (.call 76 [(tm 21)]), (.some (15, .false))⟩, ⟨(.some 23), (.cmpI .neq (tm 22) (ki 2)), (.some (15, .false))⟩, po 24 (.pick (tm 15) (.const (.bool .true)) (tm 23)), pm 25 24, ⟨(.some 26), (.mov (tm 5)), (.some (25, .false))⟩, ⟨(.some 27), (.mov (tm 1)), (.some (25, .false))⟩, ⟨(.some 28), (.callv (tm 26) [(tm 27)]), (.some (25, .false))⟩, ⟨(.some 29), (.un .not (tm 28)), (.some (25, .false))⟩, po 30 (.pick (tm 25) (.const (.bool .true)) (tm 29)), pm 4 30]
def p77_6 : List PO := [po 31 (.load .false 1 (tm 2)), pm 32 1, po 33 (.ixS 58 4 (tm 31) (tm 32)), po 34 (.fld 0 (tm 33)), po 35 (.load .false 1 (tm 34)), po 36 (.call 76 [(tm 35)]), po 37 (.cmpI .eql (tm 36) (ki 2)), pm 38 37, ⟨(.some 39), (.mov (tm 5)), (.some (38, .true))⟩, ⟨(.some 40), (.mov (tm 1)), (.some (38, .true))⟩, ⟨(.some 41), (.arI .add (tm 40) (ki 1)), (.some (38, .true))⟩, ⟨(.some 42), (.callv (tm 39) [(tm 41)]), (.some (38, .true))⟩, ⟨(.some 43), (.un .not (tm 42)), (.some (38, .true))⟩, po 44 (.pick (tm 38) (tm 43) (.const (.bool .false))), pm 4 44]
def c77_1 : PCode := (.keep [1, 2, 5] [(24, .id 24)] [] (.seq (.reg p77_6) .ret))
def c77_b : PCode := (.seq (.reg p77_2) (.seq (.reg p77_3) (.seq (.seq (.reg p77_4) (.cond (.tmp 12) (.seq (.reg p77_5) .ret) .skip)) c77_1)))
def c77 : FCode := ⟨45, c77_b, [(.tmp 4)], some ([4], [], []), false⟩
theorem c77_ok : compF Go.Proofs.Tryz.prog [100014, 100017, 100019, 100031, 100035, 100036, 38, 100054, 100056, 63, 64, 65, 66, 68, 100070, 75, 80, 100081, 86, 87, 89, 91, 93, 95, 96, 97, 98, 102, 103, 104, 105, 113, 115, 117, 118, 120, 121, 123, 125, 126, 127, 129] 77 = some (eraseF c77) := by kernel_rfl
def p48_9 : List PO := [po 1 (.box 3 (tm 0)), po 2 (.mov (ki 0))]
def p48_10 : List PO := [po 8 (.fld 0 (tm 1)), po 9 (.load .false 1 (tm 8)), po 10 (.fld 1 (tm 1)), po 11 (.load .false 1 (tm 10)), po 12 (.call 74 [(tm 9), (tm 11)]), pm 3 12]
def p48_11 : List PO := [pm 13 3, po 14 (.cmpI .neq (tm 13) (ki 0))]
def p48_12 : List PO := [pm 15 3, pm 2 15]
def p48_13 : List PO := [po 16 (.fld 2 (tm 1)), po 17 (.load .false 1 (tm 16)), po 18 (.len .false (tm 17)), po 19 (.fld 0 (tm 1)), po 20 (.load .false 1 (tm 19)), po 21 (.fld 1 (tm 1)), po 22 (.load .false 1 (tm 21)), po 23 (.arI .mul (tm 20) (tm 22)), po 24 (.cmpI .neq (tm 18) (tm 23))]
def p48_14 : List PO := [po 2 (.mov (ki 4))]
def p48_15 : List PO := [po 25 (.fld 1 (tm 1)), po 26 (.load .false 1 (tm 25)), po 27 (.mov (ki 0))]
def p48_16 : List PO := [po 28 (.cmpI .lss (tm 27) (tm 26))]
def p48_17 : List PO := [pm 29 27, pm 4 29]
def p48_18 : List PO := [po 30 (.load .true 3 (tm 1)), pm 31 4, po 32 (.callr 75 [(tm 30), (tm 31)]), pm 5 32]
def p48_19 : List PO := [pm 33 5, po 34 (.len .false (tm 33)), po 35 (.mov (ki 0))]
def p48_20 : List PO := [po 36 (.cmpI .lss (tm 35) (tm 34))]
def p48_21 : List PO := [pm 37 35, po 38 (.ixS 58 4 (tm 33) (tm 35)), po 39 (.load .true 4 (tm 38)), po 7 (.alloc [(4, (.int .i64 0))]), pm 6 37, ⟨.none, (.store 4 (tm 7) (tm 39)), .none⟩]
def p48_22 : List PO := [po 40 (.fld 1 (tm 7)), po 41 (.load .true 3 (tm 40)), po 42 (.call 50 [(tm 41)]), po 43 (.cmpI .neq (tm 42) (ki 0)), pm 44 43, ⟨(.some 45), (.fld 0 (tm 7)), (.some (44, .false))⟩, ⟨(.some 46), (.load .false 1 (tm 45)), (.some (44, .false))⟩, ⟨(.some 47), (.cmpI .neq (tm 46) (ki 0)), (.some (44, .false))⟩, ⟨(.some 48), (.mov (tm 47)), (.some (44, .false))⟩, ⟨(.some 49), (.fld 0 (tm 7)), (.some (48, .true))⟩, ⟨(.some 50), (.load .false 1 (tm 49)), (.some (48, .true))⟩, ⟨(.some 51), (.call 76 [(tm 50)]), (.some (48, .true))⟩, ⟨(.some 52), (.cmpI .eql (tm 51) (ki 0)), (.some (48, .true))⟩, ⟨(.some 53), (.pick (tm 48) (tm 52) (.const (.bool .false))), (.some (44, .false))⟩, po 54 (.pick (tm 44) (.const (.bool .true)) (tm 53)), pm 55 54, ⟨(.some 56), (.mov (tm 5)), (.some (55, .false))⟩, ⟨(.some 57), (.mov (tm 6)), (.some (55, .false))⟩, ⟨(.some 58), (.call 77 [(tm 56), (tm 57)]), (.some (55, .false))⟩, po 59 (.pick (tm 55) (.const (.bool .true)) (tm 58))]
def p48_23 : List PO := [po 2 (.mov (ki 4))]
def p48_24 : List PO := [po 60 (.arI .add (tm 35) (ki 1)), pm 35 60]
def c48_1 : PCode := (.keep [1, 5, 26, 27, 33, 34, 35] [(16, .id 16)] [] (.seq (.block 3 (.seq (.reg p48_21) (.seq (.reg p48_22) (.cond (.tmp 59) (.seq (.reg p48_23) .ret) .skip)))) (.reg p48_24)))
def c48_2 : PCode := (.keep [1, 5, 26, 27, 33, 34, 35, 36] [(16, .id 16)] [] (.seq (.cond (.tmp 36) .skip (.keep [1, 26, 27] [(16, .id 16)] [] (.exit 2))) c48_1))
def c48_3 : PCode := (.keep [1, 5, 26, 27, 33, 34, 35] [(16, .id 16)] [] (.seq (.reg p48_20) c48_2))
def p48_25 : List PO := [po 61 (.arI .add (tm 27) (ki 1)), pm 27 61]
def c48_4 : PCode := (.keep [1, 26, 27] [(16, .id 16)] [] (.seq (.block 1 (.seq (.reg p48_17) (.seq (.reg p48_18) (.seq (.reg p48_19) (.block 2 (.loop c48_3)))))) (.reg p48_25)))
def c48_5 : PCode := (.keep [1, 26, 27, 28] [(16, .id 16)] [] (.seq (.cond (.tmp 28) .skip (.keep [] [] [] (.exit 0))) c48_4))
def c48_6 : PCode := (.keep [1, 26, 27] [(16, .id 16)] [] (.seq (.reg p48_16) c48_5))
def p48_26 : List PO := [po 2 (.mov (ki 0))]
def c48_7 : PCode := (.keep [1] [(16, .id 16)] [] (.seq (.seq (.reg p48_15) (.block 0 (.loop c48_6))) (.seq (.reg p48_26) .ret)))
def c48_8 : PCode := (.keep [1] [(16, .id 16)] [] (.seq (.seq (.reg p48_13) (.cond (.tmp 24) (.seq (.reg p48_14) .ret) .skip)) c48_7))
def c48_b : PCode := (.seq (.reg p48_9) (.seq (.seq (.reg p48_10) (.seq (.reg p48_11) (.cond (.tmp 14) (.seq (.reg p48_12) .ret) .skip))) c48_8))
def c48 : FCode := ⟨62, c48_b, [(.tmp 2)], some ([2], [], []), false⟩
theorem c48_ok : compF Go.Proofs.Tryz.prog [100014, 100017, 100019, 100031, 100035, 100036, 38, 100054, 100056, 63, 64, 65, 66, 68, 100070, 75, 80, 100081, 86, 87, 89, 91, 93, 95, 96, 97, 98, 102, 103, 104, 105, 113, 115, 117, 118, 120, 121, 123, 125, 126, 127, 129] 48 = some (eraseF c48) := by kernel_rfl
def p49_1 : List PO := [po 6 (.mov (.const (.bool .false)))]
def p49_2 : List PO := [pm 7 0, pm 8 1, po 9 (.cmpI .geq (tm 7) (tm 8)), pm 10 9, ⟨(.some 11), (.mov (tm 0)), (.some (10, .true))⟩, ⟨(.some 12), (.mov (tm 2)), (.some (10, .true))⟩, ⟨(.some 13), (.cmpI .leq (tm 11) (tm 12)), (.some (10, .true))⟩, po 14 (.pick (tm 10) (tm 13) (.const (.bool .false))), pm 6 14]
def c49_b : PCode := (.seq (.reg p49_1) (.seq (.reg p49_2) .ret))
def c49 : FCode := ⟨15, c49_b, [(.tmp 6)], some ([6], [], []), false⟩
theorem c49_ok : compF Go.Proofs.Tryz.prog [100014, 100017, 100019, 100031, 100035, 100036, 38, 100054, 100056, 63, 64, 65, 66, 68, 100070, 75, 80, 100081, 86, 87, 89, 91, 93, 95, 96, 97, 98, 102, 103, 104, 105, 113, 115, 117, 118, 120, 121, 123, 125, 126, 127, 129] 49 = some (eraseF c49) := by kernel_rfl
def p51_1 : List PO := [po 2 (.mov (.const (.bool .false)))]
def p51_2 : List PO := [pm 3 0, po 4 (.cmpI .geq (tm 3) (ki 1)), pm 5 4, ⟨(.some 6), (.mov (tm 0)), (.some (5, .true))⟩, ⟨(.some 7), (.cmpI .leq (tm 6) (ki 4)), (.some (5, .true))⟩, po 8 (.pick (tm 5) (tm 7) (.const (.bool .false))), pm 2 8]
def c51_b : PCode := (.seq (.reg p51_1) (.seq (.reg p51_2) .ret))
def c51 : FCode := ⟨9, c51_b, [(.tmp 2)], some ([2], [], []), false⟩
theorem c51_ok : compF Go.Proofs.Tryz.prog [100014, 100017, 100019, 100031, 100035, 100036, 38, 100054, 100056, 63, 64, 65, 66, 68, 100070, 75, 80, 100081, 86, 87, 89, 91, 93, 95, 96, 97, 98, 102, 103, 104, 105, 113, 115, 117, 118, 120, 121, 123, 125, 126, 127, 129] 51 = some (eraseF c51) := by kernel_rfl
def p52_4 : List PO := [po 2 (.mov (.const (.bool .false)))]
def p52_5 : List PO := [pm 5 0, po 6 (.len .false (tm 5)), po 7 (.mov (ki 0))]
def p52_6 : List PO := [po 8 (.cmpI .lss (tm 7) (tm 6))]
def p52_7 : List PO := [po 9 (.ixS 87 1 (tm 5) (tm 7)), po 10 (.load .true 1 (tm 9)), po 4 (.alloc [(1, (.slice .none 0 0))]), ⟨.none, (.store 1 (tm 4) (tm 10)), .none⟩]
def p52_8 : List PO := [po 11 (.fld 0 (tm 4)), po 12 (.load .false 1 (tm 11)), po 13 (.len .false (tm 12)), po 14 (.fld 0 (tm 4)), po 15 (.load .false 1 (tm 14)), po 16 (.build [(2, (.int .i64 0)), (1, (.slice .none 0 0))] [(0, (1, (tm 13))), (1, (1, (ki 1))), (2, (1, (tm 15)))]), po 17 (.call 48 [(tm 16)]), po 18 (.cmpI .neq (tm 17) (ki 0))]
def p52_9 : List PO := [po 2 (.mov (.const (.bool .false)))]
def p52_10 : List PO := [po 19 (.arI .add (tm 7) (ki 1)), pm 7 19]
def c52_1 : PCode := (.keep [0, 5, 6, 7] [] [] (.seq (.block 1 (.seq (.reg p52_7) (.seq (.reg p52_8) (.cond (.tmp 18) (.seq (.reg p52_9) .ret) .skip)))) (.reg p52_10)))
def c52_2 : PCode := (.keep [0, 5, 6, 7, 8] [] [] (.seq (.cond (.tmp 8) .skip (.keep [0] [] [] (.exit 0))) c52_1))
def c52_3 : PCode := (.keep [0, 5, 6, 7] [] [] (.seq (.reg p52_6) c52_2))
def p52_11 : List PO := [pm 20 0, po 21 (.len .false (tm 20)), po 22 (.cmpI .leq (tm 21) (ki 40)), pm 2 22]
def c52_b : PCode := (.seq (.reg p52_4) (.seq (.seq (.reg p52_5) (.block 0 (.loop c52_3))) (.seq (.reg p52_11) .ret)))
def c52 : FCode := ⟨23, c52_b, [(.tmp 2)], some ([2], [], []), false⟩
theorem c52_ok : compF Go.Proofs.Tryz.prog [100014, 100017, 100019, 100031, 100035, 100036, 38, 100054, 100056, 63, 64, 65, 66, 68, 100070, 75, 80, 100081, 86, 87, 89, 91, 93, 95, 96, 97, 98, 102, 103, 104, 105, 113, 115, 117, 118, 120, 121, 123, 125, 126, 127, 129] 52 = some (eraseF c52) := by kernel_rfl
def p28_10 : List PO := [po 1 (.box 33 (tm 0)), po 2 (.mov (ki 0))]
def p28_11 : List PO := [po 7 (.fld 0 (tm 1)), po 8 (.load .true 3 (tm 7)), po 9 (.fld 28 (tm 1)), po 10 (.load .true 3 (tm 9)), po 3 (.alloc [(2, (.int .i64 0)), (1, (.slice .none 0 0))]), po 4 (.alloc [(2, (.int .i64 0)), (1, (.slice .none 0 0))]), ⟨.none, (.store 3 (tm 3) (tm 8)), .none⟩, ⟨.none, (.store 3 (tm 4) (tm 10)), .none⟩]
def p28_12 : List PO := [po 11 (.load .true 3 (tm 3)), po 12 (.call 48 [(tm 11)]), po 13 (.cmpI .eql (tm 12) (ki 0)), pm 14 13, ⟨(.some 15), (.load .true 3 (tm 4)), (.some (14, .true))⟩, ⟨(.some 16), (.call 48 [(tm 15)]), (.some (14, .true))⟩, ⟨(.some 17), (.cmpI .eql (tm 16) (ki 0)), (.some (14, .true))⟩, po 18 (.pick (tm 14) (tm 17) (.const (.bool .false))), pm 19 18, ⟨(.some 20), (.fld 0 (tm 3)), (.some (19, .true))⟩, ⟨(.some 21), (.load .false 1 (tm 20)), (.some (19, .true))⟩, ⟨(.some 22), (.fld 0 (tm 4)), (.some (19, .true))⟩, ⟨(.some 23), (.load .false 1 (tm 22)), (.some (19, .true))⟩, ⟨(.some 24), (.cmpI .eql (tm 21) (tm 23)), (.some (19, .true))⟩, po 25 (.pick (tm 19) (tm 24) (.const (.bool .false))), pm 26 25, ⟨(.some 27), (.fld 1 (tm 3)), (.some (26, .true))⟩, ⟨(.some 28), (.load .false 1 (tm 27)), (.some (26, .true))⟩, ⟨(.some 29), (.fld 1 (tm 4)), (.some (26, .true))⟩, ⟨(.some 30), (.load .false 1 (tm 29)), (.some (26, .true))⟩, ⟨(.some 31), (.cmpI .eql (tm 28) (tm 30)), (.some (26, .true))⟩, po 32 (.pick (tm 26) (tm 31) (.const (.bool .false))), pm 5 32]
def p28_13 : List PO := [pm 33 5, pm 34 33, ⟨(.some 35), (.fld 3 (tm 1)), (.some (34, .true))⟩, ⟨(.some 36), (.load .false 1 (tm 35)), (.some (34, .true))⟩, ⟨(.some 37), (.fld 1 (tm 3)), (.some (34, .true))⟩, ⟨(.some 38), (.load .false 1 (tm 37)), (.some (34, .true))⟩, ⟨(.some 39), (.arI .sub (tm 38) (ki 1)), (.some (34, .true))⟩, ⟨(.some 40), (.call 49 [(tm 36), (ki 0), (tm 39)]), (.some (34, .true))⟩, po 41 (.pick (tm 34) (tm 40) (.const (.bool .false))), pm 42 41, ⟨(.some 43), (.fld 4 (tm 1)), (.some (42, .true))⟩, ⟨(.some 44), (.load .false 1 (tm 43)), (.some (42, .true))⟩, ⟨(.some 45), (.fld 0 (tm 3)), (.some (42, .true))⟩, ⟨(.some 46), (.load .false 1 (tm 45)), (.some (42, .true))⟩, ⟨(.some 47), (.arI .sub (tm 46) (ki 1)), (.some (42, .true))⟩, ⟨(.some 48), (.call 49 [(tm 44), (ki 0), (tm 47)]), (.some (42, .true))⟩, po 49 (.pick (tm 42) (tm 48) (.const (.bool .false))), pm 50 49, ⟨(.some 51), (.fld 5 (tm 1)), (.some (50, .true))⟩, ⟨(.some 52), (.load .false 1 (tm 51)), (.some (50, .true))⟩, ⟨(.some 53), (.un .not (tm 52)), (.some (50, .true))⟩, ⟨(.some 54), (.mov (tm 53)), (.some (50, .true))⟩, ⟨(.some 55), (.fld 4 (tm 1)), (.some (54, .false))⟩, ⟨(.some 56), (.load .false 1 (tm 55)), (.some (54, .false))⟩, ⟨(.some 57), (.fld 0 (tm 3)), (.some (54, .false))⟩, ⟨(.some 58), (.load .false 1 (tm 57)), (.some (54, .false))⟩, ⟨(.some 59), (.arI .sub (tm 58) (ki 1)), (.some (54, .false))⟩, ⟨(.some 60), (.cmpI .eql (tm 56) (tm 59)), (.some (54, .false))⟩, ⟨(.some 61), (.pick (tm 54) (.const (.bool .true)) (tm 60)), (.some (50, .true))⟩, po 62 (.pick (tm 50) (tm 61) (.const (.bool .false))), pm 5 62]
def p28_14 : List PO := [pm 63 5, pm 64 63, ⟨(.some 65), (.fld 6 (tm 1)), (.some (64, .true))⟩, ⟨(.some 66), (.load .false 1 (tm 65)), (.some (64, .true))⟩, ⟨(.some 67), (.fld 7 (tm 1)), (.some (64, .true))⟩, ⟨(.some 68), (.load .false 1 (tm 67)), (.some (64, .true))⟩, ⟨(.some 69), (.arI .sub (tm 68) (ki 1)), (.some (64, .true))⟩, ⟨(.some 70), (.call 49 [(tm 66), (ki 0), (tm 69)]), (.some (64, .true))⟩, po 71 (.pick (tm 64) (tm 70) (.const (.bool .false))), pm 72 71, ⟨(.some 73), (.fld 7 (tm 1)), (.some (72, .true))⟩, ⟨(.some 74), (.load .false 1 (tm 73)), (.some (72, .true))⟩, ⟨(.some 75), (.fld 1 (tm 3)), (.some (72, .true))⟩, ⟨(.some 76), (.load .false 1 (tm 75)), (.some (72, .true))⟩, ⟨(.some 77), (.cmpI .leq (tm 74) (tm 76)), (.some (72, .true))⟩, po 78 (.pick (tm 72) (tm 77) (.const (.bool .false))), pm 5 78]
def p28_15 : List PO := [pm 79 5, pm 80 79, ⟨(.some 81), (.fld 8 (tm 1)), (.some (80, .true))⟩, ⟨(.some 82), (.load .true 3 (tm 81)), (.some (80, .true))⟩, ⟨(.some 83), (.call 50 [(tm 82)]), (.some (80, .true))⟩, ⟨(.some 84), (.cmpI .eql (tm 83) (ki 0)), (.some (80, .true))⟩, po 85 (.pick (tm 80) (tm 84) (.const (.bool .false))), pm 86 85, ⟨(.some 87), (.fld 19 (tm 1)), (.some (86, .true))⟩, ⟨(.some 88), (.fld 2 (tm 87)), (.some (86, .true))⟩, ⟨(.some 89), (.load .true 3 (tm 88)), (.some (86, .true))⟩, ⟨(.some 90), (.call 50 [(tm 89)]), (.some (86, .true))⟩, ⟨(.some 91), (.cmpI .eql (tm 90) (ki 0)), (.some (86, .true))⟩, po 92 (.pick (tm 86) (tm 91) (.const (.bool .false))), pm 93 92, ⟨(.some 94), (.fld 11 (tm 1)), (.some (93, .true))⟩, ⟨(.some 95), (.load .false 1 (tm 94)), (.some (93, .true))⟩, ⟨(.some 96), (.call 49 [(tm 95), (ki 0), (ki 2047)]), (.some (93, .true))⟩, po 97 (.pick (tm 93) (tm 96) (.const (.bool .false))), pm 5 97]
def p28_16 : List PO := [po 98 (.mov (ki 0))]
def p28_17 : List PO := [po 99 (.cmpI .lss (tm 98) (ki 2))]
def p28_18 : List PO := [pm 100 98, pm 6 100]
def p28_19 : List PO := [pm 101 5, pm 102 101, ⟨(.some 103), (.mov (tm 6)), (.some (102, .true))⟩, ⟨(.some 104), (.fld 16 (tm 1)), (.some (102, .true))⟩, ⟨(.some 105), (.ixA 2 1 (tm 104) (tm 103)), (.some (102, .true))⟩, ⟨(.some 106), (.load .false 1 (tm 105)), (.some (102, .true))⟩, ⟨(.some 107), (.call 51 [(tm 106)]), (.some (102, .true))⟩, po 108 (.pick (tm 102) (tm 107) (.const (.bool .false))), pm 109 108, ⟨(.some 110), (.mov (tm 6)), (.some (109, .true))⟩, ⟨(.some 111), (.fld 19 (tm 1)), (.some (109, .true))⟩, ⟨(.some 112), (.fld 6 (tm 111)), (.some (109, .true))⟩, ⟨(.some 113), (.ixA 2 1 (tm 112) (tm 110)), (.some (109, .true))⟩, ⟨(.some 114), (.load .false 1 (tm 113)), (.some (109, .true))⟩, ⟨(.some 115), (.call 51 [(tm 114)]), (.some (109, .true))⟩, po 116 (.pick (tm 109) (tm 115) (.const (.bool .false))), pm 5 116]
def p28_20 : List PO := [po 117 (.arI .add (tm 98) (ki 1)), pm 98 117]
def c28_4 : PCode := (.keep [1, 5, 98] [(16, .id 16)] [] (.seq (.block 1 (.seq (.reg p28_18) (.reg p28_19))) (.reg p28_20)))
def c28_5 : PCode := (.loop (.seq (.reg p28_17) (.seq (.cond (.tmp 99) .skip (.exit 0)) c28_4)))
def p28_21 : List PO := [pm 118 5, pm 119 118, ⟨(.some 120), (.fld 18 (tm 1)), (.some (119, .true))⟩, ⟨(.some 121), (.load .false 1 (tm 120)), (.some (119, .true))⟩, ⟨(.some 122), (.call 49 [(tm 121), (ki 0), (ki 1)]), (.some (119, .true))⟩, po 123 (.pick (tm 119) (tm 122) (.const (.bool .false))), pm 124 123, ⟨(.some 125), (.fld 19 (tm 1)), (.some (124, .true))⟩, ⟨(.some 126), (.fld 8 (tm 125)), (.some (124, .true))⟩, ⟨(.some 127), (.load .false 1 (tm 126)), (.some (124, .true))⟩, ⟨(.some 128), (.call 49 [(tm 127), (ki 0), (ki 1)]), (.some (124, .true))⟩, po 129 (.pick (tm 124) (tm 128) (.const (.bool .false))), pm 5 129]
def p28_22 : List PO := [pm 130 5, pm 131 130, ⟨(.some 132), (.fld 19 (tm 1)), (.some (131, .true))⟩, ⟨(.some 133), (.fld 0 (tm 132)), (.some (131, .true))⟩, ⟨(.some 134), (.load .false 1 (tm 133)), (.some (131, .true))⟩, ⟨(.some 135), (.call 49 [(tm 134), (ki 0), (ki 59)]), (.some (131, .true))⟩, po 136 (.pick (tm 131) (tm 135) (.const (.bool .false))), pm 137 136, ⟨(.some 138), (.fld 19 (tm 1)), (.some (137, .true))⟩, ⟨(.some 139), (.fld 1 (tm 138)), (.some (137, .true))⟩, ⟨(.some 140), (.load .false 1 (tm 139)), (.some (137, .true))⟩, ⟨(.some 141), (.call 49 [(tm 140), (ki 0), (ki 159)]), (.some (137, .true))⟩, po 142 (.pick (tm 137) (tm 141) (.const (.bool .false))), pm 5 142]
def p28_23 : List PO := [pm 143 5, pm 144 143, ⟨(.some 145), (.fld 31 (tm 1)), (.some (144, .true))⟩, ⟨(.some 146), (.load .false 1 (tm 145)), (.some (144, .true))⟩, ⟨(.some 147), (.len .true (tm 146)), (.some (144, .true))⟩, ⟨(.some 148), (.cmpI .leq (tm 147) (ki 256)), (.some (144, .true))⟩, po 149 (.pick (tm 144) (tm 148) (.const (.bool .false))), pm 150 149, ⟨(.some 151), (.fld 32 (tm 1)), (.some (150, .true))⟩, ⟨(.some 152), (.load .false 1 (tm 151)), (.some (150, .true))⟩, ⟨(.some 153), (.call 52 [(tm 152)]), (.some (150, .true))⟩, po 154 (.pick (tm 150) (tm 153) (.const (.bool .false))), pm 5 154]
def p28_24 : List PO := [pm 155 5, po 156 (.un .not (tm 155))]
def p28_25 : List PO := [po 2 (.mov (ki 4))]
def p28_26 : List PO := [po 2 (.mov (ki 0))]
def c28_1 : PCode := (.keep [1, 5] [(16, .id 16)] [] (.seq (.reg p28_23) (.seq (.seq (.reg p28_24) (.cond (.tmp 156) (.seq (.reg p28_25) .ret) .skip)) (.seq (.reg p28_26) .ret))))
def c28_2 : PCode := (.keep [1, 5] [(16, .id 16)] [] (.seq (.reg p28_22) c28_1))
def c28_3 : PCode := (.keep [1, 5] [(16, .id 16)] [] (.seq (.reg p28_21) c28_2))
def c28_6 : PCode := (.keep [1, 5] [(16, .id 16)] [] (.seq (.seq (.reg p28_16) (.block 0 c28_5)) c28_3))
def c28_7 : PCode := (.keep [1, 5] [(16, .id 16)] [] (.seq (.reg p28_15) c28_6))
def c28_8 : PCode := (.keep [1, 3, 5] [(16, .id 16), (32, .id 32)] [] (.seq (.reg p28_14) c28_7))
def c28_9 : PCode := (.keep [1, 3, 5] [(16, .id 16), (32, .id 32)] [] (.seq (.reg p28_13) c28_8))
def c28_b : PCode := (.seq (.reg p28_10) (.seq (.regD p28_11 [(1, 4), (3, 4), (1, 5), (3, 5), (4, 5), (3, 6)]) (.seq (.reg p28_12) c28_9)))
def c28 : FCode := ⟨157, c28_b, [(.tmp 2)], some ([2], [], []), false⟩
theorem c28_ok : compF Go.Proofs.Tryz.prog [100014, 100017, 100019, 100031, 100035, 100036, 38, 100054, 100056, 63, 64, 65, 66, 68, 100070, 75, 80, 100081, 86, 87, 89, 91, 93, 95, 96, 97, 98, 102, 103, 104, 105, 113, 115, 117, 118, 120, 121, 123, 125, 126, 127, 129] 28 = some (eraseF c28) := by kernel_rfl
def p60_1 : List PO := [po 2 (.nilS 58 4)]
def p60_2 : List PO := [pm 3 0, po 4 (.isN .false (tm 3))]
def p60_3 : List PO := [po 2 (.nilS 58 4)]
def p60_4 : List PO := [po 5 (.bsl 58 4 0 [] []), pm 6 0, po 7 (.app 58 4 32 (tm 5) (tm 6)), pm 2 7]
def c60_b : PCode := (.seq (.reg p60_1) (.seq (.seq (.reg p60_2) (.cond (.tmp 4) (.seq (.reg p60_3) .ret) .skip)) (.seq (.reg p60_4) .ret)))
def c60 : FCode := ⟨8, c60_b, [(.tmp 2)], some ([2], [(97, (.slot 2 none))], []), true⟩
theorem c60_ok : compF Go.Proofs.Tryz.prog [100014, 100017, 100019, 100031, 100035, 100036, 38, 100054, 100056, 63, 64, 65, 66, 68, 100070, 75, 80, 100081, 86, 87, 89, 91, 93, 95, 96, 97, 98, 102, 103, 104, 105, 113, 115, 117, 118, 120, 121, 123, 125, 126, 127, 129] 60 = some (eraseF c60) := by kernel_rfl
def p54_1 : List PO := [po 1 (.box 3 (tm 0)), po 2 (.alloc [(2, (.int .i64 0)), (1, (.slice .none 0 0))])]
def p54_2 : List PO := [po 3 (.fld 2 (tm 1)), po 4 (.load .false 1 (tm 3)), po 5 (.call 60 [(tm 4)]), po 6 (.fld 2 (tm 1)), ⟨.none, (.store 1 (tm 6) (tm 5)), .none⟩]
def p54_3 : List PO := [po 7 (.load .true 3 (tm 1)), ⟨.none, (.store 3 (tm 2) (tm 7)), .none⟩]
def c54_b : PCode := (.seq (.reg p54_1) (.seq (.reg p54_2) (.seq (.reg p54_3) .ret)))
def c54 : FCode := ⟨8, c54_b, [(.cell 2 .true 3)], some ([2], [(24, .id 24), (48, .id 48)], []), false⟩
theorem c54_ok : compF Go.Proofs.Tryz.prog [100014, 100017, 100019, 100031, 100035, 100036, 38, 100054, 100056, 63, 64, 65, 66, 68, 100070, 75, 80, 100081, 86, 87, 89, 91, 93, 95, 96, 97, 98, 102, 103, 104, 105, 113, 115, 117, 118, 120, 121, 123, 125, 126, 127, 129] 54 = some (eraseF c54) := by kernel_rfl
def p36_4 : List PO := [po 1 (.box 33 (tm 0)), po 2 (.alloc [(2, (.int .i64 0)), (1, (.slice .none 0 0)), (2, (.int .i64 0)), (1, (.bool .false)), (6, (.int .i64 0)), (4, (.int .u64 0)), (8, (.int .i64 0)), (1, (.bool .false)), (5, (.int .i64 0)), (1, (.slice .none 0 0)), (1, (.string ⟨#[]⟩)), (1, (.slice .none 0 0))])]
def p36_5 : List PO := [po 6 (.fld 0 (tm 1)), po 7 (.load .true 3 (tm 6)), po 8 (.callf 54 [(tm 7)]), po 9 (.fld 28 (tm 1)), po 10 (.load .true 3 (tm 9)), po 11 (.callf 54 [(tm 10)]), po 12 (.fld 0 (tm 1)), ⟨.none, (.store 3 (tm 12) (tm 8)), .none⟩, po 13 (.fld 28 (tm 1)), ⟨.none, (.store 3 (tm 13) (tm 11)), .none⟩]
def p36_6 : List PO := [po 3 (.nilS 87 1)]
def p36_7 : List PO := [po 14 (.fld 32 (tm 1)), po 15 (.load .false 1 (tm 14)), po 16 (.len .false (tm 15)), po 17 (.mov (ki 0))]
def p36_8 : List PO := [po 18 (.cmpI .lss (tm 17) (tm 16))]
def p36_9 : List PO := [po 19 (.ixS 87 1 (tm 15) (tm 17)), po 20 (.load .true 1 (tm 19)), po 5 (.alloc [(1, (.slice .none 0 0))]), ⟨.none, (.store 1 (tm 5) (tm 20)), .none⟩]
def p36_10 : List PO := [pm 21 3, po 22 (.fld 0 (tm 5)), po 23 (.load .false 1 (tm 22)), po 24 (.call 60 [(tm 23)]), po 25 (.build [(1, (.slice .none 0 0))] [(0, (1, (tm 24)))]), po 26 (.bsl 87 1 1 [(1, (.slice .none 0 0))] [(0, (1, (tm 25)))]), po 27 (.app 87 1 24 (tm 21) (tm 26)), pm 3 27]
def p36_11 : List PO := [po 28 (.arI .add (tm 17) (ki 1)), pm 17 28]
def c36_1 : PCode := (.keep [1, 2, 3, 15, 16, 17] [(16, .id 16), (72, .id 72), (96, .id 96), (24, .id 24), (32, .id 32)] [] (.seq (.block 1 (.seq (.reg p36_9) (.reg p36_10))) (.reg p36_11)))
def c36_2 : PCode := (.keep [1, 2, 3, 15, 16, 17, 18] [(16, .id 16), (72, .id 72), (96, .id 96), (24, .id 24), (32, .id 32)] [] (.seq (.cond (.tmp 18) .skip (.keep [1, 2, 3] [(16, .id 16), (72, .id 72), (96, .id 96), (24, .id 24), (32, .id 32)] [] (.exit 0))) c36_1))
def c36_3 : PCode := (.keep [1, 2, 3, 15, 16, 17] [(16, .id 16), (72, .id 72), (96, .id 96), (24, .id 24), (32, .id 32)] [.cell 24 2 0 0 1, .cell 24 30 0 0 1, .cell 24 32 0 0 1] (.seq (.reg p36_8) c36_2))
def p36_12 : List PO := [pm 29 3, po 30 (.fld 32 (tm 1)), ⟨.none, (.store 1 (tm 30) (tm 29)), .none⟩]
def p36_13 : List PO := [po 31 (.load .true 33 (tm 1)), ⟨.none, (.store 33 (tm 2) (tm 31)), .none⟩]
def c36_b : PCode := (.seq (.reg p36_4) (.seq (.regD p36_5 [(2, 4)]) (.seq (.reg p36_6) (.seq (.seq (.reg p36_7) (.block 0 (.loop c36_3))) (.seq (.reg p36_12) (.seq (.reg p36_13) .ret))))))
def c36 : FCode := ⟨32, c36_b, [(.cell 2 .true 33)], some ([2], [(24, .id 24), (72, .id 72), (96, .id 96), (32, .id 32)], []), false⟩
theorem c36_ok : compF Go.Proofs.Tryz.prog [100014, 100017, 100019, 100031, 100035, 100036, 38, 100054, 100056, 63, 64, 65, 66, 68, 100070, 75, 80, 100081, 86, 87, 89, 91, 93, 95, 96, 97, 98, 102, 103, 104, 105, 113, 115, 117, 118, 120, 121, 123, 125, 126, 127, 129] 36 = some (eraseF c36) := by kernel_rfl
def p62_1 : List PO := [po 2 (.mov (.const (.bool .false)))]
def p62_2 : List PO := [pm 3 0, po 4 (.call 49 [(tm 3), (ki (-1)), (ki 16383)]), po 5 (.un .not (tm 4)), pm 2 5]
def c62_b : PCode := (.seq (.reg p62_1) (.seq (.reg p62_2) .ret))
def c62 : FCode := ⟨6, c62_b, [(.tmp 2)], some ([2], [], []), false⟩
theorem c62_ok : compF Go.Proofs.Tryz.prog [100014, 100017, 100019, 100031, 100035, 100036, 38, 100054, 100056, 63, 64, 65, 66, 68, 100070, 75, 80, 100081, 86, 87, 89, 91, 93, 95, 96, 97, 98, 102, 103, 104, 105, 113, 115, 117, 118, 120, 121, 123, 125, 126, 127, 129] 62 = some (eraseF c62) := by kernel_rfl
def p84_4 : List PO := [po 4 (.mov (ki 0))]
def p84_5 : List PO := [pm 6 0, po 7 (.len .false (tm 6)), po 8 (.mov (ki 0))]
def p84_6 : List PO := [po 9 (.cmpI .lss (tm 8) (tm 7))]
def p84_7 : List PO := [pm 10 8, pm 5 10]
def p84_8 : List PO := [pm 11 1, pm 12 0, pm 13 5, po 14 (.ixS 3 1 (tm 12) (tm 13)), po 15 (.load .false 1 (tm 14)), po 16 (.callv (tm 11) [(tm 15)])]
def p84_9 : List PO := [pm 17 5, pm 4 17]
def p84_10 : List PO := [po 18 (.arI .add (tm 8) (ki 1)), pm 8 18]
def c84_1 : PCode := (.keep [0, 1, 7, 8] [] [] (.seq (.block 1 (.seq (.reg p84_7) (.seq (.reg p84_8) (.cond (.tmp 16) (.seq (.reg p84_9) .ret) .skip)))) (.reg p84_10)))
def c84_2 : PCode := (.keep [0, 1, 7, 8, 9] [] [] (.seq (.cond (.tmp 9) .skip (.keep [] [] [] (.exit 0))) c84_1))
def c84_3 : PCode := (.keep [0, 1, 7, 8] [] [] (.seq (.reg p84_6) c84_2))
def p84_11 : List PO := [po 4 (.mov (ki (-1)))]
def c84_b : PCode := (.seq (.reg p84_4) (.seq (.seq (.reg p84_5) (.block 0 (.loop c84_3))) (.seq (.reg p84_11) .ret)))
def c84 : FCode := ⟨19, c84_b, [(.tmp 4)], some ([4], [], []), false⟩
theorem c84_ok : compF Go.Proofs.Tryz.prog [100014, 100017, 100019, 100031, 100035, 100036, 38, 100054, 100056, 63, 64, 65, 66, 68, 100070, 75, 80, 100081, 86, 87, 89, 91, 93, 95, 96, 97, 98, 102, 103, 104, 105, 113, 115, 117, 118, 120, 121, 123, 125, 126, 127, 129] 84 = some (eraseF c84) := by kernel_rfl
def p61_1 : List PO := [po 4 (.mov (.const (.bool .false)))]
def p61_2 : List PO := [pm 5 0, pm 6 1, po 7 (.call 84 [(tm 5), (tm 6)]), po 8 (.cmpI .geq (tm 7) (ki 0)), pm 4 8]
def c61_b : PCode := (.seq (.reg p61_1) (.seq (.reg p61_2) .ret))
def c61 : FCode := ⟨9, c61_b, [(.tmp 4)], some ([4], [], []), false⟩
theorem c61_ok : compF Go.Proofs.Tryz.prog [100014, 100017, 100019, 100031, 100035, 100036, 38, 100054, 100056, 63, 64, 65, 66, 68, 100070, 75, 80, 100081, 86, 87, 89, 91, 93, 95, 96, 97, 98, 102, 103, 104, 105, 113, 115, 117, 118, 120, 121, 123, 125, 126, 127, 129] 61 = some (eraseF c61) := by kernel_rfl
def p37_4 : List PO := [po 2 (.mov (ki 0))]
def p37_5 : List PO := [pm 5 0, po 6 (.len .false (tm 5)), po 7 (.mov (ki 0))]
def p37_6 : List PO := [po 8 (.cmpI .lss (tm 7) (tm 6))]
def p37_7 : List PO := [po 9 (.ixS 45 6 (tm 5) (tm 7)), po 10 (.load .true 6 (tm 9)), po 4 (.alloc [(3, (.int .i64 0)), (1, (.string ⟨#[]⟩)), (1, (.slice .none 0 0)), (1, (.string ⟨#[]⟩))]), ⟨.none, (.store 6 (tm 4) (tm 10)), .none⟩]
def p37_8 : List PO := [po 11 (.fld 4 (tm 4)), po 12 (.load .false 1 (tm 11)), po 13 (.len .false (tm 12)), po 14 (.cmpI .gtr (tm 13) (ki 32)), pm 15 14, ⟨(.some 16), (.fld 5 (tm 4)), (.some (15, .false))⟩, ⟨(.some 17), (.load .false 1 (tm 16)), (.some (15, .false))⟩, ⟨(.some 18), (.len .true (tm 17)), (.some (15, .false))⟩, ⟨(.some 19), (.cmpI .gtr (tm 18) (ki 256)), (.some (15, .false))⟩, po 20 (.pick (tm 15) (.const (.bool .true)) (tm 19)), pm 21 20, ⟨(.some 22), (.fld 4 (tm 4)), (.some (21, .false))⟩, ⟨(.some 23), (.load .false 1 (tm 22)), (.some (21, .false))⟩, ⟨(.some 24), (.call 61 [(tm 23), (.func 62)]), (.some (21, .false))⟩, po 25 (.pick (tm 21) (.const (.bool .true)) (tm 24))]
def p37_9 : List PO := [po 2 (.mov (ki 1))]
def p37_10 : List PO := [po 26 (.arI .add (tm 7) (ki 1)), pm 7 26]
def c37_1 : PCode := (.keep [5, 6, 7] [] [] (.seq (.block 1 (.seq (.reg p37_7) (.seq (.reg p37_8) (.cond (.tmp 25) (.seq (.reg p37_9) .ret) .skip)))) (.reg p37_10)))
def c37_2 : PCode := (.keep [5, 6, 7, 8] [] [] (.seq (.cond (.tmp 8) .skip (.keep [] [] [] (.exit 0))) c37_1))
def c37_3 : PCode := (.keep [5, 6, 7] [] [] (.seq (.reg p37_6) c37_2))
def p37_11 : List PO := [po 2 (.mov (ki 0))]
def c37_b : PCode := (.seq (.reg p37_4) (.seq (.seq (.reg p37_5) (.block 0 (.loop c37_3))) (.seq (.reg p37_11) .ret)))
def c37 : FCode := ⟨27, c37_b, [(.tmp 2)], some ([2], [], []), false⟩
theorem c37_ok : compF Go.Proofs.Tryz.prog [100014, 100017, 100019, 100031, 100035, 100036, 38, 100054, 100056, 63, 64, 65, 66, 68, 100070, 75, 80, 100081, 86, 87, 89, 91, 93, 95, 96, 97, 98, 102, 103, 104, 105, 113, 115, 117, 118, 120, 121, 123, 125, 126, 127, 129] 37 = some (eraseF c37) := by kernel_rfl
def p101_1 : List PO := [po 6 (.mov (ki 0))]
def p101_2 : List PO := [pm 7 1, po 8 (.cmpI .lss (tm 7) (ki 0)), pm 9 8, ⟨(.some 10), (.mov (tm 1)), (.some (9, .false))⟩, ⟨(.some 11), (.mov (tm 0)), (.some (9, .false))⟩, ⟨(.some 12), (.len .false (tm 11)), (.some (9, .false))⟩, ⟨(.some 13), (.cmpI .geq (tm 10) (tm 12)), (.some (9, .false))⟩, po 14 (.pick (tm 9) (.const (.bool .true)) (tm 13)), pm 15 14, ⟨(.some 16), (.mov (tm 0)), (.some (15, .false))⟩, ⟨(.some 17), (.mov (tm 1)), (.some (15, .false))⟩, ⟨(.some 18), (.ixS 3 1 (tm 16) (tm 17)), (.some (15, .false))⟩, ⟨(.some 19), (.load .false 1 (tm 18)), (.some (15, .false))⟩, ⟨(.some 20), (.cmpI .eql (tm 19) (ki (-1))), (.some (15, .false))⟩, po 21 (.pick (tm 15) (.const (.bool .true)) (tm 20))]
def p101_3 : List PO := [pm 22 2, pm 6 22]
def p101_4 : List PO := [pm 23 0, pm 24 1, po 25 (.ixS 3 1 (tm 23) (tm 24)), po 26 (.load .false 1 (tm 25)), pm 6 26]
def c101_b : PCode := (.seq (.reg p101_1) (.seq (.seq (.reg p101_2) (.cond (.tmp 21) (.seq (.reg p101_3) .ret) .skip)) (.seq (.reg p101_4) .ret)))
def c101 : FCode := ⟨27, c101_b, [(.tmp 6)], some ([6], [], []), false⟩
theorem c101_ok : compF Go.Proofs.Tryz.prog [100014, 100017, 100019, 100031, 100035, 100036, 38, 100054, 100056, 63, 64, 65, 66, 68, 100070, 75, 80, 100081, 86, 87, 89, 91, 93, 95, 96, 97, 98, 102, 103, 104, 105, 113, 115, 117, 118, 120, 121, 123, 125, 126, 127, 129] 101 = some (eraseF c101) := by kernel_rfl
def p100_1 : List PO := [po 4 (.mov (ki 0))]
def p100_2 : List PO := [pm 5 0, pm 6 1, po 7 (.call 101 [(tm 5), (tm 6), (ki 1)]), po 8 (.mx [(tm 7), (ki 1)]), pm 4 8]
def c100_b : PCode := (.seq (.reg p100_1) (.seq (.reg p100_2) .ret))
def c100 : FCode := ⟨9, c100_b, [(.tmp 4)], some ([4], [], []), false⟩
theorem c100_ok : compF Go.Proofs.Tryz.prog [100014, 100017, 100019, 100031, 100035, 100036, 38, 100054, 100056, 63, 64, 65, 66, 68, 100070, 75, 80, 100081, 86, 87, 89, 91, 93, 95, 96, 97, 98, 102, 103, 104, 105, 113, 115, 117, 118, 120, 121, 123, 125, 126, 127, 129] 100 = some (eraseF c100) := by kernel_rfl
def p112_1 : List PO := [po 6 (.mov (ki 0))]
def p112_2 : List PO := [pm 7 1, pm 8 0, pm 9 2, po 10 (.mn [(tm 8), (tm 9)]), po 11 (.mx [(tm 7), (tm 10)]), pm 6 11]
def c112_b : PCode := (.seq (.reg p112_1) (.seq (.reg p112_2) .ret))
def c112 : FCode := ⟨12, c112_b, [(.tmp 6)], some ([6], [], []), false⟩
theorem c112_ok : compF Go.Proofs.Tryz.prog [100014, 100017, 100019, 100031, 100035, 100036, 38, 100054, 100056, 63, 64, 65, 66, 68, 100070, 75, 80, 100081, 86, 87, 89, 91, 93, 95, 96, 97, 98, 102, 103, 104, 105, 113, 115, 117, 118, 120, 121, 123, 125, 126, 127, 129] 112 = some (eraseF c112) := by kernel_rfl
def p117_5 : List PO := [pm 6 0, po 7 (.nilC (tm 6)), po 8 (.fld 0 (tm 7)), po 9 (.fld 0 (tm 8)), po 10 (.fld 1 (tm 9)), po 11 (.load .false 1 (tm 10)), po 12 (.arI .sub (tm 11) (ki 1)), po 4 (.mov (ki 0)), pm 5 12]
def p117_6 : List PO := [pm 13 1, po 14 (.cmpI .gtr (tm 13) (ki 0)), pm 15 14, ⟨(.some 16), (.mov (tm 0)), (.some (15, .true))⟩, ⟨(.some 17), (.nilC (tm 16)), (.some (15, .true))⟩, ⟨(.some 18), (.fld 0 (tm 17)), (.some (15, .true))⟩, ⟨(.some 19), (.fld 3 (tm 18)), (.some (15, .true))⟩, ⟨(.some 20), (.load .false 1 (tm 19)), (.some (15, .true))⟩, ⟨(.some 21), (.mov (tm 0)), (.some (15, .true))⟩, ⟨(.some 22), (.nilC (tm 21)), (.some (15, .true))⟩, ⟨(.some 23), (.fld 0 (tm 22)), (.some (15, .true))⟩, ⟨(.some 24), (.fld 6 (tm 23)), (.some (15, .true))⟩, ⟨(.some 25), (.load .false 1 (tm 24)), (.some (15, .true))⟩, ⟨(.some 26), (.cmpI .geq (tm 20) (tm 25)), (.some (15, .true))⟩, po 27 (.pick (tm 15) (tm 26) (.const (.bool .false)))]
def p117_7 : List PO := [pm 28 0, po 29 (.nilC (tm 28)), po 30 (.fld 0 (tm 29)), po 31 (.fld 6 (tm 30)), po 32 (.load .false 1 (tm 31)), pm 4 32]
def c117_4 : PCode := (.keep [0, 1, 4, 5] [(0, .id 0), (1, .id 1), (2, .id 2), (3, .id 3)] [] .skip)
def p117_8 : List PO := [pm 33 1, po 34 (.cmpI .lss (tm 33) (ki 0)), pm 35 34, ⟨(.some 36), (.mov (tm 0)), (.some (35, .true))⟩, ⟨(.some 37), (.nilC (tm 36)), (.some (35, .true))⟩, ⟨(.some 38), (.fld 0 (tm 37)), (.some (35, .true))⟩, ⟨(.some 39), (.fld 3 (tm 38)), (.some (35, .true))⟩, ⟨(.some 40), (.load .false 1 (tm 39)), (.some (35, .true))⟩, ⟨(.some 41), (.mov (tm 0)), (.some (35, .true))⟩, ⟨(.some 42), (.nilC (tm 41)), (.some (35, .true))⟩, ⟨(.some 43), (.fld 0 (tm 42)), (.some (35, .true))⟩, ⟨(.some 44), (.fld 7 (tm 43)), (.some (35, .true))⟩, ⟨(.some 45), (.load .false 1 (tm 44)), (.some (35, .true))⟩, ⟨(.some 46), (.cmpI .lss (tm 40) (tm 45)), (.some (35, .true))⟩, po 47 (.pick (tm 35) (tm 46) (.const (.bool .false)))]
def p117_9 : List PO := [pm 48 0, po 49 (.nilC (tm 48)), po 50 (.fld 0 (tm 49)), po 51 (.fld 7 (tm 50)), po 52 (.load .false 1 (tm 51)), po 53 (.arI .sub (tm 52) (ki 1)), pm 5 53]
def c117_2 : PCode := (.keep [0, 1, 4, 5] [(0, .id 0), (1, .id 1), (2, .id 2), (3, .id 3)] [] .skip)
def p117_10 : List PO := [pm 54 0, pm 55 0, po 56 (.nilC (tm 55)), po 57 (.fld 0 (tm 56)), po 58 (.fld 3 (tm 57)), po 59 (.load .false 1 (tm 58)), pm 60 1, po 61 (.arI .sub (tm 59) (tm 60)), pm 62 4, pm 63 5, po 64 (.call 112 [(tm 61), (tm 62), (tm 63)]), po 65 (.nilC (tm 54)), po 66 (.fld 0 (tm 65)), po 67 (.fld 3 (tm 66)), ⟨.none, (.store 1 (tm 67) (tm 64)), .none⟩]
def p117_11 : List PO := [pm 68 0, po 69 (.nilC (tm 68)), po 70 (.fld 0 (tm 69)), po 71 (.fld 5 (tm 70)), ⟨.none, (.store 1 (tm 71) (.const (.bool .false))), .none⟩]
def c117_1 : PCode := (.keep [0, 1, 4, 5] [(0, .id 0), (1, .id 1), (2, .id 2), (3, .id 3)] [] (.seq (.reg p117_10) (.reg p117_11)))
def c117_3 : PCode := (.keep [0, 1, 4, 5] [(0, .id 0), (1, .id 1), (2, .id 2), (3, .id 3)] [] (.seq (.seq (.regD p117_8 []) (.cond (.tmp 47) (.reg p117_9) c117_2)) c117_1))
def c117_b : PCode := (.seq (.regD p117_5 []) (.seq (.seq (.regD p117_6 []) (.cond (.tmp 27) (.reg p117_7) c117_4)) c117_3))
def c117 : FCode := ⟨72, c117_b, [], some ([2000000], [(0, .id 0), (1, .id 1), (2, .id 2), (3, .id 3)], []), false⟩
theorem c117_ok : compF Go.Proofs.Tryz.prog [100014, 100017, 100019, 100031, 100035, 100036, 38, 100054, 100056, 63, 64, 65, 66, 68, 100070, 75, 80, 100081, 86, 87, 89, 91, 93, 95, 96, 97, 98, 102, 103, 104, 105, 113, 115, 117, 118, 120, 121, 123, 125, 126, 127, 129] 117 = some (eraseF c117) := by kernel_rfl
def p86_1 : List PO := [pm 4 0, po 5 (.nilC (tm 4)), po 6 (.fld 0 (tm 5)), po 7 (.fld 5 (tm 6)), ⟨.none, (.store 1 (tm 7) (.const (.bool .false))), .none⟩]
def p86_2 : List PO := [pm 8 0, pm 9 1, pm 10 0, po 11 (.nilC (tm 10)), po 12 (.fld 0 (tm 11)), po 13 (.fld 0 (tm 12)), po 14 (.fld 0 (tm 13)), po 15 (.load .false 1 (tm 14)), po 16 (.arI .sub (tm 15) (ki 1)), po 17 (.call 112 [(tm 9), (ki 0), (tm 16)]), po 18 (.nilC (tm 8)), po 19 (.fld 0 (tm 18)), po 20 (.fld 4 (tm 19)), ⟨.none, (.store 1 (tm 20) (tm 17)), .none⟩]
def c86_b : PCode := (.seq (.reg p86_1) (.reg p86_2))
def c86 : FCode := ⟨21, c86_b, [], some ([2000000], [(0, .id 0), (1, .id 1), (2, .id 2), (3, .id 3)], []), false⟩
theorem c86_ok : compF Go.Proofs.Tryz.prog [100014, 100017, 100019, 100031, 100035, 100036, 38, 100054, 100056, 63, 64, 65, 66, 68, 100070, 75, 80, 100081, 86, 87, 89, 91, 93, 95, 96, 97, 98, 102, 103, 104, 105, 113, 115, 117, 118, 120, 121, 123, 125, 126, 127, 129] 86 = some (eraseF c86) := by kernel_rfl
def p88_1 : List PO := [po 4 (.mov (.const (.bool .false)))]
def p88_2 : List PO := [pm 5 0, po 6 (.nilC (tm 5)), po 7 (.fld 0 (tm 6)), po 8 (.fld 11 (tm 7)), po 9 (.load .false 1 (tm 8)), pm 10 1, po 11 (.arI .and (tm 9) (tm 10)), po 12 (.cmpI .neq (tm 11) (ki 0)), pm 4 12]
def c88_b : PCode := (.seq (.reg p88_1) (.seq (.reg p88_2) .ret))
def c88 : FCode := ⟨13, c88_b, [(.tmp 4)], some ([4], [], []), false⟩
theorem c88_ok : compF Go.Proofs.Tryz.prog [100014, 100017, 100019, 100031, 100035, 100036, 38, 100054, 100056, 63, 64, 65, 66, 68, 100070, 75, 80, 100081, 86, 87, 89, 91, 93, 95, 96, 97, 98, 102, 103, 104, 105, 113, 115, 117, 118, 120, 121, 123, 125, 126, 127, 129] 88 = some (eraseF c88) := by kernel_rfl
def p118_1 : List PO := [pm 6 0, po 7 (.call 88 [(tm 6), (ki 2)])]
def p118_2 : List PO := [pm 8 0, pm 9 1, pm 10 0, po 11 (.nilC (tm 10)), po 12 (.fld 0 (tm 11)), po 13 (.fld 6 (tm 12)), po 14 (.load .false 1 (tm 13)), po 15 (.arI .add (tm 9) (tm 14)), pm 16 0, po 17 (.nilC (tm 16)), po 18 (.fld 0 (tm 17)), po 19 (.fld 6 (tm 18)), po 20 (.load .false 1 (tm 19)), pm 21 0, po 22 (.nilC (tm 21)), po 23 (.fld 0 (tm 22)), po 24 (.fld 7 (tm 23)), po 25 (.load .false 1 (tm 24)), po 26 (.arI .sub (tm 25) (ki 1)), po 27 (.call 112 [(tm 15), (tm 20), (tm 26)]), po 28 (.nilC (tm 8)), po 29 (.fld 0 (tm 28)), po 30 (.fld 3 (tm 29)), ⟨.none, (.store 1 (tm 30) (tm 27)), .none⟩]
def p118_3 : List PO := [pm 31 0, pm 32 1, pm 33 0, po 34 (.nilC (tm 33)), po 35 (.fld 0 (tm 34)), po 36 (.fld 0 (tm 35)), po 37 (.fld 1 (tm 36)), po 38 (.load .false 1 (tm 37)), po 39 (.arI .sub (tm 38) (ki 1)), po 40 (.call 112 [(tm 32), (ki 0), (tm 39)]), po 41 (.nilC (tm 31)), po 42 (.fld 0 (tm 41)), po 43 (.fld 3 (tm 42)), ⟨.none, (.store 1 (tm 43) (tm 40)), .none⟩]
def p118_4 : List PO := [pm 44 0, pm 45 2, po 46 (.callr 86 [(tm 44), (tm 45)])]
def c118_b : PCode := (.seq (.seq (.reg p118_1) (.cond (.tmp 7) (.regD p118_2 []) (.reg p118_3))) (.reg p118_4))
def c118 : FCode := ⟨47, c118_b, [], some ([2000000], [(0, .id 0), (1, .id 1), (2, .id 2), (3, .id 3)], []), false⟩
theorem c118_ok : compF Go.Proofs.Tryz.prog [100014, 100017, 100019, 100031, 100035, 100036, 38, 100054, 100056, 63, 64, 65, 66, 68, 100070, 75, 80, 100081, 86, 87, 89, 91, 93, 95, 96, 97, 98, 102, 103, 104, 105, 113, 115, 117, 118, 120, 121, 123, 125, 126, 127, 129] 118 = some (eraseF c118) := by kernel_rfl
def p116_1 : List PO := [po 2 (.box 4 (tm 0)), po 4 (.mov (.const (.bool .false)))]
def p116_2 : List PO := [pm 5 1, po 6 (.arI .quo (tm 5) (ki 64)), po 7 (.fld 0 (tm 2)), po 8 (.ixA 4 1 (tm 7) (tm 6)), po 9 (.load .false 1 (tm 8)), pm 10 1, po 11 (.arI .rem (tm 10) (ki 64)), po 12 (.sh .shr (tm 9) (tm 11)), po 13 (.arI .and (tm 12) (.const (.int .u64 1))), po 14 (.cmpI .eql (tm 13) (.const (.int .u64 1))), pm 4 14]
def c116_b : PCode := (.seq (.reg p116_1) (.seq (.reg p116_2) .ret))
def c116 : FCode := ⟨15, c116_b, [(.tmp 4)], some ([4], [], []), false⟩
theorem c116_ok : compF Go.Proofs.Tryz.prog [100014, 100017, 100019, 100031, 100035, 100036, 38, 100054, 100056, 63, 64, 65, 66, 68, 100070, 75, 80, 100081, 86, 87, 89, 91, 93, 95, 96, 97, 98, 102, 103, 104, 105, 113, 115, 117, 118, 120, 121, 123, 125, 126, 127, 129] 116 = some (eraseF c116) := by kernel_rfl
def p92_5 : List PO := [po 4 (.box 4 (tm 0)), po 8 (.mov (ki 0)), po 9 (.mov (ki 0))]
def p92_6 : List PO := [pm 11 3, po 12 (.cmpI .lss (tm 11) (ki 1)), pm 13 12, ⟨(.some 14), (.mov (tm 3)), (.some (13, .false))⟩, ⟨(.some 15), (.cmpI .gtr (tm 14) (ki 160)), (.some (13, .false))⟩, po 16 (.pick (tm 13) (.const (.bool .true)) (tm 15)), pm 17 16, ⟨(.some 18), (.mov (tm 1)), (.some (17, .false))⟩, ⟨(.some 19), (.cmpI .lss (tm 18) (ki 0)), (.some (17, .false))⟩, po 20 (.pick (tm 17) (.const (.bool .true)) (tm 19)), pm 21 20, ⟨(.some 22), (.mov (tm 1)), (.some (21, .false))⟩, ⟨(.some 23), (.mov (tm 3)), (.some (21, .false))⟩, ⟨(.some 24), (.cmpI .geq (tm 22) (tm 23)), (.some (21, .false))⟩, po 25 (.pick (tm 21) (.const (.bool .true)) (tm 24)), pm 26 25, ⟨(.some 27), (.mov (tm 2)), (.some (26, .false))⟩, ⟨(.some 28), (.cmpI .lss (tm 27) (ki 0)), (.some (26, .false))⟩, po 29 (.pick (tm 26) (.const (.bool .true)) (tm 28)), pm 30 29, ⟨(.some 31), (.mov (tm 2)), (.some (30, .false))⟩, ⟨(.some 32), (.cmpI .gtr (tm 31) (ki 16383)), (.some (30, .false))⟩, po 33 (.pick (tm 30) (.const (.bool .true)) (tm 32))]
def p92_7 : List PO := [po 8 (.mov (ki 0)), po 9 (.mov (ki 1))]
def p92_8 : List PO := [pm 34 1, pm 10 34]
def p92_9 : List PO := [pm 35 2, po 36 (.cmpI .gtr (tm 35) (ki 0))]
def p92_10 : List PO := [pm 37 10, po 38 (.arI .add (tm 37) (ki 1)), pm 10 38]
def p92_11 : List PO := [pm 39 10, pm 40 3, po 41 (.cmpI .geq (tm 39) (tm 40))]
def p92_12 : List PO := [pm 42 3, po 43 (.arI .sub (tm 42) (ki 1)), pm 8 43, po 9 (.mov (ki 0))]
def p92_13 : List PO := [po 44 (.load .true 4 (tm 4)), pm 45 10, po 46 (.call 116 [(tm 44), (tm 45)])]
def p92_14 : List PO := [pm 47 2, po 48 (.arI .sub (tm 47) (ki 1)), pm 2 48]
def p92_15 : List PO := [pm 49 2, po 50 (.cmpI .eql (tm 49) (ki 0))]
def p92_16 : List PO := [pm 51 10, pm 8 51, po 9 (.mov (ki 0))]
def c92_1 : PCode := (.keep [1, 2, 3, 4, 10] [(40, .id 40)] [] (.seq (.reg p92_13) (.cond (.tmp 46) (.seq (.reg p92_14) (.seq (.reg p92_15) (.cond (.tmp 50) (.seq (.reg p92_16) .ret) .skip))) .skip)))
def c92_2 : PCode := (.keep [1, 2, 3, 4, 10] [(40, .id 40)] [] (.block 1 (.seq (.seq (.reg p92_10) (.seq (.reg p92_11) (.cond (.tmp 41) (.seq (.reg p92_12) .ret) .skip))) c92_1)))
def c92_3 : PCode := (.keep [1, 2, 3, 4, 10] [(40, .id 40)] [] (.seq (.seq (.reg p92_9) (.cond (.tmp 36) .skip (.keep [1] [] [] (.exit 0)))) c92_2))
def p92_17 : List PO := [pm 52 1, pm 8 52, po 9 (.mov (ki 0))]
def c92_4 : PCode := (.keep [1, 2, 3, 4] [(40, .id 40)] [] (.seq (.seq (.reg p92_8) (.block 0 (.loop c92_3))) (.seq (.reg p92_17) .ret)))
def c92_b : PCode := (.seq (.reg p92_5) (.seq (.seq (.reg p92_6) (.cond (.tmp 33) (.seq (.reg p92_7) .ret) .skip)) c92_4))
def c92 : FCode := ⟨53, c92_b, [(.tmp 8), (.tmp 9)], some ([8, 9], [], []), false⟩
theorem c92_ok : compF Go.Proofs.Tryz.prog [100014, 100017, 100019, 100031, 100035, 100036, 38, 100054, 100056, 63, 64, 65, 66, 68, 100070, 75, 80, 100081, 86, 87, 89, 91, 93, 95, 96, 97, 98, 102, 103, 104, 105, 113, 115, 117, 118, 120, 121, 123, 125, 126, 127, 129] 92 = some (eraseF c92) := by kernel_rfl
def p119_5 : List PO := [po 3 (.box 4 (tm 0)), po 6 (.mov (ki 0)), po 7 (.mov (ki 0))]
def p119_6 : List PO := [pm 9 1, po 10 (.cmpI .lss (tm 9) (ki 0)), pm 11 10, ⟨(.some 12), (.mov (tm 1)), (.some (11, .false))⟩, ⟨(.some 13), (.cmpI .gtr (tm 12) (ki 255)), (.some (11, .false))⟩, po 14 (.pick (tm 11) (.const (.bool .true)) (tm 13)), pm 15 14, ⟨(.some 16), (.mov (tm 2)), (.some (15, .false))⟩, ⟨(.some 17), (.cmpI .lss (tm 16) (ki 0)), (.some (15, .false))⟩, po 18 (.pick (tm 15) (.const (.bool .true)) (tm 17)), pm 19 18, ⟨(.some 20), (.mov (tm 2)), (.some (19, .false))⟩, ⟨(.some 21), (.cmpI .gtr (tm 20) (ki 16383)), (.some (19, .false))⟩, po 22 (.pick (tm 19) (.const (.bool .true)) (tm 21))]
def p119_7 : List PO := [po 6 (.mov (ki 0)), po 7 (.mov (ki 1))]
def p119_8 : List PO := [pm 23 1, pm 8 23]
def p119_9 : List PO := [pm 24 2, po 25 (.cmpI .gtr (tm 24) (ki 0))]
def p119_10 : List PO := [pm 26 8, po 27 (.arI .sub (tm 26) (ki 1)), pm 8 27]
def p119_11 : List PO := [pm 28 8, po 29 (.cmpI .lss (tm 28) (ki 0))]
def p119_12 : List PO := [po 6 (.mov (ki 0)), po 7 (.mov (ki 0))]
def p119_13 : List PO := [po 30 (.load .true 4 (tm 3)), pm 31 8, po 32 (.call 116 [(tm 30), (tm 31)])]
def p119_14 : List PO := [pm 33 2, po 34 (.arI .sub (tm 33) (ki 1)), pm 2 34]
def p119_15 : List PO := [pm 35 2, po 36 (.cmpI .eql (tm 35) (ki 0))]
def p119_16 : List PO := [pm 37 8, pm 6 37, po 7 (.mov (ki 0))]
def c119_1 : PCode := (.keep [1, 2, 3, 8] [(32, .id 32)] [] (.seq (.reg p119_13) (.cond (.tmp 32) (.seq (.reg p119_14) (.seq (.reg p119_15) (.cond (.tmp 36) (.seq (.reg p119_16) .ret) .skip))) .skip)))
def c119_2 : PCode := (.keep [1, 2, 3, 8] [(32, .id 32)] [] (.block 1 (.seq (.seq (.reg p119_10) (.seq (.reg p119_11) (.cond (.tmp 29) (.seq (.reg p119_12) .ret) .skip))) c119_1)))
def c119_3 : PCode := (.keep [1, 2, 3, 8] [(32, .id 32)] [] (.seq (.seq (.reg p119_9) (.cond (.tmp 25) .skip (.keep [1] [] [] (.exit 0)))) c119_2))
def p119_17 : List PO := [pm 38 1, pm 6 38, po 7 (.mov (ki 0))]
def c119_4 : PCode := (.keep [1, 2, 3] [(32, .id 32)] [] (.seq (.seq (.reg p119_8) (.block 0 (.loop c119_3))) (.seq (.reg p119_17) .ret)))
def c119_b : PCode := (.seq (.reg p119_5) (.seq (.seq (.reg p119_6) (.cond (.tmp 22) (.seq (.reg p119_7) .ret) .skip)) c119_4))
def c119 : FCode := ⟨39, c119_b, [(.tmp 6), (.tmp 7)], some ([6, 7], [], []), false⟩
theorem c119_ok : compF Go.Proofs.Tryz.prog [100014, 100017, 100019, 100031, 100035, 100036, 38, 100054, 100056, 63, 64, 65, 66, 68, 100070, 75, 80, 100081, 86, 87, 89, 91, 93, 95, 96, 97, 98, 102, 103, 104, 105, 113, 115, 117, 118, 120, 121, 123, 125, 126, 127, 129] 119 = some (eraseF c119) := by kernel_rfl
def p95_1 : List PO := [pm 2 0, pm 3 0, po 4 (.nilC (tm 3)), po 5 (.fld 0 (tm 4)), po 6 (.fld 3 (tm 5)), po 7 (.load .false 1 (tm 6)), pm 8 0, po 9 (.nilC (tm 8)), po 10 (.fld 0 (tm 9)), po 11 (.fld 4 (tm 10)), po 12 (.load .false 1 (tm 11)), pm 13 0, po 14 (.nilC (tm 13)), po 15 (.fld 0 (tm 14)), po 16 (.fld 8 (tm 15)), po 17 (.load .true 3 (tm 16)), pm 18 0, po 19 (.call 88 [(tm 18), (ki 2)]), pm 20 0, po 21 (.nilC (tm 20)), po 22 (.fld 0 (tm 21)), po 23 (.fld 16 (tm 22)), po 24 (.load .true 2 (tm 23)), pm 25 0, po 26 (.nilC (tm 25)), po 27 (.fld 0 (tm 26)), po 28 (.fld 18 (tm 27)), po 29 (.load .false 1 (tm 28)), po 30 (.build [(5, (.int .i64 0)), (1, (.bool .false)), (3, (.int .i64 0))] [(0, (1, (tm 7))), (1, (1, (tm 12))), (2, (3, (tm 17))), (5, (1, (tm 19))), (6, (2, (tm 24))), (8, (1, (tm 29)))]), po 31 (.nilC (tm 2)), po 32 (.fld 0 (tm 31)), po 33 (.fld 19 (tm 32)), ⟨.none, (.store 9 (tm 33) (tm 30)), .none⟩]
def c95_b : PCode := (.regD p95_1 [(5, 17), (10, 17), (15, 17), (17, 22), (17, 27)])
def c95 : FCode := ⟨34, c95_b, [], some ([2000000], [(0, .id 0), (1, .id 1), (2, .id 2), (3, .id 3)], []), false⟩
theorem c95_ok : compF Go.Proofs.Tryz.prog [100014, 100017, 100019, 100031, 100035, 100036, 38, 100054, 100056, 63, 64, 65, 66, 68, 100070, 75, 80, 100081, 86, 87, 89, 91, 93, 95, 96, 97, 98, 102, 103, 104, 105, 113, 115, 117, 118, 120, 121, 123, 125, 126, 127, 129] 95 = some (eraseF c95) := by kernel_rfl
def p97_1 : List PO := [pm 6 0, po 7 (.nilC (tm 6)), po 8 (.fld 0 (tm 7)), po 9 (.fld 11 (tm 8)), po 10 (.load .false 1 (tm 9)), pm 11 1, po 12 (.arI .andNot (tm 10) (tm 11)), po 13 (.nilC (tm 6)), po 14 (.fld 0 (tm 13)), po 15 (.fld 11 (tm 14)), ⟨.none, (.store 1 (tm 15) (tm 12)), .none⟩]
def p97_2 : List PO := [pm 16 2]
def p97_3 : List PO := [pm 17 0, po 18 (.nilC (tm 17)), po 19 (.fld 0 (tm 18)), po 20 (.fld 11 (tm 19)), po 21 (.load .false 1 (tm 20)), pm 22 1, po 23 (.arI .or (tm 21) (tm 22)), po 24 (.nilC (tm 17)), po 25 (.fld 0 (tm 24)), po 26 (.fld 11 (tm 25)), ⟨.none, (.store 1 (tm 26) (tm 23)), .none⟩]
def c97_b : PCode := (.seq (.reg p97_1) (.seq (.reg p97_2) (.cond (.tmp 16) (.reg p97_3) .skip)))
def c97 : FCode := ⟨27, c97_b, [], some ([2000000], [(0, .id 0), (1, .id 1), (2, .id 2), (3, .id 3)], []), false⟩
theorem c97_ok : compF Go.Proofs.Tryz.prog [100014, 100017, 100019, 100031, 100035, 100036, 38, 100054, 100056, 63, 64, 65, 66, 68, 100070, 75, 80, 100081, 86, 87, 89, 91, 93, 95, 96, 97, 98, 102, 103, 104, 105, 113, 115, 117, 118, 120, 121, 123, 125, 126, 127, 129] 97 = some (eraseF c97) := by kernel_rfl
def p96_1 : List PO := [pm 3 0, po 4 (.nilC (tm 3)), po 5 (.fld 0 (tm 4)), po 6 (.fld 19 (tm 5)), po 7 (.load .true 9 (tm 6)), po 2 (.alloc [(5, (.int .i64 0)), (1, (.bool .false)), (3, (.int .i64 0))]), ⟨.none, (.store 9 (tm 2) (tm 7)), .none⟩]
def p96_2 : List PO := [pm 8 0, po 9 (.fld 0 (tm 2)), po 10 (.load .false 1 (tm 9)), pm 11 0, po 12 (.nilC (tm 11)), po 13 (.fld 0 (tm 12)), po 14 (.fld 0 (tm 13)), po 15 (.fld 1 (tm 14)), po 16 (.load .false 1 (tm 15)), po 17 (.arI .sub (tm 16) (ki 1)), po 18 (.mn [(tm 10), (tm 17)]), po 19 (.nilC (tm 8)), po 20 (.fld 0 (tm 19)), po 21 (.fld 3 (tm 20)), ⟨.none, (.store 1 (tm 21) (tm 18)), .none⟩]
def p96_3 : List PO := [pm 22 0, pm 23 0, pm 24 0, po 25 (.fld 2 (tm 2)), po 26 (.load .true 3 (tm 25)), po 27 (.fld 6 (tm 2)), po 28 (.load .true 2 (tm 27)), po 29 (.fld 8 (tm 2)), po 30 (.load .false 1 (tm 29)), po 31 (.nilC (tm 22)), po 32 (.fld 0 (tm 31)), po 33 (.fld 8 (tm 32)), ⟨.none, (.store 3 (tm 33) (tm 26)), .none⟩, po 34 (.nilC (tm 23)), po 35 (.fld 0 (tm 34)), po 36 (.fld 16 (tm 35)), ⟨.none, (.store 2 (tm 36) (tm 28)), .none⟩, po 37 (.nilC (tm 24)), po 38 (.fld 0 (tm 37)), po 39 (.fld 18 (tm 38)), ⟨.none, (.store 1 (tm 39) (tm 30)), .none⟩]
def p96_4 : List PO := [pm 40 0, po 41 (.fld 5 (tm 2)), po 42 (.load .false 1 (tm 41)), po 43 (.callr 97 [(tm 40), (ki 2), (tm 42)])]
def p96_5 : List PO := [pm 44 0, po 45 (.fld 1 (tm 2)), po 46 (.load .false 1 (tm 45)), po 47 (.callr 86 [(tm 44), (tm 46)])]
def c96_b : PCode := (.seq (.reg p96_1) (.seq (.regD p96_2 []) (.seq (.regD p96_3 [(6, 12), (8, 12), (8, 16)]) (.seq (.reg p96_4) (.reg p96_5)))))
def c96 : FCode := ⟨48, c96_b, [], some ([2000000], [(0, .id 0), (1, .id 1), (2, .id 2), (3, .id 3)], []), false⟩
theorem c96_ok : compF Go.Proofs.Tryz.prog [100014, 100017, 100019, 100031, 100035, 100036, 38, 100054, 100056, 63, 64, 65, 66, 68, 100070, 75, 80, 100081, 86, 87, 89, 91, 93, 95, 96, 97, 98, 102, 103, 104, 105, 113, 115, 117, 118, 120, 121, 123, 125, 126, 127, 129] 96 = some (eraseF c96) := by kernel_rfl
def p102_4 : List PO := [po 4 (.box 6 (tm 1)), po 6 (.mov (.const (.bool .false)))]
def p102_5 : List PO := [po 11 (.fld 1 (tm 4)), po 12 (.load .false 1 (tm 11))]
def p102_6 : List PO := [po 14 (.cmpI .eql (tm 12) (ki 65)), pm 13 14]
def p102_7 : List PO := [pm 15 0, pm 16 2, po 17 (.callr 117 [(tm 15), (tm 16)])]
def p102_8 : List PO := [po 19 (.cmpI .eql (tm 12) (ki 66)), pm 18 19]
def p102_9 : List PO := [pm 20 0, pm 21 2, po 22 (.un .neg (tm 21)), po 23 (.callr 117 [(tm 20), (tm 22)])]
def p102_10 : List PO := [po 25 (.cmpI .eql (tm 12) (ki 67)), pm 24 25]
def p102_11 : List PO := [pm 26 0, pm 27 0, po 28 (.nilC (tm 27)), po 29 (.fld 0 (tm 28)), po 30 (.fld 4 (tm 29)), po 31 (.load .false 1 (tm 30)), pm 32 2, po 33 (.arI .add (tm 31) (tm 32)), po 34 (.callr 86 [(tm 26), (tm 33)])]
def p102_12 : List PO := [po 36 (.cmpI .eql (tm 12) (ki 68)), pm 35 36]
def p102_13 : List PO := [pm 37 0, pm 38 0, po 39 (.nilC (tm 38)), po 40 (.fld 0 (tm 39)), po 41 (.fld 4 (tm 40)), po 42 (.load .false 1 (tm 41)), pm 43 2, po 44 (.arI .sub (tm 42) (tm 43)), po 45 (.callr 86 [(tm 37), (tm 44)])]
def p102_14 : List PO := [po 47 (.cmpI .eql (tm 12) (ki 69)), pm 46 47]
def p102_15 : List PO := [pm 48 0, pm 49 2, po 50 (.un .neg (tm 49)), po 51 (.callr 117 [(tm 48), (tm 50)])]
def p102_16 : List PO := [pm 52 0, po 53 (.callr 86 [(tm 52), (ki 0)])]
def p102_17 : List PO := [po 55 (.cmpI .eql (tm 12) (ki 70)), pm 54 55]
def p102_18 : List PO := [pm 56 0, pm 57 2, po 58 (.callr 117 [(tm 56), (tm 57)])]
def p102_19 : List PO := [pm 59 0, po 60 (.callr 86 [(tm 59), (ki 0)])]
def p102_20 : List PO := [po 62 (.cmpI .eql (tm 12) (ki 71)), pm 61 62]
def p102_21 : List PO := [po 63 (.cmpI .eql (tm 12) (ki 96)), pm 61 63]
def p102_22 : List PO := [pm 64 0, pm 65 2, po 66 (.arI .sub (tm 65) (ki 1)), po 67 (.callr 86 [(tm 64), (tm 66)])]
def p102_23 : List PO := [po 69 (.cmpI .eql (tm 12) (ki 100)), pm 68 69]
def p102_24 : List PO := [pm 70 0, pm 71 2, po 72 (.arI .sub (tm 71) (ki 1)), pm 73 0, po 74 (.nilC (tm 73)), po 75 (.fld 0 (tm 74)), po 76 (.fld 4 (tm 75)), po 77 (.load .false 1 (tm 76)), po 78 (.callr 118 [(tm 70), (tm 72), (tm 77)])]
def p102_25 : List PO := [po 80 (.cmpI .eql (tm 12) (ki 72)), pm 79 80]
def p102_26 : List PO := [po 81 (.cmpI .eql (tm 12) (ki 102)), pm 79 81]
def p102_27 : List PO := [pm 82 0, pm 83 2, po 84 (.arI .sub (tm 83) (ki 1)), po 85 (.fld 4 (tm 4)), po 86 (.load .false 1 (tm 85)), po 87 (.call 100 [(tm 86), (ki 1)]), po 88 (.arI .sub (tm 87) (ki 1)), po 89 (.callr 118 [(tm 82), (tm 84), (tm 88)])]
def p102_28 : List PO := [po 91 (.cmpI .eql (tm 12) (ki 73)), pm 90 91]
def p102_29 : List PO := [pm 93 0, po 94 (.nilC (tm 93)), po 95 (.fld 0 (tm 94)), po 96 (.fld 12 (tm 95)), po 97 (.load .true 4 (tm 96)), pm 98 0, po 99 (.nilC (tm 98)), po 100 (.fld 0 (tm 99)), po 101 (.fld 4 (tm 100)), po 102 (.load .false 1 (tm 101)), pm 103 2, pm 104 0, po 105 (.nilC (tm 104)), po 106 (.fld 0 (tm 105)), po 107 (.fld 0 (tm 106)), po 108 (.fld 0 (tm 107)), po 109 (.load .false 1 (tm 108)), po 110 (.call 92 [(tm 97), (tm 102), (tm 103), (tm 109)]), pm 92 110, po 111 (.ext (tm 92) 0), po 112 (.ext (tm 92) 1), pm 7 111, pm 8 112]
def p102_30 : List PO := [pm 113 0, pm 114 7, po 115 (.callr 86 [(tm 113), (tm 114)])]
def p102_31 : List PO := [po 117 (.cmpI .eql (tm 12) (ki 90)), pm 116 117]
def p102_32 : List PO := [pm 119 0, po 120 (.nilC (tm 119)), po 121 (.fld 0 (tm 120)), po 122 (.fld 12 (tm 121)), po 123 (.load .true 4 (tm 122)), pm 124 0, po 125 (.nilC (tm 124)), po 126 (.fld 0 (tm 125)), po 127 (.fld 4 (tm 126)), po 128 (.load .false 1 (tm 127)), pm 129 2, po 130 (.call 119 [(tm 123), (tm 128), (tm 129)]), pm 118 130, po 131 (.ext (tm 118) 0), po 132 (.ext (tm 118) 1), pm 9 131, pm 10 132]
def p102_33 : List PO := [pm 133 0, pm 134 9, po 135 (.callr 86 [(tm 133), (tm 134)])]
def p102_34 : List PO := [po 137 (.cmpI .eql (tm 12) (ki 115)), pm 136 137]
def p102_35 : List PO := [pm 138 0, po 139 (.callr 95 [(tm 138)])]
def p102_36 : List PO := [po 141 (.cmpI .eql (tm 12) (ki 117)), pm 140 141]
def p102_37 : List PO := [pm 142 0, po 143 (.callr 96 [(tm 142)])]
def p102_38 : List PO := [po 6 (.mov (.const (.bool .false)))]
def c102_39 : PCode := (.seq (.reg p102_31) (.cond (.tmp 116) (.seq (.regD p102_32 []) (.reg p102_33)) (.seq (.reg p102_34) (.cond (.tmp 136) (.reg p102_35) (.seq (.reg p102_36) (.cond (.tmp 140) (.reg p102_37) (.seq (.reg p102_38) .ret)))))))
def c102_1 : PCode := (.keep [0, 2, 4, 12, 79] [(0, .id 0), (1, .id 1), (2, .id 2), (3, .id 3), (40, .id 40)] [] (.cond (.tmp 79) (.reg p102_27) (.seq (.reg p102_28) (.cond (.tmp 90) (.seq (.regD p102_29 []) (.reg p102_30)) c102_39))))
def c102_3 : PCode := (.keep [0, 2, 4, 12, 61] [(0, .id 0), (1, .id 1), (2, .id 2), (3, .id 3), (40, .id 40)] [] (.cond (.tmp 61) (.reg p102_22) (.seq (.reg p102_23) (.cond (.tmp 68) (.reg p102_24) (.seq (.seq (.reg p102_25) (.cond (.tmp 79) .skip (.reg p102_26))) c102_1)))))
def c102_40 : PCode := (.cond (.tmp 46) (.seq (.reg p102_15) (.reg p102_16)) (.seq (.reg p102_17) (.cond (.tmp 54) (.seq (.reg p102_18) (.reg p102_19)) (.seq (.seq (.reg p102_20) (.cond (.tmp 61) .skip (.reg p102_21))) c102_3))))
def c102_41 : PCode := (.cond (.tmp 13) (.reg p102_7) (.seq (.reg p102_8) (.cond (.tmp 18) (.reg p102_9) (.seq (.reg p102_10) (.cond (.tmp 24) (.reg p102_11) (.seq (.reg p102_12) (.cond (.tmp 35) (.reg p102_13) (.seq (.reg p102_14) c102_40))))))))
def p102_42 : List PO := [po 6 (.mov (.const (.bool .true)))]
def c102_2 : PCode := (.seq (.reg p102_42) .ret)
def c102_b : PCode := (.seq (.reg p102_4) (.seq (.seq (.reg p102_5) (.block 0 (.seq (.reg p102_6) c102_41))) c102_2))
def c102 : FCode := ⟨144, c102_b, [(.tmp 6)], some ([6, 2000000], [(0, .id 0), (1, .id 1), (2, .id 2), (3, .id 3)], []), false⟩
theorem c102_ok : compF Go.Proofs.Tryz.prog [100014, 100017, 100019, 100031, 100035, 100036, 38, 100054, 100056, 63, 64, 65, 66, 68, 100070, 75, 80, 100081, 86, 87, 89, 91, 93, 95, 96, 97, 98, 102, 103, 104, 105, 113, 115, 117, 118, 120, 121, 123, 125, 126, 127, 129] 102 = some (eraseF c102) := by kernel_rfl
def p90_1 : List PO := [po 2 (.alloc [(3, (.int .i64 0))])]
def p90_2 : List PO := [pm 3 0, po 4 (.nilC (tm 3)), po 5 (.fld 0 (tm 4)), po 6 (.fld 8 (tm 5)), po 7 (.fld 2 (tm 6)), po 8 (.load .false 1 (tm 7)), po 9 (.build [(3, (.int .i64 0))] [(2, (1, (tm 8)))]), ⟨.none, (.store 3 (tm 2) (tm 9)), .none⟩]
def c90_b : PCode := (.seq (.reg p90_1) (.seq (.reg p90_2) .ret))
def c90 : FCode := ⟨10, c90_b, [(.cell 2 .true 3)], some ([2], [(24, .id 24)], []), false⟩
theorem c90_ok : compF Go.Proofs.Tryz.prog [100014, 100017, 100019, 100031, 100035, 100036, 38, 100054, 100056, 63, 64, 65, 66, 68, 100070, 75, 80, 100081, 86, 87, 89, 91, 93, 95, 96, 97, 98, 102, 103, 104, 105, 113, 115, 117, 118, 120, 121, 123, 125, 126, 127, 129] 90 = some (eraseF c90) := by kernel_rfl
def p103_9 : List PO := [po 8 (.mov (.const (.bool .false)))]
def p103_10 : List PO := [pm 11 0, po 12 (.nilC (tm 11)), po 13 (.fld 0 (tm 12)), po 14 (.fld 0 (tm 13)), po 15 (.fld 0 (tm 14)), po 16 (.load .false 1 (tm 15)), pm 9 16]
def p103_11 : List PO := [pm 17 1]
def p103_12 : List PO := [po 19 (.cmpI .eql (tm 17) (ki 64)), pm 18 19]
def p103_13 : List PO := [po 20 (.cmpI .eql (tm 17) (ki 80)), pm 18 20]
def p103_14 : List PO := [pm 21 1, po 22 (.cmpI .eql (tm 21) (ki 80))]
def p103_15 : List PO := [pm 23 2, po 24 (.un .neg (tm 23)), pm 2 24]
def p103_16 : List PO := [pm 25 0, po 26 (.nilC (tm 25)), po 27 (.fld 0 (tm 26)), po 28 (.fld 5 (tm 27)), ⟨.none, (.store 1 (tm 28) (.const (.bool .false))), .none⟩]
def p103_17 : List PO := [pm 29 0, po 30 (.nilC (tm 29)), po 31 (.fld 0 (tm 30)), po 32 (.fld 0 (tm 31)), po 33 (.load .true 3 (tm 32)), pm 34 0, po 35 (.nilC (tm 34)), po 36 (.fld 0 (tm 35)), po 37 (.fld 3 (tm 36)), po 38 (.load .false 1 (tm 37)), pm 39 0, po 40 (.nilC (tm 39)), po 41 (.fld 0 (tm 40)), po 42 (.fld 4 (tm 41)), po 43 (.load .false 1 (tm 42)), pm 44 9, pm 45 2, pm 46 0, po 47 (.call 90 [(tm 46)]), po 48 (.callr 89 [(tm 33), (tm 38), (tm 43), (tm 44), (tm 45), (tm 47)])]
def c103_1 : PCode := (.keep [0, 2, 9, 1000001, 1000002, 1000003] [(0, .id 0), (1, .id 1), (2, .id 2), (3, .id 3)] [] (.seq (.reg p103_16) (.regD p103_17 [(4, 18), (9, 18), (14, 18)])))
def p103_18 : List PO := [po 50 (.cmpI .eql (tm 17) (ki 74)), pm 49 50]
def p103_19 : List PO := [pm 51 3, po 52 (.cmpI .eql (tm 51) (ki 3))]
def p103_20 : List PO := [pm 53 0, po 54 (.nilC (tm 53)), po 55 (.fld 0 (tm 54)), po 56 (.fld 32 (tm 55)), ⟨.none, (.store 1 (tm 56) (.const (.slice .none 0 0))), .none⟩]
def p103_21 : List PO := [pm 57 0, pm 58 3, po 59 (.callr 120 [(tm 57), (tm 58)]), po 60 (.un .not (tm 59))]
def p103_22 : List PO := [pm 61 0, po 62 (.nilC (tm 61)), po 63 (.fld 0 (tm 62)), po 64 (.fld 0 (tm 63)), po 65 (.fld 1 (tm 64)), po 66 (.load .false 1 (tm 65)), po 67 (.mov (ki 0))]
def p103_23 : List PO := [po 68 (.cmpI .lss (tm 67) (tm 66))]
def p103_24 : List PO := [pm 69 67, pm 10 69]
def p103_25 : List PO := [pm 70 3, po 71 (.cmpI .eql (tm 70) (ki 2)), pm 72 71, ⟨(.some 73), (.mov (tm 3)), (.some (72, .false))⟩, ⟨(.some 74), (.cmpI .eql (tm 73) (ki 0)), (.some (72, .false))⟩, ⟨(.some 75), (.mov (tm 74)), (.some (72, .false))⟩, ⟨(.some 76), (.mov (tm 10)), (.some (75, .true))⟩, ⟨(.some 77), (.mov (tm 0)), (.some (75, .true))⟩, ⟨(.some 78), (.nilC (tm 77)), (.some (75, .true))⟩, ⟨(.some 79), (.fld 0 (tm 78)), (.some (75, .true))⟩, ⟨(.some 80), (.fld 3 (tm 79)), (.some (75, .true))⟩, ⟨(.some 81), (.load .false 1 (tm 80)), (.some (75, .true))⟩, ⟨(.some 82), (.cmpI .gtr (tm 76) (tm 81)), (.some (75, .true))⟩, ⟨(.some 83), (.pick (tm 75) (tm 82) (.const (.bool .false))), (.some (72, .false))⟩, po 84 (.pick (tm 72) (.const (.bool .true)) (tm 83)), pm 85 84, ⟨(.some 86), (.mov (tm 3)), (.some (85, .false))⟩, ⟨(.some 87), (.cmpI .eql (tm 86) (ki 1)), (.some (85, .false))⟩, ⟨(.some 88), (.mov (tm 87)), (.some (85, .false))⟩, ⟨(.some 89), (.mov (tm 10)), (.some (88, .true))⟩, ⟨(.some 90), (.mov (tm 0)), (.some (88, .true))⟩, ⟨(.some 91), (.nilC (tm 90)), (.some (88, .true))⟩, ⟨(.some 92), (.fld 0 (tm 91)), (.some (88, .true))⟩, ⟨(.some 93), (.fld 3 (tm 92)), (.some (88, .true))⟩, ⟨(.some 94), (.load .false 1 (tm 93)), (.some (88, .true))⟩, ⟨(.some 95), (.cmpI .lss (tm 89) (tm 94)), (.some (88, .true))⟩, ⟨(.some 96), (.pick (tm 88) (tm 95) (.const (.bool .false))), (.some (85, .false))⟩, po 97 (.pick (tm 85) (.const (.bool .true)) (tm 96))]
def p103_26 : List PO := [pm 98 0, pm 99 10, pm 100 9, po 101 (.callr 121 [(tm 98), (tm 99), (ki 0), (tm 100)])]
def p103_27 : List PO := [po 102 (.arI .add (tm 67) (ki 1)), pm 67 102]
def c103_28 : PCode := (.seq (.reg p103_22) (.block 1 (.loop (.seq (.reg p103_23) (.seq (.cond (.tmp 68) .skip (.exit 1)) (.seq (.block 2 (.seq (.reg p103_24) (.seq (.reg p103_25) (.cond (.tmp 97) (.reg p103_26) .skip)))) (.reg p103_27)))))))
def c103_3 : PCode := (.keep [0, 3, 9, 1000001, 1000002, 1000003] [(0, .id 0), (1, .id 1), (2, .id 2), (3, .id 3)] [.cell 0 32 3 87 1] (.seq (.seq (.reg p103_21) (.cond (.tmp 60) (.exit 0) .skip)) c103_28))
def p103_29 : List PO := [po 104 (.cmpI .eql (tm 17) (ki 75)), pm 103 104]
def p103_30 : List PO := [pm 105 0, pm 106 3, po 107 (.callr 120 [(tm 105), (tm 106)])]
def p103_31 : List PO := [po 109 (.cmpI .eql (tm 17) (ki 88)), pm 108 109]
def p103_32 : List PO := [pm 110 0, pm 111 0, po 112 (.nilC (tm 111)), po 113 (.fld 0 (tm 112)), po 114 (.fld 3 (tm 113)), po 115 (.load .false 1 (tm 114)), pm 116 0, po 117 (.nilC (tm 116)), po 118 (.fld 0 (tm 117)), po 119 (.fld 4 (tm 118)), po 120 (.load .false 1 (tm 119)), pm 121 0, po 122 (.nilC (tm 121)), po 123 (.fld 0 (tm 122)), po 124 (.fld 4 (tm 123)), po 125 (.load .false 1 (tm 124)), pm 126 2, po 127 (.arI .add (tm 125) (tm 126)), pm 128 9, po 129 (.mn [(tm 127), (tm 128)]), po 130 (.callr 121 [(tm 110), (tm 115), (tm 120), (tm 129)])]
def p103_33 : List PO := [po 132 (.cmpI .eql (tm 17) (ki 76)), pm 131 132]
def p103_34 : List PO := [po 133 (.cmpI .eql (tm 17) (ki 77)), pm 131 133]
def p103_35 : List PO := [pm 134 1, po 135 (.cmpI .eql (tm 134) (ki 76))]
def p103_36 : List PO := [pm 136 2, po 137 (.un .neg (tm 136)), pm 2 137]
def p103_37 : List PO := [pm 138 0, po 139 (.nilC (tm 138)), po 140 (.fld 0 (tm 139)), po 141 (.fld 3 (tm 140)), po 142 (.load .false 1 (tm 141)), pm 143 0, po 144 (.nilC (tm 143)), po 145 (.fld 0 (tm 144)), po 146 (.fld 6 (tm 145)), po 147 (.load .false 1 (tm 146)), pm 148 0, po 149 (.nilC (tm 148)), po 150 (.fld 0 (tm 149)), po 151 (.fld 7 (tm 150)), po 152 (.load .false 1 (tm 151)), po 153 (.arI .sub (tm 152) (ki 1)), po 154 (.call 49 [(tm 142), (tm 147), (tm 153)])]
def p103_38 : List PO := [pm 155 0, po 156 (.nilC (tm 155)), po 157 (.fld 0 (tm 156)), po 158 (.fld 0 (tm 157)), po 159 (.load .true 3 (tm 158)), pm 160 0, po 161 (.nilC (tm 160)), po 162 (.fld 0 (tm 161)), po 163 (.fld 3 (tm 162)), po 164 (.load .false 1 (tm 163)), pm 165 0, po 166 (.nilC (tm 165)), po 167 (.fld 0 (tm 166)), po 168 (.fld 7 (tm 167)), po 169 (.load .false 1 (tm 168)), pm 170 2, pm 171 0, po 172 (.call 90 [(tm 171)]), po 173 (.callr 113 [(tm 159), (tm 164), (tm 169), (tm 170), (tm 172)])]
def p103_39 : List PO := [pm 174 0, po 175 (.callr 86 [(tm 174), (ki 0)])]
def c103_4 : PCode := (.keep [0, 2, 1000001, 1000002, 1000003] [(0, .id 0), (1, .id 1), (2, .id 2), (3, .id 3)] [] (.seq (.regD p103_37 []) (.cond (.tmp 154) (.seq (.regD p103_38 [(4, 17), (9, 17), (14, 17)]) (.reg p103_39)) .skip)))
def p103_40 : List PO := [po 177 (.cmpI .eql (tm 17) (ki 83)), pm 176 177]
def p103_41 : List PO := [po 178 (.cmpI .eql (tm 17) (ki 84)), pm 176 178]
def p103_42 : List PO := [pm 179 1, po 180 (.cmpI .eql (tm 179) (ki 84))]
def p103_43 : List PO := [pm 181 2, po 182 (.un .neg (tm 181)), pm 2 182]
def p103_44 : List PO := [pm 183 0, po 184 (.nilC (tm 183)), po 185 (.fld 0 (tm 184)), po 186 (.fld 5 (tm 185)), ⟨.none, (.store 1 (tm 186) (.const (.bool .false))), .none⟩]
def p103_45 : List PO := [pm 187 0, po 188 (.nilC (tm 187)), po 189 (.fld 0 (tm 188)), po 190 (.fld 0 (tm 189)), po 191 (.load .true 3 (tm 190)), pm 192 0, po 193 (.nilC (tm 192)), po 194 (.fld 0 (tm 193)), po 195 (.fld 6 (tm 194)), po 196 (.load .false 1 (tm 195)), pm 197 0, po 198 (.nilC (tm 197)), po 199 (.fld 0 (tm 198)), po 200 (.fld 7 (tm 199)), po 201 (.load .false 1 (tm 200)), pm 202 2, pm 203 0, po 204 (.call 90 [(tm 203)]), po 205 (.callr 113 [(tm 191), (tm 196), (tm 201), (tm 202), (tm 204)])]
def c103_5 : PCode := (.keep [0, 2, 1000001, 1000002, 1000003] [(0, .id 0), (1, .id 1), (2, .id 2), (3, .id 3)] [] (.seq (.reg p103_44) (.regD p103_45 [(4, 17), (9, 17), (14, 17)])))
def p103_46 : List PO := [po 8 (.mov (.const (.bool .false)))]
def c103_6 : PCode := (.keep [0, 1, 2, 176, 1000001, 1000002, 1000003] [(0, .id 0), (1, .id 1), (2, .id 2), (3, .id 3)] [] (.cond (.tmp 176) (.seq (.seq (.reg p103_42) (.cond (.tmp 180) (.reg p103_43) .skip)) c103_5) (.seq (.reg p103_46) .ret)))
def c103_7 : PCode := (.keep [0, 1, 2, 17, 131, 1000001, 1000002, 1000003] [(0, .id 0), (1, .id 1), (2, .id 2), (3, .id 3)] [] (.cond (.tmp 131) (.seq (.seq (.reg p103_35) (.cond (.tmp 135) (.reg p103_36) .skip)) c103_4) (.seq (.seq (.reg p103_40) (.cond (.tmp 176) .skip (.reg p103_41))) c103_6)))
def c103_47 : PCode := (.cond (.tmp 49) (.seq (.seq (.reg p103_19) (.cond (.tmp 52) (.reg p103_20) .skip)) c103_3) (.seq (.reg p103_29) (.cond (.tmp 103) (.reg p103_30) (.seq (.reg p103_31) (.cond (.tmp 108) (.regD p103_32 []) (.seq (.seq (.reg p103_33) (.cond (.tmp 131) .skip (.reg p103_34))) c103_7))))))
def c103_8 : PCode := (.keep [0, 1, 2, 3, 9, 17, 18, 1000001, 1000002, 1000003] [(0, .id 0), (1, .id 1), (2, .id 2), (3, .id 3)] [] (.cond (.tmp 18) (.seq (.seq (.reg p103_14) (.cond (.tmp 22) (.reg p103_15) .skip)) c103_1) (.seq (.reg p103_18) c103_47)))
def p103_48 : List PO := [po 8 (.mov (.const (.bool .true)))]
def c103_2 : PCode := (.seq (.reg p103_48) .ret)
def c103_b : PCode := (.seq (.reg p103_9) (.seq (.reg p103_10) (.seq (.seq (.reg p103_11) (.block 0 (.seq (.seq (.reg p103_12) (.cond (.tmp 18) .skip (.reg p103_13))) c103_8))) c103_2)))
def c103 : FCode := ⟨206, c103_b, [(.tmp 8)], some ([8, 1000001, 1000002, 1000003], [(0, .id 0), (1, .id 1), (2, .id 2), (3, .id 3)], []), false⟩
theorem c103_ok : compF Go.Proofs.Tryz.prog [100014, 100017, 100019, 100031, 100035, 100036, 38, 100054, 100056, 63, 64, 65, 66, 68, 100070, 75, 80, 100081, 86, 87, 89, 91, 93, 95, 96, 97, 98, 102, 103, 104, 105, 113, 115, 117, 118, 120, 121, 123, 125, 126, 127, 129] 103 = some (eraseF c103) := by kernel_rfl
def p94_2 : List PO := [po 3 (.box 4 (tm 0)), po 6 (.alloc [(4, (.int .u64 0))]), po 7 (.mov (ki 0))]
def p94_3 : List PO := [pm 8 1, po 9 (.cmpI .lss (tm 8) (ki 0)), pm 10 9, ⟨(.some 11), (.mov (tm 1)), (.some (10, .false))⟩, ⟨(.some 12), (.cmpI .gtr (tm 11) (ki 255)), (.some (10, .false))⟩, po 13 (.pick (tm 10) (.const (.bool .true)) (tm 12))]
def p94_4 : List PO := [po 14 (.load .true 4 (tm 3)), ⟨.none, (.store 4 (tm 6) (tm 14)), .none⟩, po 7 (.mov (ki 1))]
def p94_5 : List PO := [pm 15 1, po 16 (.arI .quo (tm 15) (ki 64)), po 17 (.fld 0 (tm 3)), po 18 (.ixA 4 1 (tm 17) (tm 16)), po 19 (.load .false 1 (tm 18)), pm 20 1, po 21 (.arI .rem (tm 20) (ki 64)), po 22 (.sh .shl (.const (.int .u64 1)) (tm 21)), po 23 (.arI .andNot (tm 19) (tm 22)), po 24 (.fld 0 (tm 3)), po 25 (.ixA 4 1 (tm 24) (tm 16)), ⟨.none, (.store 1 (tm 25) (tm 23)), .none⟩]
def p94_6 : List PO := [pm 26 2]
def p94_7 : List PO := [pm 27 1, po 28 (.arI .quo (tm 27) (ki 64)), po 29 (.fld 0 (tm 3)), po 30 (.ixA 4 1 (tm 29) (tm 28)), po 31 (.load .false 1 (tm 30)), pm 32 1, po 33 (.arI .rem (tm 32) (ki 64)), po 34 (.sh .shl (.const (.int .u64 1)) (tm 33)), po 35 (.arI .or (tm 31) (tm 34)), po 36 (.fld 0 (tm 3)), po 37 (.ixA 4 1 (tm 36) (tm 28)), ⟨.none, (.store 1 (tm 37) (tm 35)), .none⟩]
def p94_8 : List PO := [po 38 (.load .true 4 (tm 3)), ⟨.none, (.store 4 (tm 6) (tm 38)), .none⟩, po 7 (.mov (ki 0))]
def c94_1 : PCode := (.keep [1, 2, 3, 6] [(32, .id 32), (56, .id 56)] [] (.seq (.regD p94_5 []) (.seq (.seq (.reg p94_6) (.cond (.tmp 26) (.regD p94_7 []) .skip)) (.seq (.reg p94_8) .ret))))
def c94_b : PCode := (.seq (.reg p94_2) (.seq (.seq (.reg p94_3) (.cond (.tmp 13) (.seq (.reg p94_4) .ret) .skip)) c94_1))
def c94 : FCode := ⟨39, c94_b, [(.cell 6 .true 4), (.tmp 7)], some ([6, 7], [(56, .id 56)], []), false⟩
theorem c94_ok : compF Go.Proofs.Tryz.prog [100014, 100017, 100019, 100031, 100035, 100036, 38, 100054, 100056, 63, 64, 65, 66, 68, 100070, 75, 80, 100081, 86, 87, 89, 91, 93, 95, 96, 97, 98, 102, 103, 104, 105, 113, 115, 117, 118, 120, 121, 123, 125, 126, 127, 129] 94 = some (eraseF c94) := by kernel_rfl
def p128_1 : List PO := [po 2 (.mov (.const (.bool .false)))]
def p128_2 : List PO := [pm 3 0, po 4 (.cmpI .lss (tm 3) (ki (-1))), pm 5 4, ⟨(.some 6), (.mov (tm 0)), (.some (5, .false))⟩, ⟨(.some 7), (.cmpI .gtr (tm 6) (ki 16383)), (.some (5, .false))⟩, po 8 (.pick (tm 5) (.const (.bool .true)) (tm 7)), pm 2 8]
def c128_b : PCode := (.seq (.reg p128_1) (.seq (.reg p128_2) .ret))
def c128 : FCode := ⟨9, c128_b, [(.tmp 2)], some ([2], [], []), false⟩
theorem c128_ok : compF Go.Proofs.Tryz.prog [100014, 100017, 100019, 100031, 100035, 100036, 38, 100054, 100056, 63, 64, 65, 66, 68, 100070, 75, 80, 100081, 86, 87, 89, 91, 93, 95, 96, 97, 98, 102, 103, 104, 105, 113, 115, 117, 118, 120, 121, 123, 125, 126, 127, 129] 128 = some (eraseF c128) := by kernel_rfl
def p134_1 : List PO := [po 2 (.mov (ki 0))]
def p134_2 : List PO := [po 3 (.build [(10, (.int .i64 0))] [(0, (1, (ki 0))), (1, (1, (ki 1))), (2, (1, (ki 2))), (3, (1, (ki 4))), (4, (1, (ki 8))), (5, (1, (ki 16))), (6, (1, (ki 0))), (7, (1, (ki 32))), (8, (1, (ki 64))), (9, (1, (ki 128)))]), pm 4 0, po 5 (.ixV .false 10 1 (tm 3) (tm 4)), pm 2 5]
def c134_b : PCode := (.seq (.reg p134_1) (.seq (.reg p134_2) .ret))
def c134 : FCode := ⟨6, c134_b, [(.tmp 2)], some ([2], [], []), false⟩
theorem c134_ok : compF Go.Proofs.Tryz.prog [100014, 100017, 100019, 100031, 100035, 100036, 38, 100054, 100056, 63, 64, 65, 66, 68, 100070, 75, 80, 100081, 86, 87, 89, 91, 93, 95, 96, 97, 98, 102, 103, 104, 105, 113, 115, 117, 118, 120, 121, 123, 125, 126, 127, 129] 134 = some (eraseF c134) := by kernel_rfl
def p129_6 : List PO := [pm 6 0, po 7 (.nilC (tm 6)), po 8 (.fld 1 (tm 7)), pm 4 8, po 5 (.mov (ki 30))]
def p129_7 : List PO := [pm 9 1, po 10 (.cmpI .geq (tm 9) (ki 40)), pm 11 10, ⟨(.some 12), (.mov (tm 1)), (.some (11, .true))⟩, ⟨(.some 13), (.cmpI .leq (tm 12) (ki 49)), (.some (11, .true))⟩, po 14 (.pick (tm 11) (tm 13) (.const (.bool .false))), pm 15 14, ⟨(.some 16), (.mov (tm 1)), (.some (15, .false))⟩, ⟨(.some 17), (.cmpI .geq (tm 16) (ki 100)), (.some (15, .false))⟩, ⟨(.some 18), (.mov (tm 17)), (.some (15, .false))⟩, ⟨(.some 19), (.mov (tm 1)), (.some (18, .true))⟩, ⟨(.some 20), (.cmpI .leq (tm 19) (ki 107)), (.some (18, .true))⟩, ⟨(.some 21), (.pick (tm 18) (tm 20) (.const (.bool .false))), (.some (15, .false))⟩, po 22 (.pick (tm 15) (.const (.bool .true)) (tm 21))]
def p129_8 : List PO := [pm 23 0, po 24 (.nilC (tm 23)), po 25 (.fld 2 (tm 24)), pm 4 25, po 5 (.mov (ki 40))]
def c129_4 : PCode := (.keep [0, 1] [(0, .id 0)] [] (.reg p129_8))
def c129_5 : PCode := (.keep [0, 1, 4, 5] [(0, .id 0)] [] .skip)
def p129_9 : List PO := [pm 27 1, po 28 (.cmpI .eql (tm 27) (ki 0)), pm 26 28]
def p129_10 : List PO := [pm 29 0, po 30 (.build [(3, (.int .i64 0))] []), po 31 (.nilC (tm 29)), ⟨.none, (.store 3 (tm 31) (tm 30)), .none⟩]
def p129_11 : List PO := [pm 33 1, po 34 (.cmpI .leq (tm 33) (ki 9)), pm 32 34]
def p129_12 : List PO := [pm 35 0, po 36 (.nilC (tm 35)), po 37 (.fld 0 (tm 36)), po 38 (.load .false 1 (tm 37)), pm 39 1, po 40 (.call 134 [(tm 39)]), po 41 (.arI .or (tm 38) (tm 40)), po 42 (.nilC (tm 35)), po 43 (.fld 0 (tm 42)), ⟨.none, (.store 1 (tm 43) (tm 41)), .none⟩]
def p129_13 : List PO := [pm 45 1, po 46 (.cmpI .eql (tm 45) (ki 22)), pm 44 46]
def p129_14 : List PO := [pm 47 0, po 48 (.nilC (tm 47)), po 49 (.fld 0 (tm 48)), po 50 (.load .false 1 (tm 49)), po 51 (.arI .andNot (tm 50) (ki 3)), po 52 (.nilC (tm 47)), po 53 (.fld 0 (tm 52)), ⟨.none, (.store 1 (tm 53) (tm 51)), .none⟩]
def p129_15 : List PO := [pm 55 1, po 56 (.cmpI .geq (tm 55) (ki 23)), pm 57 56, ⟨(.some 58), (.mov (tm 1)), (.some (57, .true))⟩, ⟨(.some 59), (.cmpI .leq (tm 58) (ki 29)), (.some (57, .true))⟩, po 60 (.pick (tm 57) (tm 59) (.const (.bool .false))), pm 54 60]
def p129_16 : List PO := [pm 61 0, po 62 (.nilC (tm 61)), po 63 (.fld 0 (tm 62)), po 64 (.load .false 1 (tm 63)), pm 65 1, po 66 (.arI .sub (tm 65) (ki 20)), po 67 (.call 134 [(tm 66)]), po 68 (.arI .andNot (tm 64) (tm 67)), po 69 (.nilC (tm 61)), po 70 (.fld 0 (tm 69)), ⟨.none, (.store 1 (tm 70) (tm 68)), .none⟩]
def p129_17 : List PO := [pm 72 1, pm 73 5, po 74 (.cmpI .geq (tm 72) (tm 73)), pm 75 74, ⟨(.some 76), (.mov (tm 1)), (.some (75, .true))⟩, ⟨(.some 77), (.mov (tm 5)), (.some (75, .true))⟩, ⟨(.some 78), (.arI .add (tm 77) (ki 7)), (.some (75, .true))⟩, ⟨(.some 79), (.cmpI .leq (tm 76) (tm 78)), (.some (75, .true))⟩, po 80 (.pick (tm 75) (tm 79) (.const (.bool .false))), pm 71 80]
def p129_18 : List PO := [pm 81 4, pm 82 1, pm 83 5, po 84 (.arI .sub (tm 82) (tm 83)), po 85 (.arI .add (tm 84) (ki 1)), po 86 (.nilC (tm 81)), ⟨.none, (.store 1 (tm 86) (tm 85)), .none⟩]
def p129_19 : List PO := [pm 88 1, pm 89 5, po 90 (.arI .add (tm 89) (ki 9)), po 91 (.cmpI .eql (tm 88) (tm 90)), pm 87 91]
def p129_20 : List PO := [pm 92 4, po 93 (.nilC (tm 92)), ⟨.none, (.store 1 (tm 93) (ki 0)), .none⟩]
def p129_21 : List PO := [pm 95 1, pm 96 5, po 97 (.arI .add (tm 96) (ki 60)), po 98 (.cmpI .geq (tm 95) (tm 97)), pm 99 98, ⟨(.some 100), (.mov (tm 1)), (.some (99, .true))⟩, ⟨(.some 101), (.mov (tm 5)), (.some (99, .true))⟩, ⟨(.some 102), (.arI .add (tm 101) (ki 67)), (.some (99, .true))⟩, ⟨(.some 103), (.cmpI .leq (tm 100) (tm 102)), (.some (99, .true))⟩, po 104 (.pick (tm 99) (tm 103) (.const (.bool .false))), pm 94 104]
def p129_22 : List PO := [pm 105 4, pm 106 1, pm 107 5, po 108 (.arI .sub (tm 106) (tm 107)), po 109 (.arI .sub (tm 108) (ki 60)), po 110 (.arI .add (tm 109) (ki 9)), po 111 (.nilC (tm 105)), ⟨.none, (.store 1 (tm 111) (tm 110)), .none⟩]
def c129_1 : PCode := (.keep [1, 4, 5] [(0, .id 0)] [] (.seq (.reg p129_19) (.cond (.tmp 87) (.reg p129_20) (.seq (.reg p129_21) (.cond (.tmp 94) (.reg p129_22) .skip)))))
def c129_2 : PCode := (.keep [1, 4, 5] [(0, .id 0)] [] (.seq (.reg p129_17) (.cond (.tmp 71) (.reg p129_18) c129_1)))
def c129_23 : PCode := (.cond (.tmp 26) (.reg p129_10) (.seq (.reg p129_11) (.cond (.tmp 32) (.regD p129_12 [(3, 5)]) (.seq (.reg p129_13) (.cond (.tmp 44) (.reg p129_14) (.seq (.reg p129_15) (.cond (.tmp 54) (.regD p129_16 [(3, 6)]) c129_2)))))))
def c129_3 : PCode := (.keep [0, 1, 4, 5] [(0, .id 0)] [] (.block 0 (.seq (.reg p129_9) c129_23)))
def c129_b : PCode := (.seq (.reg p129_6) (.seq (.seq (.reg p129_7) (.cond (.tmp 22) c129_4 c129_5)) c129_3))
def c129 : FCode := ⟨112, c129_b, [], some ([], [(0, .id 0)], []), false⟩
theorem c129_ok : compF Go.Proofs.Tryz.prog [100014, 100017, 100019, 100031, 100035, 100036, 38, 100054, 100056, 63, 64, 65, 66, 68, 100070, 75, 80, 100081, 86, 87, 89, 91, 93, 95, 96, 97, 98, 102, 103, 104, 105, 113, 115, 117, 118, 120, 121, 123, 125, 126, 127, 129] 129 = some (eraseF c129) := by kernel_rfl
def p135_1 : List PO := [po 2 (.mov (.const (.bool .false)))]
def p135_2 : List PO := [pm 3 0, po 4 (.cmpI .gtr (tm 3) (ki 255)), pm 2 4]
def c135_b : PCode := (.seq (.reg p135_1) (.seq (.reg p135_2) .ret))
def c135 : FCode := ⟨5, c135_b, [(.tmp 2)], some ([2], [], []), false⟩
theorem c135_ok : compF Go.Proofs.Tryz.prog [100014, 100017, 100019, 100031, 100035, 100036, 38, 100054, 100056, 63, 64, 65, 66, 68, 100070, 75, 80, 100081, 86, 87, 89, 91, 93, 95, 96, 97, 98, 102, 103, 104, 105, 113, 115, 117, 118, 120, 121, 123, 125, 126, 127, 129] 135 = some (eraseF c135) := by kernel_rfl
def p130_4 : List PO := [po 2 (.mov (ki 0)), po 3 (.mov (ki 0))]
def p130_5 : List PO := [po 4 (.mov (.func 135))]
def p130_6 : List PO := [pm 6 0, po 7 (.len .false (tm 6)), po 8 (.cmpI .geq (tm 7) (ki 2)), pm 9 8, ⟨(.some 10), (.mov (tm 0)), (.some (9, .true))⟩, ⟨(.some 11), (.ixS 3 1 (tm 10) (ki 0)), (.some (9, .true))⟩, ⟨(.some 12), (.load .false 1 (tm 11)), (.some (9, .true))⟩, ⟨(.some 13), (.cmpI .eql (tm 12) (ki 5)), (.some (9, .true))⟩, po 14 (.pick (tm 9) (tm 13) (.const (.bool .false))), pm 15 14, ⟨(.some 16), (.mov (tm 4)), (.some (15, .true))⟩, ⟨(.some 17), (.mov (tm 0)), (.some (15, .true))⟩, ⟨(.some 18), (.ixS 3 1 (tm 17) (ki 1)), (.some (15, .true))⟩, ⟨(.some 19), (.load .false 1 (tm 18)), (.some (15, .true))⟩, ⟨(.some 20), (.callv (tm 16) [(tm 19)]), (.some (15, .true))⟩, ⟨(.some 21), (.un .not (tm 20)), (.some (15, .true))⟩, po 22 (.pick (tm 15) (tm 21) (.const (.bool .false))), pm 5 22]
def p130_7 : List PO := [pm 23 0, po 24 (.ixS 3 1 (tm 23) (ki 1)), po 25 (.load .false 1 (tm 24)), po 26 (.arI .add (tm 25) (ki 1)), pm 2 26, po 3 (.mov (ki 2))]
def p130_8 : List PO := [pm 28 0, po 29 (.len .false (tm 28)), po 30 (.cmpI .geq (tm 29) (ki 4)), pm 31 30, ⟨(.some 32), (.mov (tm 0)), (.some (31, .true))⟩, ⟨(.some 33), (.ixS 3 1 (tm 32) (ki 0)), (.some (31, .true))⟩, ⟨(.some 34), (.load .false 1 (tm 33)), (.some (31, .true))⟩, ⟨(.some 35), (.cmpI .eql (tm 34) (ki 2)), (.some (31, .true))⟩, po 36 (.pick (tm 31) (tm 35) (.const (.bool .false))), pm 37 36, ⟨(.some 38), (.mov (tm 0)), (.some (37, .true))⟩, ⟨(.some 39), (.slS 3 1 (tm 38) (.some (ki 1)) (.some (ki 4))), (.some (37, .true))⟩, ⟨(.some 40), (.mov (tm 4)), (.some (37, .true))⟩, ⟨(.some 41), (.call 61 [(tm 39), (tm 40)]), (.some (37, .true))⟩, ⟨(.some 42), (.un .not (tm 41)), (.some (37, .true))⟩, po 43 (.pick (tm 37) (tm 42) (.const (.bool .false))), pm 27 43]
def p130_9 : List PO := [pm 44 0, po 45 (.ixS 3 1 (tm 44) (ki 1)), po 46 (.load .false 1 (tm 45)), po 47 (.sh .shl (tm 46) (.const (.int .u64 16))), po 48 (.arI .add (ki 16777216) (tm 47)), pm 49 0, po 50 (.ixS 3 1 (tm 49) (ki 2)), po 51 (.load .false 1 (tm 50)), po 52 (.sh .shl (tm 51) (.const (.int .u64 8))), po 53 (.arI .add (tm 48) (tm 52)), pm 54 0, po 55 (.ixS 3 1 (tm 54) (ki 3)), po 56 (.load .false 1 (tm 55)), po 57 (.arI .add (tm 53) (tm 56)), pm 2 57, po 3 (.mov (ki 4))]
def c130_1 : PCode := (.keep [0, 27] [] [] (.cond (.tmp 27) (.seq (.regD p130_9 []) .ret) .skip))
def c130_3 : PCode := (.keep [0, 4, 5] [] [] (.cond (.tmp 5) (.seq (.reg p130_7) .ret) (.seq (.reg p130_8) c130_1)))
def p130_10 : List PO := [po 2 (.mov (ki 0)), po 3 (.mov (ki 0))]
def c130_2 : PCode := (.seq (.reg p130_10) .ret)
def c130_b : PCode := (.seq (.reg p130_4) (.seq (.reg p130_5) (.seq (.block 0 (.seq (.reg p130_6) c130_3)) c130_2)))
def c130 : FCode := ⟨58, c130_b, [(.tmp 2), (.tmp 3)], some ([2, 3], [], []), false⟩
theorem c130_ok : compF Go.Proofs.Tryz.prog [100014, 100017, 100019, 100031, 100035, 100036, 38, 100054, 100056, 63, 64, 65, 66, 68, 100070, 75, 80, 100081, 86, 87, 89, 91, 93, 95, 96, 97, 98, 102, 103, 104, 105, 113, 115, 117, 118, 120, 121, 123, 125, 126, 127, 129] 130 = some (eraseF c130) := by kernel_rfl
def p122_14 : List PO := [po 2 (.box 3 (tm 0)), po 4 (.alloc [(3, (.int .i64 0))]), po 5 (.mov (ki 0))]
def p122_15 : List PO := [po 13 (.load .true 3 (tm 2)), po 14 (.call 50 [(tm 13)]), pm 6 14]
def p122_16 : List PO := [pm 15 6, po 16 (.cmpI .neq (tm 15) (ki 0))]
def p122_17 : List PO := [po 17 (.load .true 3 (tm 2)), pm 18 6, ⟨.none, (.store 3 (tm 4) (tm 17)), .none⟩, pm 5 18]
def p122_18 : List PO := [pm 19 1, po 20 (.len .false (tm 19)), po 21 (.cmpI .eql (tm 20) (ki 0)), pm 22 21, ⟨(.some 23), (.mov (tm 1)), (.some (22, .false))⟩, ⟨(.some 24), (.call 61 [(tm 23), (.func 128)]), (.some (22, .false))⟩, po 25 (.pick (tm 22) (.const (.bool .true)) (tm 24))]
def p122_19 : List PO := [po 26 (.load .true 3 (tm 2)), ⟨.none, (.store 3 (tm 4) (tm 26)), .none⟩, po 5 (.mov (ki 1))]
def p122_20 : List PO := [pm 27 1, po 28 (.len .false (tm 27)), po 29 (.cmpI .gtr (tm 28) (ki 32))]
def p122_21 : List PO := [po 30 (.load .true 3 (tm 2)), ⟨.none, (.store 3 (tm 4) (tm 30)), .none⟩, po 5 (.mov (ki 2))]
def p122_22 : List PO := [po 7 (.nilS 3 1)]
def p122_23 : List PO := [pm 31 1, po 32 (.len .false (tm 31)), po 33 (.mov (ki 0))]
def p122_24 : List PO := [po 34 (.cmpI .lss (tm 33) (tm 32))]
def p122_25 : List PO := [po 35 (.ixS 3 1 (tm 31) (tm 33)), po 36 (.load .false 1 (tm 35)), pm 9 36]
def p122_26 : List PO := [pm 37 7, pm 38 9, po 39 (.mx [(tm 38), (ki 0)]), po 40 (.bsl 3 1 1 [(1, (.int .i64 0))] [(0, (1, (tm 39)))]), po 41 (.app 3 1 8 (tm 37) (tm 40)), pm 7 41]
def p122_27 : List PO := [po 42 (.arI .add (tm 33) (ki 1)), pm 33 42]
def c122_8 : PCode := (.keep [2, 4, 7, 31, 32, 33] [(24, .id 24), (40, .id 40), (64, .id 64)] [] (.seq (.block 1 (.seq (.reg p122_25) (.reg p122_26))) (.reg p122_27)))
def c122_9 : PCode := (.keep [2, 4, 7, 31, 32, 33, 34] [(24, .id 24), (40, .id 40), (64, .id 64)] [] (.seq (.cond (.tmp 34) .skip (.keep [2, 4, 7] [(24, .id 24), (40, .id 40), (64, .id 64)] [] (.exit 0))) c122_8))
def c122_10 : PCode := (.keep [2, 4, 7, 31, 32, 33] [(24, .id 24), (40, .id 40), (64, .id 64)] [] (.seq (.reg p122_24) c122_9))
def p122_28 : List PO := [po 10 (.mov (ki 0))]
def p122_29 : List PO := [pm 43 10, pm 44 7, po 45 (.len .false (tm 44)), po 46 (.cmpI .lss (tm 43) (tm 45))]
def p122_30 : List PO := [pm 49 7, pm 50 10, po 51 (.ixS 3 1 (tm 49) (tm 50)), po 52 (.load .false 1 (tm 51)), po 53 (.cmpI .neq (tm 52) (ki 38)), pm 54 53, ⟨(.some 55), (.mov (tm 7)), (.some (54, .true))⟩, ⟨(.some 56), (.mov (tm 10)), (.some (54, .true))⟩, ⟨(.some 57), (.ixS 3 1 (tm 55) (tm 56)), (.some (54, .true))⟩, ⟨(.some 58), (.load .false 1 (tm 57)), (.some (54, .true))⟩, ⟨(.some 59), (.cmpI .neq (tm 58) (ki 48)), (.some (54, .true))⟩, po 60 (.pick (tm 54) (tm 59) (.const (.bool .false)))]
def p122_31 : List PO := [pm 61 7, pm 62 10, po 63 (.ixS 3 1 (tm 61) (tm 62)), po 64 (.load .false 1 (tm 63)), po 65 (.callr 129 [(tm 2), (tm 64)])]
def c122_4 : PCode := (.keep [2, 4, 7, 10] [(24, .id 24), (40, .id 40), (64, .id 64)] [] .skip)
def p122_32 : List PO := [pm 67 7, pm 68 10, po 69 (.arI .add (tm 68) (ki 1)), po 70 (.slS 3 1 (tm 67) (.some (tm 69)) .none), po 71 (.call 130 [(tm 70)]), pm 66 71, po 72 (.ext (tm 66) 0), po 73 (.ext (tm 66) 1), pm 11 72, pm 12 73]
def p122_33 : List PO := [pm 74 12, po 75 (.cmpI .eql (tm 74) (ki 0))]
def p122_34 : List PO := [pm 76 7, pm 77 10, po 78 (.ixS 3 1 (tm 76) (tm 77)), po 79 (.load .false 1 (tm 78)), po 80 (.cmpI .eql (tm 79) (ki 38))]
def p122_35 : List PO := [pm 81 11, po 82 (.fld 1 (tm 2)), ⟨.none, (.store 1 (tm 82) (tm 81)), .none⟩]
def p122_36 : List PO := [pm 83 11, po 84 (.fld 2 (tm 2)), ⟨.none, (.store 1 (tm 84) (tm 83)), .none⟩]
def p122_37 : List PO := [pm 85 10, pm 86 12, po 87 (.arI .add (tm 85) (tm 86)), pm 10 87]
def c122_1 : PCode := (.keep [2, 4, 7, 10, 11, 12] [(24, .id 24), (40, .id 40), (64, .id 64)] [] (.seq (.seq (.reg p122_34) (.cond (.tmp 80) (.reg p122_35) (.reg p122_36))) (.reg p122_37)))
def c122_3 : PCode := (.keep [2, 4, 7, 10] [(24, .id 24), (40, .id 40), (64, .id 64)] [] (.seq (.reg p122_32) (.seq (.seq (.reg p122_33) (.cond (.tmp 75) (.keep [2, 4] [(24, .id 24), (40, .id 40)] [] (.exit 2)) .skip)) c122_1)))
def p122_38 : List PO := [pm 47 10, po 48 (.arI .add (tm 47) (ki 1)), pm 10 48]
def c122_2 : PCode := (.reg p122_38)
def c122_5 : PCode := (.keep [2, 4, 7, 10] [(24, .id 24), (40, .id 40), (64, .id 64)] [] (.seq (.block 3 (.seq (.seq (.reg p122_30) (.cond (.tmp 60) (.seq (.reg p122_31) (.exit 3)) c122_4)) c122_3)) c122_2))
def c122_6 : PCode := (.keep [2, 4, 7, 10] [(24, .id 24), (40, .id 40), (64, .id 64)] [] (.seq (.seq (.reg p122_29) (.cond (.tmp 46) .skip (.keep [2, 4] [(24, .id 24), (40, .id 40)] [] (.exit 2)))) c122_5))
def p122_39 : List PO := [po 88 (.load .true 3 (tm 2)), ⟨.none, (.store 3 (tm 4) (tm 88)), .none⟩, po 5 (.mov (ki 0))]
def c122_7 : PCode := (.keep [2, 4, 7] [(24, .id 24), (40, .id 40), (64, .id 64)] [] (.seq (.seq (.reg p122_28) (.block 2 (.loop c122_6))) (.seq (.reg p122_39) .ret)))
def c122_11 : PCode := (.keep [1, 2, 4] [(24, .id 24), (40, .id 40)] [] (.seq (.reg p122_22) (.seq (.seq (.reg p122_23) (.block 0 (.loop c122_10))) c122_7)))
def c122_12 : PCode := (.keep [1, 2, 4] [(24, .id 24), (40, .id 40)] [] (.seq (.seq (.reg p122_20) (.cond (.tmp 29) (.seq (.reg p122_21) .ret) .skip)) c122_11))
def c122_13 : PCode := (.keep [1, 2, 4] [(24, .id 24), (40, .id 40)] [] (.seq (.seq (.reg p122_18) (.cond (.tmp 25) (.seq (.reg p122_19) .ret) .skip)) c122_12))
def c122_b : PCode := (.seq (.reg p122_14) (.seq (.seq (.reg p122_15) (.seq (.reg p122_16) (.cond (.tmp 16) (.seq (.reg p122_17) .ret) .skip))) c122_13))
def c122 : FCode := ⟨89, c122_b, [(.cell 4 .true 3), (.tmp 5)], some ([4, 5], [(40, .id 40)], []), false⟩
theorem c122_ok : compF Go.Proofs.Tryz.prog [100014, 100017, 100019, 100031, 100035, 100036, 38, 100054, 100056, 63, 64, 65, 66, 68, 100070, 75, 80, 100081, 86, 87, 89, 91, 93, 95, 96, 97, 98, 102, 103, 104, 105, 113, 115, 117, 118, 120, 121, 123, 125, 126, 127, 129] 122 = some (eraseF c122) := by kernel_rfl
def p123_2 : List PO := [pm 5 0, po 6 (.nilC (tm 5)), po 7 (.fld 0 (tm 6)), po 8 (.fld 3 (tm 7)), po 9 (.load .false 1 (tm 8)), po 10 (.arI .add (tm 9) (ki 1)), pm 4 10]
def p123_3 : List PO := [pm 11 0, po 12 (.call 88 [(tm 11), (ki 2)])]
def p123_4 : List PO := [pm 13 4, pm 14 0, po 15 (.nilC (tm 14)), po 16 (.fld 0 (tm 15)), po 17 (.fld 6 (tm 16)), po 18 (.load .false 1 (tm 17)), po 19 (.arI .sub (tm 13) (tm 18)), pm 4 19]
def p123_5 : List PO := [pm 20 1]
def p123_6 : List PO := [po 22 (.cmpI .eql (tm 20) (ki 5)), pm 21 22]
def p123_7 : List PO := [pm 23 0, po 24 (.nilC (tm 23)), po 25 (.fld 33 (tm 24)), po 26 (.load .false 1 (tm 25)), po 27 (.strO .add (tm 26) (.const (.string ⟨#[27, 91, 48, 110]⟩))), po 28 (.nilC (tm 23)), po 29 (.fld 33 (tm 28)), ⟨.none, (.store 1 (tm 29) (tm 27)), .none⟩]
def p123_8 : List PO := [po 31 (.cmpI .eql (tm 20) (ki 6)), pm 30 31]
def p123_9 : List PO := [pm 32 0, po 33 (.nilC (tm 32)), po 34 (.fld 33 (tm 33)), po 35 (.load .false 1 (tm 34)), pm 36 4, po 37 (.call 131 [(tm 36)]), po 38 (.strO .add (.const (.string ⟨#[27, 91]⟩)) (tm 37)), po 39 (.strO .add (tm 38) (.const (.string ⟨#[59]⟩))), pm 40 0, po 41 (.nilC (tm 40)), po 42 (.fld 0 (tm 41)), po 43 (.fld 4 (tm 42)), po 44 (.load .false 1 (tm 43)), po 45 (.arI .add (tm 44) (ki 1)), po 46 (.call 131 [(tm 45)]), po 47 (.strO .add (tm 39) (tm 46)), po 48 (.strO .add (tm 47) (.const (.string ⟨#[82]⟩))), po 49 (.strO .add (tm 35) (tm 48)), po 50 (.nilC (tm 32)), po 51 (.fld 33 (tm 50)), ⟨.none, (.store 1 (tm 51) (tm 49)), .none⟩]
def c123_1 : PCode := (.keep [0, 1, 4] [(0, .id 0), (1, .id 1), (2, .id 2), (3, .id 3)] [] (.seq (.reg p123_5) (.block 0 (.seq (.reg p123_6) (.cond (.tmp 21) (.reg p123_7) (.seq (.reg p123_8) (.cond (.tmp 30) (.regD p123_9 [(3, 5), (5, 12), (3, 14)]) .skip)))))))
def c123_b : PCode := (.seq (.reg p123_2) (.seq (.seq (.reg p123_3) (.cond (.tmp 12) (.reg p123_4) .skip)) c123_1))
def c123 : FCode := ⟨52, c123_b, [], some ([2000000], [(0, .id 0), (1, .id 1), (2, .id 2), (3, .id 3)], []), false⟩
theorem c123_ok : compF Go.Proofs.Tryz.prog [100014, 100017, 100019, 100031, 100035, 100036, 38, 100054, 100056, 63, 64, 65, 66, 68, 100070, 75, 80, 100081, 86, 87, 89, 91, 93, 95, 96, 97, 98, 102, 103, 104, 105, 113, 115, 117, 118, 120, 121, 123, 125, 126, 127, 129] 123 = some (eraseF c123) := by kernel_rfl
def p104_7 : List PO := [po 5 (.box 6 (tm 1))]
def p104_8 : List PO := [po 13 (.fld 1 (tm 5)), po 14 (.load .false 1 (tm 13))]
def p104_9 : List PO := [po 16 (.cmpI .eql (tm 14) (ki 103)), pm 15 16]
def p104_10 : List PO := [pm 17 3]
def p104_11 : List PO := [po 19 (.cmpI .eql (tm 17) (ki 0)), pm 18 19]
def p104_12 : List PO := [pm 21 0, pm 22 0, po 23 (.nilC (tm 22)), po 24 (.fld 0 (tm 23)), po 25 (.fld 12 (tm 24)), po 26 (.load .true 4 (tm 25)), pm 27 0, po 28 (.nilC (tm 27)), po 29 (.fld 0 (tm 28)), po 30 (.fld 4 (tm 29)), po 31 (.load .false 1 (tm 30)), po 32 (.call 94 [(tm 26), (tm 31), (.const (.bool .false))]), pm 20 32, po 33 (.ext (tm 20) 0), po 34 (.ext (tm 20) 1), po 35 (.nilC (tm 21)), po 36 (.fld 0 (tm 35)), po 37 (.fld 12 (tm 36)), ⟨.none, (.store 4 (tm 37) (tm 33)), .none⟩]
def p104_13 : List PO := [po 39 (.cmpI .eql (tm 17) (ki 3)), pm 38 39]
def p104_14 : List PO := [pm 40 0, po 41 (.build [(4, (.int .u64 0))] []), po 42 (.nilC (tm 40)), po 43 (.fld 0 (tm 42)), po 44 (.fld 12 (tm 43)), ⟨.none, (.store 4 (tm 44) (tm 41)), .none⟩]
def p104_15 : List PO := [po 46 (.cmpI .eql (tm 14) (ki 104)), pm 45 46]
def p104_16 : List PO := [po 47 (.cmpI .eql (tm 14) (ki 108)), pm 45 47]
def p104_17 : List PO := [po 48 (.fld 4 (tm 5)), po 49 (.load .false 1 (tm 48)), po 50 (.len .false (tm 49)), po 51 (.mov (ki 0))]
def p104_18 : List PO := [po 52 (.cmpI .lss (tm 51) (tm 50))]
def p104_19 : List PO := [po 53 (.ixS 3 1 (tm 49) (tm 51)), po 54 (.load .false 1 (tm 53)), pm 9 54]
def p104_20 : List PO := [pm 55 9]
def p104_21 : List PO := [po 57 (.cmpI .eql (tm 55) (ki 4)), pm 56 57]
def p104_22 : List PO := [pm 58 0, po 59 (.fld 1 (tm 5)), po 60 (.load .false 1 (tm 59)), po 61 (.cmpI .eql (tm 60) (ki 104)), po 62 (.callr 97 [(tm 58), (ki 1), (tm 61)])]
def p104_23 : List PO := [po 64 (.cmpI .eql (tm 55) (ki 20)), pm 63 64]
def p104_24 : List PO := [pm 65 0, po 66 (.fld 1 (tm 5)), po 67 (.load .false 1 (tm 66)), po 68 (.cmpI .eql (tm 67) (ki 104)), po 69 (.callr 97 [(tm 65), (ki 128), (tm 68)])]
def p104_25 : List PO := [po 70 (.arI .add (tm 51) (ki 1)), pm 51 70]
def c104_1 : PCode := (.keep [0, 5, 49, 50, 51, 1000001, 1000002, 1000003] [(0, .id 0), (1, .id 1), (2, .id 2), (3, .id 3), (48, .id 48)] [] (.seq (.block 3 (.seq (.reg p104_19) (.seq (.reg p104_20) (.block 4 (.seq (.reg p104_21) (.cond (.tmp 56) (.reg p104_22) (.seq (.reg p104_23) (.cond (.tmp 63) (.reg p104_24) .skip)))))))) (.reg p104_25)))
def c104_2 : PCode := (.keep [0, 5, 49, 50, 51, 52, 1000001, 1000002, 1000003] [(0, .id 0), (1, .id 1), (2, .id 2), (3, .id 3), (48, .id 48)] [] (.seq (.cond (.tmp 52) .skip (.keep [1000001, 1000002, 1000003] [(0, .id 0), (1, .id 1), (2, .id 2), (3, .id 3)] [] (.exit 2))) c104_1))
def c104_3 : PCode := (.keep [0, 5, 49, 50, 51, 1000001, 1000002, 1000003] [(0, .id 0), (1, .id 1), (2, .id 2), (3, .id 3), (48, .id 48)] [] (.seq (.reg p104_18) c104_2))
def p104_26 : List PO := [po 72 (.cmpI .eql (tm 14) (ki 109)), pm 71 72]
def p104_27 : List PO := [pm 74 0, po 75 (.nilC (tm 74)), po 76 (.fld 0 (tm 75)), po 77 (.fld 8 (tm 76)), po 78 (.load .true 3 (tm 77)), po 79 (.fld 4 (tm 5)), po 80 (.load .false 1 (tm 79)), po 81 (.call 122 [(tm 78), (tm 80)]), pm 73 81, po 82 (.ext (tm 73) 0), po 83 (.ext (tm 73) 1), po 10 (.alloc [(3, (.int .i64 0))]), ⟨.none, (.store 3 (tm 10) (tm 82)), .none⟩, pm 11 83]
def p104_28 : List PO := [pm 84 11, po 85 (.cmpI .eql (tm 84) (ki 0))]
def p104_29 : List PO := [pm 86 0, po 87 (.load .true 3 (tm 10)), po 88 (.nilC (tm 86)), po 89 (.fld 0 (tm 88)), po 90 (.fld 8 (tm 89)), ⟨.none, (.store 3 (tm 90) (tm 87)), .none⟩]
def p104_30 : List PO := [po 92 (.cmpI .eql (tm 14) (ki 114)), pm 91 92]
def p104_31 : List PO := [po 93 (.fld 4 (tm 5)), po 94 (.load .false 1 (tm 93)), po 95 (.call 101 [(tm 94), (ki 1), (ki 0)]), pm 12 95]
def p104_32 : List PO := [pm 96 12, po 97 (.cmpI .eql (tm 96) (ki 0)), pm 98 97, ⟨(.some 99), (.mov (tm 12)), (.some (98, .false))⟩, ⟨(.some 100), (.mov (tm 0)), (.some (98, .false))⟩, ⟨(.some 101), (.nilC (tm 100)), (.some (98, .false))⟩, ⟨(.some 102), (.fld 0 (tm 101)), (.some (98, .false))⟩, ⟨(.some 103), (.fld 0 (tm 102)), (.some (98, .false))⟩, ⟨(.some 104), (.fld 1 (tm 103)), (.some (98, .false))⟩, ⟨(.some 105), (.load .false 1 (tm 104)), (.some (98, .false))⟩, ⟨(.some 106), (.cmpI .gtr (tm 99) (tm 105)), (.some (98, .false))⟩, po 107 (.pick (tm 98) (.const (.bool .true)) (tm 106))]
def p104_33 : List PO := [pm 108 0, po 109 (.nilC (tm 108)), po 110 (.fld 0 (tm 109)), po 111 (.fld 0 (tm 110)), po 112 (.fld 1 (tm 111)), po 113 (.load .false 1 (tm 112)), pm 12 113]
def c104_5 : PCode := (.keep [0, 2, 1000001, 1000002, 1000003] [(0, .id 0), (1, .id 1), (2, .id 2), (3, .id 3)] [] (.reg p104_33))
def p104_34 : List PO := [pm 114 2, pm 115 12, po 116 (.cmpI .lss (tm 114) (tm 115))]
def p104_35 : List PO := [pm 117 0, pm 118 0, pm 119 2, po 120 (.arI .sub (tm 119) (ki 1)), pm 121 12, po 122 (.nilC (tm 117)), po 123 (.fld 0 (tm 122)), po 124 (.fld 6 (tm 123)), ⟨.none, (.store 1 (tm 124) (tm 120)), .none⟩, po 125 (.nilC (tm 118)), po 126 (.fld 0 (tm 125)), po 127 (.fld 7 (tm 126)), ⟨.none, (.store 1 (tm 127) (tm 121)), .none⟩]
def p104_36 : List PO := [pm 128 0, po 129 (.callr 118 [(tm 128), (ki 0), (ki 0)])]
def c104_4 : PCode := (.keep [0, 2, 12, 1000001, 1000002, 1000003] [(0, .id 0), (1, .id 1), (2, .id 2), (3, .id 3)] [] (.seq (.reg p104_34) (.cond (.tmp 116) (.seq (.reg p104_35) (.reg p104_36)) .skip)))
def p104_37 : List PO := [po 131 (.cmpI .eql (tm 14) (ki 110)), pm 130 131]
def p104_38 : List PO := [pm 132 0, pm 133 3, po 134 (.callr 123 [(tm 132), (tm 133)])]
def p104_39 : List PO := [po 136 (.cmpI .eql (tm 14) (ki 99)), pm 135 136]
def p104_40 : List PO := [pm 137 3, po 138 (.cmpI .eql (tm 137) (ki 0))]
def p104_41 : List PO := [pm 139 0, po 140 (.nilC (tm 139)), po 141 (.fld 33 (tm 140)), po 142 (.load .false 1 (tm 141)), po 143 (.strO .add (tm 142) (.const (.string ⟨#[27, 91, 63, 54, 50, 99]⟩))), po 144 (.nilC (tm 139)), po 145 (.fld 33 (tm 144)), ⟨.none, (.store 1 (tm 145) (tm 143)), .none⟩]
def c104_42 : PCode := (.cond (.tmp 91) (.seq (.reg p104_31) (.seq (.seq (.reg p104_32) (.cond (.tmp 107) c104_5 .skip)) c104_4)) (.seq (.reg p104_37) (.cond (.tmp 130) (.reg p104_38) (.seq (.reg p104_39) (.cond (.tmp 135) (.seq (.reg p104_40) (.cond (.tmp 138) (.reg p104_41) .skip)) .skip)))))
def c104_6 : PCode := (.keep [0, 2, 3, 5, 14, 45, 1000001, 1000002, 1000003] [(0, .id 0), (1, .id 1), (2, .id 2), (3, .id 3), (48, .id 48)] [] (.cond (.tmp 45) (.seq (.reg p104_17) (.block 2 (.loop c104_3))) (.seq (.reg p104_26) (.cond (.tmp 71) (.seq (.regD p104_27 [(4, 11), (6, 11), (7, 11)]) (.seq (.reg p104_28) (.cond (.tmp 85) (.reg p104_29) .skip))) (.seq (.reg p104_30) c104_42)))))
def c104_43 : PCode := (.cond (.tmp 15) (.seq (.reg p104_10) (.block 1 (.seq (.reg p104_11) (.cond (.tmp 18) (.regD p104_12 []) (.seq (.reg p104_13) (.cond (.tmp 38) (.reg p104_14) .skip)))))) (.seq (.seq (.reg p104_15) (.cond (.tmp 45) .skip (.reg p104_16))) c104_6))
def c104_b : PCode := (.seq (.reg p104_7) (.seq (.reg p104_8) (.block 0 (.seq (.reg p104_9) c104_43))))
def c104 : FCode := ⟨146, c104_b, [], some ([1000001, 1000002, 1000003], [(0, .id 0), (1, .id 1), (2, .id 2), (3, .id 3)], []), false⟩
theorem c104_ok : compF Go.Proofs.Tryz.prog [100014, 100017, 100019, 100031, 100035, 100036, 38, 100054, 100056, 63, 64, 65, 66, 68, 100070, 75, 80, 100081, 86, 87, 89, 91, 93, 95, 96, 97, 98, 102, 103, 104, 105, 113, 115, 117, 118, 120, 121, 123, 125, 126, 127, 129] 104 = some (eraseF c104) := by kernel_rfl
def p68_6 : List PO := [po 3 (.box 6 (tm 1))]
def p68_7 : List PO := [po 8 (.fld 4 (tm 3)), po 9 (.load .false 1 (tm 8)), po 10 (.call 100 [(tm 9), (ki 0)]), po 11 (.fld 4 (tm 3)), po 12 (.load .false 1 (tm 11)), po 13 (.call 101 [(tm 12), (ki 0), (ki 0)]), pm 4 10, pm 5 13]
def p68_8 : List PO := [po 15 (.fld 2 (tm 3)), po 16 (.load .false 1 (tm 15)), po 17 (.cmpI .eql (tm 16) (ki 0)), pm 14 17]
def p68_9 : List PO := [pm 18 0, po 19 (.load .true 6 (tm 3)), pm 20 4, po 21 (.callr 102 [(tm 18), (tm 19), (tm 20)]), po 22 (.un .not (tm 21)), pm 23 22, ⟨(.some 24), (.mov (tm 0)), (.some (23, .true))⟩, ⟨(.some 25), (.fld 1 (tm 3)), (.some (23, .true))⟩, ⟨(.some 26), (.load .false 1 (tm 25)), (.some (23, .true))⟩, ⟨(.some 27), (.mov (tm 4)), (.some (23, .true))⟩, ⟨(.some 28), (.mov (tm 5)), (.some (23, .true))⟩, ⟨(.some 29), (.callr 103 [(tm 24), (tm 26), (tm 27), (tm 28)]), (.some (23, .true))⟩, ⟨(.some 30), (.un .not (tm 29)), (.some (23, .true))⟩, po 31 (.pick (tm 23) (tm 30) (.const (.bool .false)))]
def p68_10 : List PO := [pm 32 0, po 33 (.load .true 6 (tm 3)), pm 34 4, pm 35 5, po 36 (.callr 104 [(tm 32), (tm 33), (tm 34), (tm 35)])]
def p68_11 : List PO := [po 38 (.fld 2 (tm 3)), po 39 (.load .false 1 (tm 38)), po 40 (.cmpI .eql (tm 39) (ki 62)), pm 41 40, ⟨(.some 42), (.fld 1 (tm 3)), (.some (41, .true))⟩, ⟨(.some 43), (.load .false 1 (tm 42)), (.some (41, .true))⟩, ⟨(.some 44), (.cmpI .eql (tm 43) (ki 99)), (.some (41, .true))⟩, po 45 (.pick (tm 41) (tm 44) (.const (.bool .false))), pm 46 45, ⟨(.some 47), (.mov (tm 5)), (.some (46, .true))⟩, ⟨(.some 48), (.cmpI .eql (tm 47) (ki 0)), (.some (46, .true))⟩, po 49 (.pick (tm 46) (tm 48) (.const (.bool .false))), pm 37 49]
def p68_12 : List PO := [pm 50 0, po 51 (.nilC (tm 50)), po 52 (.fld 33 (tm 51)), po 53 (.load .false 1 (tm 52)), po 54 (.strO .add (tm 53) (.const (.string ⟨#[27, 91, 62, 49, 59, 49, 48, 59, 48, 99]⟩))), po 55 (.nilC (tm 50)), po 56 (.fld 33 (tm 55)), ⟨.none, (.store 1 (tm 56) (tm 54)), .none⟩]
def p68_13 : List PO := [po 58 (.fld 2 (tm 3)), po 59 (.load .false 1 (tm 58)), po 60 (.cmpI .eql (tm 59) (ki 63)), pm 61 60, ⟨(.some 62), (.fld 1 (tm 3)), (.some (61, .true))⟩, ⟨(.some 63), (.load .false 1 (tm 62)), (.some (61, .true))⟩, ⟨(.some 64), (.cmpI .eql (tm 63) (ki 104)), (.some (61, .true))⟩, ⟨(.some 65), (.mov (tm 64)), (.some (61, .true))⟩, ⟨(.some 66), (.fld 1 (tm 3)), (.some (65, .false))⟩, ⟨(.some 67), (.load .false 1 (tm 66)), (.some (65, .false))⟩, ⟨(.some 68), (.cmpI .eql (tm 67) (ki 108)), (.some (65, .false))⟩, ⟨(.some 69), (.pick (tm 65) (.const (.bool .true)) (tm 68)), (.some (61, .true))⟩, po 70 (.pick (tm 61) (tm 69) (.const (.bool .false))), pm 57 70]
def p68_14 : List PO := [po 71 (.fld 4 (tm 3)), po 72 (.load .false 1 (tm 71)), po 73 (.len .false (tm 72)), po 74 (.mov (ki 0))]
def p68_15 : List PO := [po 75 (.cmpI .lss (tm 74) (tm 73))]
def p68_16 : List PO := [po 76 (.ixS 3 1 (tm 72) (tm 74)), po 77 (.load .false 1 (tm 76)), pm 7 77]
def p68_17 : List PO := [pm 78 0, pm 79 7, po 80 (.fld 1 (tm 3)), po 81 (.load .false 1 (tm 80)), po 82 (.cmpI .eql (tm 81) (ki 104)), po 83 (.callr 105 [(tm 78), (tm 79), (tm 82)])]
def p68_18 : List PO := [po 84 (.arI .add (tm 74) (ki 1)), pm 74 84]
def c68_1 : PCode := (.keep [0, 3, 72, 73, 74, 1000001, 1000002, 1000003] [(0, .id 0), (1, .id 1), (2, .id 2), (3, .id 3), (32, .id 32)] [] (.seq (.block 2 (.seq (.reg p68_16) (.reg p68_17))) (.reg p68_18)))
def c68_2 : PCode := (.keep [0, 3, 72, 73, 74, 75, 1000001, 1000002, 1000003] [(0, .id 0), (1, .id 1), (2, .id 2), (3, .id 3), (32, .id 32)] [] (.seq (.cond (.tmp 75) .skip (.keep [1000001, 1000002, 1000003] [(0, .id 0), (1, .id 1), (2, .id 2), (3, .id 3)] [] (.exit 1))) c68_1))
def c68_3 : PCode := (.keep [0, 3, 72, 73, 74, 1000001, 1000002, 1000003] [(0, .id 0), (1, .id 1), (2, .id 2), (3, .id 3), (32, .id 32)] [] (.seq (.reg p68_15) c68_2))
def c68_4 : PCode := (.keep [0, 3, 1000001, 1000002, 1000003] [(0, .id 0), (1, .id 1), (2, .id 2), (3, .id 3), (32, .id 32)] [] (.seq (.reg p68_14) (.block 1 (.loop c68_3))))
def c68_5 : PCode := (.keep [0, 3, 1000001, 1000002, 1000003] [(0, .id 0), (1, .id 1), (2, .id 2), (3, .id 3), (32, .id 32)] [] (.seq (.reg p68_13) (.cond (.tmp 57) c68_4 .skip)))
def c68_19 : PCode := (.seq (.reg p68_6) (.seq (.regD p68_7 [(2, 4)]) (.block 0 (.seq (.reg p68_8) (.cond (.tmp 14) (.seq (.reg p68_9) (.cond (.tmp 31) (.reg p68_10) .skip)) (.seq (.reg p68_11) (.cond (.tmp 37) (.reg p68_12) c68_5)))))))
def c68_b : PCode := c68_19
def c68 : FCode := ⟨85, c68_b, [], some ([1000001, 1000002, 1000003], [(0, .id 0), (1, .id 1), (2, .id 2), (3, .id 3)], []), false⟩
theorem c68_ok : compF Go.Proofs.Tryz.prog [100014, 100017, 100019, 100031, 100035, 100036, 38, 100054, 100056, 63, 64, 65, 66, 68, 100070, 75, 80, 100081, 86, 87, 89, 91, 93, 95, 96, 97, 98, 102, 103, 104, 105, 113, 115, 117, 118, 120, 121, 123, 125, 126, 127, 129] 68 = some (eraseF c68) := by kernel_rfl
def p38_2 : List PO := [po 3 (.box 6 (tm 1))]
def p38_3 : List PO := [po 5 (.fld 0 (tm 3)), po 6 (.load .false 1 (tm 5)), po 7 (.cmpI .eql (tm 6) (ki 1)), pm 4 7]
def p38_4 : List PO := [pm 8 0, po 9 (.fld 1 (tm 3)), po 10 (.load .false 1 (tm 9)), po 11 (.callr 63 [(tm 8), (tm 10)])]
def p38_5 : List PO := [po 13 (.fld 0 (tm 3)), po 14 (.load .false 1 (tm 13)), po 15 (.cmpI .eql (tm 14) (ki 2)), pm 12 15]
def p38_6 : List PO := [pm 16 0, po 17 (.fld 1 (tm 3)), po 18 (.load .false 1 (tm 17)), po 19 (.callr 64 [(tm 16), (tm 18)])]
def p38_7 : List PO := [po 21 (.fld 0 (tm 3)), po 22 (.load .false 1 (tm 21)), po 23 (.cmpI .eql (tm 22) (ki 3)), pm 24 23, ⟨(.some 25), (.fld 3 (tm 3)), (.some (24, .true))⟩, ⟨(.some 26), (.load .false 1 (tm 25)), (.some (24, .true))⟩, ⟨(.some 27), (.strO .eql (tm 26) (.const (.string ⟨#[]⟩))), (.some (24, .true))⟩, po 28 (.pick (tm 24) (tm 27) (.const (.bool .false))), pm 20 28]
def p38_8 : List PO := [pm 29 0, po 30 (.fld 1 (tm 3)), po 31 (.load .false 1 (tm 30)), po 32 (.callr 65 [(tm 29), (tm 31)])]
def p38_9 : List PO := [po 34 (.fld 0 (tm 3)), po 35 (.load .false 1 (tm 34)), po 36 (.cmpI .eql (tm 35) (ki 3)), pm 33 36]
def p38_10 : List PO := [pm 37 0, po 38 (.fld 3 (tm 3)), po 39 (.load .false 1 (tm 38)), po 40 (.fld 1 (tm 3)), po 41 (.load .false 1 (tm 40)), po 42 (.callr 66 [(tm 37), (tm 39), (tm 41)])]
def p38_11 : List PO := [po 44 (.fld 0 (tm 3)), po 45 (.load .false 1 (tm 44)), po 46 (.cmpI .eql (tm 45) (ki 5)), pm 43 46]
def p38_12 : List PO := [po 47 (.fld 5 (tm 3)), po 48 (.load .false 1 (tm 47)), po 49 (.call 67 [(tm 48), (.const (.string ⟨#[48, 59]⟩))]), pm 50 49, ⟨(.some 51), (.fld 5 (tm 3)), (.some (50, .false))⟩, ⟨(.some 52), (.load .false 1 (tm 51)), (.some (50, .false))⟩, ⟨(.some 53), (.call 67 [(tm 52), (.const (.string ⟨#[50, 59]⟩))]), (.some (50, .false))⟩, po 54 (.pick (tm 50) (.const (.bool .true)) (tm 53))]
def p38_13 : List PO := [pm 55 0, po 56 (.fld 5 (tm 3)), po 57 (.load .false 1 (tm 56)), po 58 (.slStr (tm 57) (.some (ki 2)) .none), po 59 (.nilC (tm 55)), po 60 (.fld 0 (tm 59)), po 61 (.fld 31 (tm 60)), ⟨.none, (.store 1 (tm 61) (tm 58)), .none⟩]
def p38_14 : List PO := [po 63 (.fld 0 (tm 3)), po 64 (.load .false 1 (tm 63)), po 65 (.cmpI .eql (tm 64) (ki 4)), pm 66 65, ⟨(.some 67), (.fld 3 (tm 3)), (.some (66, .true))⟩, ⟨(.some 68), (.load .false 1 (tm 67)), (.some (66, .true))⟩, ⟨(.some 69), (.strO .eql (tm 68) (.const (.string ⟨#[]⟩))), (.some (66, .true))⟩, po 70 (.pick (tm 66) (tm 69) (.const (.bool .false))), pm 62 70]
def p38_15 : List PO := [pm 71 0, po 72 (.load .true 6 (tm 3)), po 73 (.callr 68 [(tm 71), (tm 72)])]
def c38_1 : PCode := (.keep [0, 3, 1000001, 1000002, 1000003] [(0, .id 0), (1, .id 1), (2, .id 2), (3, .id 3), (32, .id 32)] [] (.seq (.reg p38_9) (.cond (.tmp 33) (.reg p38_10) (.seq (.reg p38_11) (.cond (.tmp 43) (.seq (.reg p38_12) (.cond (.tmp 54) (.reg p38_13) .skip)) (.seq (.reg p38_14) (.cond (.tmp 62) (.reg p38_15) .skip)))))))
def c38_b : PCode := (.seq (.reg p38_2) (.block 0 (.seq (.reg p38_3) (.cond (.tmp 4) (.reg p38_4) (.seq (.reg p38_5) (.cond (.tmp 12) (.reg p38_6) (.seq (.reg p38_7) (.cond (.tmp 20) (.reg p38_8) c38_1))))))))
def c38 : FCode := ⟨74, c38_b, [], some ([1000001, 1000002, 1000003], [(0, .id 0), (1, .id 1), (2, .id 2), (3, .id 3)], []), false⟩
theorem c38_ok : compF Go.Proofs.Tryz.prog [100014, 100017, 100019, 100031, 100035, 100036, 38, 100054, 100056, 63, 64, 65, 66, 68, 100070, 75, 80, 100081, 86, 87, 89, 91, 93, 95, 96, 97, 98, 102, 103, 104, 105, 113, 115, 117, 118, 120, 121, 123, 125, 126, 127, 129] 38 = some (eraseF c38) := by kernel_rfl
def p14_7 : List PO := [po 2 (.box 33 (tm 0)), po 4 (.alloc [(2, (.int .i64 0)), (1, (.slice .none 0 0)), (2, (.int .i64 0)), (1, (.bool .false)), (6, (.int .i64 0)), (4, (.int .u64 0)), (8, (.int .i64 0)), (1, (.bool .false)), (5, (.int .i64 0)), (1, (.slice .none 0 0)), (1, (.string ⟨#[]⟩)), (1, (.slice .none 0 0))]), po 5 (.mov (.const (.string ⟨#[]⟩))), po 6 (.mov (ki 0))]
def p14_8 : List PO := [po 12 (.load .true 33 (tm 2)), po 13 (.call 28 [(tm 12)]), pm 7 13]
def p14_9 : List PO := [pm 14 7, po 15 (.cmpI .neq (tm 14) (ki 0))]
def p14_10 : List PO := [po 16 (.load .true 33 (tm 2)), po 17 (.callf 36 [(tm 16)]), pm 18 7, ⟨.none, (.store 33 (tm 4) (tm 17)), .none⟩, po 5 (.mov (.const (.string ⟨#[]⟩))), pm 6 18]
def p14_11 : List PO := [pm 19 1, po 20 (.call 37 [(tm 19)]), pm 8 20]
def p14_12 : List PO := [pm 21 8, po 22 (.cmpI .neq (tm 21) (ki 0))]
def p14_13 : List PO := [po 23 (.load .true 33 (tm 2)), po 24 (.callf 36 [(tm 23)]), pm 25 8, ⟨.none, (.store 33 (tm 4) (tm 24)), .none⟩, po 5 (.mov (.const (.string ⟨#[]⟩))), pm 6 25]
def p14_14 : List PO := [po 26 (.load .true 33 (tm 2)), po 27 (.callf 36 [(tm 26)]), po 28 (.build [(2, (.int .i64 0)), (1, (.slice .none 0 0)), (2, (.int .i64 0)), (1, (.bool .false)), (6, (.int .i64 0)), (4, (.int .u64 0)), (8, (.int .i64 0)), (1, (.bool .false)), (5, (.int .i64 0)), (1, (.slice .none 0 0)), (1, (.string ⟨#[]⟩)), (1, (.slice .none 0 0)), (1, (.string ⟨#[]⟩))] [(0, (33, (tm 27)))]), po 29 (.box 34 (tm 28)), pm 9 29]
def p14_15 : List PO := [pm 30 1, po 31 (.len .false (tm 30)), po 32 (.mov (ki 0))]
def p14_16 : List PO := [po 33 (.cmpI .lss (tm 32) (tm 31))]
def p14_17 : List PO := [po 34 (.ixS 45 6 (tm 30) (tm 32)), po 35 (.load .true 6 (tm 34)), po 11 (.alloc [(3, (.int .i64 0)), (1, (.string ⟨#[]⟩)), (1, (.slice .none 0 0)), (1, (.string ⟨#[]⟩))]), ⟨.none, (.store 6 (tm 11) (tm 35)), .none⟩]
def p14_18 : List PO := [pm 36 9, po 37 (.load .true 6 (tm 11)), po 38 (.callr 38 [(tm 36), (tm 37)])]
def p14_19 : List PO := [po 39 (.arI .add (tm 32) (ki 1)), pm 32 39]
def c14_2 : PCode := (.keep [4, 9, 30, 31, 32] [(40, .id 40), (240, .id 240), (224, .id 224), (225, .id 225), (226, .id 226)] [] (.seq (.block 1 (.seq (.reg p14_17) (.reg p14_18))) (.reg p14_19)))
def c14_3 : PCode := (.keep [4, 9, 30, 31, 32, 33] [(40, .id 40), (240, .id 240), (224, .id 224), (225, .id 225), (226, .id 226)] [] (.seq (.cond (.tmp 33) .skip (.keep [4, 9] [(40, .id 40), (240, .id 240), (224, .id 224), (225, .id 225), (226, .id 226)] [] (.exit 0))) c14_2))
def c14_4 : PCode := (.keep [4, 9, 30, 31, 32] [(40, .id 40), (240, .id 240), (224, .id 224), (225, .id 225), (226, .id 226)] [] (.seq (.reg p14_16) c14_3))
def p14_20 : List PO := [pm 40 9, po 41 (.nilC (tm 40)), po 42 (.fld 0 (tm 41)), po 43 (.load .true 33 (tm 42)), pm 44 9, po 45 (.nilC (tm 44)), po 46 (.fld 33 (tm 45)), po 47 (.load .false 1 (tm 46)), ⟨.none, (.store 33 (tm 4) (tm 43)), .none⟩, pm 5 47, po 6 (.mov (ki 0))]
def c14_1 : PCode := (.keep [4, 9] [(40, .id 40), (240, .id 240), (224, .id 224), (225, .id 225), (226, .id 226)] [] (.seq (.regD p14_20 [(7, 8)]) .ret))
def c14_5 : PCode := (.keep [1, 2, 4] [(24, .id 24), (40, .id 40)] [] (.seq (.reg p14_14) (.seq (.seq (.reg p14_15) (.block 0 (.loop c14_4))) c14_1)))
def c14_6 : PCode := (.keep [1, 2, 4] [(24, .id 24), (40, .id 40)] [.cell 40 2 0 0 1, .cell 40 30 0 0 1, .cell 40 32 0 0 1] (.seq (.seq (.reg p14_11) (.seq (.reg p14_12) (.cond (.tmp 22) (.seq (.reg p14_13) .ret) .skip))) c14_5))
def c14_b : PCode := (.seq (.reg p14_7) (.seq (.seq (.reg p14_8) (.seq (.reg p14_9) (.cond (.tmp 15) (.seq (.reg p14_10) .ret) .skip))) c14_6))
def c14 : FCode := ⟨48, c14_b, [(.cell 4 .true 33), (.tmp 5), (.tmp 6)], some ([4, 5, 6], [(40, .id 40), (420, (.cell 40 2)), (421, (.cell 40 30)), (422, (.cell 40 32))], []), false⟩
theorem c14_ok : compF Go.Proofs.Tryz.prog [100014, 100017, 100019, 100031, 100035, 100036, 38, 100054, 100056, 63, 64, 65, 66, 68, 100070, 75, 80, 100081, 86, 87, 89, 91, 93, 95, 96, 97, 98, 102, 103, 104, 105, 113, 115, 117, 118, 120, 121, 123, 125, 126, 127, 129] 14 = some (eraseF c14) := by kernel_rfl
def p21_1 : List PO := [po 1 (.box 6 (tm 0)), po 2 (.mov (.const (.bool .false)))]
def p21_2 : List PO := [po 3 (.fld 1 (tm 1)), po 4 (.load .false 1 (tm 3)), po 5 (.cmpI .eql (tm 4) (ki 117)), pm 2 5]
def c21_b : PCode := (.seq (.reg p21_1) (.seq (.reg p21_2) .ret))
def c21 : FCode := ⟨6, c21_b, [(.tmp 2)], some ([2], [], []), false⟩
theorem c21_ok : compF Go.Proofs.Tryz.prog [100014, 100017, 100019, 100031, 100035, 100036, 38, 100054, 100056, 63, 64, 65, 66, 68, 100070, 75, 80, 100081, 86, 87, 89, 91, 93, 95, 96, 97, 98, 102, 103, 104, 105, 113, 115, 117, 118, 120, 121, 123, 125, 126, 127, 129] 21 = some (eraseF c21) := by kernel_rfl
def p40_4 : List PO := [po 4 (.mov (ki 0))]
def p40_5 : List PO := [pm 6 0, po 7 (.len .false (tm 6)), po 8 (.mov (ki 0))]
def p40_6 : List PO := [po 9 (.cmpI .lss (tm 8) (tm 7))]
def p40_7 : List PO := [pm 10 8, pm 5 10]
def p40_8 : List PO := [pm 11 1, pm 12 0, pm 13 5, po 14 (.ixS 45 6 (tm 12) (tm 13)), po 15 (.load .true 6 (tm 14)), po 16 (.callv (tm 11) [(tm 15)])]
def p40_9 : List PO := [pm 17 5, pm 4 17]
def p40_10 : List PO := [po 18 (.arI .add (tm 8) (ki 1)), pm 8 18]
def c40_1 : PCode := (.keep [0, 1, 7, 8] [] [] (.seq (.block 1 (.seq (.reg p40_7) (.seq (.reg p40_8) (.cond (.tmp 16) (.seq (.reg p40_9) .ret) .skip)))) (.reg p40_10)))
def c40_2 : PCode := (.keep [0, 1, 7, 8, 9] [] [] (.seq (.cond (.tmp 9) .skip (.keep [] [] [] (.exit 0))) c40_1))
def c40_3 : PCode := (.keep [0, 1, 7, 8] [] [] (.seq (.reg p40_6) c40_2))
def p40_11 : List PO := [po 4 (.mov (ki (-1)))]
def c40_b : PCode := (.seq (.reg p40_4) (.seq (.seq (.reg p40_5) (.block 0 (.loop c40_3))) (.seq (.reg p40_11) .ret)))
def c40 : FCode := ⟨19, c40_b, [(.tmp 4)], some ([4], [], []), false⟩
theorem c40_ok : compF Go.Proofs.Tryz.prog [100014, 100017, 100019, 100031, 100035, 100036, 38, 100054, 100056, 63, 64, 65, 66, 68, 100070, 75, 80, 100081, 86, 87, 89, 91, 93, 95, 96, 97, 98, 102, 103, 104, 105, 113, 115, 117, 118, 120, 121, 123, 125, 126, 127, 129] 40 = some (eraseF c40) := by kernel_rfl
def p20_1 : List PO := [po 4 (.mov (.const (.bool .false)))]
def p20_2 : List PO := [pm 5 0, pm 6 1, po 7 (.call 40 [(tm 5), (tm 6)]), po 8 (.cmpI .geq (tm 7) (ki 0)), pm 4 8]
def c20_b : PCode := (.seq (.reg p20_1) (.seq (.reg p20_2) .ret))
def c20 : FCode := ⟨9, c20_b, [(.tmp 4)], some ([4], [], []), false⟩
theorem c20_ok : compF Go.Proofs.Tryz.prog [100014, 100017, 100019, 100031, 100035, 100036, 38, 100054, 100056, 63, 64, 65, 66, 68, 100070, 75, 80, 100081, 86, 87, 89, 91, 93, 95, 96, 97, 98, 102, 103, 104, 105, 113, 115, 117, 118, 120, 121, 123, 125, 126, 127, 129] 20 = some (eraseF c20) := by kernel_rfl
def p41_5 : List PO := [po 4 (.mov (.const (.bool .false)))]
def p41_6 : List PO := [pm 6 0, po 7 (.len .false (tm 6)), pm 8 1, po 9 (.len .false (tm 8)), po 10 (.cmpI .neq (tm 7) (tm 9))]
def p41_7 : List PO := [po 4 (.mov (.const (.bool .false)))]
def p41_8 : List PO := [pm 11 0, po 12 (.len .false (tm 11)), po 13 (.mov (ki 0))]
def p41_9 : List PO := [po 14 (.cmpI .lss (tm 13) (tm 12))]
def p41_10 : List PO := [pm 15 13, pm 5 15]
def p41_11 : List PO := [pm 16 0, pm 17 5, po 18 (.ixS 58 4 (tm 16) (tm 17)), po 19 (.load .true 4 (tm 18)), pm 20 1, pm 21 5, po 22 (.ixS 58 4 (tm 20) (tm 21)), po 23 (.load .true 4 (tm 22)), po 24 (.eqA .true [(4, .int)] (tm 19) (tm 23))]
def p41_12 : List PO := [po 4 (.mov (.const (.bool .false)))]
def p41_13 : List PO := [po 25 (.arI .add (tm 13) (ki 1)), pm 13 25]
def c41_1 : PCode := (.keep [0, 1, 12, 13] [] [] (.seq (.block 1 (.seq (.reg p41_10) (.seq (.regD p41_11 []) (.cond (.tmp 24) (.seq (.reg p41_12) .ret) .skip)))) (.reg p41_13)))
def c41_2 : PCode := (.keep [0, 1, 12, 13, 14] [] [] (.seq (.cond (.tmp 14) .skip (.keep [] [] [] (.exit 0))) c41_1))
def c41_3 : PCode := (.keep [0, 1, 12, 13] [] [] (.seq (.reg p41_9) c41_2))
def p41_14 : List PO := [po 4 (.mov (.const (.bool .true)))]
def c41_4 : PCode := (.keep [0, 1] [] [] (.seq (.seq (.reg p41_8) (.block 0 (.loop c41_3))) (.seq (.reg p41_14) .ret)))
def c41_b : PCode := (.seq (.reg p41_5) (.seq (.seq (.reg p41_6) (.cond (.tmp 10) (.seq (.reg p41_7) .ret) .skip)) c41_4))
def c41 : FCode := ⟨26, c41_b, [(.tmp 4)], some ([4], [], []), false⟩
theorem c41_ok : compF Go.Proofs.Tryz.prog [100014, 100017, 100019, 100031, 100035, 100036, 38, 100054, 100056, 63, 64, 65, 66, 68, 100070, 75, 80, 100081, 86, 87, 89, 91, 93, 95, 96, 97, 98, 102, 103, 104, 105, 113, 115, 117, 118, 120, 121, 123, 125, 126, 127, 129] 41 = some (eraseF c41) := by kernel_rfl
def p22_1 : List PO := [po 2 (.box 3 (tm 0)), po 3 (.box 3 (tm 1)), po 4 (.mov (.const (.bool .false)))]
def p22_2 : List PO := [po 5 (.fld 0 (tm 2)), po 6 (.load .false 1 (tm 5)), po 7 (.fld 0 (tm 3)), po 8 (.load .false 1 (tm 7)), po 9 (.cmpI .eql (tm 6) (tm 8)), pm 10 9, ⟨(.some 11), (.fld 1 (tm 2)), (.some (10, .true))⟩, ⟨(.some 12), (.load .false 1 (tm 11)), (.some (10, .true))⟩, ⟨(.some 13), (.fld 1 (tm 3)), (.some (10, .true))⟩, ⟨(.some 14), (.load .false 1 (tm 13)), (.some (10, .true))⟩, ⟨(.some 15), (.cmpI .eql (tm 12) (tm 14)), (.some (10, .true))⟩, po 16 (.pick (tm 10) (tm 15) (.const (.bool .false))), pm 17 16, ⟨(.some 18), (.fld 2 (tm 2)), (.some (17, .true))⟩, ⟨(.some 19), (.load .false 1 (tm 18)), (.some (17, .true))⟩, ⟨(.some 20), (.fld 2 (tm 3)), (.some (17, .true))⟩, ⟨(.some 21), (.load .false 1 (tm 20)), (.some (17, .true))⟩, ⟨(.some 22), (.call 41 [(tm 19), (tm 21)]), (.some (17, .true))⟩, po 23 (.pick (tm 17) (tm 22) (.const (.bool .false))), pm 4 23]
def c22_b : PCode := (.seq (.reg p22_1) (.seq (.reg p22_2) .ret))
def c22 : FCode := ⟨24, c22_b, [(.tmp 4)], some ([4], [], []), false⟩
theorem c22_ok : compF Go.Proofs.Tryz.prog [100014, 100017, 100019, 100031, 100035, 100036, 38, 100054, 100056, 63, 64, 65, 66, 68, 100070, 75, 80, 100081, 86, 87, 89, 91, 93, 95, 96, 97, 98, 102, 103, 104, 105, 113, 115, 117, 118, 120, 121, 123, 125, 126, 127, 129] 22 = some (eraseF c22) := by kernel_rfl
def p4_6 : List PO := [po 2 (.box 33 (tm 0)), po 4 (.mov (.const (.bool .false)))]
def p4_7 : List PO := [pm 11 1, po 12 (.len .false (tm 11)), po 13 (.mov (ki 0))]
def p4_8 : List PO := [po 14 (.cmpI .lss (tm 13) (tm 12))]
def p4_9 : List PO := [pm 15 13, pm 5 15]
def p4_10 : List PO := [pm 16 1, po 17 (.callf 19 [(tm 16)]), pm 1 17]
def p4_11 : List PO := [po 6 (.mov (.const (.string ⟨#[65, 66, 67, 68, 69, 70, 71, 72, 73, 90, 100, 102, 103, 104, 108, 109, 110, 114, 115, 117, 96]⟩)))]
def p4_12 : List PO := [pm 18 1, pm 19 5, pm 20 1, pm 21 5, pm 22 1, pm 23 5, po 24 (.ixS 45 6 (tm 18) (tm 19)), po 25 (.fld 0 (tm 24)), ⟨.none, (.store 1 (tm 25) (ki 4)), .none⟩, po 26 (.ixS 45 6 (tm 20) (tm 21)), po 27 (.fld 3 (tm 26)), ⟨.none, (.store 1 (tm 27) (.const (.string ⟨#[]⟩))), .none⟩, po 28 (.ixS 45 6 (tm 22) (tm 23)), po 29 (.fld 2 (tm 28)), ⟨.none, (.store 1 (tm 29) (ki 0)), .none⟩]
def p4_13 : List PO := [pm 30 1, pm 31 5, pm 32 6, pm 33 1, pm 34 5, po 35 (.ixS 45 6 (tm 33) (tm 34)), po 36 (.fld 1 (tm 35)), po 37 (.load .false 1 (tm 36)), pm 38 6, po 39 (.len .true (tm 38)), po 40 (.arI .rem (tm 37) (tm 39)), pm 41 6, po 42 (.len .true (tm 41)), po 43 (.arI .add (tm 40) (tm 42)), pm 44 6, po 45 (.len .true (tm 44)), po 46 (.arI .rem (tm 43) (tm 45)), po 47 (.ixStr (tm 32) (tm 46)), po 48 (.cvI .i64 (tm 47)), po 49 (.ixS 45 6 (tm 30) (tm 31)), po 50 (.fld 1 (tm 49)), ⟨.none, (.store 1 (tm 50) (tm 48)), .none⟩]
def p4_14 : List PO := [po 51 (.arI .add (tm 13) (ki 1)), pm 13 51]
def c4_3 : PCode := (.keep [1, 2, 12, 13] [(24, .id 24)] [] (.seq (.block 1 (.seq (.reg p4_9) (.seq (.reg p4_10) (.seq (.reg p4_11) (.seq (.reg p4_12) (.reg p4_13)))))) (.reg p4_14)))
def c4_4 : PCode := (.keep [1, 2, 12, 13, 14] [(24, .id 24)] [] (.seq (.cond (.tmp 14) .skip (.keep [1, 2] [(24, .id 24)] [] (.exit 0))) c4_3))
def c4_5 : PCode := (.keep [1, 2, 12, 13] [(24, .id 24)] [] (.seq (.reg p4_8) c4_4))
def p4_15 : List PO := [po 53 (.load .true 33 (tm 2)), pm 54 1, po 55 (.callf 14 [(tm 53), (tm 54)]), pm 52 55, po 56 (.ext (tm 52) 0), po 57 (.ext (tm 52) 1), po 58 (.ext (tm 52) 2), po 7 (.alloc [(2, (.int .i64 0)), (1, (.slice .none 0 0)), (2, (.int .i64 0)), (1, (.bool .false)), (6, (.int .i64 0)), (4, (.int .u64 0)), (8, (.int .i64 0)), (1, (.bool .false)), (5, (.int .i64 0)), (1, (.slice .none 0 0)), (1, (.string ⟨#[]⟩)), (1, (.slice .none 0 0))]), ⟨.none, (.store 33 (tm 7) (tm 56)), .none⟩, pm 8 57, pm 9 58]
def p4_16 : List PO := [po 59 (.call 15 []), po 60 (.un .not (tm 59)), pm 61 60, ⟨(.some 62), (.mov (tm 9)), (.some (61, .false))⟩, ⟨(.some 63), (.cmpI .neq (tm 62) (ki 0)), (.some (61, .false))⟩, po 64 (.pick (tm 61) (.const (.bool .true)) (tm 63))]
def p4_17 : List PO := [po 65 (.call 15 []), pm 4 65]
def p4_18 : List PO := [pm 66 1, po 67 (.call 20 [(tm 66), (.func 21)]), pm 10 67]
def p4_19 : List PO := [po 68 (.fld 0 (tm 7)), po 69 (.load .true 3 (tm 68)), po 70 (.fld 0 (tm 2)), po 71 (.load .true 3 (tm 70)), po 72 (.call 22 [(tm 69), (tm 71)]), pm 73 72, ⟨(.some 74), (.fld 28 (tm 7)), (.some (73, .true))⟩, ⟨(.some 75), (.load .true 3 (tm 74)), (.some (73, .true))⟩, ⟨(.some 76), (.fld 28 (tm 2)), (.some (73, .true))⟩, ⟨(.some 77), (.load .true 3 (tm 76)), (.some (73, .true))⟩, ⟨(.some 78), (.call 22 [(tm 75), (tm 77)]), (.some (73, .true))⟩, po 79 (.pick (tm 73) (tm 78) (.const (.bool .false))), pm 80 79, ⟨(.some 81), (.fld 32 (tm 7)), (.some (80, .true))⟩, ⟨(.some 82), (.load .false 1 (tm 81)), (.some (80, .true))⟩, ⟨(.some 83), (.len .false (tm 82)), (.some (80, .true))⟩, ⟨(.some 84), (.fld 32 (tm 2)), (.some (80, .true))⟩, ⟨(.some 85), (.load .false 1 (tm 84)), (.some (80, .true))⟩, ⟨(.some 86), (.len .false (tm 85)), (.some (80, .true))⟩, ⟨(.some 87), (.cmpI .eql (tm 83) (tm 86)), (.some (80, .true))⟩, po 88 (.pick (tm 80) (tm 87) (.const (.bool .false))), pm 89 88, ⟨(.some 90), (.fld 31 (tm 7)), (.some (89, .true))⟩, ⟨(.some 91), (.load .false 1 (tm 90)), (.some (89, .true))⟩, ⟨(.some 92), (.fld 31 (tm 2)), (.some (89, .true))⟩, ⟨(.some 93), (.load .false 1 (tm 92)), (.some (89, .true))⟩, ⟨(.some 94), (.strO .eql (tm 91) (tm 93)), (.some (89, .true))⟩, po 95 (.pick (tm 89) (tm 94) (.const (.bool .false))), pm 96 95, ⟨(.some 97), (.mov (tm 10)), (.some (96, .true))⟩, ⟨(.some 98), (.mov (tm 97)), (.some (96, .true))⟩, ⟨(.some 99), (.fld 16 (tm 7)), (.some (98, .false))⟩, ⟨(.some 100), (.load .true 2 (tm 99)), (.some (98, .false))⟩, ⟨(.some 101), (.fld 16 (tm 2)), (.some (98, .false))⟩, ⟨(.some 102), (.load .true 2 (tm 101)), (.some (98, .false))⟩, ⟨(.some 103), (.eqA .false [(2, .int)] (tm 100) (tm 102)), (.some (98, .false))⟩, ⟨(.some 104), (.mov (tm 103)), (.some (98, .false))⟩, ⟨(.some 105), (.fld 18 (tm 7)), (.some (104, .true))⟩, ⟨(.some 106), (.load .false 1 (tm 105)), (.some (104, .true))⟩, ⟨(.some 107), (.fld 18 (tm 2)), (.some (104, .true))⟩, ⟨(.some 108), (.load .false 1 (tm 107)), (.some (104, .true))⟩, ⟨(.some 109), (.cmpI .eql (tm 106) (tm 108)), (.some (104, .true))⟩, ⟨(.some 110), (.pick (tm 104) (tm 109) (.const (.bool .false))), (.some (98, .false))⟩, ⟨(.some 111), (.pick (tm 98) (.const (.bool .true)) (tm 110)), (.some (96, .true))⟩, po 112 (.pick (tm 96) (tm 111) (.const (.bool .false))), pm 4 112]
def c4_1 : PCode := (.keep [1, 2, 7] [(24, .id 24), (64, .id 64), (448, .id 448), (449, .id 449), (450, .id 450)] [] (.seq (.reg p4_18) (.seq (.reg p4_19) .ret)))
def c4_2 : PCode := (.keep [1, 2] [(24, .id 24)] [] (.seq (.reg p4_15) (.seq (.seq (.reg p4_16) (.cond (.tmp 64) (.seq (.reg p4_17) .ret) .skip)) c4_1)))
def c4_b : PCode := (.seq (.reg p4_6) (.seq (.seq (.reg p4_7) (.block 0 (.loop c4_5))) c4_2))
def c4 : FCode := ⟨113, c4_b, [(.tmp 4)], some ([4], [], []), false⟩
theorem c4_ok : compF Go.Proofs.Tryz.prog [100014, 100017, 100019, 100031, 100035, 100036, 38, 100054, 100056, 63, 64, 65, 66, 68, 100070, 75, 80, 100081, 86, 87, 89, 91, 93, 95, 96, 97, 98, 102, 103, 104, 105, 113, 115, 117, 118, 120, 121, 123, 125, 126, 127, 129] 4 = some (eraseF c4) := by kernel_rfl
def codes : Nat → Option FCode
  | 4 => some c4
  | 14 => some c14
  | 19 => some c19
  | 20 => some c20
  | 21 => some c21
  | 22 => some c22
  | 28 => some c28
  | 36 => some c36
  | 37 => some c37
  | 38 => some c38
  | 40 => some c40
  | 41 => some c41
  | 48 => some c48
  | 49 => some c49
  | 50 => some c50
  | 51 => some c51
  | 52 => some c52
  | 54 => some c54
  | 60 => some c60
  | 61 => some c61
  | 62 => some c62
  | 68 => some c68
  | 74 => some c74
  | 75 => some c75
  | 76 => some c76
  | 77 => some c77
  | 78 => some c78
  | 84 => some c84
  | 86 => some c86
  | 88 => some c88
  | 90 => some c90
  | 92 => some c92
  | 94 => some c94
  | 95 => some c95
  | 96 => some c96
  | 97 => some c97
  | 100 => some c100
  | 101 => some c101
  | 102 => some c102
  | 103 => some c103
  | 104 => some c104
  | 107 => some c107
  | 108 => some c108
  | 112 => some c112
  | 116 => some c116
  | 117 => some c117
  | 118 => some c118
  | 119 => some c119
  | 122 => some c122
  | 123 => some c123
  | 128 => some c128
  | 129 => some c129
  | 130 => some c130
  | 134 => some c134
  | 135 => some c135
  | _ => none
theorem codes_ok : ∀ f fc, codes f = some fc → compF Go.Proofs.Tryz.prog [100014, 100017, 100019, 100031, 100035, 100036, 38, 100054, 100056, 63, 64, 65, 66, 68, 100070, 75, 80, 100081, 86, 87, 89, 91, 93, 95, 96, 97, 98, 102, 103, 104, 105, 113, 115, 117, 118, 120, 121, 123, 125, 126, 127, 129] f = some (eraseF fc) := by
  intro f fc h
  unfold codes at h
  split at h
  · cases h; exact c4_ok
  · cases h; exact c14_ok
  · cases h; exact c19_ok
  · cases h; exact c20_ok
  · cases h; exact c21_ok
  · cases h; exact c22_ok
  · cases h; exact c28_ok
  · cases h; exact c36_ok
  · cases h; exact c37_ok
  · cases h; exact c38_ok
  · cases h; exact c40_ok
  · cases h; exact c41_ok
  · cases h; exact c48_ok
  · cases h; exact c49_ok
  · cases h; exact c50_ok
  · cases h; exact c51_ok
  · cases h; exact c52_ok
  · cases h; exact c54_ok
  · cases h; exact c60_ok
  · cases h; exact c61_ok
  · cases h; exact c62_ok
  · cases h; exact c68_ok
  · cases h; exact c74_ok
  · cases h; exact c75_ok
  · cases h; exact c76_ok
  · cases h; exact c77_ok
  · cases h; exact c78_ok
  · cases h; exact c84_ok
  · cases h; exact c86_ok
  · cases h; exact c88_ok
  · cases h; exact c90_ok
  · cases h; exact c92_ok
  · cases h; exact c94_ok
  · cases h; exact c95_ok
  · cases h; exact c96_ok
  · cases h; exact c97_ok
  · cases h; exact c100_ok
  · cases h; exact c101_ok
  · cases h; exact c102_ok
  · cases h; exact c103_ok
  · cases h; exact c104_ok
  · cases h; exact c107_ok
  · cases h; exact c108_ok
  · cases h; exact c112_ok
  · cases h; exact c116_ok
  · cases h; exact c117_ok
  · cases h; exact c118_ok
  · cases h; exact c119_ok
  · cases h; exact c122_ok
  · cases h; exact c123_ok
  · cases h; exact c128_ok
  · cases h; exact c129_ok
  · cases h; exact c130_ok
  · cases h; exact c134_ok
  · cases h; exact c135_ok
  · cases h
theorem codes4 : codes 4 = some c4 := rfl
theorem codes14 : codes 14 = some c14 := rfl
theorem codes19 : codes 19 = some c19 := rfl
theorem codes20 : codes 20 = some c20 := rfl
theorem codes21 : codes 21 = some c21 := rfl
theorem codes22 : codes 22 = some c22 := rfl
theorem codes28 : codes 28 = some c28 := rfl
theorem codes36 : codes 36 = some c36 := rfl
theorem codes37 : codes 37 = some c37 := rfl
theorem codes38 : codes 38 = some c38 := rfl
theorem codes40 : codes 40 = some c40 := rfl
theorem codes41 : codes 41 = some c41 := rfl
theorem codes48 : codes 48 = some c48 := rfl
theorem codes49 : codes 49 = some c49 := rfl
theorem codes50 : codes 50 = some c50 := rfl
theorem codes51 : codes 51 = some c51 := rfl
theorem codes52 : codes 52 = some c52 := rfl
theorem codes54 : codes 54 = some c54 := rfl
theorem codes60 : codes 60 = some c60 := rfl
theorem codes61 : codes 61 = some c61 := rfl
theorem codes62 : codes 62 = some c62 := rfl
theorem codes68 : codes 68 = some c68 := rfl
theorem codes74 : codes 74 = some c74 := rfl
theorem codes75 : codes 75 = some c75 := rfl
theorem codes76 : codes 76 = some c76 := rfl
theorem codes77 : codes 77 = some c77 := rfl
theorem codes78 : codes 78 = some c78 := rfl
theorem codes84 : codes 84 = some c84 := rfl
theorem codes86 : codes 86 = some c86 := rfl
theorem codes88 : codes 88 = some c88 := rfl
theorem codes90 : codes 90 = some c90 := rfl
theorem codes92 : codes 92 = some c92 := rfl
theorem codes94 : codes 94 = some c94 := rfl
theorem codes95 : codes 95 = some c95 := rfl
theorem codes96 : codes 96 = some c96 := rfl
theorem codes97 : codes 97 = some c97 := rfl
theorem codes100 : codes 100 = some c100 := rfl
theorem codes101 : codes 101 = some c101 := rfl
theorem codes102 : codes 102 = some c102 := rfl
theorem codes103 : codes 103 = some c103 := rfl
theorem codes104 : codes 104 = some c104 := rfl
theorem codes107 : codes 107 = some c107 := rfl
theorem codes108 : codes 108 = some c108 := rfl
theorem codes112 : codes 112 = some c112 := rfl
theorem codes116 : codes 116 = some c116 := rfl
theorem codes117 : codes 117 = some c117 := rfl
theorem codes118 : codes 118 = some c118 := rfl
theorem codes119 : codes 119 = some c119 := rfl
theorem codes122 : codes 122 = some c122 := rfl
theorem codes123 : codes 123 = some c123 := rfl
theorem codes128 : codes 128 = some c128 := rfl
theorem codes129 : codes 129 = some c129 := rfl
theorem codes130 : codes 130 = some c130 := rfl
theorem codes134 : codes 134 = some c134 := rfl
theorem codes135 : codes 135 = some c135 := rfl
noncomputable def libs : List (Nat × (List PV → Option PV)) := [(67, ossB libHasPrefix), (131, oiS libItoaL), (15, livesO libLives)]
noncomputable abbrev baseL : Orc := libO libs
end Go.Proofs.YtjoccdgmcdkbkaaGreatDoor.Pm
