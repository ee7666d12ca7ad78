/- The small machine's codes of some functions. Printed by dec.py. -/
import Derived.Test.YtioikkmmjljedaaGreatDoorLibC
import Derived.Test.YtioikkmmjljedaaGreatDoorKrz
import Derived.Test.YtioikkmmjljedaaGreatDoorProg
namespace Go.Proofs.YtioikkmmjljedaaGreatDoor.Pm
set_option maxRecDepth 1000000
set_option maxHeartbeats 20000000
set_option linter.unusedVariables false
structure GPen where
  Flags : Int
  Fore : Int
  Back : Int
structure GCell where
  Rune : Int
  Pen : GPen
structure GGrid where
  Wide : Int
  High : Int
  Cells : List GCell
structure GStops where
  Bits : Nat → Int
structure GSaved where
  Row : Int
  Col : Int
  Pen : GPen
  Origin : Bool
  Pages : Int × Int
  Shift : Int
structure GLine where
  Cells : List GCell
structure GScreen where
  Grid : GGrid
  Row : Int
  Col : Int
  Late : Bool
  Top : Int
  Bottom : Int
  Pen : GPen
  Modes : Int
  Stops : GStops
  Pages : Int × Int
  Shift : Int
  Saved : GSaved
  Other : GGrid
  Title : List UInt8
  Past : List GLine
structure GPlace where
  Row : Int
  Col : Int
def e_GPen : Enc GPen := ⟨3, fun x => [.int .i64 x.Flags, .int .i64 x.Fore, .int .i64 x.Back], fun _ => rfl⟩
def e_GCell : Enc GCell := ⟨4, fun x => [.int .i64 x.Rune, .int .i64 x.Pen.Flags, .int .i64 x.Pen.Fore, .int .i64 x.Pen.Back], fun _ => rfl⟩
def e_A31 : Enc (Int × Int) := ⟨2, fun x => [.int .i64 x.1, .int .i64 x.2], fun _ => rfl⟩
def e_GLine : Enc GLine := ⟨1, fun x => [.sl x.Cells.length (e_GCell.cells x.Cells)], fun _ => rfl⟩
def e_RGScreen : Enc GScreen := ⟨33, fun x => (.int .i64 x.Grid.Wide :: (.int .i64 x.Grid.High :: (.sl x.Grid.Cells.length (e_GCell.cells x.Grid.Cells) :: (.int .i64 x.Row :: (.int .i64 x.Col :: (.bool x.Late :: (.int .i64 x.Top :: (.int .i64 x.Bottom :: (.int .i64 x.Pen.Flags :: (.int .i64 x.Pen.Fore :: (.int .i64 x.Pen.Back :: (.int .i64 x.Modes :: ((eInt .u64).rowD 4 x.Stops.Bits ++ (.int .i64 x.Pages.1 :: (.int .i64 x.Pages.2 :: (.int .i64 x.Shift :: (.int .i64 x.Saved.Row :: (.int .i64 x.Saved.Col :: (.int .i64 x.Saved.Pen.Flags :: (.int .i64 x.Saved.Pen.Fore :: (.int .i64 x.Saved.Pen.Back :: (.bool x.Saved.Origin :: (.int .i64 x.Saved.Pages.1 :: (.int .i64 x.Saved.Pages.2 :: (.int .i64 x.Saved.Shift :: (.int .i64 x.Other.Wide :: (.int .i64 x.Other.High :: (.sl x.Other.Cells.length (e_GCell.cells x.Other.Cells) :: (.str x.Title :: (.sl x.Past.length (e_GLine.cells x.Past) :: [])))))))))))))))))))))))))))))), fun x => by simp only [List.length_append, List.length_cons, List.length_nil, Enc.rowD_len]; rfl⟩
def e_GGrid : Enc GGrid := ⟨3, fun x => [.int .i64 x.Wide, .int .i64 x.High, .sl x.Cells.length (e_GCell.cells x.Cells)], fun _ => rfl⟩
def e_GSaved : Enc GSaved := ⟨9, fun x => [.int .i64 x.Row, .int .i64 x.Col, .int .i64 x.Pen.Flags, .int .i64 x.Pen.Fore, .int .i64 x.Pen.Back, .bool x.Origin, .int .i64 x.Pages.1, .int .i64 x.Pages.2, .int .i64 x.Shift], fun _ => rfl⟩
def e_GPlace : Enc GPlace := ⟨2, fun x => [.int .i64 x.Row, .int .i64 x.Col], fun _ => rfl⟩
def bx_GScreen (x : GScreen) (c3 c2 c1 : PV) : List PV := ((.d (.int .i64 x.Grid.Wide)) :: ((.d (.int .i64 x.Grid.High)) :: (c3 :: ((.d (.int .i64 x.Row)) :: ((.d (.int .i64 x.Col)) :: ((.d (.bool x.Late)) :: ((.d (.int .i64 x.Top)) :: ((.d (.int .i64 x.Bottom)) :: ((.d (.int .i64 x.Pen.Flags)) :: ((.d (.int .i64 x.Pen.Fore)) :: ((.d (.int .i64 x.Pen.Back)) :: ((.d (.int .i64 x.Modes)) :: (((eInt .u64).row 4 x.Stops.Bits) ++ ((.d (.int .i64 x.Pages.1)) :: ((.d (.int .i64 x.Pages.2)) :: ((.d (.int .i64 x.Shift)) :: ((.d (.int .i64 x.Saved.Row)) :: ((.d (.int .i64 x.Saved.Col)) :: ((.d (.int .i64 x.Saved.Pen.Flags)) :: ((.d (.int .i64 x.Saved.Pen.Fore)) :: ((.d (.int .i64 x.Saved.Pen.Back)) :: ((.d (.bool x.Saved.Origin)) :: ((.d (.int .i64 x.Saved.Pages.1)) :: ((.d (.int .i64 x.Saved.Pages.2)) :: ((.d (.int .i64 x.Saved.Shift)) :: ((.d (.int .i64 x.Other.Wide)) :: ((.d (.int .i64 x.Other.High)) :: (c2 :: ((.d (.str x.Title)) :: (c1 :: []))))))))))))))))))))))))))))))
def p34_1 : List PO := [⟨(.some 4), (.mov (.const (.int .i64 0))), .none⟩]
def p34_2 : List PO := [⟨(.some 5), (.mov (.tmp 0)), .none⟩, ⟨(.some 6), (.cmpI .lss (.tmp 5) (.const (.int .i64 1))), .none⟩, ⟨(.some 7), (.mov (.tmp 6)), .none⟩, ⟨(.some 8), (.mov (.tmp 0)), (.some (7, .false))⟩, ⟨(.some 9), (.cmpI .gtr (.tmp 8) (.const (.int .i64 160))), (.some (7, .false))⟩, ⟨(.some 10), (.pick (.tmp 7) (.const (.bool .true)) (.tmp 9)), .none⟩, ⟨(.some 11), (.mov (.tmp 10)), .none⟩, ⟨(.some 12), (.mov (.tmp 1)), (.some (11, .false))⟩, ⟨(.some 13), (.cmpI .lss (.tmp 12) (.const (.int .i64 1))), (.some (11, .false))⟩, ⟨(.some 14), (.pick (.tmp 11) (.const (.bool .true)) (.tmp 13)), .none⟩, ⟨(.some 15), (.mov (.tmp 14)), .none⟩, ⟨(.some 16), (.mov (.tmp 1)), (.some (15, .false))⟩, ⟨(.some 17), (.cmpI .gtr (.tmp 16) (.const (.int .i64 60))), (.some (15, .false))⟩, ⟨(.some 18), (.pick (.tmp 15) (.const (.bool .true)) (.tmp 17)), .none⟩]
def p34_3 : List PO := [⟨(.some 4), (.mov (.const (.int .i64 1))), .none⟩]
def p34_4 : List PO := [⟨(.some 4), (.mov (.const (.int .i64 0))), .none⟩]
def c34_b : PCode := (.seq (.reg p34_1) (.seq (.seq (.reg p34_2) (.cond (.tmp 18) (.seq (.reg p34_3) .ret) .skip)) (.seq (.reg p34_4) .ret)))
def c34 : FCode := ⟨19, c34_b, [(.tmp 4)], some ([4], [], []), false⟩
theorem c34_ok : compF Go.Proofs.Tryz.prog [200005, 100010, 200013, 100015, 100023, 25, 100031, 38, 39, 40, 41, 43, 44, 52, 53, 55, 57, 59, 61, 62, 63, 64, 68, 69, 70, 71, 77, 79, 80, 82, 83, 85, 86, 88, 91, 92, 93, 95] 34 = some (eraseF c34) := by kernel_rfl
def p44_1 : List PO := [⟨(.some 2), (.box 3 (.tmp 0)), .none⟩, ⟨(.some 4), (.nilS 51 4), .none⟩]
def p44_2 : List PO := [⟨(.some 5), (.fld 2 (.tmp 2)), .none⟩, ⟨(.some 6), (.load .false 1 (.tmp 5)), .none⟩, ⟨(.some 7), (.mov (.tmp 1)), .none⟩, ⟨(.some 8), (.fld 0 (.tmp 2)), .none⟩, ⟨(.some 9), (.load .false 1 (.tmp 8)), .none⟩, ⟨(.some 10), (.arI .mul (.tmp 7) (.tmp 9)), .none⟩, ⟨(.some 11), (.mov (.tmp 1)), .none⟩, ⟨(.some 12), (.arI .add (.tmp 11) (.const (.int .i64 1))), .none⟩, ⟨(.some 13), (.fld 0 (.tmp 2)), .none⟩, ⟨(.some 14), (.load .false 1 (.tmp 13)), .none⟩, ⟨(.some 15), (.arI .mul (.tmp 12) (.tmp 14)), .none⟩, ⟨(.some 16), (.slS 51 4 (.tmp 6) (.some (.tmp 10)) (.some (.tmp 15))), .none⟩, ⟨(.some 4), (.mov (.tmp 16)), .none⟩]
def c44_b : PCode := (.seq (.reg p44_1) (.seq (.reg p44_2) .ret))
def c44 : FCode := ⟨17, c44_b, [(.tmp 4)], some ([4, 2000000], [], []), false⟩
theorem c44_ok : compF Go.Proofs.Tryz.prog [200005, 100010, 200013, 100015, 100023, 25, 100031, 38, 39, 40, 41, 43, 44, 52, 53, 55, 57, 59, 61, 62, 63, 64, 68, 69, 70, 71, 77, 79, 80, 82, 83, 85, 86, 88, 91, 92, 93, 95] 44 = some (eraseF c44) := by kernel_rfl
def p47_1 : List PO := [⟨(.some 2), (.mov (.const (.bool .false))), .none⟩]
def p47_2 : List PO := [⟨(.some 3), (.mov (.tmp 0)), .none⟩, ⟨(.some 4), (.cmpI .geq (.tmp 3) (.const (.int .i64 0))), .none⟩, ⟨(.some 5), (.mov (.tmp 4)), .none⟩, ⟨(.some 6), (.mov (.tmp 0)), (.some (5, .true))⟩, ⟨(.some 7), (.cmpI .leq (.tmp 6) (.const (.int .i64 256))), (.some (5, .true))⟩, ⟨(.some 8), (.pick (.tmp 5) (.tmp 7) (.const (.bool .false))), .none⟩, ⟨(.some 9), (.mov (.tmp 8)), .none⟩, ⟨(.some 10), (.mov (.tmp 0)), (.some (9, .false))⟩, ⟨(.some 11), (.cmpI .geq (.tmp 10) (.const (.int .i64 16777216))), (.some (9, .false))⟩, ⟨(.some 12), (.mov (.tmp 11)), (.some (9, .false))⟩, ⟨(.some 13), (.mov (.tmp 0)), (.some (12, .true))⟩, ⟨(.some 14), (.cmpI .lss (.tmp 13) (.const (.int .i64 33554432))), (.some (12, .true))⟩, ⟨(.some 15), (.pick (.tmp 12) (.tmp 14) (.const (.bool .false))), (.some (9, .false))⟩, ⟨(.some 16), (.pick (.tmp 9) (.const (.bool .true)) (.tmp 15)), .none⟩, ⟨(.some 2), (.mov (.tmp 16)), .none⟩]
def c47_b : PCode := (.seq (.reg p47_1) (.seq (.reg p47_2) .ret))
def c47 : FCode := ⟨17, c47_b, [(.tmp 2)], some ([2], [], []), false⟩
theorem c47_ok : compF Go.Proofs.Tryz.prog [200005, 100010, 200013, 100015, 100023, 25, 100031, 38, 39, 40, 41, 43, 44, 52, 53, 55, 57, 59, 61, 62, 63, 64, 68, 69, 70, 71, 77, 79, 80, 82, 83, 85, 86, 88, 91, 92, 93, 95] 47 = some (eraseF c47) := by kernel_rfl
def p28_1 : List PO := [⟨(.some 1), (.box 3 (.tmp 0)), .none⟩, ⟨(.some 2), (.mov (.const (.int .i64 0))), .none⟩]
def p28_2 : List PO := [⟨(.some 3), (.fld 0 (.tmp 1)), .none⟩, ⟨(.some 4), (.load .false 1 (.tmp 3)), .none⟩, ⟨(.some 5), (.cmpI .lss (.tmp 4) (.const (.int .i64 0))), .none⟩, ⟨(.some 6), (.mov (.tmp 5)), .none⟩, ⟨(.some 7), (.fld 0 (.tmp 1)), (.some (6, .false))⟩, ⟨(.some 8), (.load .false 1 (.tmp 7)), (.some (6, .false))⟩, ⟨(.some 9), (.cmpI .gtr (.tmp 8) (.const (.int .i64 255))), (.some (6, .false))⟩, ⟨(.some 10), (.pick (.tmp 6) (.const (.bool .true)) (.tmp 9)), .none⟩, ⟨(.some 11), (.mov (.tmp 10)), .none⟩, ⟨(.some 12), (.fld 1 (.tmp 1)), (.some (11, .false))⟩, ⟨(.some 13), (.load .false 1 (.tmp 12)), (.some (11, .false))⟩, ⟨(.some 14), (.call 47 [(.tmp 13)]), (.some (11, .false))⟩, ⟨(.some 15), (.un .not (.tmp 14)), (.some (11, .false))⟩, ⟨(.some 16), (.pick (.tmp 11) (.const (.bool .true)) (.tmp 15)), .none⟩, ⟨(.some 17), (.mov (.tmp 16)), .none⟩, ⟨(.some 18), (.fld 2 (.tmp 1)), (.some (17, .false))⟩, ⟨(.some 19), (.load .false 1 (.tmp 18)), (.some (17, .false))⟩, ⟨(.some 20), (.call 47 [(.tmp 19)]), (.some (17, .false))⟩, ⟨(.some 21), (.un .not (.tmp 20)), (.some (17, .false))⟩, ⟨(.some 22), (.pick (.tmp 17) (.const (.bool .true)) (.tmp 21)), .none⟩]
def p28_3 : List PO := [⟨(.some 2), (.mov (.const (.int .i64 4))), .none⟩]
def p28_4 : List PO := [⟨(.some 2), (.mov (.const (.int .i64 0))), .none⟩]
def c28_b : PCode := (.seq (.reg p28_1) (.seq (.seq (.reg p28_2) (.cond (.tmp 22) (.seq (.reg p28_3) .ret) .skip)) (.seq (.reg p28_4) .ret)))
def c28 : FCode := ⟨23, c28_b, [(.tmp 2)], some ([2], [], []), false⟩
theorem c28_ok : compF Go.Proofs.Tryz.prog [200005, 100010, 200013, 100015, 100023, 25, 100031, 38, 39, 40, 41, 43, 44, 52, 53, 55, 57, 59, 61, 62, 63, 64, 68, 69, 70, 71, 77, 79, 80, 82, 83, 85, 86, 88, 91, 92, 93, 95] 28 = some (eraseF c28) := by kernel_rfl
def p72_4 : List PO := [⟨(.some 4), (.mov (.const (.bool .false))), .none⟩]
def p72_5 : List PO := [⟨(.some 7), (.mov (.tmp 1)), .none⟩, ⟨(.some 8), (.len .false (.tmp 7)), .none⟩, ⟨(.some 9), (.mov (.const (.int .i64 0))), .none⟩]
def p72_6 : List PO := [⟨(.some 10), (.cmpI .lss (.tmp 9) (.tmp 8)), .none⟩]
def p72_7 : List PO := [⟨(.some 11), (.ixS 31 2 (.tmp 7) (.tmp 9)), .none⟩, ⟨(.some 12), (.load .true 2 (.tmp 11)), .none⟩, ⟨(.some 6), (.alloc [(2, (.int .i64 0))]), .none⟩, ⟨.none, (.store 2 (.tmp 6) (.tmp 12)), .none⟩]
def p72_8 : List PO := [⟨(.some 13), (.mov (.tmp 0)), .none⟩, ⟨(.some 14), (.ixA 2 1 (.tmp 6) (.const (.int .i64 0))), .none⟩, ⟨(.some 15), (.load .false 1 (.tmp 14)), .none⟩, ⟨(.some 16), (.cmpI .geq (.tmp 13) (.tmp 15)), .none⟩, ⟨(.some 17), (.mov (.tmp 16)), .none⟩, ⟨(.some 18), (.mov (.tmp 0)), (.some (17, .true))⟩, ⟨(.some 19), (.ixA 2 1 (.tmp 6) (.const (.int .i64 1))), (.some (17, .true))⟩, ⟨(.some 20), (.load .false 1 (.tmp 19)), (.some (17, .true))⟩, ⟨(.some 21), (.cmpI .leq (.tmp 18) (.tmp 20)), (.some (17, .true))⟩, ⟨(.some 22), (.pick (.tmp 17) (.tmp 21) (.const (.bool .false))), .none⟩]
def p72_9 : List PO := [⟨(.some 4), (.mov (.const (.bool .true))), .none⟩]
def p72_10 : List PO := [⟨(.some 23), (.arI .add (.tmp 9) (.const (.int .i64 1))), .none⟩, ⟨(.some 9), (.mov (.tmp 23)), .none⟩]
def c72_1 : PCode := (.keep [0, 7, 8, 9] [] [] (.seq (.block 1 (.seq (.reg p72_7) (.seq (.reg p72_8) (.cond (.tmp 22) (.seq (.reg p72_9) .ret) .skip)))) (.reg p72_10)))
def c72_2 : PCode := (.keep [0, 7, 8, 9, 10] [] [] (.seq (.cond (.tmp 10) .skip (.keep [] [] [] (.exit 0))) c72_1))
def c72_3 : PCode := (.keep [0, 7, 8, 9] [] [] (.seq (.reg p72_6) c72_2))
def p72_11 : List PO := [⟨(.some 4), (.mov (.const (.bool .false))), .none⟩]
def c72_b : PCode := (.seq (.reg p72_4) (.seq (.seq (.reg p72_5) (.block 0 (.loop c72_3))) (.seq (.reg p72_11) .ret)))
def c72 : FCode := ⟨24, c72_b, [(.tmp 4)], some ([4], [], []), false⟩
theorem c72_ok : compF Go.Proofs.Tryz.prog [200005, 100010, 200013, 100015, 100023, 25, 100031, 38, 39, 40, 41, 43, 44, 52, 53, 55, 57, 59, 61, 62, 63, 64, 68, 69, 70, 71, 77, 79, 80, 82, 83, 85, 86, 88, 91, 92, 93, 95] 72 = some (eraseF c72) := by kernel_rfl
def p45_3 : List PO := [⟨(.some 2), (.mov (.const (.int .i64 0))), .none⟩]
def p45_4 : List PO := [⟨(.some 5), (.build [(2, (.int .i64 0))] [(0, (1, (.const (.int .i64 0)))), (1, (1, (.const (.int .i64 31))))]), .none⟩, ⟨(.some 6), (.build [(2, (.int .i64 0))] [(0, (1, (.const (.int .i64 127)))), (1, (1, (.const (.int .i64 159))))]), .none⟩, ⟨(.some 7), (.build [(2, (.int .i64 0))] [(0, (1, (.const (.int .i64 768)))), (1, (1, (.const (.int .i64 879))))]), .none⟩, ⟨(.some 8), (.build [(2, (.int .i64 0))] [(0, (1, (.const (.int .i64 8203)))), (1, (1, (.const (.int .i64 8207))))]), .none⟩, ⟨(.some 9), (.build [(2, (.int .i64 0))] [(0, (1, (.const (.int .i64 55296)))), (1, (1, (.const (.int .i64 57343))))]), .none⟩, ⟨(.some 10), (.build [(2, (.int .i64 0))] [(0, (1, (.const (.int .i64 65024)))), (1, (1, (.const (.int .i64 65039))))]), .none⟩, ⟨(.some 11), (.build [(12, (.int .i64 0))] [(0, (2, (.tmp 5))), (2, (2, (.tmp 6))), (4, (2, (.tmp 7))), (6, (2, (.tmp 8))), (8, (2, (.tmp 9))), (10, (2, (.tmp 10)))]), .none⟩, ⟨(.some 3), (.alloc [(12, (.int .i64 0))]), .none⟩, ⟨.none, (.store 12 (.tmp 3) (.tmp 11)), .none⟩]
def p45_5 : List PO := [⟨(.some 12), (.build [(2, (.int .i64 0))] [(0, (1, (.const (.int .i64 4352)))), (1, (1, (.const (.int .i64 4447))))]), .none⟩, ⟨(.some 13), (.build [(2, (.int .i64 0))] [(0, (1, (.const (.int .i64 11904)))), (1, (1, (.const (.int .i64 12350))))]), .none⟩, ⟨(.some 14), (.build [(2, (.int .i64 0))] [(0, (1, (.const (.int .i64 12353)))), (1, (1, (.const (.int .i64 19903))))]), .none⟩, ⟨(.some 15), (.build [(2, (.int .i64 0))] [(0, (1, (.const (.int .i64 19968)))), (1, (1, (.const (.int .i64 42191))))]), .none⟩, ⟨(.some 16), (.build [(2, (.int .i64 0))] [(0, (1, (.const (.int .i64 44032)))), (1, (1, (.const (.int .i64 55203))))]), .none⟩, ⟨(.some 17), (.build [(2, (.int .i64 0))] [(0, (1, (.const (.int .i64 63744)))), (1, (1, (.const (.int .i64 64255))))]), .none⟩, ⟨(.some 18), (.build [(2, (.int .i64 0))] [(0, (1, (.const (.int .i64 65072)))), (1, (1, (.const (.int .i64 65135))))]), .none⟩, ⟨(.some 19), (.build [(2, (.int .i64 0))] [(0, (1, (.const (.int .i64 65280)))), (1, (1, (.const (.int .i64 65376))))]), .none⟩, ⟨(.some 20), (.build [(2, (.int .i64 0))] [(0, (1, (.const (.int .i64 65504)))), (1, (1, (.const (.int .i64 65510))))]), .none⟩, ⟨(.some 21), (.build [(2, (.int .i64 0))] [(0, (1, (.const (.int .i64 127744)))), (1, (1, (.const (.int .i64 128591))))]), .none⟩, ⟨(.some 22), (.build [(2, (.int .i64 0))] [(0, (1, (.const (.int .i64 129280)))), (1, (1, (.const (.int .i64 129535))))]), .none⟩, ⟨(.some 23), (.build [(2, (.int .i64 0))] [(0, (1, (.const (.int .i64 131072)))), (1, (1, (.const (.int .i64 262141))))]), .none⟩, ⟨(.some 24), (.build [(24, (.int .i64 0))] [(0, (2, (.tmp 12))), (2, (2, (.tmp 13))), (4, (2, (.tmp 14))), (6, (2, (.tmp 15))), (8, (2, (.tmp 16))), (10, (2, (.tmp 17))), (12, (2, (.tmp 18))), (14, (2, (.tmp 19))), (16, (2, (.tmp 20))), (18, (2, (.tmp 21))), (20, (2, (.tmp 22))), (22, (2, (.tmp 23)))]), .none⟩, ⟨(.some 4), (.alloc [(24, (.int .i64 0))]), .none⟩, ⟨.none, (.store 24 (.tmp 4) (.tmp 24)), .none⟩]
def p45_6 : List PO := [⟨(.some 26), (.mov (.tmp 0)), .none⟩, ⟨(.some 27), (.cmpI .lss (.tmp 26) (.const (.int .i64 0))), .none⟩, ⟨(.some 28), (.mov (.tmp 27)), .none⟩, ⟨(.some 29), (.mov (.tmp 0)), (.some (28, .false))⟩, ⟨(.some 30), (.cmpI .gtr (.tmp 29) (.const (.int .i64 1114111))), (.some (28, .false))⟩, ⟨(.some 31), (.pick (.tmp 28) (.const (.bool .true)) (.tmp 30)), .none⟩, ⟨(.some 32), (.mov (.tmp 31)), .none⟩, ⟨(.some 33), (.mov (.tmp 0)), (.some (32, .false))⟩, ⟨(.some 34), (.slA 6 2 (.tmp 3) .none .none), (.some (32, .false))⟩, ⟨(.some 35), (.call 72 [(.tmp 33), (.tmp 34)]), (.some (32, .false))⟩, ⟨(.some 36), (.pick (.tmp 32) (.const (.bool .true)) (.tmp 35)), .none⟩, ⟨(.some 25), (.mov (.tmp 36)), .none⟩]
def p45_7 : List PO := [⟨(.some 2), (.mov (.const (.int .i64 0))), .none⟩]
def p45_8 : List PO := [⟨(.some 38), (.mov (.tmp 0)), .none⟩, ⟨(.some 39), (.slA 12 2 (.tmp 4) .none .none), .none⟩, ⟨(.some 40), (.call 72 [(.tmp 38), (.tmp 39)]), .none⟩, ⟨(.some 37), (.mov (.tmp 40)), .none⟩]
def p45_9 : List PO := [⟨(.some 2), (.mov (.const (.int .i64 2))), .none⟩]
def c45_1 : PCode := (.keep [0, 4, 25] [(40, .id 40)] [] (.cond (.tmp 25) (.seq (.reg p45_7) .ret) (.seq (.reg p45_8) (.cond (.tmp 37) (.seq (.reg p45_9) .ret) .skip))))
def p45_10 : List PO := [⟨(.some 2), (.mov (.const (.int .i64 1))), .none⟩]
def c45_2 : PCode := (.seq (.reg p45_10) .ret)
def c45_b : PCode := (.seq (.reg p45_3) (.seq (.reg p45_4) (.seq (.reg p45_5) (.seq (.block 0 (.seq (.reg p45_6) c45_1)) c45_2))))
def c45 : FCode := ⟨41, c45_b, [(.tmp 2)], some ([2], [], []), false⟩
theorem c45_ok : compF Go.Proofs.Tryz.prog [200005, 100010, 200013, 100015, 100023, 25, 100031, 38, 39, 40, 41, 43, 44, 52, 53, 55, 57, 59, 61, 62, 63, 64, 68, 69, 70, 71, 77, 79, 80, 82, 83, 85, 86, 88, 91, 92, 93, 95] 45 = some (eraseF c45) := by kernel_rfl
def p73_1 : List PO := [⟨(.some 3), (.mov (.const (.bool .false))), .none⟩]
def p73_2 : List PO := [⟨(.some 4), (.mov (.tmp 0)), .none⟩, ⟨(.some 5), (.load .false 1 (.tmp 1)), .none⟩, ⟨(.some 6), (.len .false (.tmp 5)), .none⟩, ⟨(.some 7), (.cmpI .lss (.tmp 4) (.tmp 6)), .none⟩, ⟨(.some 8), (.mov (.tmp 7)), .none⟩, ⟨(.some 9), (.load .false 1 (.tmp 1)), (.some (8, .true))⟩, ⟨(.some 10), (.mov (.tmp 0)), (.some (8, .true))⟩, ⟨(.some 11), (.ixS 51 4 (.tmp 9) (.tmp 10)), (.some (8, .true))⟩, ⟨(.some 12), (.fld 0 (.tmp 11)), (.some (8, .true))⟩, ⟨(.some 13), (.load .false 1 (.tmp 12)), (.some (8, .true))⟩, ⟨(.some 14), (.cmpI .eql (.tmp 13) (.const (.int .i64 0))), (.some (8, .true))⟩, ⟨(.some 15), (.pick (.tmp 8) (.tmp 14) (.const (.bool .false))), .none⟩, ⟨(.some 16), (.mov (.tmp 15)), .none⟩, ⟨(.some 17), (.load .false 1 (.tmp 1)), (.some (16, .true))⟩, ⟨(.some 18), (.mov (.tmp 0)), (.some (16, .true))⟩, ⟨(.some 19), (.ixS 51 4 (.tmp 17) (.tmp 18)), (.some (16, .true))⟩, ⟨(.some 20), (.fld 1 (.tmp 19)), (.some (16, .true))⟩, ⟨(.some 21), (.load .true 3 (.tmp 20)), (.some (16, .true))⟩, ⟨(.some 22), (.load .false 1 (.tmp 1)), (.some (16, .true))⟩, ⟨(.some 23), (.mov (.tmp 0)), (.some (16, .true))⟩, ⟨(.some 24), (.arI .sub (.tmp 23) (.const (.int .i64 1))), (.some (16, .true))⟩, ⟨(.some 25), (.ixS 51 4 (.tmp 22) (.tmp 24)), (.some (16, .true))⟩, ⟨(.some 26), (.fld 1 (.tmp 25)), (.some (16, .true))⟩, ⟨(.some 27), (.load .true 3 (.tmp 26)), (.some (16, .true))⟩, ⟨(.some 28), (.eqA .false [(3, .int)] (.tmp 21) (.tmp 27)), (.some (16, .true))⟩, ⟨(.some 29), (.pick (.tmp 16) (.tmp 28) (.const (.bool .false))), .none⟩, ⟨(.some 3), (.mov (.tmp 29)), .none⟩]
def c73_b : PCode := (.seq (.reg p73_1) (.seq (.regD p73_2 []) .ret))
def c73 : FCode := ⟨30, c73_b, [(.tmp 3)], some ([3], [], []), false⟩
theorem c73_ok : compF Go.Proofs.Tryz.prog [200005, 100010, 200013, 100015, 100023, 25, 100031, 38, 39, 40, 41, 43, 44, 52, 53, 55, 57, 59, 61, 62, 63, 64, 68, 69, 70, 71, 77, 79, 80, 82, 83, 85, 86, 88, 91, 92, 93, 95] 73 = some (eraseF c73) := by kernel_rfl
def p46_2 : List PO := [⟨(.some 2), (.box 1 (.tmp 0)), .none⟩, ⟨(.some 4), (.mov (.const (.bool .false))), .none⟩]
def p46_3 : List PO := [⟨(.some 6), (.mkF 73 [(.tmp 2)]), .none⟩, ⟨(.some 5), (.mov (.tmp 6)), .none⟩]
def p46_4 : List PO := [⟨(.some 7), (.load .false 1 (.tmp 2)), .none⟩, ⟨(.some 8), (.mov (.tmp 1)), .none⟩, ⟨(.some 9), (.ixS 51 4 (.tmp 7) (.tmp 8)), .none⟩, ⟨(.some 10), (.fld 0 (.tmp 9)), .none⟩, ⟨(.some 11), (.load .false 1 (.tmp 10)), .none⟩, ⟨(.some 12), (.cmpI .eql (.tmp 11) (.const (.int .i64 0))), .none⟩]
def p46_5 : List PO := [⟨(.some 13), (.mov (.tmp 1)), .none⟩, ⟨(.some 14), (.cmpI .eql (.tmp 13) (.const (.int .i64 0))), .none⟩, ⟨(.some 15), (.mov (.tmp 14)), .none⟩, ⟨(.some 16), (.load .false 1 (.tmp 2)), (.some (15, .false))⟩, ⟨(.some 17), (.mov (.tmp 1)), (.some (15, .false))⟩, ⟨(.some 18), (.arI .sub (.tmp 17) (.const (.int .i64 1))), (.some (15, .false))⟩, ⟨(.some 19), (.ixS 51 4 (.tmp 16) (.tmp 18)), (.some (15, .false))⟩, ⟨(.some 20), (.fld 0 (.tmp 19)), (.some (15, .false))⟩, ⟨(.some 21), (.load .false 1 (.tmp 20)), (.some (15, .false))⟩, ⟨(.some 22), (.call 45 [(.tmp 21)]), (.some (15, .false))⟩, ⟨(.some 23), (.cmpI .neq (.tmp 22) (.const (.int .i64 2))), (.some (15, .false))⟩, ⟨(.some 24), (.pick (.tmp 15) (.const (.bool .true)) (.tmp 23)), .none⟩, ⟨(.some 25), (.mov (.tmp 24)), .none⟩, ⟨(.some 26), (.mov (.tmp 5)), (.some (25, .false))⟩, ⟨(.some 27), (.mov (.tmp 1)), (.some (25, .false))⟩, ⟨(.some 28), (.callv (.tmp 26) [(.tmp 27)]), (.some (25, .false))⟩, ⟨(.some 29), (.un .not (.tmp 28)), (.some (25, .false))⟩, ⟨(.some 30), (.pick (.tmp 25) (.const (.bool .true)) (.tmp 29)), .none⟩, ⟨(.some 4), (.mov (.tmp 30)), .none⟩]
def p46_6 : List PO := [⟨(.some 31), (.load .false 1 (.tmp 2)), .none⟩, ⟨(.some 32), (.mov (.tmp 1)), .none⟩, ⟨(.some 33), (.ixS 51 4 (.tmp 31) (.tmp 32)), .none⟩, ⟨(.some 34), (.fld 0 (.tmp 33)), .none⟩, ⟨(.some 35), (.load .false 1 (.tmp 34)), .none⟩, ⟨(.some 36), (.call 45 [(.tmp 35)]), .none⟩, ⟨(.some 37), (.cmpI .eql (.tmp 36) (.const (.int .i64 2))), .none⟩, ⟨(.some 38), (.mov (.tmp 37)), .none⟩, ⟨(.some 39), (.mov (.tmp 5)), (.some (38, .true))⟩, ⟨(.some 40), (.mov (.tmp 1)), (.some (38, .true))⟩, ⟨(.some 41), (.arI .add (.tmp 40) (.const (.int .i64 1))), (.some (38, .true))⟩, ⟨(.some 42), (.callv (.tmp 39) [(.tmp 41)]), (.some (38, .true))⟩, ⟨(.some 43), (.un .not (.tmp 42)), (.some (38, .true))⟩, ⟨(.some 44), (.pick (.tmp 38) (.tmp 43) (.const (.bool .false))), .none⟩, ⟨(.some 4), (.mov (.tmp 44)), .none⟩]
def c46_1 : PCode := (.keep [1, 2, 5] [(24, .id 24)] [] (.seq (.reg p46_6) .ret))
def c46_b : PCode := (.seq (.reg p46_2) (.seq (.reg p46_3) (.seq (.seq (.reg p46_4) (.cond (.tmp 12) (.seq (.reg p46_5) .ret) .skip)) c46_1)))
def c46 : FCode := ⟨45, c46_b, [(.tmp 4)], some ([4], [], []), false⟩
theorem c46_ok : compF Go.Proofs.Tryz.prog [200005, 100010, 200013, 100015, 100023, 25, 100031, 38, 39, 40, 41, 43, 44, 52, 53, 55, 57, 59, 61, 62, 63, 64, 68, 69, 70, 71, 77, 79, 80, 82, 83, 85, 86, 88, 91, 92, 93, 95] 46 = some (eraseF c46) := by kernel_rfl
def p26_9 : List PO := [⟨(.some 1), (.box 3 (.tmp 0)), .none⟩, ⟨(.some 2), (.mov (.const (.int .i64 0))), .none⟩]
def p26_10 : List PO := [⟨(.some 8), (.fld 0 (.tmp 1)), .none⟩, ⟨(.some 9), (.load .false 1 (.tmp 8)), .none⟩, ⟨(.some 10), (.fld 1 (.tmp 1)), .none⟩, ⟨(.some 11), (.load .false 1 (.tmp 10)), .none⟩, ⟨(.some 12), (.call 34 [(.tmp 9), (.tmp 11)]), .none⟩, ⟨(.some 3), (.mov (.tmp 12)), .none⟩]
def p26_11 : List PO := [⟨(.some 13), (.mov (.tmp 3)), .none⟩, ⟨(.some 14), (.cmpI .neq (.tmp 13) (.const (.int .i64 0))), .none⟩]
def p26_12 : List PO := [⟨(.some 15), (.mov (.tmp 3)), .none⟩, ⟨(.some 2), (.mov (.tmp 15)), .none⟩]
def p26_13 : List PO := [⟨(.some 16), (.fld 2 (.tmp 1)), .none⟩, ⟨(.some 17), (.load .false 1 (.tmp 16)), .none⟩, ⟨(.some 18), (.len .false (.tmp 17)), .none⟩, ⟨(.some 19), (.fld 0 (.tmp 1)), .none⟩, ⟨(.some 20), (.load .false 1 (.tmp 19)), .none⟩, ⟨(.some 21), (.fld 1 (.tmp 1)), .none⟩, ⟨(.some 22), (.load .false 1 (.tmp 21)), .none⟩, ⟨(.some 23), (.arI .mul (.tmp 20) (.tmp 22)), .none⟩, ⟨(.some 24), (.cmpI .neq (.tmp 18) (.tmp 23)), .none⟩]
def p26_14 : List PO := [⟨(.some 2), (.mov (.const (.int .i64 4))), .none⟩]
def p26_15 : List PO := [⟨(.some 25), (.fld 1 (.tmp 1)), .none⟩, ⟨(.some 26), (.load .false 1 (.tmp 25)), .none⟩, ⟨(.some 27), (.mov (.const (.int .i64 0))), .none⟩]
def p26_16 : List PO := [⟨(.some 28), (.cmpI .lss (.tmp 27) (.tmp 26)), .none⟩]
def p26_17 : List PO := [⟨(.some 29), (.mov (.tmp 27)), .none⟩, ⟨(.some 4), (.mov (.tmp 29)), .none⟩]
def p26_18 : List PO := [⟨(.some 30), (.load .true 3 (.tmp 1)), .none⟩, ⟨(.some 31), (.mov (.tmp 4)), .none⟩, ⟨(.some 32), (.callr 44 [(.tmp 30), (.tmp 31)]), .none⟩, ⟨(.some 5), (.mov (.tmp 32)), .none⟩]
def p26_19 : List PO := [⟨(.some 33), (.mov (.tmp 5)), .none⟩, ⟨(.some 34), (.len .false (.tmp 33)), .none⟩, ⟨(.some 35), (.mov (.const (.int .i64 0))), .none⟩]
def p26_20 : List PO := [⟨(.some 36), (.cmpI .lss (.tmp 35) (.tmp 34)), .none⟩]
def p26_21 : List PO := [⟨(.some 37), (.mov (.tmp 35)), .none⟩, ⟨(.some 38), (.ixS 51 4 (.tmp 33) (.tmp 35)), .none⟩, ⟨(.some 39), (.load .true 4 (.tmp 38)), .none⟩, ⟨(.some 7), (.alloc [(4, (.int .i64 0))]), .none⟩, ⟨(.some 6), (.mov (.tmp 37)), .none⟩, ⟨.none, (.store 4 (.tmp 7) (.tmp 39)), .none⟩]
def p26_22 : List PO := [⟨(.some 40), (.fld 1 (.tmp 7)), .none⟩, ⟨(.some 41), (.load .true 3 (.tmp 40)), .none⟩, ⟨(.some 42), (.call 28 [(.tmp 41)]), .none⟩, ⟨(.some 43), (.cmpI .neq (.tmp 42) (.const (.int .i64 0))), .none⟩, ⟨(.some 44), (.mov (.tmp 43)), .none⟩, ⟨(.some 45), (.fld 0 (.tmp 7)), (.some (44, .false))⟩, ⟨(.some 46), (.load .false 1 (.tmp 45)), (.some (44, .false))⟩, ⟨(.some 47), (.cmpI .neq (.tmp 46) (.const (.int .i64 0))), (.some (44, .false))⟩, ⟨(.some 48), (.mov (.tmp 47)), (.some (44, .false))⟩, ⟨(.some 49), (.fld 0 (.tmp 7)), (.some (48, .true))⟩, ⟨(.some 50), (.load .false 1 (.tmp 49)), (.some (48, .true))⟩, ⟨(.some 51), (.call 45 [(.tmp 50)]), (.some (48, .true))⟩, ⟨(.some 52), (.cmpI .eql (.tmp 51) (.const (.int .i64 0))), (.some (48, .true))⟩, ⟨(.some 53), (.pick (.tmp 48) (.tmp 52) (.const (.bool .false))), (.some (44, .false))⟩, ⟨(.some 54), (.pick (.tmp 44) (.const (.bool .true)) (.tmp 53)), .none⟩, ⟨(.some 55), (.mov (.tmp 54)), .none⟩, ⟨(.some 56), (.mov (.tmp 5)), (.some (55, .false))⟩, ⟨(.some 57), (.mov (.tmp 6)), (.some (55, .false))⟩, ⟨(.some 58), (.call 46 [(.tmp 56), (.tmp 57)]), (.some (55, .false))⟩, ⟨(.some 59), (.pick (.tmp 55) (.const (.bool .true)) (.tmp 58)), .none⟩]
def p26_23 : List PO := [⟨(.some 2), (.mov (.const (.int .i64 4))), .none⟩]
def p26_24 : List PO := [⟨(.some 60), (.arI .add (.tmp 35) (.const (.int .i64 1))), .none⟩, ⟨(.some 35), (.mov (.tmp 60)), .none⟩]
def c26_1 : PCode := (.keep [1, 5, 26, 27, 33, 34, 35] [(16, .id 16)] [] (.seq (.block 3 (.seq (.reg p26_21) (.seq (.reg p26_22) (.cond (.tmp 59) (.seq (.reg p26_23) .ret) .skip)))) (.reg p26_24)))
def c26_2 : PCode := (.keep [1, 5, 26, 27, 33, 34, 35, 36] [(16, .id 16)] [] (.seq (.cond (.tmp 36) .skip (.keep [1, 26, 27] [(16, .id 16)] [] (.exit 2))) c26_1))
def c26_3 : PCode := (.keep [1, 5, 26, 27, 33, 34, 35] [(16, .id 16)] [] (.seq (.reg p26_20) c26_2))
def p26_25 : List PO := [⟨(.some 61), (.arI .add (.tmp 27) (.const (.int .i64 1))), .none⟩, ⟨(.some 27), (.mov (.tmp 61)), .none⟩]
def c26_4 : PCode := (.keep [1, 26, 27] [(16, .id 16)] [] (.seq (.block 1 (.seq (.reg p26_17) (.seq (.reg p26_18) (.seq (.reg p26_19) (.block 2 (.loop c26_3)))))) (.reg p26_25)))
def c26_5 : PCode := (.keep [1, 26, 27, 28] [(16, .id 16)] [] (.seq (.cond (.tmp 28) .skip (.keep [] [] [] (.exit 0))) c26_4))
def c26_6 : PCode := (.keep [1, 26, 27] [(16, .id 16)] [] (.seq (.reg p26_16) c26_5))
def p26_26 : List PO := [⟨(.some 2), (.mov (.const (.int .i64 0))), .none⟩]
def c26_7 : PCode := (.keep [1] [(16, .id 16)] [] (.seq (.seq (.reg p26_15) (.block 0 (.loop c26_6))) (.seq (.reg p26_26) .ret)))
def c26_8 : PCode := (.keep [1] [(16, .id 16)] [] (.seq (.seq (.reg p26_13) (.cond (.tmp 24) (.seq (.reg p26_14) .ret) .skip)) c26_7))
def c26_b : PCode := (.seq (.reg p26_9) (.seq (.seq (.reg p26_10) (.seq (.reg p26_11) (.cond (.tmp 14) (.seq (.reg p26_12) .ret) .skip))) c26_8))
def c26 : FCode := ⟨62, c26_b, [(.tmp 2)], some ([2], [], []), false⟩
theorem c26_ok : compF Go.Proofs.Tryz.prog [200005, 100010, 200013, 100015, 100023, 25, 100031, 38, 39, 40, 41, 43, 44, 52, 53, 55, 57, 59, 61, 62, 63, 64, 68, 69, 70, 71, 77, 79, 80, 82, 83, 85, 86, 88, 91, 92, 93, 95] 26 = some (eraseF c26) := by kernel_rfl
def p27_1 : List PO := [⟨(.some 6), (.mov (.const (.bool .false))), .none⟩]
def p27_2 : List PO := [⟨(.some 7), (.mov (.tmp 0)), .none⟩, ⟨(.some 8), (.mov (.tmp 1)), .none⟩, ⟨(.some 9), (.cmpI .geq (.tmp 7) (.tmp 8)), .none⟩, ⟨(.some 10), (.mov (.tmp 9)), .none⟩, ⟨(.some 11), (.mov (.tmp 0)), (.some (10, .true))⟩, ⟨(.some 12), (.mov (.tmp 2)), (.some (10, .true))⟩, ⟨(.some 13), (.cmpI .leq (.tmp 11) (.tmp 12)), (.some (10, .true))⟩, ⟨(.some 14), (.pick (.tmp 10) (.tmp 13) (.const (.bool .false))), .none⟩, ⟨(.some 6), (.mov (.tmp 14)), .none⟩]
def c27_b : PCode := (.seq (.reg p27_1) (.seq (.reg p27_2) .ret))
def c27 : FCode := ⟨15, c27_b, [(.tmp 6)], some ([6], [], []), false⟩
theorem c27_ok : compF Go.Proofs.Tryz.prog [200005, 100010, 200013, 100015, 100023, 25, 100031, 38, 39, 40, 41, 43, 44, 52, 53, 55, 57, 59, 61, 62, 63, 64, 68, 69, 70, 71, 77, 79, 80, 82, 83, 85, 86, 88, 91, 92, 93, 95] 27 = some (eraseF c27) := by kernel_rfl
def p29_1 : List PO := [⟨(.some 2), (.mov (.const (.bool .false))), .none⟩]
def p29_2 : List PO := [⟨(.some 3), (.mov (.tmp 0)), .none⟩, ⟨(.some 4), (.cmpI .geq (.tmp 3) (.const (.int .i64 1))), .none⟩, ⟨(.some 5), (.mov (.tmp 4)), .none⟩, ⟨(.some 6), (.mov (.tmp 0)), (.some (5, .true))⟩, ⟨(.some 7), (.cmpI .leq (.tmp 6) (.const (.int .i64 4))), (.some (5, .true))⟩, ⟨(.some 8), (.pick (.tmp 5) (.tmp 7) (.const (.bool .false))), .none⟩, ⟨(.some 2), (.mov (.tmp 8)), .none⟩]
def c29_b : PCode := (.seq (.reg p29_1) (.seq (.reg p29_2) .ret))
def c29 : FCode := ⟨9, c29_b, [(.tmp 2)], some ([2], [], []), false⟩
theorem c29_ok : compF Go.Proofs.Tryz.prog [200005, 100010, 200013, 100015, 100023, 25, 100031, 38, 39, 40, 41, 43, 44, 52, 53, 55, 57, 59, 61, 62, 63, 64, 68, 69, 70, 71, 77, 79, 80, 82, 83, 85, 86, 88, 91, 92, 93, 95] 29 = some (eraseF c29) := by kernel_rfl
def p30_4 : List PO := [⟨(.some 2), (.mov (.const (.bool .false))), .none⟩]
def p30_5 : List PO := [⟨(.some 5), (.mov (.tmp 0)), .none⟩, ⟨(.some 6), (.len .false (.tmp 5)), .none⟩, ⟨(.some 7), (.mov (.const (.int .i64 0))), .none⟩]
def p30_6 : List PO := [⟨(.some 8), (.cmpI .lss (.tmp 7) (.tmp 6)), .none⟩]
def p30_7 : List PO := [⟨(.some 9), (.ixS 56 1 (.tmp 5) (.tmp 7)), .none⟩, ⟨(.some 10), (.load .true 1 (.tmp 9)), .none⟩, ⟨(.some 4), (.alloc [(1, (.slice .none 0 0))]), .none⟩, ⟨.none, (.store 1 (.tmp 4) (.tmp 10)), .none⟩]
def p30_8 : List PO := [⟨(.some 11), (.fld 0 (.tmp 4)), .none⟩, ⟨(.some 12), (.load .false 1 (.tmp 11)), .none⟩, ⟨(.some 13), (.len .false (.tmp 12)), .none⟩, ⟨(.some 14), (.fld 0 (.tmp 4)), .none⟩, ⟨(.some 15), (.load .false 1 (.tmp 14)), .none⟩, ⟨(.some 16), (.build [(2, (.int .i64 0)), (1, (.slice .none 0 0))] [(0, (1, (.tmp 13))), (1, (1, (.const (.int .i64 1)))), (2, (1, (.tmp 15)))]), .none⟩, ⟨(.some 17), (.call 26 [(.tmp 16)]), .none⟩, ⟨(.some 18), (.cmpI .neq (.tmp 17) (.const (.int .i64 0))), .none⟩]
def p30_9 : List PO := [⟨(.some 2), (.mov (.const (.bool .false))), .none⟩]
def p30_10 : List PO := [⟨(.some 19), (.arI .add (.tmp 7) (.const (.int .i64 1))), .none⟩, ⟨(.some 7), (.mov (.tmp 19)), .none⟩]
def c30_1 : PCode := (.keep [0, 5, 6, 7] [] [] (.seq (.block 1 (.seq (.reg p30_7) (.seq (.reg p30_8) (.cond (.tmp 18) (.seq (.reg p30_9) .ret) .skip)))) (.reg p30_10)))
def c30_2 : PCode := (.keep [0, 5, 6, 7, 8] [] [] (.seq (.cond (.tmp 8) .skip (.keep [0] [] [] (.exit 0))) c30_1))
def c30_3 : PCode := (.keep [0, 5, 6, 7] [] [] (.seq (.reg p30_6) c30_2))
def p30_11 : List PO := [⟨(.some 20), (.mov (.tmp 0)), .none⟩, ⟨(.some 21), (.len .false (.tmp 20)), .none⟩, ⟨(.some 22), (.cmpI .leq (.tmp 21) (.const (.int .i64 40))), .none⟩, ⟨(.some 2), (.mov (.tmp 22)), .none⟩]
def c30_b : PCode := (.seq (.reg p30_4) (.seq (.seq (.reg p30_5) (.block 0 (.loop c30_3))) (.seq (.reg p30_11) .ret)))
def c30 : FCode := ⟨23, c30_b, [(.tmp 2)], some ([2], [], []), false⟩
theorem c30_ok : compF Go.Proofs.Tryz.prog [200005, 100010, 200013, 100015, 100023, 25, 100031, 38, 39, 40, 41, 43, 44, 52, 53, 55, 57, 59, 61, 62, 63, 64, 68, 69, 70, 71, 77, 79, 80, 82, 83, 85, 86, 88, 91, 92, 93, 95] 30 = some (eraseF c30) := by kernel_rfl
def p17_10 : List PO := [⟨(.some 1), (.box 33 (.tmp 0)), .none⟩, ⟨(.some 2), (.mov (.const (.int .i64 0))), .none⟩]
def p17_11 : List PO := [⟨(.some 7), (.fld 0 (.tmp 1)), .none⟩, ⟨(.some 8), (.load .true 3 (.tmp 7)), .none⟩, ⟨(.some 9), (.fld 28 (.tmp 1)), .none⟩, ⟨(.some 10), (.load .true 3 (.tmp 9)), .none⟩, ⟨(.some 3), (.alloc [(2, (.int .i64 0)), (1, (.slice .none 0 0))]), .none⟩, ⟨(.some 4), (.alloc [(2, (.int .i64 0)), (1, (.slice .none 0 0))]), .none⟩, ⟨.none, (.store 3 (.tmp 3) (.tmp 8)), .none⟩, ⟨.none, (.store 3 (.tmp 4) (.tmp 10)), .none⟩]
def p17_12 : List PO := [⟨(.some 11), (.load .true 3 (.tmp 3)), .none⟩, ⟨(.some 12), (.call 26 [(.tmp 11)]), .none⟩, ⟨(.some 13), (.cmpI .eql (.tmp 12) (.const (.int .i64 0))), .none⟩, ⟨(.some 14), (.mov (.tmp 13)), .none⟩, ⟨(.some 15), (.load .true 3 (.tmp 4)), (.some (14, .true))⟩, ⟨(.some 16), (.call 26 [(.tmp 15)]), (.some (14, .true))⟩, ⟨(.some 17), (.cmpI .eql (.tmp 16) (.const (.int .i64 0))), (.some (14, .true))⟩, ⟨(.some 18), (.pick (.tmp 14) (.tmp 17) (.const (.bool .false))), .none⟩, ⟨(.some 19), (.mov (.tmp 18)), .none⟩, ⟨(.some 20), (.fld 0 (.tmp 3)), (.some (19, .true))⟩, ⟨(.some 21), (.load .false 1 (.tmp 20)), (.some (19, .true))⟩, ⟨(.some 22), (.fld 0 (.tmp 4)), (.some (19, .true))⟩, ⟨(.some 23), (.load .false 1 (.tmp 22)), (.some (19, .true))⟩, ⟨(.some 24), (.cmpI .eql (.tmp 21) (.tmp 23)), (.some (19, .true))⟩, ⟨(.some 25), (.pick (.tmp 19) (.tmp 24) (.const (.bool .false))), .none⟩, ⟨(.some 26), (.mov (.tmp 25)), .none⟩, ⟨(.some 27), (.fld 1 (.tmp 3)), (.some (26, .true))⟩, ⟨(.some 28), (.load .false 1 (.tmp 27)), (.some (26, .true))⟩, ⟨(.some 29), (.fld 1 (.tmp 4)), (.some (26, .true))⟩, ⟨(.some 30), (.load .false 1 (.tmp 29)), (.some (26, .true))⟩, ⟨(.some 31), (.cmpI .eql (.tmp 28) (.tmp 30)), (.some (26, .true))⟩, ⟨(.some 32), (.pick (.tmp 26) (.tmp 31) (.const (.bool .false))), .none⟩, ⟨(.some 5), (.mov (.tmp 32)), .none⟩]
def p17_13 : List PO := [⟨(.some 33), (.mov (.tmp 5)), .none⟩, ⟨(.some 34), (.mov (.tmp 33)), .none⟩, ⟨(.some 35), (.fld 3 (.tmp 1)), (.some (34, .true))⟩, ⟨(.some 36), (.load .false 1 (.tmp 35)), (.some (34, .true))⟩, ⟨(.some 37), (.fld 1 (.tmp 3)), (.some (34, .true))⟩, ⟨(.some 38), (.load .false 1 (.tmp 37)), (.some (34, .true))⟩, ⟨(.some 39), (.arI .sub (.tmp 38) (.const (.int .i64 1))), (.some (34, .true))⟩, ⟨(.some 40), (.call 27 [(.tmp 36), (.const (.int .i64 0)), (.tmp 39)]), (.some (34, .true))⟩, ⟨(.some 41), (.pick (.tmp 34) (.tmp 40) (.const (.bool .false))), .none⟩, ⟨(.some 42), (.mov (.tmp 41)), .none⟩, ⟨(.some 43), (.fld 4 (.tmp 1)), (.some (42, .true))⟩, ⟨(.some 44), (.load .false 1 (.tmp 43)), (.some (42, .true))⟩, ⟨(.some 45), (.fld 0 (.tmp 3)), (.some (42, .true))⟩, ⟨(.some 46), (.load .false 1 (.tmp 45)), (.some (42, .true))⟩, ⟨(.some 47), (.arI .sub (.tmp 46) (.const (.int .i64 1))), (.some (42, .true))⟩, ⟨(.some 48), (.call 27 [(.tmp 44), (.const (.int .i64 0)), (.tmp 47)]), (.some (42, .true))⟩, ⟨(.some 49), (.pick (.tmp 42) (.tmp 48) (.const (.bool .false))), .none⟩, ⟨(.some 50), (.mov (.tmp 49)), .none⟩, ⟨(.some 51), (.fld 5 (.tmp 1)), (.some (50, .true))⟩, ⟨(.some 52), (.load .false 1 (.tmp 51)), (.some (50, .true))⟩, ⟨(.some 53), (.un .not (.tmp 52)), (.some (50, .true))⟩, ⟨(.some 54), (.mov (.tmp 53)), (.some (50, .true))⟩, ⟨(.some 55), (.fld 4 (.tmp 1)), (.some (54, .false))⟩, ⟨(.some 56), (.load .false 1 (.tmp 55)), (.some (54, .false))⟩, ⟨(.some 57), (.fld 0 (.tmp 3)), (.some (54, .false))⟩, ⟨(.some 58), (.load .false 1 (.tmp 57)), (.some (54, .false))⟩, ⟨(.some 59), (.arI .sub (.tmp 58) (.const (.int .i64 1))), (.some (54, .false))⟩, ⟨(.some 60), (.cmpI .eql (.tmp 56) (.tmp 59)), (.some (54, .false))⟩, ⟨(.some 61), (.pick (.tmp 54) (.const (.bool .true)) (.tmp 60)), (.some (50, .true))⟩, ⟨(.some 62), (.pick (.tmp 50) (.tmp 61) (.const (.bool .false))), .none⟩, ⟨(.some 5), (.mov (.tmp 62)), .none⟩]
def p17_14 : List PO := [⟨(.some 63), (.mov (.tmp 5)), .none⟩, ⟨(.some 64), (.mov (.tmp 63)), .none⟩, ⟨(.some 65), (.fld 6 (.tmp 1)), (.some (64, .true))⟩, ⟨(.some 66), (.load .false 1 (.tmp 65)), (.some (64, .true))⟩, ⟨(.some 67), (.fld 7 (.tmp 1)), (.some (64, .true))⟩, ⟨(.some 68), (.load .false 1 (.tmp 67)), (.some (64, .true))⟩, ⟨(.some 69), (.arI .sub (.tmp 68) (.const (.int .i64 1))), (.some (64, .true))⟩, ⟨(.some 70), (.call 27 [(.tmp 66), (.const (.int .i64 0)), (.tmp 69)]), (.some (64, .true))⟩, ⟨(.some 71), (.pick (.tmp 64) (.tmp 70) (.const (.bool .false))), .none⟩, ⟨(.some 72), (.mov (.tmp 71)), .none⟩, ⟨(.some 73), (.fld 7 (.tmp 1)), (.some (72, .true))⟩, ⟨(.some 74), (.load .false 1 (.tmp 73)), (.some (72, .true))⟩, ⟨(.some 75), (.fld 1 (.tmp 3)), (.some (72, .true))⟩, ⟨(.some 76), (.load .false 1 (.tmp 75)), (.some (72, .true))⟩, ⟨(.some 77), (.cmpI .leq (.tmp 74) (.tmp 76)), (.some (72, .true))⟩, ⟨(.some 78), (.pick (.tmp 72) (.tmp 77) (.const (.bool .false))), .none⟩, ⟨(.some 5), (.mov (.tmp 78)), .none⟩]
def p17_15 : List PO := [⟨(.some 79), (.mov (.tmp 5)), .none⟩, ⟨(.some 80), (.mov (.tmp 79)), .none⟩, ⟨(.some 81), (.fld 8 (.tmp 1)), (.some (80, .true))⟩, ⟨(.some 82), (.load .true 3 (.tmp 81)), (.some (80, .true))⟩, ⟨(.some 83), (.call 28 [(.tmp 82)]), (.some (80, .true))⟩, ⟨(.some 84), (.cmpI .eql (.tmp 83) (.const (.int .i64 0))), (.some (80, .true))⟩, ⟨(.some 85), (.pick (.tmp 80) (.tmp 84) (.const (.bool .false))), .none⟩, ⟨(.some 86), (.mov (.tmp 85)), .none⟩, ⟨(.some 87), (.fld 19 (.tmp 1)), (.some (86, .true))⟩, ⟨(.some 88), (.fld 2 (.tmp 87)), (.some (86, .true))⟩, ⟨(.some 89), (.load .true 3 (.tmp 88)), (.some (86, .true))⟩, ⟨(.some 90), (.call 28 [(.tmp 89)]), (.some (86, .true))⟩, ⟨(.some 91), (.cmpI .eql (.tmp 90) (.const (.int .i64 0))), (.some (86, .true))⟩, ⟨(.some 92), (.pick (.tmp 86) (.tmp 91) (.const (.bool .false))), .none⟩, ⟨(.some 93), (.mov (.tmp 92)), .none⟩, ⟨(.some 94), (.fld 11 (.tmp 1)), (.some (93, .true))⟩, ⟨(.some 95), (.load .false 1 (.tmp 94)), (.some (93, .true))⟩, ⟨(.some 96), (.call 27 [(.tmp 95), (.const (.int .i64 0)), (.const (.int .i64 2047))]), (.some (93, .true))⟩, ⟨(.some 97), (.pick (.tmp 93) (.tmp 96) (.const (.bool .false))), .none⟩, ⟨(.some 5), (.mov (.tmp 97)), .none⟩]
def p17_16 : List PO := [⟨(.some 98), (.mov (.const (.int .i64 0))), .none⟩]
def p17_17 : List PO := [⟨(.some 99), (.cmpI .lss (.tmp 98) (.const (.int .i64 2))), .none⟩]
def p17_18 : List PO := [⟨(.some 100), (.mov (.tmp 98)), .none⟩, ⟨(.some 6), (.mov (.tmp 100)), .none⟩]
def p17_19 : List PO := [⟨(.some 101), (.mov (.tmp 5)), .none⟩, ⟨(.some 102), (.mov (.tmp 101)), .none⟩, ⟨(.some 103), (.mov (.tmp 6)), (.some (102, .true))⟩, ⟨(.some 104), (.fld 16 (.tmp 1)), (.some (102, .true))⟩, ⟨(.some 105), (.ixA 2 1 (.tmp 104) (.tmp 103)), (.some (102, .true))⟩, ⟨(.some 106), (.load .false 1 (.tmp 105)), (.some (102, .true))⟩, ⟨(.some 107), (.call 29 [(.tmp 106)]), (.some (102, .true))⟩, ⟨(.some 108), (.pick (.tmp 102) (.tmp 107) (.const (.bool .false))), .none⟩, ⟨(.some 109), (.mov (.tmp 108)), .none⟩, ⟨(.some 110), (.mov (.tmp 6)), (.some (109, .true))⟩, ⟨(.some 111), (.fld 19 (.tmp 1)), (.some (109, .true))⟩, ⟨(.some 112), (.fld 6 (.tmp 111)), (.some (109, .true))⟩, ⟨(.some 113), (.ixA 2 1 (.tmp 112) (.tmp 110)), (.some (109, .true))⟩, ⟨(.some 114), (.load .false 1 (.tmp 113)), (.some (109, .true))⟩, ⟨(.some 115), (.call 29 [(.tmp 114)]), (.some (109, .true))⟩, ⟨(.some 116), (.pick (.tmp 109) (.tmp 115) (.const (.bool .false))), .none⟩, ⟨(.some 5), (.mov (.tmp 116)), .none⟩]
def p17_20 : List PO := [⟨(.some 117), (.arI .add (.tmp 98) (.const (.int .i64 1))), .none⟩, ⟨(.some 98), (.mov (.tmp 117)), .none⟩]
def c17_4 : PCode := (.keep [1, 5, 98] [(16, .id 16)] [] (.seq (.block 1 (.seq (.reg p17_18) (.reg p17_19))) (.reg p17_20)))
def c17_5 : PCode := (.loop (.seq (.reg p17_17) (.seq (.cond (.tmp 99) .skip (.exit 0)) c17_4)))
def p17_21 : List PO := [⟨(.some 118), (.mov (.tmp 5)), .none⟩, ⟨(.some 119), (.mov (.tmp 118)), .none⟩, ⟨(.some 120), (.fld 18 (.tmp 1)), (.some (119, .true))⟩, ⟨(.some 121), (.load .false 1 (.tmp 120)), (.some (119, .true))⟩, ⟨(.some 122), (.call 27 [(.tmp 121), (.const (.int .i64 0)), (.const (.int .i64 1))]), (.some (119, .true))⟩, ⟨(.some 123), (.pick (.tmp 119) (.tmp 122) (.const (.bool .false))), .none⟩, ⟨(.some 124), (.mov (.tmp 123)), .none⟩, ⟨(.some 125), (.fld 19 (.tmp 1)), (.some (124, .true))⟩, ⟨(.some 126), (.fld 8 (.tmp 125)), (.some (124, .true))⟩, ⟨(.some 127), (.load .false 1 (.tmp 126)), (.some (124, .true))⟩, ⟨(.some 128), (.call 27 [(.tmp 127), (.const (.int .i64 0)), (.const (.int .i64 1))]), (.some (124, .true))⟩, ⟨(.some 129), (.pick (.tmp 124) (.tmp 128) (.const (.bool .false))), .none⟩, ⟨(.some 5), (.mov (.tmp 129)), .none⟩]
def p17_22 : List PO := [⟨(.some 130), (.mov (.tmp 5)), .none⟩, ⟨(.some 131), (.mov (.tmp 130)), .none⟩, ⟨(.some 132), (.fld 19 (.tmp 1)), (.some (131, .true))⟩, ⟨(.some 133), (.fld 0 (.tmp 132)), (.some (131, .true))⟩, ⟨(.some 134), (.load .false 1 (.tmp 133)), (.some (131, .true))⟩, ⟨(.some 135), (.call 27 [(.tmp 134), (.const (.int .i64 0)), (.const (.int .i64 59))]), (.some (131, .true))⟩, ⟨(.some 136), (.pick (.tmp 131) (.tmp 135) (.const (.bool .false))), .none⟩, ⟨(.some 137), (.mov (.tmp 136)), .none⟩, ⟨(.some 138), (.fld 19 (.tmp 1)), (.some (137, .true))⟩, ⟨(.some 139), (.fld 1 (.tmp 138)), (.some (137, .true))⟩, ⟨(.some 140), (.load .false 1 (.tmp 139)), (.some (137, .true))⟩, ⟨(.some 141), (.call 27 [(.tmp 140), (.const (.int .i64 0)), (.const (.int .i64 159))]), (.some (137, .true))⟩, ⟨(.some 142), (.pick (.tmp 137) (.tmp 141) (.const (.bool .false))), .none⟩, ⟨(.some 5), (.mov (.tmp 142)), .none⟩]
def p17_23 : List PO := [⟨(.some 143), (.mov (.tmp 5)), .none⟩, ⟨(.some 144), (.mov (.tmp 143)), .none⟩, ⟨(.some 145), (.fld 31 (.tmp 1)), (.some (144, .true))⟩, ⟨(.some 146), (.load .false 1 (.tmp 145)), (.some (144, .true))⟩, ⟨(.some 147), (.len .true (.tmp 146)), (.some (144, .true))⟩, ⟨(.some 148), (.cmpI .leq (.tmp 147) (.const (.int .i64 256))), (.some (144, .true))⟩, ⟨(.some 149), (.pick (.tmp 144) (.tmp 148) (.const (.bool .false))), .none⟩, ⟨(.some 150), (.mov (.tmp 149)), .none⟩, ⟨(.some 151), (.fld 32 (.tmp 1)), (.some (150, .true))⟩, ⟨(.some 152), (.load .false 1 (.tmp 151)), (.some (150, .true))⟩, ⟨(.some 153), (.call 30 [(.tmp 152)]), (.some (150, .true))⟩, ⟨(.some 154), (.pick (.tmp 150) (.tmp 153) (.const (.bool .false))), .none⟩, ⟨(.some 5), (.mov (.tmp 154)), .none⟩]
def p17_24 : List PO := [⟨(.some 155), (.mov (.tmp 5)), .none⟩, ⟨(.some 156), (.un .not (.tmp 155)), .none⟩]
def p17_25 : List PO := [⟨(.some 2), (.mov (.const (.int .i64 4))), .none⟩]
def p17_26 : List PO := [⟨(.some 2), (.mov (.const (.int .i64 0))), .none⟩]
def c17_1 : PCode := (.keep [1, 5] [(16, .id 16)] [] (.seq (.reg p17_23) (.seq (.seq (.reg p17_24) (.cond (.tmp 156) (.seq (.reg p17_25) .ret) .skip)) (.seq (.reg p17_26) .ret))))
def c17_2 : PCode := (.keep [1, 5] [(16, .id 16)] [] (.seq (.reg p17_22) c17_1))
def c17_3 : PCode := (.keep [1, 5] [(16, .id 16)] [] (.seq (.reg p17_21) c17_2))
def c17_6 : PCode := (.keep [1, 5] [(16, .id 16)] [] (.seq (.seq (.reg p17_16) (.block 0 c17_5)) c17_3))
def c17_7 : PCode := (.keep [1, 5] [(16, .id 16)] [] (.seq (.reg p17_15) c17_6))
def c17_8 : PCode := (.keep [1, 3, 5] [(16, .id 16), (32, .id 32)] [] (.seq (.reg p17_14) c17_7))
def c17_9 : PCode := (.keep [1, 3, 5] [(16, .id 16), (32, .id 32)] [] (.seq (.reg p17_13) c17_8))
def c17_b : PCode := (.seq (.reg p17_10) (.seq (.regD p17_11 [(1, 4), (3, 4), (1, 5), (3, 5), (4, 5), (3, 6)]) (.seq (.reg p17_12) c17_9)))
def c17 : FCode := ⟨157, c17_b, [(.tmp 2)], some ([2], [], []), false⟩
theorem c17_ok : compF Go.Proofs.Tryz.prog [200005, 100010, 200013, 100015, 100023, 25, 100031, 38, 39, 40, 41, 43, 44, 52, 53, 55, 57, 59, 61, 62, 63, 64, 68, 69, 70, 71, 77, 79, 80, 82, 83, 85, 86, 88, 91, 92, 93, 95] 17 = some (eraseF c17) := by kernel_rfl
def p10_1 : List PO := [⟨(.some 1), (.box 33 (.tmp 0)), .none⟩, ⟨(.some 2), (.nilS 22 1), .none⟩, ⟨(.some 3), (.mov (.const (.int .i64 0))), .none⟩]
def p10_2 : List PO := [⟨(.some 5), (.load .true 33 (.tmp 1)), .none⟩, ⟨(.some 6), (.call 17 [(.tmp 5)]), .none⟩, ⟨(.some 4), (.mov (.tmp 6)), .none⟩]
def p10_3 : List PO := [⟨(.some 7), (.mov (.tmp 4)), .none⟩, ⟨(.some 8), (.cmpI .neq (.tmp 7) (.const (.int .i64 0))), .none⟩]
def p10_4 : List PO := [⟨(.some 9), (.mov (.tmp 4)), .none⟩, ⟨(.some 2), (.nilS 22 1), .none⟩, ⟨(.some 3), (.mov (.tmp 9)), .none⟩]
def p10_5 : List PO := [⟨(.some 10), (.load .true 33 (.tmp 1)), .none⟩, ⟨(.some 11), (.call 19 [(.tmp 10)]), .none⟩, ⟨(.some 12), (.call 18 [(.tmp 11)]), .none⟩, ⟨(.some 2), (.mov (.tmp 12)), .none⟩, ⟨(.some 3), (.mov (.const (.int .i64 0))), .none⟩]
def c10_b : PCode := (.seq (.reg p10_1) (.seq (.seq (.reg p10_2) (.seq (.reg p10_3) (.cond (.tmp 8) (.seq (.reg p10_4) .ret) .skip))) (.seq (.reg p10_5) .ret)))
def c10 : FCode := ⟨13, c10_b, [(.tmp 2), (.tmp 3)], some ([2, 3], [], []), false⟩
theorem c10_ok : compF Go.Proofs.Tryz.prog [200005, 100010, 200013, 100015, 100023, 25, 100031, 38, 39, 40, 41, 43, 44, 52, 53, 55, 57, 59, 61, 62, 63, 64, 68, 69, 70, 71, 77, 79, 80, 82, 83, 85, 86, 88, 91, 92, 93, 95] 10 = some (eraseF c10) := by kernel_rfl
def p13_9 : List PO := [⟨(.some 6), (.nilS 3 1), .none⟩]
def p13_10 : List PO := [⟨(.some 10), (.mov (.tmp 1)), .none⟩, ⟨(.some 11), (.mov (.tmp 0)), .none⟩, ⟨(.some 12), (.len .false (.tmp 11)), .none⟩, ⟨(.some 13), (.mn [(.tmp 10), (.tmp 12)]), .none⟩, ⟨(.some 14), (.mov (.tmp 2)), .none⟩, ⟨(.some 15), (.mov (.tmp 0)), .none⟩, ⟨(.some 16), (.len .false (.tmp 15)), .none⟩, ⟨(.some 17), (.mn [(.tmp 14), (.tmp 16)]), .none⟩, ⟨(.some 1), (.mov (.tmp 13)), .none⟩, ⟨(.some 2), (.mov (.tmp 17)), .none⟩]
def p13_11 : List PO := [⟨(.some 18), (.mov (.tmp 1)), .none⟩, ⟨(.some 19), (.mov (.tmp 2)), .none⟩, ⟨(.some 20), (.cmpI .geq (.tmp 18) (.tmp 19)), .none⟩]
def p13_12 : List PO := [⟨(.some 6), (.nilS 3 1), .none⟩]
def p13_13 : List PO := [⟨(.some 21), (.mov (.tmp 0)), .none⟩, ⟨(.some 22), (.mov (.tmp 1)), .none⟩, ⟨(.some 23), (.ixS 51 4 (.tmp 21) (.tmp 22)), .none⟩, ⟨(.some 24), (.fld 0 (.tmp 23)), .none⟩, ⟨(.some 25), (.load .false 1 (.tmp 24)), .none⟩, ⟨(.some 26), (.cmpI .eql (.tmp 25) (.const (.int .i64 0))), .none⟩]
def p13_14 : List PO := [⟨(.some 27), (.mov (.tmp 1)), .none⟩, ⟨(.some 28), (.arI .sub (.tmp 27) (.const (.int .i64 1))), .none⟩, ⟨(.some 1), (.mov (.tmp 28)), .none⟩]
def p13_15 : List PO := [⟨(.some 29), (.mov (.tmp 2)), .none⟩, ⟨(.some 30), (.mov (.tmp 0)), .none⟩, ⟨(.some 31), (.len .false (.tmp 30)), .none⟩, ⟨(.some 32), (.cmpI .lss (.tmp 29) (.tmp 31)), .none⟩, ⟨(.some 33), (.mov (.tmp 32)), .none⟩, ⟨(.some 34), (.mov (.tmp 0)), (.some (33, .true))⟩, ⟨(.some 35), (.mov (.tmp 2)), (.some (33, .true))⟩, ⟨(.some 36), (.ixS 51 4 (.tmp 34) (.tmp 35)), (.some (33, .true))⟩, ⟨(.some 37), (.fld 0 (.tmp 36)), (.some (33, .true))⟩, ⟨(.some 38), (.load .false 1 (.tmp 37)), (.some (33, .true))⟩, ⟨(.some 39), (.cmpI .eql (.tmp 38) (.const (.int .i64 0))), (.some (33, .true))⟩, ⟨(.some 40), (.pick (.tmp 33) (.tmp 39) (.const (.bool .false))), .none⟩]
def p13_16 : List PO := [⟨(.some 41), (.mov (.tmp 2)), .none⟩, ⟨(.some 42), (.arI .add (.tmp 41) (.const (.int .i64 1))), .none⟩, ⟨(.some 2), (.mov (.tmp 42)), .none⟩]
def p13_17 : List PO := [⟨(.some 7), (.nilS 3 1), .none⟩]
def p13_18 : List PO := [⟨(.some 43), (.mov (.tmp 0)), .none⟩, ⟨(.some 44), (.mov (.tmp 1)), .none⟩, ⟨(.some 45), (.mov (.tmp 2)), .none⟩, ⟨(.some 46), (.slS 51 4 (.tmp 43) (.some (.tmp 44)) (.some (.tmp 45))), .none⟩, ⟨(.some 47), (.len .false (.tmp 46)), .none⟩, ⟨(.some 48), (.mov (.const (.int .i64 0))), .none⟩]
def p13_19 : List PO := [⟨(.some 49), (.cmpI .lss (.tmp 48) (.tmp 47)), .none⟩]
def p13_20 : List PO := [⟨(.some 50), (.ixS 51 4 (.tmp 46) (.tmp 48)), .none⟩, ⟨(.some 51), (.load .true 4 (.tmp 50)), .none⟩, ⟨(.some 9), (.alloc [(4, (.int .i64 0))]), .none⟩, ⟨.none, (.store 4 (.tmp 9) (.tmp 51)), .none⟩]
def p13_21 : List PO := [⟨(.some 52), (.fld 0 (.tmp 9)), .none⟩, ⟨(.some 53), (.load .false 1 (.tmp 52)), .none⟩, ⟨(.some 54), (.cmpI .neq (.tmp 53) (.const (.int .i64 0))), .none⟩]
def p13_22 : List PO := [⟨(.some 55), (.mov (.tmp 7)), .none⟩, ⟨(.some 56), (.fld 0 (.tmp 9)), .none⟩, ⟨(.some 57), (.load .false 1 (.tmp 56)), .none⟩, ⟨(.some 58), (.bsl 3 1 1 [(1, (.int .i64 0))] [(0, (1, (.tmp 57)))]), .none⟩, ⟨(.some 59), (.app 3 1 8 (.tmp 55) (.tmp 58)), .none⟩, ⟨(.some 7), (.mov (.tmp 59)), .none⟩]
def p13_23 : List PO := [⟨(.some 60), (.arI .add (.tmp 48) (.const (.int .i64 1))), .none⟩, ⟨(.some 48), (.mov (.tmp 60)), .none⟩]
def c13_3 : PCode := (.keep [7, 46, 47, 48] [(64, .id 64)] [] (.seq (.block 1 (.seq (.reg p13_20) (.seq (.reg p13_21) (.cond (.tmp 54) (.reg p13_22) .skip)))) (.reg p13_23)))
def c13_4 : PCode := (.keep [7, 46, 47, 48, 49] [(64, .id 64)] [] (.seq (.cond (.tmp 49) .skip (.keep [7] [(64, .id 64)] [] (.exit 0))) c13_3))
def c13_5 : PCode := (.keep [7, 46, 47, 48] [(64, .id 64)] [] (.seq (.reg p13_19) c13_4))
def p13_24 : List PO := [⟨(.some 61), (.mov (.tmp 7)), .none⟩, ⟨(.some 62), (.len .false (.tmp 61)), .none⟩, ⟨(.some 63), (.cmpI .gtr (.tmp 62) (.const (.int .i64 0))), .none⟩, ⟨(.some 64), (.mov (.tmp 63)), .none⟩, ⟨(.some 65), (.mov (.tmp 7)), (.some (64, .true))⟩, ⟨(.some 66), (.mov (.tmp 7)), (.some (64, .true))⟩, ⟨(.some 67), (.len .false (.tmp 66)), (.some (64, .true))⟩, ⟨(.some 68), (.arI .sub (.tmp 67) (.const (.int .i64 1))), (.some (64, .true))⟩, ⟨(.some 69), (.ixS 3 1 (.tmp 65) (.tmp 68)), (.some (64, .true))⟩, ⟨(.some 70), (.load .false 1 (.tmp 69)), (.some (64, .true))⟩, ⟨(.some 71), (.cmpI .eql (.tmp 70) (.const (.int .i64 32))), (.some (64, .true))⟩, ⟨(.some 72), (.pick (.tmp 64) (.tmp 71) (.const (.bool .false))), .none⟩]
def p13_25 : List PO := [⟨(.some 73), (.mov (.tmp 7)), .none⟩, ⟨(.some 74), (.mov (.tmp 7)), .none⟩, ⟨(.some 75), (.len .false (.tmp 74)), .none⟩, ⟨(.some 76), (.arI .sub (.tmp 75) (.const (.int .i64 1))), .none⟩, ⟨(.some 77), (.slC 3 1 (.tmp 73) .none (.some (.tmp 76))), .none⟩, ⟨(.some 7), (.mov (.tmp 77)), .none⟩]
def c13_1 : PCode := (.keep [7] [(64, .id 64)] [] (.seq (.seq (.reg p13_24) (.cond (.tmp 72) .skip (.keep [7] [(64, .id 64)] [] (.exit 2)))) (.block 3 (.reg p13_25))))
def p13_26 : List PO := [⟨(.some 78), (.mov (.tmp 7)), .none⟩, ⟨(.some 6), (.mov (.tmp 78)), .none⟩]
def c13_2 : PCode := (.keep [7] [(64, .id 64)] [] (.seq (.block 2 (.loop c13_1)) (.seq (.reg p13_26) .ret)))
def c13_6 : PCode := (.keep [0, 1, 2] [] [] (.seq (.reg p13_17) (.seq (.seq (.reg p13_18) (.block 0 (.loop c13_5))) c13_2)))
def c13_7 : PCode := (.keep [0, 1, 2] [] [] (.seq (.seq (.reg p13_15) (.cond (.tmp 40) (.reg p13_16) .skip)) c13_6))
def c13_8 : PCode := (.keep [0, 1, 2] [] [] (.seq (.seq (.reg p13_13) (.cond (.tmp 26) (.reg p13_14) .skip)) c13_7))
def c13_b : PCode := (.seq (.reg p13_9) (.seq (.reg p13_10) (.seq (.seq (.reg p13_11) (.cond (.tmp 20) (.seq (.reg p13_12) .ret) .skip)) c13_8)))
def c13 : FCode := ⟨79, c13_b, [(.tmp 6)], some ([6], [(665, (.slot 6 none))], []), false⟩
theorem c13_ok : compF Go.Proofs.Tryz.prog [200005, 100010, 200013, 100015, 100023, 25, 100031, 38, 39, 40, 41, 43, 44, 52, 53, 55, 57, 59, 61, 62, 63, 64, 68, 69, 70, 71, 77, 79, 80, 82, 83, 85, 86, 88, 91, 92, 93, 95] 13 = some (eraseF c13) := by kernel_rfl
def p7_12 : List PO := [⟨(.some 4), (.box 33 (.tmp 0)), .none⟩, ⟨(.some 5), (.box 2 (.tmp 1)), .none⟩, ⟨(.some 6), (.box 2 (.tmp 2)), .none⟩, ⟨(.some 8), (.nilS 3 1), .none⟩, ⟨(.some 9), (.mov (.const (.int .i64 0))), .none⟩]
def p7_13 : List PO := [⟨(.some 19), (.load .true 33 (.tmp 4)), .none⟩, ⟨(.some 20), (.callf 10 [(.tmp 19)]), .none⟩, ⟨(.some 18), (.mov (.tmp 20)), .none⟩, ⟨(.some 21), (.ext (.tmp 18) 0), .none⟩, ⟨(.some 22), (.ext (.tmp 18) 1), .none⟩, ⟨(.some 10), (.mov (.tmp 21)), .none⟩, ⟨(.some 11), (.mov (.tmp 22)), .none⟩]
def p7_14 : List PO := [⟨(.some 23), (.mov (.tmp 11)), .none⟩, ⟨(.some 24), (.cmpI .neq (.tmp 23) (.const (.int .i64 0))), .none⟩]
def p7_15 : List PO := [⟨(.some 25), (.mov (.tmp 11)), .none⟩, ⟨(.some 8), (.nilS 3 1), .none⟩, ⟨(.some 9), (.mov (.tmp 25)), .none⟩]
def p7_16 : List PO := [⟨(.some 26), (.load .true 2 (.tmp 5)), .none⟩, ⟨(.some 27), (.load .true 2 (.tmp 6)), .none⟩, ⟨(.some 28), (.build [(4, (.int .i64 0))] [(0, (2, (.tmp 26))), (2, (2, (.tmp 27)))]), .none⟩, ⟨(.some 29), (.mov (.const (.int .i64 0))), .none⟩]
def p7_17 : List PO := [⟨(.some 30), (.cmpI .lss (.tmp 29) (.const (.int .i64 2))), .none⟩]
def p7_18 : List PO := [⟨(.some 31), (.ixV .true 2 2 (.tmp 28) (.tmp 29)), .none⟩, ⟨(.some 13), (.alloc [(2, (.int .i64 0))]), .none⟩, ⟨.none, (.store 2 (.tmp 13) (.tmp 31)), .none⟩]
def p7_19 : List PO := [⟨(.some 32), (.fld 0 (.tmp 13)), .none⟩, ⟨(.some 33), (.load .false 1 (.tmp 32)), .none⟩, ⟨(.some 34), (.cmpI .lss (.tmp 33) (.const (.int .i64 0))), .none⟩, ⟨(.some 35), (.mov (.tmp 34)), .none⟩, ⟨(.some 36), (.fld 0 (.tmp 13)), (.some (35, .false))⟩, ⟨(.some 37), (.load .false 1 (.tmp 36)), (.some (35, .false))⟩, ⟨(.some 38), (.mov (.tmp 10)), (.some (35, .false))⟩, ⟨(.some 39), (.len .false (.tmp 38)), (.some (35, .false))⟩, ⟨(.some 40), (.cmpI .geq (.tmp 37) (.tmp 39)), (.some (35, .false))⟩, ⟨(.some 41), (.pick (.tmp 35) (.const (.bool .true)) (.tmp 40)), .none⟩, ⟨(.some 42), (.mov (.tmp 41)), .none⟩, ⟨(.some 43), (.fld 1 (.tmp 13)), (.some (42, .false))⟩, ⟨(.some 44), (.load .false 1 (.tmp 43)), (.some (42, .false))⟩, ⟨(.some 45), (.cmpI .lss (.tmp 44) (.const (.int .i64 0))), (.some (42, .false))⟩, ⟨(.some 46), (.pick (.tmp 42) (.const (.bool .true)) (.tmp 45)), .none⟩, ⟨(.some 47), (.mov (.tmp 46)), .none⟩, ⟨(.some 48), (.fld 1 (.tmp 13)), (.some (47, .false))⟩, ⟨(.some 49), (.load .false 1 (.tmp 48)), (.some (47, .false))⟩, ⟨(.some 50), (.cmpI .geq (.tmp 49) (.const (.int .i64 160))), (.some (47, .false))⟩, ⟨(.some 51), (.pick (.tmp 47) (.const (.bool .true)) (.tmp 50)), .none⟩]
def p7_20 : List PO := [⟨(.some 8), (.nilS 3 1), .none⟩, ⟨(.some 9), (.mov (.const (.int .i64 1))), .none⟩]
def p7_21 : List PO := [⟨(.some 52), (.arI .add (.tmp 29) (.const (.int .i64 1))), .none⟩, ⟨(.some 29), (.mov (.tmp 52)), .none⟩]
def c7_9 : PCode := (.keep [3, 5, 6, 10, 28, 29] [(48, .id 48), (56, .id 56)] [] (.seq (.block 1 (.seq (.reg p7_18) (.seq (.reg p7_19) (.cond (.tmp 51) (.seq (.reg p7_20) .ret) .skip)))) (.reg p7_21)))
def c7_10 : PCode := (.loop (.seq (.reg p7_17) (.seq (.cond (.tmp 30) .skip (.exit 0)) c7_9)))
def p7_22 : List PO := [⟨(.some 53), (.fld 0 (.tmp 6)), .none⟩, ⟨(.some 54), (.load .false 1 (.tmp 53)), .none⟩, ⟨(.some 55), (.fld 0 (.tmp 5)), .none⟩, ⟨(.some 56), (.load .false 1 (.tmp 55)), .none⟩, ⟨(.some 57), (.cmpI .lss (.tmp 54) (.tmp 56)), .none⟩, ⟨(.some 58), (.mov (.tmp 57)), .none⟩, ⟨(.some 59), (.fld 0 (.tmp 6)), (.some (58, .false))⟩, ⟨(.some 60), (.load .false 1 (.tmp 59)), (.some (58, .false))⟩, ⟨(.some 61), (.fld 0 (.tmp 5)), (.some (58, .false))⟩, ⟨(.some 62), (.load .false 1 (.tmp 61)), (.some (58, .false))⟩, ⟨(.some 63), (.cmpI .eql (.tmp 60) (.tmp 62)), (.some (58, .false))⟩, ⟨(.some 64), (.mov (.tmp 63)), (.some (58, .false))⟩, ⟨(.some 65), (.fld 1 (.tmp 6)), (.some (64, .true))⟩, ⟨(.some 66), (.load .false 1 (.tmp 65)), (.some (64, .true))⟩, ⟨(.some 67), (.fld 1 (.tmp 5)), (.some (64, .true))⟩, ⟨(.some 68), (.load .false 1 (.tmp 67)), (.some (64, .true))⟩, ⟨(.some 69), (.cmpI .lss (.tmp 66) (.tmp 68)), (.some (64, .true))⟩, ⟨(.some 70), (.pick (.tmp 64) (.tmp 69) (.const (.bool .false))), (.some (58, .false))⟩, ⟨(.some 71), (.pick (.tmp 58) (.const (.bool .true)) (.tmp 70)), .none⟩]
def p7_23 : List PO := [⟨(.some 72), (.load .true 2 (.tmp 6)), .none⟩, ⟨(.some 73), (.load .true 2 (.tmp 5)), .none⟩, ⟨.none, (.store 2 (.tmp 5) (.tmp 72)), .none⟩, ⟨.none, (.store 2 (.tmp 6) (.tmp 73)), .none⟩]
def p7_24 : List PO := [⟨(.some 14), (.nilS 3 1), .none⟩]
def p7_25 : List PO := [⟨(.some 74), (.fld 0 (.tmp 5)), .none⟩, ⟨(.some 75), (.load .false 1 (.tmp 74)), .none⟩, ⟨(.some 15), (.mov (.tmp 75)), .none⟩]
def p7_26 : List PO := [⟨(.some 76), (.mov (.tmp 15)), .none⟩, ⟨(.some 77), (.fld 0 (.tmp 6)), .none⟩, ⟨(.some 78), (.load .false 1 (.tmp 77)), .none⟩, ⟨(.some 79), (.cmpI .leq (.tmp 76) (.tmp 78)), .none⟩]
def p7_27 : List PO := [⟨(.some 16), (.mov (.const (.int .i64 0))), .none⟩, ⟨(.some 17), (.mov (.const (.int .i64 160))), .none⟩]
def p7_28 : List PO := [⟨(.some 82), (.mov (.tmp 3)), .none⟩]
def p7_29 : List PO := [⟨(.some 83), (.fld 1 (.tmp 5)), .none⟩, ⟨(.some 84), (.load .false 1 (.tmp 83)), .none⟩, ⟨(.some 85), (.fld 1 (.tmp 6)), .none⟩, ⟨(.some 86), (.load .false 1 (.tmp 85)), .none⟩, ⟨(.some 87), (.mn [(.tmp 84), (.tmp 86)]), .none⟩, ⟨(.some 88), (.fld 1 (.tmp 5)), .none⟩, ⟨(.some 89), (.load .false 1 (.tmp 88)), .none⟩, ⟨(.some 90), (.fld 1 (.tmp 6)), .none⟩, ⟨(.some 91), (.load .false 1 (.tmp 90)), .none⟩, ⟨(.some 92), (.mx [(.tmp 89), (.tmp 91)]), .none⟩, ⟨(.some 93), (.arI .add (.tmp 92) (.const (.int .i64 1))), .none⟩, ⟨(.some 16), (.mov (.tmp 87)), .none⟩, ⟨(.some 17), (.mov (.tmp 93)), .none⟩]
def p7_30 : List PO := [⟨(.some 94), (.mov (.tmp 15)), .none⟩, ⟨(.some 95), (.fld 0 (.tmp 5)), .none⟩, ⟨(.some 96), (.load .false 1 (.tmp 95)), .none⟩, ⟨(.some 97), (.cmpI .eql (.tmp 94) (.tmp 96)), .none⟩]
def p7_31 : List PO := [⟨(.some 98), (.fld 1 (.tmp 5)), .none⟩, ⟨(.some 99), (.load .false 1 (.tmp 98)), .none⟩, ⟨(.some 16), (.mov (.tmp 99)), .none⟩]
def p7_32 : List PO := [⟨(.some 100), (.mov (.tmp 15)), .none⟩, ⟨(.some 101), (.fld 0 (.tmp 6)), .none⟩, ⟨(.some 102), (.load .false 1 (.tmp 101)), .none⟩, ⟨(.some 103), (.cmpI .eql (.tmp 100) (.tmp 102)), .none⟩]
def p7_33 : List PO := [⟨(.some 104), (.fld 1 (.tmp 6)), .none⟩, ⟨(.some 105), (.load .false 1 (.tmp 104)), .none⟩, ⟨(.some 106), (.arI .add (.tmp 105) (.const (.int .i64 1))), .none⟩, ⟨(.some 17), (.mov (.tmp 106)), .none⟩]
def c7_4 : PCode := (.keep [3, 5, 6, 10, 14, 15, 16, 17] [(48, .id 48), (56, .id 56), (120, .id 120)] [] (.seq (.reg p7_32) (.cond (.tmp 103) (.reg p7_33) .skip)))
def p7_34 : List PO := [⟨(.some 107), (.mov (.tmp 15)), .none⟩, ⟨(.some 108), (.fld 0 (.tmp 5)), .none⟩, ⟨(.some 109), (.load .false 1 (.tmp 108)), .none⟩, ⟨(.some 110), (.cmpI .gtr (.tmp 107) (.tmp 109)), .none⟩]
def p7_35 : List PO := [⟨(.some 111), (.mov (.tmp 14)), .none⟩, ⟨(.some 112), (.bsl 3 1 1 [(1, (.int .i64 0))] [(0, (1, (.const (.int .i64 10))))]), .none⟩, ⟨(.some 113), (.app 3 1 8 (.tmp 111) (.tmp 112)), .none⟩, ⟨(.some 14), (.mov (.tmp 113)), .none⟩]
def p7_36 : List PO := [⟨(.some 114), (.mov (.tmp 14)), .none⟩, ⟨(.some 115), (.mov (.tmp 10)), .none⟩, ⟨(.some 116), (.mov (.tmp 15)), .none⟩, ⟨(.some 117), (.ixS 22 1 (.tmp 115) (.tmp 116)), .none⟩, ⟨(.some 118), (.load .false 1 (.tmp 117)), .none⟩, ⟨(.some 119), (.mov (.tmp 16)), .none⟩, ⟨(.some 120), (.mov (.tmp 17)), .none⟩, ⟨(.some 121), (.call 13 [(.tmp 118), (.tmp 119), (.tmp 120)]), .none⟩, ⟨(.some 122), (.app 3 1 8 (.tmp 114) (.tmp 121)), .none⟩, ⟨(.some 14), (.mov (.tmp 122)), .none⟩]
def c7_1 : PCode := (.keep [3, 5, 6, 10, 14, 15, 16, 17] [(48, .id 48), (56, .id 56), (120, .id 120)] [] (.reg p7_36))
def c7_3 : PCode := (.keep [3, 5, 6, 10, 14, 15, 16, 17] [(48, .id 48), (56, .id 56), (120, .id 120)] [] (.seq (.seq (.reg p7_34) (.cond (.tmp 110) (.reg p7_35) .skip)) c7_1))
def p7_37 : List PO := [⟨(.some 80), (.mov (.tmp 15)), .none⟩, ⟨(.some 81), (.arI .add (.tmp 80) (.const (.int .i64 1))), .none⟩, ⟨(.some 15), (.mov (.tmp 81)), .none⟩]
def c7_2 : PCode := (.reg p7_37)
def c7_5 : PCode := (.keep [3, 5, 6, 10, 14, 15] [(48, .id 48), (56, .id 56), (120, .id 120)] [] (.seq (.block 3 (.seq (.reg p7_27) (.seq (.seq (.reg p7_28) (.cond (.tmp 82) (.regD p7_29 []) (.seq (.seq (.reg p7_30) (.cond (.tmp 97) (.reg p7_31) .skip)) c7_4))) c7_3))) c7_2))
def c7_6 : PCode := (.keep [3, 5, 6, 10, 14, 15] [(48, .id 48), (56, .id 56), (120, .id 120)] [] (.seq (.seq (.reg p7_26) (.cond (.tmp 79) .skip (.keep [14] [(120, .id 120)] [] (.exit 2)))) c7_5))
def p7_38 : List PO := [⟨(.some 123), (.mov (.tmp 14)), .none⟩, ⟨(.some 8), (.mov (.tmp 123)), .none⟩, ⟨(.some 9), (.mov (.const (.int .i64 0))), .none⟩]
def c7_7 : PCode := (.keep [3, 5, 6, 10] [(48, .id 48), (56, .id 56)] [] (.seq (.reg p7_24) (.seq (.seq (.reg p7_25) (.block 2 (.loop c7_6))) (.seq (.reg p7_38) .ret))))
def c7_8 : PCode := (.keep [3, 5, 6, 10] [(48, .id 48), (56, .id 56)] [] (.seq (.seq (.reg p7_22) (.cond (.tmp 71) (.reg p7_23) .skip)) c7_7))
def c7_11 : PCode := (.keep [3, 5, 6, 10] [(48, .id 48), (56, .id 56)] [] (.seq (.seq (.reg p7_16) (.block 0 c7_10)) c7_8))
def c7_b : PCode := (.seq (.reg p7_12) (.seq (.reg p7_13) (.seq (.seq (.reg p7_14) (.cond (.tmp 24) (.seq (.reg p7_15) .ret) .skip)) c7_11)))
def c7 : FCode := ⟨124, c7_b, [(.tmp 8), (.tmp 9)], some ([8, 9], [(1025, (.slot 8 none))], []), false⟩
theorem c7_ok : compF Go.Proofs.Tryz.prog [200005, 100010, 200013, 100015, 100023, 25, 100031, 38, 39, 40, 41, 43, 44, 52, 53, 55, 57, 59, 61, 62, 63, 64, 68, 69, 70, 71, 77, 79, 80, 82, 83, 85, 86, 88, 91, 92, 93, 95] 7 = some (eraseF c7) := by kernel_rfl
def p9_5 : List PO := [⟨(.some 4), (.mov (.const (.bool .false))), .none⟩]
def p9_6 : List PO := [⟨(.some 6), (.mov (.tmp 0)), .none⟩, ⟨(.some 7), (.len .false (.tmp 6)), .none⟩, ⟨(.some 8), (.mov (.tmp 1)), .none⟩, ⟨(.some 9), (.len .false (.tmp 8)), .none⟩, ⟨(.some 10), (.cmpI .neq (.tmp 7) (.tmp 9)), .none⟩]
def p9_7 : List PO := [⟨(.some 4), (.mov (.const (.bool .false))), .none⟩]
def p9_8 : List PO := [⟨(.some 11), (.mov (.tmp 0)), .none⟩, ⟨(.some 12), (.len .false (.tmp 11)), .none⟩, ⟨(.some 13), (.mov (.const (.int .i64 0))), .none⟩]
def p9_9 : List PO := [⟨(.some 14), (.cmpI .lss (.tmp 13) (.tmp 12)), .none⟩]
def p9_10 : List PO := [⟨(.some 15), (.mov (.tmp 13)), .none⟩, ⟨(.some 5), (.mov (.tmp 15)), .none⟩]
def p9_11 : List PO := [⟨(.some 16), (.mov (.tmp 0)), .none⟩, ⟨(.some 17), (.mov (.tmp 5)), .none⟩, ⟨(.some 18), (.ixS 3 1 (.tmp 16) (.tmp 17)), .none⟩, ⟨(.some 19), (.load .false 1 (.tmp 18)), .none⟩, ⟨(.some 20), (.mov (.tmp 1)), .none⟩, ⟨(.some 21), (.mov (.tmp 5)), .none⟩, ⟨(.some 22), (.ixS 3 1 (.tmp 20) (.tmp 21)), .none⟩, ⟨(.some 23), (.load .false 1 (.tmp 22)), .none⟩, ⟨(.some 24), (.cmpI .neq (.tmp 19) (.tmp 23)), .none⟩]
def p9_12 : List PO := [⟨(.some 4), (.mov (.const (.bool .false))), .none⟩]
def p9_13 : List PO := [⟨(.some 25), (.arI .add (.tmp 13) (.const (.int .i64 1))), .none⟩, ⟨(.some 13), (.mov (.tmp 25)), .none⟩]
def c9_1 : PCode := (.keep [0, 1, 12, 13] [] [] (.seq (.block 1 (.seq (.reg p9_10) (.seq (.regD p9_11 []) (.cond (.tmp 24) (.seq (.reg p9_12) .ret) .skip)))) (.reg p9_13)))
def c9_2 : PCode := (.keep [0, 1, 12, 13, 14] [] [] (.seq (.cond (.tmp 14) .skip (.keep [] [] [] (.exit 0))) c9_1))
def c9_3 : PCode := (.keep [0, 1, 12, 13] [] [] (.seq (.reg p9_9) c9_2))
def p9_14 : List PO := [⟨(.some 4), (.mov (.const (.bool .true))), .none⟩]
def c9_4 : PCode := (.keep [0, 1] [] [] (.seq (.seq (.reg p9_8) (.block 0 (.loop c9_3))) (.seq (.reg p9_14) .ret)))
def c9_b : PCode := (.seq (.reg p9_5) (.seq (.seq (.reg p9_6) (.cond (.tmp 10) (.seq (.reg p9_7) .ret) .skip)) c9_4))
def c9 : FCode := ⟨26, c9_b, [(.tmp 4)], some ([4], [], []), false⟩
theorem c9_ok : compF Go.Proofs.Tryz.prog [200005, 100010, 200013, 100015, 100023, 25, 100031, 38, 39, 40, 41, 43, 44, 52, 53, 55, 57, 59, 61, 62, 63, 64, 68, 69, 70, 71, 77, 79, 80, 82, 83, 85, 86, 88, 91, 92, 93, 95] 9 = some (eraseF c9) := by kernel_rfl
def p3_1 : List PO := [⟨(.some 4), (.box 33 (.tmp 0)), .none⟩, ⟨(.some 5), (.box 2 (.tmp 1)), .none⟩, ⟨(.some 6), (.box 2 (.tmp 2)), .none⟩, ⟨(.some 8), (.mov (.const (.bool .false))), .none⟩]
def p3_2 : List PO := [⟨(.some 16), (.load .true 33 (.tmp 4)), .none⟩, ⟨(.some 17), (.load .true 2 (.tmp 5)), .none⟩, ⟨(.some 18), (.load .true 2 (.tmp 6)), .none⟩, ⟨(.some 19), (.mov (.tmp 3)), .none⟩, ⟨(.some 20), (.call 7 [(.tmp 16), (.tmp 17), (.tmp 18), (.tmp 19)]), .none⟩, ⟨(.some 15), (.mov (.tmp 20)), .none⟩, ⟨(.some 21), (.ext (.tmp 15) 0), .none⟩, ⟨(.some 22), (.ext (.tmp 15) 1), .none⟩, ⟨(.some 9), (.mov (.tmp 21)), .none⟩, ⟨(.some 10), (.mov (.tmp 22)), .none⟩]
def p3_3 : List PO := [⟨(.some 24), (.load .true 33 (.tmp 4)), .none⟩, ⟨(.some 25), (.load .true 2 (.tmp 6)), .none⟩, ⟨(.some 26), (.load .true 2 (.tmp 5)), .none⟩, ⟨(.some 27), (.mov (.tmp 3)), .none⟩, ⟨(.some 28), (.call 7 [(.tmp 24), (.tmp 25), (.tmp 26), (.tmp 27)]), .none⟩, ⟨(.some 23), (.mov (.tmp 28)), .none⟩, ⟨(.some 29), (.ext (.tmp 23) 0), .none⟩, ⟨(.some 30), (.ext (.tmp 23) 1), .none⟩, ⟨(.some 11), (.mov (.tmp 29)), .none⟩, ⟨(.some 12), (.mov (.tmp 30)), .none⟩]
def p3_4 : List PO := [⟨(.some 32), (.load .true 33 (.tmp 4)), .none⟩, ⟨(.some 33), (.load .true 2 (.tmp 5)), .none⟩, ⟨(.some 34), (.load .true 2 (.tmp 6)), .none⟩, ⟨(.some 35), (.mov (.tmp 3)), .none⟩, ⟨(.some 36), (.un .not (.tmp 35)), .none⟩, ⟨(.some 37), (.call 7 [(.tmp 32), (.tmp 33), (.tmp 34), (.tmp 36)]), .none⟩, ⟨(.some 31), (.mov (.tmp 37)), .none⟩, ⟨(.some 38), (.ext (.tmp 31) 0), .none⟩, ⟨(.some 39), (.ext (.tmp 31) 1), .none⟩, ⟨(.some 13), (.mov (.tmp 38)), .none⟩, ⟨(.some 14), (.mov (.tmp 39)), .none⟩]
def p3_5 : List PO := [⟨(.some 40), (.call 8 []), .none⟩, ⟨(.some 41), (.mov (.tmp 40)), .none⟩, ⟨(.some 42), (.mov (.tmp 9)), (.some (41, .true))⟩, ⟨(.some 43), (.mov (.tmp 11)), (.some (41, .true))⟩, ⟨(.some 44), (.call 9 [(.tmp 42), (.tmp 43)]), (.some (41, .true))⟩, ⟨(.some 45), (.pick (.tmp 41) (.tmp 44) (.const (.bool .false))), .none⟩, ⟨(.some 46), (.mov (.tmp 45)), .none⟩, ⟨(.some 47), (.mov (.tmp 10)), (.some (46, .true))⟩, ⟨(.some 48), (.mov (.tmp 12)), (.some (46, .true))⟩, ⟨(.some 49), (.cmpI .eql (.tmp 47) (.tmp 48)), (.some (46, .true))⟩, ⟨(.some 50), (.pick (.tmp 46) (.tmp 49) (.const (.bool .false))), .none⟩, ⟨(.some 51), (.mov (.tmp 50)), .none⟩, ⟨(.some 52), (.fld 0 (.tmp 5)), (.some (51, .true))⟩, ⟨(.some 53), (.load .false 1 (.tmp 52)), (.some (51, .true))⟩, ⟨(.some 54), (.fld 0 (.tmp 6)), (.some (51, .true))⟩, ⟨(.some 55), (.load .false 1 (.tmp 54)), (.some (51, .true))⟩, ⟨(.some 56), (.cmpI .neq (.tmp 53) (.tmp 55)), (.some (51, .true))⟩, ⟨(.some 57), (.mov (.tmp 56)), (.some (51, .true))⟩, ⟨(.some 58), (.mov (.tmp 9)), (.some (57, .false))⟩, ⟨(.some 59), (.mov (.tmp 13)), (.some (57, .false))⟩, ⟨(.some 60), (.call 9 [(.tmp 58), (.tmp 59)]), (.some (57, .false))⟩, ⟨(.some 61), (.mov (.tmp 60)), (.some (57, .false))⟩, ⟨(.some 62), (.mov (.tmp 10)), (.some (61, .true))⟩, ⟨(.some 63), (.mov (.tmp 14)), (.some (61, .true))⟩, ⟨(.some 64), (.cmpI .eql (.tmp 62) (.tmp 63)), (.some (61, .true))⟩, ⟨(.some 65), (.pick (.tmp 61) (.tmp 64) (.const (.bool .false))), (.some (57, .false))⟩, ⟨(.some 66), (.pick (.tmp 57) (.const (.bool .true)) (.tmp 65)), (.some (51, .true))⟩, ⟨(.some 67), (.pick (.tmp 51) (.tmp 66) (.const (.bool .false))), .none⟩, ⟨(.some 8), (.mov (.tmp 67)), .none⟩]
def c3_b : PCode := (.seq (.reg p3_1) (.seq (.reg p3_2) (.seq (.reg p3_3) (.seq (.reg p3_4) (.seq (.reg p3_5) .ret)))))
def c3 : FCode := ⟨68, c3_b, [(.tmp 8)], some ([8], [], []), false⟩
theorem c3_ok : compF Go.Proofs.Tryz.prog [200005, 100010, 200013, 100015, 100023, 25, 100031, 38, 39, 40, 41, 43, 44, 52, 53, 55, 57, 59, 61, 62, 63, 64, 68, 69, 70, 71, 77, 79, 80, 82, 83, 85, 86, 88, 91, 92, 93, 95] 3 = some (eraseF c3) := by kernel_rfl
def p4_7 : List PO := [⟨(.some 3), (.box 33 (.tmp 0)), .none⟩, ⟨(.some 4), (.box 2 (.tmp 1)), .none⟩, ⟨(.some 5), (.box 2 (.tmp 2)), .none⟩, ⟨(.some 6), (.mov (.const (.bool .false))), .none⟩]
def p4_8 : List PO := [⟨(.some 14), (.load .true 33 (.tmp 3)), .none⟩, ⟨(.some 15), (.load .true 2 (.tmp 4)), .none⟩, ⟨(.some 16), (.load .true 2 (.tmp 5)), .none⟩, ⟨(.some 17), (.call 7 [(.tmp 14), (.tmp 15), (.tmp 16), (.const (.bool .true))]), .none⟩, ⟨(.some 13), (.mov (.tmp 17)), .none⟩, ⟨(.some 18), (.ext (.tmp 13) 0), .none⟩, ⟨(.some 19), (.ext (.tmp 13) 1), .none⟩, ⟨(.some 7), (.mov (.tmp 18)), .none⟩, ⟨(.some 8), (.mov (.tmp 19)), .none⟩]
def p4_9 : List PO := [⟨(.some 20), (.call 8 []), .none⟩, ⟨(.some 21), (.un .not (.tmp 20)), .none⟩, ⟨(.some 22), (.mov (.tmp 21)), .none⟩, ⟨(.some 23), (.mov (.tmp 8)), (.some (22, .false))⟩, ⟨(.some 24), (.cmpI .neq (.tmp 23) (.const (.int .i64 0))), (.some (22, .false))⟩, ⟨(.some 25), (.pick (.tmp 22) (.const (.bool .true)) (.tmp 24)), .none⟩]
def p4_10 : List PO := [⟨(.some 26), (.call 8 []), .none⟩, ⟨(.some 27), (.mov (.tmp 26)), .none⟩, ⟨(.some 28), (.mov (.tmp 7)), (.some (27, .true))⟩, ⟨(.some 29), (.len .false (.tmp 28)), (.some (27, .true))⟩, ⟨(.some 30), (.cmpI .eql (.tmp 29) (.const (.int .i64 0))), (.some (27, .true))⟩, ⟨(.some 31), (.pick (.tmp 27) (.tmp 30) (.const (.bool .false))), .none⟩, ⟨(.some 6), (.mov (.tmp 31)), .none⟩]
def c4_6 : PCode := (.keep [7] [(144, .id 144)] [] (.seq (.reg p4_10) .ret))
def p4_11 : List PO := [⟨(.some 9), (.nilS 3 1), .none⟩]
def p4_12 : List PO := [⟨(.some 32), (.fld 0 (.tmp 4)), .none⟩, ⟨(.some 33), (.load .false 1 (.tmp 32)), .none⟩, ⟨(.some 34), (.fld 0 (.tmp 5)), .none⟩, ⟨(.some 35), (.load .false 1 (.tmp 34)), .none⟩, ⟨(.some 36), (.mn [(.tmp 33), (.tmp 35)]), .none⟩, ⟨(.some 10), (.mov (.tmp 36)), .none⟩]
def p4_13 : List PO := [⟨(.some 37), (.mov (.tmp 10)), .none⟩, ⟨(.some 38), (.fld 0 (.tmp 4)), .none⟩, ⟨(.some 39), (.load .false 1 (.tmp 38)), .none⟩, ⟨(.some 40), (.fld 0 (.tmp 5)), .none⟩, ⟨(.some 41), (.load .false 1 (.tmp 40)), .none⟩, ⟨(.some 42), (.mx [(.tmp 39), (.tmp 41)]), .none⟩, ⟨(.some 43), (.cmpI .leq (.tmp 37) (.tmp 42)), .none⟩]
def p4_14 : List PO := [⟨(.some 46), (.mov (.tmp 10)), .none⟩, ⟨(.some 47), (.fld 0 (.tmp 4)), .none⟩, ⟨(.some 48), (.load .false 1 (.tmp 47)), .none⟩, ⟨(.some 49), (.fld 0 (.tmp 5)), .none⟩, ⟨(.some 50), (.load .false 1 (.tmp 49)), .none⟩, ⟨(.some 51), (.mn [(.tmp 48), (.tmp 50)]), .none⟩, ⟨(.some 52), (.cmpI .gtr (.tmp 46) (.tmp 51)), .none⟩]
def p4_15 : List PO := [⟨(.some 53), (.mov (.tmp 9)), .none⟩, ⟨(.some 54), (.bsl 3 1 1 [(1, (.int .i64 0))] [(0, (1, (.const (.int .i64 10))))]), .none⟩, ⟨(.some 55), (.app 3 1 8 (.tmp 53) (.tmp 54)), .none⟩, ⟨(.some 9), (.mov (.tmp 55)), .none⟩]
def p4_16 : List PO := [⟨(.some 57), (.load .true 33 (.tmp 3)), .none⟩, ⟨(.some 58), (.mov (.tmp 10)), .none⟩, ⟨(.some 59), (.fld 1 (.tmp 4)), .none⟩, ⟨(.some 60), (.load .false 1 (.tmp 59)), .none⟩, ⟨(.some 61), (.build [(2, (.int .i64 0))] [(0, (1, (.tmp 58))), (1, (1, (.tmp 60)))]), .none⟩, ⟨(.some 62), (.mov (.tmp 10)), .none⟩, ⟨(.some 63), (.fld 1 (.tmp 5)), .none⟩, ⟨(.some 64), (.load .false 1 (.tmp 63)), .none⟩, ⟨(.some 65), (.build [(2, (.int .i64 0))] [(0, (1, (.tmp 62))), (1, (1, (.tmp 64)))]), .none⟩, ⟨(.some 66), (.call 7 [(.tmp 57), (.tmp 61), (.tmp 65), (.const (.bool .false))]), .none⟩, ⟨(.some 56), (.mov (.tmp 66)), .none⟩, ⟨(.some 67), (.ext (.tmp 56) 0), .none⟩, ⟨(.some 68), (.ext (.tmp 56) 1), .none⟩, ⟨(.some 11), (.mov (.tmp 67)), .none⟩, ⟨(.some 12), (.mov (.tmp 68)), .none⟩]
def p4_17 : List PO := [⟨(.some 69), (.mov (.tmp 12)), .none⟩, ⟨(.some 70), (.cmpI .neq (.tmp 69) (.const (.int .i64 0))), .none⟩]
def p4_18 : List PO := [⟨(.some 6), (.mov (.const (.bool .false))), .none⟩]
def p4_19 : List PO := [⟨(.some 71), (.mov (.tmp 9)), .none⟩, ⟨(.some 72), (.mov (.tmp 11)), .none⟩, ⟨(.some 73), (.app 3 1 8 (.tmp 71) (.tmp 72)), .none⟩, ⟨(.some 9), (.mov (.tmp 73)), .none⟩]
def c4_1 : PCode := (.keep [3, 4, 5, 7, 9, 10] [(32, .id 32), (40, .id 40), (48, .id 48), (144, .id 144), (80, .id 80)] [] (.seq (.reg p4_16) (.seq (.seq (.reg p4_17) (.cond (.tmp 70) (.seq (.reg p4_18) .ret) .skip)) (.reg p4_19))))
def p4_20 : List PO := [⟨(.some 44), (.mov (.tmp 10)), .none⟩, ⟨(.some 45), (.arI .add (.tmp 44) (.const (.int .i64 1))), .none⟩, ⟨(.some 10), (.mov (.tmp 45)), .none⟩]
def c4_2 : PCode := (.reg p4_20)
def c4_3 : PCode := (.keep [3, 4, 5, 7, 9, 10] [(32, .id 32), (40, .id 40), (48, .id 48), (144, .id 144), (80, .id 80)] [] (.seq (.block 1 (.seq (.seq (.reg p4_14) (.cond (.tmp 52) (.reg p4_15) .skip)) c4_1)) c4_2))
def c4_4 : PCode := (.keep [3, 4, 5, 7, 9, 10] [(32, .id 32), (40, .id 40), (48, .id 48), (144, .id 144), (80, .id 80)] [] (.seq (.seq (.reg p4_13) (.cond (.tmp 43) .skip (.keep [7, 9] [(144, .id 144), (80, .id 80)] [] (.exit 0)))) c4_3))
def p4_21 : List PO := [⟨(.some 74), (.mov (.tmp 7)), .none⟩, ⟨(.some 75), (.mov (.tmp 9)), .none⟩, ⟨(.some 76), (.call 9 [(.tmp 74), (.tmp 75)]), .none⟩, ⟨(.some 6), (.mov (.tmp 76)), .none⟩]
def c4_5 : PCode := (.keep [3, 4, 5, 7] [(32, .id 32), (40, .id 40), (48, .id 48), (144, .id 144)] [] (.seq (.reg p4_11) (.seq (.seq (.reg p4_12) (.block 0 (.loop c4_4))) (.seq (.reg p4_21) .ret))))
def c4_b : PCode := (.seq (.reg p4_7) (.seq (.reg p4_8) (.seq (.seq (.reg p4_9) (.cond (.tmp 25) c4_6 .skip)) c4_5)))
def c4 : FCode := ⟨77, c4_b, [(.tmp 6)], some ([6], [], []), false⟩
theorem c4_ok : compF Go.Proofs.Tryz.prog [200005, 100010, 200013, 100015, 100023, 25, 100031, 38, 39, 40, 41, 43, 44, 52, 53, 55, 57, 59, 61, 62, 63, 64, 68, 69, 70, 71, 77, 79, 80, 82, 83, 85, 86, 88, 91, 92, 93, 95] 4 = some (eraseF c4) := by kernel_rfl
def p5_14 : List PO := [⟨(.some 1), (.box 33 (.tmp 0)), .none⟩, ⟨(.some 2), (.mov (.const (.bool .false))), .none⟩]
def p5_15 : List PO := [⟨(.some 14), (.load .true 33 (.tmp 1)), .none⟩, ⟨(.some 15), (.callf 10 [(.tmp 14)]), .none⟩, ⟨(.some 13), (.mov (.tmp 15)), .none⟩, ⟨(.some 16), (.ext (.tmp 13) 0), .none⟩, ⟨(.some 17), (.ext (.tmp 13) 1), .none⟩, ⟨(.some 3), (.mov (.tmp 16)), .none⟩, ⟨(.some 4), (.mov (.tmp 17)), .none⟩]
def p5_16 : List PO := [⟨(.some 18), (.call 8 []), .none⟩, ⟨(.some 19), (.un .not (.tmp 18)), .none⟩, ⟨(.some 20), (.mov (.tmp 19)), .none⟩, ⟨(.some 21), (.mov (.tmp 4)), (.some (20, .false))⟩, ⟨(.some 22), (.cmpI .neq (.tmp 21) (.const (.int .i64 0))), (.some (20, .false))⟩, ⟨(.some 23), (.pick (.tmp 20) (.const (.bool .true)) (.tmp 22)), .none⟩, ⟨(.some 24), (.mov (.tmp 23)), .none⟩, ⟨(.some 25), (.mov (.tmp 3)), (.some (24, .false))⟩, ⟨(.some 26), (.len .false (.tmp 25)), (.some (24, .false))⟩, ⟨(.some 27), (.cmpI .eql (.tmp 26) (.const (.int .i64 0))), (.some (24, .false))⟩, ⟨(.some 28), (.pick (.tmp 24) (.const (.bool .true)) (.tmp 27)), .none⟩]
def p5_17 : List PO := [⟨(.some 29), (.call 8 []), .none⟩, ⟨(.some 30), (.mov (.tmp 29)), .none⟩, ⟨(.some 31), (.mov (.tmp 4)), (.some (30, .true))⟩, ⟨(.some 32), (.cmpI .neq (.tmp 31) (.const (.int .i64 0))), (.some (30, .true))⟩, ⟨(.some 33), (.pick (.tmp 30) (.tmp 32) (.const (.bool .false))), .none⟩, ⟨(.some 2), (.mov (.tmp 33)), .none⟩]
def c5_13 : PCode := (.keep [4] [] [] (.seq (.reg p5_17) .ret))
def p5_18 : List PO := [⟨(.some 35), (.load .true 33 (.tmp 1)), .none⟩, ⟨(.some 36), (.build [(2, (.int .i64 0))] []), .none⟩, ⟨(.some 37), (.mov (.tmp 3)), .none⟩, ⟨(.some 38), (.len .false (.tmp 37)), .none⟩, ⟨(.some 39), (.arI .sub (.tmp 38) (.const (.int .i64 1))), .none⟩, ⟨(.some 40), (.build [(2, (.int .i64 0))] [(0, (1, (.tmp 39))), (1, (1, (.const (.int .i64 159))))]), .none⟩, ⟨(.some 41), (.call 7 [(.tmp 35), (.tmp 36), (.tmp 40), (.const (.bool .false))]), .none⟩, ⟨(.some 34), (.mov (.tmp 41)), .none⟩, ⟨(.some 42), (.ext (.tmp 34) 0), .none⟩, ⟨(.some 43), (.ext (.tmp 34) 1), .none⟩, ⟨(.some 5), (.mov (.tmp 42)), .none⟩, ⟨(.some 6), (.mov (.tmp 43)), .none⟩]
def p5_19 : List PO := [⟨(.some 7), (.nilS 3 1), .none⟩]
def p5_20 : List PO := [⟨(.some 44), (.mov (.tmp 3)), .none⟩, ⟨(.some 45), (.len .false (.tmp 44)), .none⟩, ⟨(.some 46), (.mov (.const (.int .i64 0))), .none⟩]
def p5_21 : List PO := [⟨(.some 47), (.cmpI .lss (.tmp 46) (.tmp 45)), .none⟩]
def p5_22 : List PO := [⟨(.some 48), (.mov (.tmp 46)), .none⟩, ⟨(.some 49), (.ixS 22 1 (.tmp 44) (.tmp 46)), .none⟩, ⟨(.some 50), (.load .false 1 (.tmp 49)), .none⟩, ⟨(.some 8), (.mov (.tmp 48)), .none⟩, ⟨(.some 9), (.mov (.tmp 50)), .none⟩]
def p5_23 : List PO := [⟨(.some 51), (.mov (.tmp 8)), .none⟩, ⟨(.some 52), (.cmpI .gtr (.tmp 51) (.const (.int .i64 0))), .none⟩]
def p5_24 : List PO := [⟨(.some 53), (.mov (.tmp 7)), .none⟩, ⟨(.some 54), (.bsl 3 1 1 [(1, (.int .i64 0))] [(0, (1, (.const (.int .i64 10))))]), .none⟩, ⟨(.some 55), (.app 3 1 8 (.tmp 53) (.tmp 54)), .none⟩, ⟨(.some 7), (.mov (.tmp 55)), .none⟩]
def p5_25 : List PO := [⟨(.some 56), (.mov (.tmp 7)), .none⟩, ⟨(.some 57), (.len .false (.tmp 56)), .none⟩, ⟨(.some 10), (.mov (.tmp 57)), .none⟩]
def p5_26 : List PO := [⟨(.some 58), (.mov (.tmp 9)), .none⟩, ⟨(.some 59), (.len .false (.tmp 58)), .none⟩, ⟨(.some 60), (.mov (.const (.int .i64 0))), .none⟩]
def p5_27 : List PO := [⟨(.some 61), (.cmpI .lss (.tmp 60) (.tmp 59)), .none⟩]
def p5_28 : List PO := [⟨(.some 62), (.ixS 51 4 (.tmp 58) (.tmp 60)), .none⟩, ⟨(.some 63), (.load .true 4 (.tmp 62)), .none⟩, ⟨(.some 12), (.alloc [(4, (.int .i64 0))]), .none⟩, ⟨.none, (.store 4 (.tmp 12) (.tmp 63)), .none⟩]
def p5_29 : List PO := [⟨(.some 64), (.fld 0 (.tmp 12)), .none⟩, ⟨(.some 65), (.load .false 1 (.tmp 64)), .none⟩, ⟨(.some 66), (.cmpI .neq (.tmp 65) (.const (.int .i64 0))), .none⟩]
def p5_30 : List PO := [⟨(.some 67), (.mov (.tmp 7)), .none⟩, ⟨(.some 68), (.fld 0 (.tmp 12)), .none⟩, ⟨(.some 69), (.load .false 1 (.tmp 68)), .none⟩, ⟨(.some 70), (.bsl 3 1 1 [(1, (.int .i64 0))] [(0, (1, (.tmp 69)))]), .none⟩, ⟨(.some 71), (.app 3 1 8 (.tmp 67) (.tmp 70)), .none⟩, ⟨(.some 7), (.mov (.tmp 71)), .none⟩]
def p5_31 : List PO := [⟨(.some 72), (.arI .add (.tmp 60) (.const (.int .i64 1))), .none⟩, ⟨(.some 60), (.mov (.tmp 72)), .none⟩]
def c5_5 : PCode := (.keep [5, 6, 7, 10, 44, 45, 46, 58, 59, 60] [(336, .id 336), (64, .id 64)] [] (.seq (.block 3 (.seq (.reg p5_28) (.seq (.reg p5_29) (.cond (.tmp 66) (.reg p5_30) .skip)))) (.reg p5_31)))
def c5_6 : PCode := (.keep [5, 6, 7, 10, 44, 45, 46, 58, 59, 60, 61] [(336, .id 336), (64, .id 64)] [] (.seq (.cond (.tmp 61) .skip (.keep [5, 6, 7, 10, 44, 45, 46] [(336, .id 336), (64, .id 64)] [] (.exit 2))) c5_5))
def c5_7 : PCode := (.keep [5, 6, 7, 10, 44, 45, 46, 58, 59, 60] [(336, .id 336), (64, .id 64)] [] (.seq (.reg p5_27) c5_6))
def p5_32 : List PO := [⟨(.some 73), (.mov (.tmp 7)), .none⟩, ⟨(.some 74), (.len .false (.tmp 73)), .none⟩, ⟨(.some 75), (.mov (.tmp 10)), .none⟩, ⟨(.some 76), (.cmpI .gtr (.tmp 74) (.tmp 75)), .none⟩, ⟨(.some 77), (.mov (.tmp 76)), .none⟩, ⟨(.some 78), (.mov (.tmp 7)), (.some (77, .true))⟩, ⟨(.some 79), (.mov (.tmp 7)), (.some (77, .true))⟩, ⟨(.some 80), (.len .false (.tmp 79)), (.some (77, .true))⟩, ⟨(.some 81), (.arI .sub (.tmp 80) (.const (.int .i64 1))), (.some (77, .true))⟩, ⟨(.some 82), (.ixS 3 1 (.tmp 78) (.tmp 81)), (.some (77, .true))⟩, ⟨(.some 83), (.load .false 1 (.tmp 82)), (.some (77, .true))⟩, ⟨(.some 84), (.cmpI .eql (.tmp 83) (.const (.int .i64 32))), (.some (77, .true))⟩, ⟨(.some 85), (.pick (.tmp 77) (.tmp 84) (.const (.bool .false))), .none⟩]
def p5_33 : List PO := [⟨(.some 86), (.mov (.tmp 7)), .none⟩, ⟨(.some 87), (.mov (.tmp 7)), .none⟩, ⟨(.some 88), (.len .false (.tmp 87)), .none⟩, ⟨(.some 89), (.arI .sub (.tmp 88) (.const (.int .i64 1))), .none⟩, ⟨(.some 90), (.slC 3 1 (.tmp 86) .none (.some (.tmp 89))), .none⟩, ⟨(.some 7), (.mov (.tmp 90)), .none⟩]
def c5_2 : PCode := (.keep [5, 6, 7, 10, 44, 45, 46] [(336, .id 336), (64, .id 64)] [] (.seq (.seq (.reg p5_32) (.cond (.tmp 85) .skip (.keep [5, 6, 7, 44, 45, 46] [(336, .id 336), (64, .id 64)] [] (.exit 4)))) (.block 5 (.reg p5_33))))
def c5_3 : PCode := (.keep [5, 6, 7, 10, 44, 45, 46] [(336, .id 336), (64, .id 64)] [] (.block 4 (.loop c5_2)))
def c5_8 : PCode := (.keep [5, 6, 7, 9, 44, 45, 46] [(336, .id 336), (64, .id 64)] [] (.seq (.reg p5_25) (.seq (.seq (.reg p5_26) (.block 2 (.loop c5_7))) c5_3)))
def p5_34 : List PO := [⟨(.some 91), (.arI .add (.tmp 46) (.const (.int .i64 1))), .none⟩, ⟨(.some 46), (.mov (.tmp 91)), .none⟩]
def c5_4 : PCode := (.reg p5_34)
def c5_9 : PCode := (.keep [5, 6, 7, 44, 45, 46] [(336, .id 336), (64, .id 64)] [] (.seq (.block 1 (.seq (.reg p5_22) (.seq (.seq (.reg p5_23) (.cond (.tmp 52) (.reg p5_24) .skip)) c5_8))) c5_4))
def c5_10 : PCode := (.keep [5, 6, 7, 44, 45, 46, 47] [(336, .id 336), (64, .id 64)] [] (.seq (.cond (.tmp 47) .skip (.keep [5, 6, 7] [(336, .id 336), (64, .id 64)] [] (.exit 0))) c5_9))
def c5_11 : PCode := (.keep [5, 6, 7, 44, 45, 46] [(336, .id 336), (64, .id 64)] [] (.seq (.reg p5_21) c5_10))
def p5_35 : List PO := [⟨(.some 92), (.mov (.tmp 6)), .none⟩, ⟨(.some 93), (.cmpI .eql (.tmp 92) (.const (.int .i64 0))), .none⟩, ⟨(.some 94), (.mov (.tmp 93)), .none⟩, ⟨(.some 95), (.mov (.tmp 5)), (.some (94, .true))⟩, ⟨(.some 96), (.mov (.tmp 7)), (.some (94, .true))⟩, ⟨(.some 97), (.call 9 [(.tmp 95), (.tmp 96)]), (.some (94, .true))⟩, ⟨(.some 98), (.pick (.tmp 94) (.tmp 97) (.const (.bool .false))), .none⟩, ⟨(.some 2), (.mov (.tmp 98)), .none⟩]
def c5_1 : PCode := (.keep [5, 6, 7] [(336, .id 336), (64, .id 64)] [] (.seq (.reg p5_35) .ret))
def c5_12 : PCode := (.keep [1, 3] [(16, .id 16)] [] (.seq (.reg p5_18) (.seq (.reg p5_19) (.seq (.seq (.reg p5_20) (.block 0 (.loop c5_11))) c5_1))))
def c5_b : PCode := (.seq (.reg p5_14) (.seq (.reg p5_15) (.seq (.seq (.reg p5_16) (.cond (.tmp 28) c5_13 .skip)) c5_12)))
def c5 : FCode := ⟨99, c5_b, [(.tmp 2)], some ([2], [], []), false⟩
theorem c5_ok : compF Go.Proofs.Tryz.prog [200005, 100010, 200013, 100015, 100023, 25, 100031, 38, 39, 40, 41, 43, 44, 52, 53, 55, 57, 59, 61, 62, 63, 64, 68, 69, 70, 71, 77, 79, 80, 82, 83, 85, 86, 88, 91, 92, 93, 95] 5 = some (eraseF c5) := by kernel_rfl
def p12_5 : List PO := [⟨(.some 4), (.mov (.const (.bool .false))), .none⟩]
def p12_6 : List PO := [⟨(.some 6), (.mov (.tmp 0)), .none⟩, ⟨(.some 7), (.len .false (.tmp 6)), .none⟩, ⟨(.some 8), (.mov (.tmp 1)), .none⟩, ⟨(.some 9), (.len .false (.tmp 8)), .none⟩, ⟨(.some 10), (.cmpI .neq (.tmp 7) (.tmp 9)), .none⟩]
def p12_7 : List PO := [⟨(.some 4), (.mov (.const (.bool .false))), .none⟩]
def p12_8 : List PO := [⟨(.some 11), (.mov (.tmp 0)), .none⟩, ⟨(.some 12), (.len .false (.tmp 11)), .none⟩, ⟨(.some 13), (.mov (.const (.int .i64 0))), .none⟩]
def p12_9 : List PO := [⟨(.some 14), (.cmpI .lss (.tmp 13) (.tmp 12)), .none⟩]
def p12_10 : List PO := [⟨(.some 15), (.mov (.tmp 13)), .none⟩, ⟨(.some 5), (.mov (.tmp 15)), .none⟩]
def p12_11 : List PO := [⟨(.some 16), (.mov (.tmp 0)), .none⟩, ⟨(.some 17), (.mov (.tmp 5)), .none⟩, ⟨(.some 18), (.ixS 51 4 (.tmp 16) (.tmp 17)), .none⟩, ⟨(.some 19), (.load .true 4 (.tmp 18)), .none⟩, ⟨(.some 20), (.mov (.tmp 1)), .none⟩, ⟨(.some 21), (.mov (.tmp 5)), .none⟩, ⟨(.some 22), (.ixS 51 4 (.tmp 20) (.tmp 21)), .none⟩, ⟨(.some 23), (.load .true 4 (.tmp 22)), .none⟩, ⟨(.some 24), (.eqA .true [(4, .int)] (.tmp 19) (.tmp 23)), .none⟩]
def p12_12 : List PO := [⟨(.some 4), (.mov (.const (.bool .false))), .none⟩]
def p12_13 : List PO := [⟨(.some 25), (.arI .add (.tmp 13) (.const (.int .i64 1))), .none⟩, ⟨(.some 13), (.mov (.tmp 25)), .none⟩]
def c12_1 : PCode := (.keep [0, 1, 12, 13] [] [] (.seq (.block 1 (.seq (.reg p12_10) (.seq (.regD p12_11 []) (.cond (.tmp 24) (.seq (.reg p12_12) .ret) .skip)))) (.reg p12_13)))
def c12_2 : PCode := (.keep [0, 1, 12, 13, 14] [] [] (.seq (.cond (.tmp 14) .skip (.keep [] [] [] (.exit 0))) c12_1))
def c12_3 : PCode := (.keep [0, 1, 12, 13] [] [] (.seq (.reg p12_9) c12_2))
def p12_14 : List PO := [⟨(.some 4), (.mov (.const (.bool .true))), .none⟩]
def c12_4 : PCode := (.keep [0, 1] [] [] (.seq (.seq (.reg p12_8) (.block 0 (.loop c12_3))) (.seq (.reg p12_14) .ret)))
def c12_b : PCode := (.seq (.reg p12_5) (.seq (.seq (.reg p12_6) (.cond (.tmp 10) (.seq (.reg p12_7) .ret) .skip)) c12_4))
def c12 : FCode := ⟨26, c12_b, [(.tmp 4)], some ([4], [], []), false⟩
theorem c12_ok : compF Go.Proofs.Tryz.prog [200005, 100010, 200013, 100015, 100023, 25, 100031, 38, 39, 40, 41, 43, 44, 52, 53, 55, 57, 59, 61, 62, 63, 64, 68, 69, 70, 71, 77, 79, 80, 82, 83, 85, 86, 88, 91, 92, 93, 95] 12 = some (eraseF c12) := by kernel_rfl
def codes : Nat → Option FCode
  | 3 => some c3
  | 4 => some c4
  | 5 => some c5
  | 7 => some c7
  | 9 => some c9
  | 10 => some c10
  | 12 => some c12
  | 13 => some c13
  | 17 => some c17
  | 26 => some c26
  | 27 => some c27
  | 28 => some c28
  | 29 => some c29
  | 30 => some c30
  | 34 => some c34
  | 44 => some c44
  | 45 => some c45
  | 46 => some c46
  | 47 => some c47
  | 72 => some c72
  | 73 => some c73
  | _ => none
theorem codes_ok : ∀ f fc, codes f = some fc → compF Go.Proofs.Tryz.prog [200005, 100010, 200013, 100015, 100023, 25, 100031, 38, 39, 40, 41, 43, 44, 52, 53, 55, 57, 59, 61, 62, 63, 64, 68, 69, 70, 71, 77, 79, 80, 82, 83, 85, 86, 88, 91, 92, 93, 95] f = some (eraseF fc) := by
  intro f fc h
  unfold codes at h
  split at h
  · cases h; exact c3_ok
  · cases h; exact c4_ok
  · cases h; exact c5_ok
  · cases h; exact c7_ok
  · cases h; exact c9_ok
  · cases h; exact c10_ok
  · cases h; exact c12_ok
  · cases h; exact c13_ok
  · cases h; exact c17_ok
  · cases h; exact c26_ok
  · cases h; exact c27_ok
  · cases h; exact c28_ok
  · cases h; exact c29_ok
  · cases h; exact c30_ok
  · cases h; exact c34_ok
  · cases h; exact c44_ok
  · cases h; exact c45_ok
  · cases h; exact c46_ok
  · cases h; exact c47_ok
  · cases h; exact c72_ok
  · cases h; exact c73_ok
  · cases h
theorem codes3 : codes 3 = some c3 := rfl
theorem codes4 : codes 4 = some c4 := rfl
theorem codes5 : codes 5 = some c5 := rfl
theorem codes7 : codes 7 = some c7 := rfl
theorem codes9 : codes 9 = some c9 := rfl
theorem codes10 : codes 10 = some c10 := rfl
theorem codes12 : codes 12 = some c12 := rfl
theorem codes13 : codes 13 = some c13 := rfl
theorem codes17 : codes 17 = some c17 := rfl
theorem codes26 : codes 26 = some c26 := rfl
theorem codes27 : codes 27 = some c27 := rfl
theorem codes28 : codes 28 = some c28 := rfl
theorem codes29 : codes 29 = some c29 := rfl
theorem codes30 : codes 30 = some c30 := rfl
theorem codes34 : codes 34 = some c34 := rfl
theorem codes44 : codes 44 = some c44 := rfl
theorem codes45 : codes 45 = some c45 := rfl
theorem codes46 : codes 46 = some c46 := rfl
theorem codes47 : codes 47 = some c47 := rfl
theorem codes72 : codes 72 = some c72 := rfl
theorem codes73 : codes 73 = some c73 := rfl
noncomputable def libs : List (Nat × (List PV → Option PV)) := [(8, livesO libLives)]
noncomputable abbrev baseL : Orc := clO 19 18 32 (libO libs)
end Go.Proofs.YtioikkmmjljedaaGreatDoor.Pm
