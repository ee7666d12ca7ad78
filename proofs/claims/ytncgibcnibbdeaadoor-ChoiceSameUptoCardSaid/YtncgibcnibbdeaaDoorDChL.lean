/- The library functions do what is said of them. Printed by dec.py. -/
import Derived.Test.YtncgibcnibbdeaaDoorDChC
import Derived.Test.YtncgibcnibbdeaaDoorShelf
namespace Go.Proofs.YtncgibcnibbdeaaDoor.Pm
set_option maxRecDepth 1000000
set_option maxHeartbeats 20000000
set_option linter.unusedVariables false
theorem baseL_snd (W : World) (Φ : Nat → Phys) (hΦ : ∀ i b c, Φ i ≠ .blk b c) (hm : ∃ m, W.cell? ⟨0, 0, none⟩ = some (.int .i64 m)) : Snd Go.Proofs.Tryd.prog baseL W Φ := libO_snd fun x hx => by
  simp only [libs, List.mem_cons, List.not_mem_nil, or_false] at hx
  rcases hx with rfl | rfl | rfl
  · exact lok_Contains (canEnter_b (by kernel_rfl)) (fun s c w => Go.Proofs.Tryd.strings_Contains_one s c w)
  · exact lok_Join (canEnter_b (by kernel_rfl)) (fun a c sep w => Any.strings_Join_none Go.Proofs.Tryd.lays156 Go.Proofs.Tryd.Builder_Extra_156 a c sep w) (fun bk o c xs sep w h1 h2 h3 h4 h5 => Go.Proofs.Tryd.strings_Join bk o c xs sep w h1 h2 h3 h4 h5)
  · exact lok_Split 0 (fun i c => hΦ i 0 c) hm (canEnter_b (by kernel_rfl)) (fun s sep m w h1 h2 h3 => Go.Proofs.Tryd.strings_Split s sep m w h1 h2 h3)
end Go.Proofs.YtncgibcnibbdeaaDoor.Pm
