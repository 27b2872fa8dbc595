/- A world for the witness: the settled one, the tables holding what their initialisers lay. -/
import Derived.Test.YtiakcbnmagpabaaGreatDoorLTabs
import Derived.WalkKit
import Derived.ProofKit
import Derived.OpenShut
import Derived.Deep.DeepHandedRow
namespace Go.Proofs.YtiakcbnmagpabaaGreatDoor
open Go.Am Go.ChangeShapes Go.WideShapes Go.ChangeAt Go.RowKit
set_option maxRecDepth 100000

def valOf : AV → Value
  | .int k n => .int k n
  | _ => .bool false
def layAt (h : Array Obj) (b : Nat) (cs : List AV) : Array Obj := h.modify b fun
  | .cells _ t frozen => .cells (cs.map valOf).toArray t frozen
  | o => o
noncomputable def laidWorld (os : Os) : World :=
  { World.holding Tryz.prog os ⟨#[], #[], []⟩ with heap := layAt (layAt (layAt (layAt (layAt (layAt (layAt (World.holding Tryz.prog os ⟨#[], #[], []⟩).heap 0 g0) 3 g3) 6 g6) 7 g7) 8 g8) 9 g9) 10 g10 }
theorem own : ownKnob Tryz.prog.godebug = none := by kernel_rfl
end Go.Proofs.YtiakcbnmagpabaaGreatDoor
