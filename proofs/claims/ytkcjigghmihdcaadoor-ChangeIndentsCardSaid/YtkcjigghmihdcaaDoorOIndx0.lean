-- WRITTEN BY A PROGRAM OF THIS SESSION (oprint.py, over the kit's own print), with contracts of this session put in. Not trusted: Lean checks it.
import Derived.Test.YtkcjigghmihdcaaDoorProg
import Derived.Below
import Derived.Deep.Draws
import Derived.Deep.AppendLies
import Derived.Maps.AppendAt
import Derived.OwnWalk
import Derived.Laws.BytesArg
import Derived.Laws.MakeOwn
import Derived.Laws.OwnMore
import Derived.Deep.OwnRows
import Derived.Tactics
import Derived.Lib.ConvBytes
import Derived.Laws.Slices
import Derived.WalkKit
import Derived.KernelRfl
import Derived.RowKit3
import Derived.Deep.LoopGhost
import Derived.Deep.QuietTactic
import Derived.BigQuiet
import Derived.WideLaws
import Derived.Deep.DeepCutAuto
import Derived.Deep.CutBlock
import Derived.Deep.RegionHeld3
import Derived.Laws.Rows
import Derived.Lib.AppendStr
import Derived.ArgAppend
import Derived.Laws.IdiomCopy
import Derived.OrdersHeld
import Derived.Laws.BitsLemmas
import Derived.RowKit
import Derived.Test.YtkcjigghmihdcaaDoorShelf
import Derived.Test.YtkcjigghmihdcaaDoorWWords
import Derived.Test.YtkcjigghmihdcaaDoorWLast
import Derived.Test.YtkcjigghmihdcaaDoorWTab
import Derived.Test.YtkcjigghmihdcaaDoorWFour
import Derived.Test.YtkcjigghmihdcaaDoorWQPut
import Derived.Test.YtkcjigghmihdcaaDoorWApart
import Derived.Test.YtkcjigghmihdcaaDoorWArr
import Derived.Test.YtkcjigghmihdcaaDoorWZeros
import Derived.Test.YtkcjigghmihdcaaDoorWFoot
import Derived.Test.YtkcjigghmihdcaaDoorWKept
import Derived.Test.YtkcjigghmihdcaaDoorWShare
import Derived.Test.YtkcjigghmihdcaaDoorWN
import Derived.Test.YtkcjigghmihdcaaDoorWFootNe
import Derived.Test.YtkcjigghmihdcaaDoorWAt
import Derived.Test.YtkcjigghmihdcaaDoorWEqStruct
import Derived.Test.YtkcjigghmihdcaaDoorWRepsOne
import Derived.Test.YtkcjigghmihdcaaDoorWInv
import Derived.Test.YtkcjigghmihdcaaDoorWInvWords
import Derived.Test.YtkcjigghmihdcaaDoorWGuard
import Derived.Test.YtkcjigghmihdcaaDoorWNEv
import Derived.Test.YtkcjigghmihdcaaDoorWMore
namespace Go.Proofs.YtkcjigghmihdcaaDoor.OInd
open Go.RowKit Go.Proofs.YtkcjigghmihdcaaDoorW.PrintWords Go.Proofs.YtkcjigghmihdcaaDoorW.PrintLast Go.Proofs.YtkcjigghmihdcaaDoorW.PrintMore
attribute [local go_sem] max2_int min2_int max_two min_two max_three min_three max_four min_four   -- for this text's walks alone
set_option linter.unusedVariables false
set_option linter.unusedSimpArgs false



def errW : Option Int → Value
  | none => .nilIface
  | some c => .iface 0 (.int .i64 c)
theorem errW_none : errW none = .nilIface := rfl
theorem errW_some (c : Int) : errW (some c) = .iface 0 (.int .i64 c) := rfl

theorem info9 : (Tryd.prog.info? 9).map (fun i => (i.zero, i.size, i.bytes)) = some (some (.string ⟨#[]⟩), 1, 16) := by kernel_rfl
-- the values' own types

end Go.Proofs.YtkcjigghmihdcaaDoor.OInd
