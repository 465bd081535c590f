-- Written by a program of this session (wip/tools/gprint.py: the kit's print.py with functions whose contracts are proved by hand). Lean checks it.
import Derived.Test.YtfdemglcjfdodaaDoorProg
import Derived.Below
import Derived.Deep.Draws
import Derived.Deep.AppendLies
import Derived.Maps.AppendAt
import Derived.OwnWalk
import Derived.Laws.BytesArg
import Derived.Laws.MakeOwn
import Derived.Laws.OwnMore
import Derived.Deep.OwnRows
import Derived.Tactics
import Derived.Lib.ConvBytes
import Derived.Laws.Slices
import Derived.WalkKit
import Derived.KernelRfl
import Derived.RowKit3
import Derived.Deep.LoopGhost
import Derived.Deep.QuietTactic
import Derived.BigQuiet
import Derived.WideLaws
import Derived.Deep.DeepCutAuto
import Derived.Deep.CutBlock
import Derived.Deep.RegionHeld3
import Derived.Laws.Rows
import Derived.Lib.AppendStr
import Derived.ArgAppend
import Derived.Laws.IdiomCopy
import Derived.OrdersHeld
import Derived.Laws.BitsLemmas
import Derived.RowKit
import Derived.Test.YtfdemglcjfdodaaDoorGlob
import Derived.Test.YtfdemglcjfdodaaDoorGWords
import Derived.Test.YtfdemglcjfdodaaDoorWWords
import Derived.Test.YtfdemglcjfdodaaDoorWLast
import Derived.Test.YtfdemglcjfdodaaDoorWTab
import Derived.Test.YtfdemglcjfdodaaDoorWFour
import Derived.Test.YtfdemglcjfdodaaDoorWQPut
import Derived.Test.YtfdemglcjfdodaaDoorWApart
import Derived.Test.YtfdemglcjfdodaaDoorWArr
import Derived.Test.YtfdemglcjfdodaaDoorWZeros
import Derived.Test.YtfdemglcjfdodaaDoorWFoot
import Derived.Test.YtfdemglcjfdodaaDoorWKept
import Derived.Test.YtfdemglcjfdodaaDoorWShare
import Derived.Test.YtfdemglcjfdodaaDoorWN
import Derived.Test.YtfdemglcjfdodaaDoorWFootNe
import Derived.Test.YtfdemglcjfdodaaDoorWAt
import Derived.Test.YtfdemglcjfdodaaDoorWEqStruct
import Derived.Test.YtfdemglcjfdodaaDoorWRepsOne
import Derived.Test.YtfdemglcjfdodaaDoorWInv
import Derived.Test.YtfdemglcjfdodaaDoorWInvWords
import Derived.Test.YtfdemglcjfdodaaDoorWGuard
import Derived.Test.YtfdemglcjfdodaaDoorWNEv
import Derived.Test.YtfdemglcjfdodaaDoorWMore
namespace Go.Proofs.YtfdemglcjfdodaaDoor.Q
open Go.RowKit Go.Proofs.YtfdemglcjfdodaaDoorW.PrintWords Go.Proofs.YtfdemglcjfdodaaDoorW.PrintLast Go.Proofs.YtfdemglcjfdodaaDoorW.PrintMore
attribute [local go_sem] max2_int min2_int max_two min_two max_three min_three max_four min_four   -- for this text's walks alone
set_option linter.unusedVariables false
set_option linter.unusedSimpArgs false



def errW : Option Int → Value
  | none => .nilIface
  | some c => .iface 0 (.int .i64 c)
theorem errW_none : errW none = .nilIface := rfl
theorem errW_some (c : Int) : errW (some c) = .iface 0 (.int .i64 c) := rfl

theorem info5 : (Tryd.prog.info? 5).map (fun i => (i.zero, i.size, i.bytes)) = some (some (.int .u8 0), 1, 1) := by kernel_rfl
theorem info30 : (Tryd.prog.info? 30).map (fun i => (i.zero, i.size, i.bytes)) = some (some (.int .u32 0), 1, 4) := by kernel_rfl
-- the values' own types

end Go.Proofs.YtfdemglcjfdodaaDoor.Q
