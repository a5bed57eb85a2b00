/- From a row's condition to what the walks ask of the world; the witness' world. -/
import Derived.Test.YtogpmgjdmoglkaaGreatDoorCards
import Derived.Test.YtogpmgjdmoglkaaGreatDoorTie
import Derived.Test.YtogpmgjdmoglkaaGreatDoorHWb
import Derived.ProofKit
import Derived.OpenShut
import Derived.SizedLaws
import Derived.LaidMore
import Derived.PinnedBridge
import Derived.Lib.LaidU8T
import Derived.Lib.LaidIn
import Derived.Shelf.Vars
import Derived.Stop.LaidErr
import Derived.Deep.DeepHandedRow
import Derived.Deep.DeepWitnessRowRef
set_option linter.unusedVariables false
set_option linter.unusedSimpArgs false
namespace Go.Proofs.YtogpmgjdmoglkaaGreatDoor
open Go.ChangeShapes Go.WideShapes Go.ChangeAt Go.RowKit Go.Lib

theorem own_knob : ownKnob Tryz.prog.godebug = none := by kernel_rfl
/-- What every row of this seat lists. -/
def laidAll : List (String × DataW Unit) := [("math/bits.deBruijn32tab", Rows.laid_math_bits_deBruijn32tab), ("math/bits.deBruijn64tab", Rows.laid_math_bits_deBruijn64tab), ("internal/strconv.uint64pow10", Rows.laid_internal_strconv_uint64pow10), ("unicode/utf8.acceptRanges", Rows.laid_unicode_utf8_acceptRanges), ("strconv.ErrRange", Rows.laid_strconv_ErrRange), ("strconv.ErrSyntax", Rows.laid_strconv_ErrSyntax), ("unicode/utf8.first", Rows.laid_unicode_utf8_first)]
def ren8 : Shelf.Ren := { f := id, t := fun k => if k = 5 then 5 else if k = 119 then 200 else if k = 138 then 223 else 224, g := fun k => if k = 3 then 1 else 2 }
theorem types8 : U8Types Tryz.prog ren8 := ⟨Tryz.underlying5, Tryz.underlying200, Tryz.underlying223, Tryz.underlying224⟩
theorem extra8 : U8Extra Tryz.prog ren8 := ⟨by kernel_rfl, by kernel_rfl, by kernel_rfl, by kernel_rfl, by kernel_rfl, by kernel_rfl, by kernel_rfl⟩
theorem acc_eq : (Rows.laid_unicode_utf8_acceptRanges : DataW Unit) = acceptData := by kernel_rfl
theorem first_eq : Rows.laid_unicode_utf8_first = firstData := by kernel_rfl
theorem pow_eq : (Rows.laid_internal_strconv_uint64pow10 : DataW Unit) = tabData .u64 pow10Tab := by kernel_rfl
theorem env_of {W : World} (hL : laidMetH Tryz.prog laidAll W) (hS : W.ShapedOpen Tryz.prog) : Env W := by
  rw [MakeChecks.laidMetH_plain _ _ _ (by kernel_rfl)] at hL
  refine ⟨?_, ?_, ?_, ?_⟩
  · obtain ⟨cs, h, _, _⟩ := hS.1 7 #[.nilIface] 129 (by decide +kernel) (by kernel_rfl)
    exact (Array.getElem?_eq_some_iff.1 h).1
  · have h3 := Lib.laidMet.reads hL (.tail _ (.tail _ (.tail _ (.tail _ (.tail _ (.tail _ (.head _)))))))
    have h4 := Lib.laidMet.reads hL (.tail _ (.tail _ (.tail _ (.head _))))
    rw [first_eq] at h3
    rw [acc_eq] at h4
    exact utf8Tabs_of_readsT types8 extra8 h3 h4
  · exact cell_of_shapedOpen_int (zero := #[.int .i64 0]) (t := 3) (k := .i64) hS (by decide +kernel) (by kernel_rfl) (by kernel_rfl) (by kernel_rfl) (by kernel_rfl) (by kernel_rfl)
  · have h := Go.laidMet.tail (Go.laidMet.tail hL)
    rw [pow_eq] at h
    exact tabIs_of_head (g := 3) (n := 20) (t := 276) (e := 122) (by kernel_rfl) (by kernel_rfl) (by kernel_rfl) (by kernel_rfl) (by kernel_rfl) (by kernel_rfl) h

/-- A start that meets the list: the heap that the door's own run leaves, the pinned table laid besides. -/
noncomputable def laidWorld (os : Os) : World :=
  { World.doorLaid Tryz.prog 72 os with heap := (World.doorLaid Tryz.prog 72 os).heap.modify 1 fun
      | .cells _ t frozen => .cells (firstTab.map fun z => Value.int .u8 z).toArray t frozen
      | o => o }
theorem laid_met (os : Os) (args : Array Value) : laidMet Tryz.prog laidAll ((laidWorld os).forCall (fun _ _ => 0) ⟨#[], args, []⟩).memory :=
  laidMet_of_run' 8 (by kernel_rfl) (by kernel_rfl)

end Go.Proofs.YtogpmgjdmoglkaaGreatDoor
