/- Closed facts of the row of BuildLong, one by one. -/
import Derived.Test.YtogpmgjdmoglkaaGreatDoorCards
import Derived.Test.YtogpmgjdmoglkaaGreatDoorTie
import Derived.ProofKit
import Derived.JoinedCond
import Derived.SevenTiedAt
set_option linter.unusedVariables false
set_option linter.unusedSimpArgs false
set_option maxRecDepth 100000
namespace Go.Proofs.YtogpmgjdmoglkaaGreatDoor.lawLong
open Go

theorem k_wf : Rows.buildLongRow.wf (OpenSpec.ofChange Rows.buildLongSpec) = true := by kernel_rfl
theorem k_laid : laidOutB Tryz.prog = true := by kernel_rfl
theorem k_rowed : mapsRowed Tryz.prog = true := by kernel_rfl
theorem k_read : Tryz.f11.params.all (Tryz.prog.readableRec ·) = true := by kernel_rfl
theorem k_nt : namedTie Tryz.prog Rows.buildLongRow.named Rows.buildLongSpec.vars = true := by kernel_rfl
theorem k_s1 : (Rows.buildLongRow.stops == []) = true := by kernel_rfl
theorem k_s2 : (Tryz.prog.stops == []) = true := by kernel_rfl
theorem k_s3 : (Rows.buildLongRow.knobs == []) = true := by kernel_rfl
theorem k_s4 : (Tryz.prog.stopKnobs == []) = true := by kernel_rfl
theorem k_inplace : (Rows.buildLongRow.inPlace == Tryz.prog.inPlace 11) = true := by kernel_rfl
theorem k_unf : (Rows.buildLongRow.unfollowed == Tryz.prog.unfollowed 11) = true := by kernel_rfl
theorem k_rec : (Rows.buildLongRow.recurses == Tryz.prog.recurses 11) = true := by kernel_rfl
theorem k_named : (Rows.buildLongRow.named == Tryz.prog.varsNamed 11) = true := by kernel_rfl
theorem k_maps : (Rows.buildLongRow.maps == (Tryz.f11.params.toList ++ Rows.buildLongSpec.plain.varTypes Tryz.prog).any (Tryz.prog.mapsRec ·)) = true := by kernel_rfl
theorem k_ifaces : (Rows.buildLongRow.ifaces == (Tryz.f11.params.toList ++ Rows.buildLongSpec.plain.varTypes Tryz.prog).any (Tryz.prog.ifacesRec ·)) = true := by kernel_rfl
theorem k_mapsout : (Rows.buildLongRow.mapsOut == Tryz.prog.mapsAmong Tryz.f11.resultTypes.toList) = true := by kernel_rfl
theorem k_loops : (Rows.buildLongRow.loops == (Tryz.f11.params.toList ++ Rows.buildLongSpec.plain.varTypes Tryz.prog).any (Tryz.prog.loopsFrom ·)) = true := by kernel_rfl
theorem k_wide : (Rows.buildLongRow.wideKeys == (Tryz.f11.params.toList ++ Rows.buildLongSpec.plain.varTypes Tryz.prog ++ Tryz.f11.resultTypes.toList).any (Tryz.prog.wideKeysFrom ·)) = true := by kernel_rfl
theorem k_vars : Rows.buildLongSpec.vars.all (Tryz.prog.varReadable ·) = true := by kernel_rfl
theorem k_res : Tryz.f11.resultTypes.all (fun t => Tryz.prog.readableRec t && decide (t < Tryz.prog.types.size)) = true := by kernel_rfl
theorem k_ifout : (Rows.buildLongRow.ifacesOut == Tryz.f11.resultTypes.toList.any (Tryz.prog.ifacesRec ·)) = true := by kernel_rfl
theorem k_loout : (Rows.buildLongRow.loopsOut == Tryz.f11.resultTypes.toList.any (Tryz.prog.loopsFrom ·)) = true := by kernel_rfl
theorem k_keys : (Rows.buildLongRow.plainKeys == Tryz.prog.plainKeys) = true := by kernel_rfl
theorem k_short : Rows.buildLongRow.shortTexts.isNone = true := by kernel_rfl
theorem k_heard : Tryz.prog.stopsHeard = true := by kernel_rfl
theorem k_enter : Tryz.prog.mayEnter = true := by kernel_rfl
theorem k_lifted : (Rows.buildLongRow.lifted == Tryz.prog.liftsFinal) = true := by kernel_rfl
theorem k_make : (Tryz.prog.make == some Rows.buildLongRow.make) = true := by kernel_rfl
theorem k_kinds : (Rows.buildLongRow.kinds == (if Rows.buildLongRow.domain.isEmpty then [] else Tryz.f11.params.toList.map fun t => match Tryz.prog.underlying t with | some (.int k) => some k | _ => none)) = true := by kernel_rfl
theorem k_pinned : (Rows.buildLongRow.pinned == Rows.buildLongRow.pinnedBy) = true := by kernel_rfl
theorem k_veiled : (Rows.buildLongRow.veiled == (Tryz.f11.params.toList ++ Rows.buildLongSpec.plain.varTypes Tryz.prog ++ Tryz.f11.resultTypes.toList).any (Tryz.prog.veiledRec ·)) = true := by kernel_rfl
theorem k_fits : Rows.buildLongRow.veiledFits Tryz.prog Tryz.f11.params.toList (Tryz.f11.params.toList ++ Rows.buildLongSpec.plain.varTypes Tryz.prog ++ Tryz.f11.resultTypes.toList) = true := by kernel_rfl
theorem k_fn : Tryz.prog.funcNamed Rows.buildLongRow.func = some 11 := by kernel_rfl
theorem k_wft : Rows.buildLongRow.wfByText (OpenSpec.ofChange Rows.buildLongSpec) = true := by kernel_rfl
theorem k_goes : false = Rows.buildLongRow.goesBy Tryz.prog := by kernel_rfl
theorem k_looks : true = Tryz.prog.looks [] := by kernel_rfl
theorem closed : joinedFacts Tryz.prog 11 Tryz.f11 (OpenSpec.ofChange Rows.buildLongSpec).bare Rows.buildLongRow = true := by
  show (Rows.buildLongRow.wf (OpenSpec.ofChange Rows.buildLongSpec) && laidOutB Tryz.prog && mapsRowed Tryz.prog && Tryz.f11.params.all (Tryz.prog.readableRec ·) && namedTie Tryz.prog Rows.buildLongRow.named Rows.buildLongSpec.vars && (Rows.buildLongRow.stops == []) && (Tryz.prog.stops == []) && (Rows.buildLongRow.knobs == []) && (Tryz.prog.stopKnobs == []) && (Rows.buildLongRow.inPlace == Tryz.prog.inPlace 11) && (Rows.buildLongRow.unfollowed == Tryz.prog.unfollowed 11) && (Rows.buildLongRow.recurses == Tryz.prog.recurses 11) && (Rows.buildLongRow.named == Tryz.prog.varsNamed 11) && (Rows.buildLongRow.maps == (Tryz.f11.params.toList ++ Rows.buildLongSpec.plain.varTypes Tryz.prog).any (Tryz.prog.mapsRec ·)) && (Rows.buildLongRow.ifaces == (Tryz.f11.params.toList ++ Rows.buildLongSpec.plain.varTypes Tryz.prog).any (Tryz.prog.ifacesRec ·)) && (Rows.buildLongRow.mapsOut == Tryz.prog.mapsAmong Tryz.f11.resultTypes.toList) && (Rows.buildLongRow.loops == (Tryz.f11.params.toList ++ Rows.buildLongSpec.plain.varTypes Tryz.prog).any (Tryz.prog.loopsFrom ·)) && (Rows.buildLongRow.wideKeys == (Tryz.f11.params.toList ++ Rows.buildLongSpec.plain.varTypes Tryz.prog ++ Tryz.f11.resultTypes.toList).any (Tryz.prog.wideKeysFrom ·)) && Rows.buildLongSpec.vars.all (Tryz.prog.varReadable ·) && Tryz.f11.resultTypes.all (fun t => Tryz.prog.readableRec t && decide (t < Tryz.prog.types.size)) && (Rows.buildLongRow.ifacesOut == Tryz.f11.resultTypes.toList.any (Tryz.prog.ifacesRec ·)) && (Rows.buildLongRow.loopsOut == Tryz.f11.resultTypes.toList.any (Tryz.prog.loopsFrom ·)) && (Rows.buildLongRow.plainKeys == Tryz.prog.plainKeys) && Rows.buildLongRow.shortTexts.isNone && Tryz.prog.stopsHeard && Tryz.prog.mayEnter && (Rows.buildLongRow.lifted == Tryz.prog.liftsFinal) && (Tryz.prog.make == some Rows.buildLongRow.make) && (Rows.buildLongRow.kinds == (if Rows.buildLongRow.domain.isEmpty then [] else Tryz.f11.params.toList.map fun t => match Tryz.prog.underlying t with | some (.int k) => some k | _ => none)) && (Rows.buildLongRow.pinned == Rows.buildLongRow.pinnedBy) && (Rows.buildLongRow.veiled == (Tryz.f11.params.toList ++ Rows.buildLongSpec.plain.varTypes Tryz.prog ++ Tryz.f11.resultTypes.toList).any (Tryz.prog.veiledRec ·)) && Rows.buildLongRow.veiledFits Tryz.prog Tryz.f11.params.toList (Tryz.f11.params.toList ++ Rows.buildLongSpec.plain.varTypes Tryz.prog ++ Tryz.f11.resultTypes.toList)) = true
  simp only [Bool.and_eq_true]
  exact ⟨⟨⟨⟨⟨⟨⟨⟨⟨⟨⟨⟨⟨⟨⟨⟨⟨⟨⟨⟨⟨⟨⟨⟨⟨⟨⟨⟨⟨⟨⟨k_wf, k_laid⟩, k_rowed⟩, k_read⟩, k_nt⟩, k_s1⟩, k_s2⟩, k_s3⟩, k_s4⟩, k_inplace⟩, k_unf⟩, k_rec⟩, k_named⟩, k_maps⟩, k_ifaces⟩, k_mapsout⟩, k_loops⟩, k_wide⟩, k_vars⟩, k_res⟩, k_ifout⟩, k_loout⟩, k_keys⟩, k_short⟩, k_heard⟩, k_enter⟩, k_lifted⟩, k_make⟩, k_kinds⟩, k_pinned⟩, k_veiled⟩, k_fits⟩
end Go.Proofs.YtogpmgjdmoglkaaGreatDoor.lawLong
