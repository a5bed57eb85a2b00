/- Closed facts of the row of BuildBoth, one by one. -/
import Derived.Test.YtogpmgjdmoglkaaGreatDoorCards
import Derived.Test.YtogpmgjdmoglkaaGreatDoorTie
import Derived.ProofKit
import Derived.JoinedCond
import Derived.SevenTiedAt
set_option linter.unusedVariables false
set_option linter.unusedSimpArgs false
set_option maxRecDepth 100000
namespace Go.Proofs.YtogpmgjdmoglkaaGreatDoor.lawBoth
open Go

theorem k_wf : Rows.buildBothRow.wf (OpenSpec.ofChange Rows.buildBothSpec) = true := by kernel_rfl
theorem k_laid : laidOutB Tryz.prog = true := by kernel_rfl
theorem k_rowed : mapsRowed Tryz.prog = true := by kernel_rfl
theorem k_read : Tryz.f12.params.all (Tryz.prog.readableRec ·) = true := by kernel_rfl
theorem k_nt : namedTie Tryz.prog Rows.buildBothRow.named Rows.buildBothSpec.vars = true := by kernel_rfl
theorem k_s1 : (Rows.buildBothRow.stops == []) = true := by kernel_rfl
theorem k_s2 : (Tryz.prog.stops == []) = true := by kernel_rfl
theorem k_s3 : (Rows.buildBothRow.knobs == []) = true := by kernel_rfl
theorem k_s4 : (Tryz.prog.stopKnobs == []) = true := by kernel_rfl
theorem k_inplace : (Rows.buildBothRow.inPlace == Tryz.prog.inPlace 12) = true := by kernel_rfl
theorem k_unf : (Rows.buildBothRow.unfollowed == Tryz.prog.unfollowed 12) = true := by kernel_rfl
theorem k_rec : (Rows.buildBothRow.recurses == Tryz.prog.recurses 12) = true := by kernel_rfl
theorem k_named : (Rows.buildBothRow.named == Tryz.prog.varsNamed 12) = true := by kernel_rfl
theorem k_maps : (Rows.buildBothRow.maps == (Tryz.f12.params.toList ++ Rows.buildBothSpec.plain.varTypes Tryz.prog).any (Tryz.prog.mapsRec ·)) = true := by kernel_rfl
theorem k_ifaces : (Rows.buildBothRow.ifaces == (Tryz.f12.params.toList ++ Rows.buildBothSpec.plain.varTypes Tryz.prog).any (Tryz.prog.ifacesRec ·)) = true := by kernel_rfl
theorem k_mapsout : (Rows.buildBothRow.mapsOut == Tryz.prog.mapsAmong Tryz.f12.resultTypes.toList) = true := by kernel_rfl
theorem k_loops : (Rows.buildBothRow.loops == (Tryz.f12.params.toList ++ Rows.buildBothSpec.plain.varTypes Tryz.prog).any (Tryz.prog.loopsFrom ·)) = true := by kernel_rfl
theorem k_wide : (Rows.buildBothRow.wideKeys == (Tryz.f12.params.toList ++ Rows.buildBothSpec.plain.varTypes Tryz.prog ++ Tryz.f12.resultTypes.toList).any (Tryz.prog.wideKeysFrom ·)) = true := by kernel_rfl
theorem k_vars : Rows.buildBothSpec.vars.all (Tryz.prog.varReadable ·) = true := by kernel_rfl
theorem k_res : Tryz.f12.resultTypes.all (fun t => Tryz.prog.readableRec t && decide (t < Tryz.prog.types.size)) = true := by kernel_rfl
theorem k_ifout : (Rows.buildBothRow.ifacesOut == Tryz.f12.resultTypes.toList.any (Tryz.prog.ifacesRec ·)) = true := by kernel_rfl
theorem k_loout : (Rows.buildBothRow.loopsOut == Tryz.f12.resultTypes.toList.any (Tryz.prog.loopsFrom ·)) = true := by kernel_rfl
theorem k_keys : (Rows.buildBothRow.plainKeys == Tryz.prog.plainKeys) = true := by kernel_rfl
theorem k_short : Rows.buildBothRow.shortTexts.isNone = true := by kernel_rfl
theorem k_heard : Tryz.prog.stopsHeard = true := by kernel_rfl
theorem k_enter : Tryz.prog.mayEnter = true := by kernel_rfl
theorem k_lifted : (Rows.buildBothRow.lifted == Tryz.prog.liftsFinal) = true := by kernel_rfl
theorem k_make : (Tryz.prog.make == some Rows.buildBothRow.make) = true := by kernel_rfl
theorem k_kinds : (Rows.buildBothRow.kinds == (if Rows.buildBothRow.domain.isEmpty then [] else Tryz.f12.params.toList.map fun t => match Tryz.prog.underlying t with | some (.int k) => some k | _ => none)) = true := by kernel_rfl
theorem k_pinned : (Rows.buildBothRow.pinned == Rows.buildBothRow.pinnedBy) = true := by kernel_rfl
theorem k_veiled : (Rows.buildBothRow.veiled == (Tryz.f12.params.toList ++ Rows.buildBothSpec.plain.varTypes Tryz.prog ++ Tryz.f12.resultTypes.toList).any (Tryz.prog.veiledRec ·)) = true := by kernel_rfl
theorem k_fits : Rows.buildBothRow.veiledFits Tryz.prog Tryz.f12.params.toList (Tryz.f12.params.toList ++ Rows.buildBothSpec.plain.varTypes Tryz.prog ++ Tryz.f12.resultTypes.toList) = true := by kernel_rfl
theorem k_fn : Tryz.prog.funcNamed Rows.buildBothRow.func = some 12 := by kernel_rfl
theorem k_wft : Rows.buildBothRow.wfByText (OpenSpec.ofChange Rows.buildBothSpec) = true := by kernel_rfl
theorem k_goes : false = Rows.buildBothRow.goesBy Tryz.prog := by kernel_rfl
theorem k_looks : true = Tryz.prog.looks [] := by kernel_rfl
theorem closed : joinedFacts Tryz.prog 12 Tryz.f12 (OpenSpec.ofChange Rows.buildBothSpec).bare Rows.buildBothRow = true := by
  show (Rows.buildBothRow.wf (OpenSpec.ofChange Rows.buildBothSpec) && laidOutB Tryz.prog && mapsRowed Tryz.prog && Tryz.f12.params.all (Tryz.prog.readableRec ·) && namedTie Tryz.prog Rows.buildBothRow.named Rows.buildBothSpec.vars && (Rows.buildBothRow.stops == []) && (Tryz.prog.stops == []) && (Rows.buildBothRow.knobs == []) && (Tryz.prog.stopKnobs == []) && (Rows.buildBothRow.inPlace == Tryz.prog.inPlace 12) && (Rows.buildBothRow.unfollowed == Tryz.prog.unfollowed 12) && (Rows.buildBothRow.recurses == Tryz.prog.recurses 12) && (Rows.buildBothRow.named == Tryz.prog.varsNamed 12) && (Rows.buildBothRow.maps == (Tryz.f12.params.toList ++ Rows.buildBothSpec.plain.varTypes Tryz.prog).any (Tryz.prog.mapsRec ·)) && (Rows.buildBothRow.ifaces == (Tryz.f12.params.toList ++ Rows.buildBothSpec.plain.varTypes Tryz.prog).any (Tryz.prog.ifacesRec ·)) && (Rows.buildBothRow.mapsOut == Tryz.prog.mapsAmong Tryz.f12.resultTypes.toList) && (Rows.buildBothRow.loops == (Tryz.f12.params.toList ++ Rows.buildBothSpec.plain.varTypes Tryz.prog).any (Tryz.prog.loopsFrom ·)) && (Rows.buildBothRow.wideKeys == (Tryz.f12.params.toList ++ Rows.buildBothSpec.plain.varTypes Tryz.prog ++ Tryz.f12.resultTypes.toList).any (Tryz.prog.wideKeysFrom ·)) && Rows.buildBothSpec.vars.all (Tryz.prog.varReadable ·) && Tryz.f12.resultTypes.all (fun t => Tryz.prog.readableRec t && decide (t < Tryz.prog.types.size)) && (Rows.buildBothRow.ifacesOut == Tryz.f12.resultTypes.toList.any (Tryz.prog.ifacesRec ·)) && (Rows.buildBothRow.loopsOut == Tryz.f12.resultTypes.toList.any (Tryz.prog.loopsFrom ·)) && (Rows.buildBothRow.plainKeys == Tryz.prog.plainKeys) && Rows.buildBothRow.shortTexts.isNone && Tryz.prog.stopsHeard && Tryz.prog.mayEnter && (Rows.buildBothRow.lifted == Tryz.prog.liftsFinal) && (Tryz.prog.make == some Rows.buildBothRow.make) && (Rows.buildBothRow.kinds == (if Rows.buildBothRow.domain.isEmpty then [] else Tryz.f12.params.toList.map fun t => match Tryz.prog.underlying t with | some (.int k) => some k | _ => none)) && (Rows.buildBothRow.pinned == Rows.buildBothRow.pinnedBy) && (Rows.buildBothRow.veiled == (Tryz.f12.params.toList ++ Rows.buildBothSpec.plain.varTypes Tryz.prog ++ Tryz.f12.resultTypes.toList).any (Tryz.prog.veiledRec ·)) && Rows.buildBothRow.veiledFits Tryz.prog Tryz.f12.params.toList (Tryz.f12.params.toList ++ Rows.buildBothSpec.plain.varTypes Tryz.prog ++ Tryz.f12.resultTypes.toList)) = true
  simp only [Bool.and_eq_true]
  exact ⟨⟨⟨⟨⟨⟨⟨⟨⟨⟨⟨⟨⟨⟨⟨⟨⟨⟨⟨⟨⟨⟨⟨⟨⟨⟨⟨⟨⟨⟨⟨k_wf, k_laid⟩, k_rowed⟩, k_read⟩, k_nt⟩, k_s1⟩, k_s2⟩, k_s3⟩, k_s4⟩, k_inplace⟩, k_unf⟩, k_rec⟩, k_named⟩, k_maps⟩, k_ifaces⟩, k_mapsout⟩, k_loops⟩, k_wide⟩, k_vars⟩, k_res⟩, k_ifout⟩, k_loout⟩, k_keys⟩, k_short⟩, k_heard⟩, k_enter⟩, k_lifted⟩, k_make⟩, k_kinds⟩, k_pinned⟩, k_veiled⟩, k_fits⟩
end Go.Proofs.YtogpmgjdmoglkaaGreatDoor.lawBoth
