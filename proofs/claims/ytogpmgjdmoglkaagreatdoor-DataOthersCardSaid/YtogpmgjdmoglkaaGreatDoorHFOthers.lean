/- Closed facts of the row of DataOthers, one by one. -/
import Derived.Test.YtogpmgjdmoglkaaGreatDoorCards
import Derived.Test.YtogpmgjdmoglkaaGreatDoorTie
import Derived.ProofKit
import Derived.JoinedCond
import Derived.SevenTiedAt
set_option linter.unusedVariables false
set_option linter.unusedSimpArgs false
set_option maxRecDepth 100000
namespace Go.Proofs.YtogpmgjdmoglkaaGreatDoor.lawOthers
open Go

theorem k_wf : Rows.dataOthersRow.wf (OpenSpec.ofChange Rows.dataOthersSpec) = true := by kernel_rfl
theorem k_laid : laidOutB Tryz.prog = true := by kernel_rfl
theorem k_rowed : mapsRowed Tryz.prog = true := by kernel_rfl
theorem k_read : Tryz.f7.params.all (Tryz.prog.readableRec ·) = true := by kernel_rfl
theorem k_nt : namedTie Tryz.prog Rows.dataOthersRow.named Rows.dataOthersSpec.vars = true := by kernel_rfl
theorem k_s1 : (Rows.dataOthersRow.stops == []) = true := by kernel_rfl
theorem k_s2 : (Tryz.prog.stops == []) = true := by kernel_rfl
theorem k_s3 : (Rows.dataOthersRow.knobs == []) = true := by kernel_rfl
theorem k_s4 : (Tryz.prog.stopKnobs == []) = true := by kernel_rfl
theorem k_inplace : (Rows.dataOthersRow.inPlace == Tryz.prog.inPlace 7) = true := by kernel_rfl
theorem k_unf : (Rows.dataOthersRow.unfollowed == Tryz.prog.unfollowed 7) = true := by kernel_rfl
theorem k_rec : (Rows.dataOthersRow.recurses == Tryz.prog.recurses 7) = true := by kernel_rfl
theorem k_named : (Rows.dataOthersRow.named == Tryz.prog.varsNamed 7) = true := by kernel_rfl
theorem k_maps : (Rows.dataOthersRow.maps == (Tryz.f7.params.toList ++ Rows.dataOthersSpec.plain.varTypes Tryz.prog).any (Tryz.prog.mapsRec ·)) = true := by kernel_rfl
theorem k_ifaces : (Rows.dataOthersRow.ifaces == (Tryz.f7.params.toList ++ Rows.dataOthersSpec.plain.varTypes Tryz.prog).any (Tryz.prog.ifacesRec ·)) = true := by kernel_rfl
theorem k_mapsout : (Rows.dataOthersRow.mapsOut == Tryz.prog.mapsAmong Tryz.f7.resultTypes.toList) = true := by kernel_rfl
theorem k_loops : (Rows.dataOthersRow.loops == (Tryz.f7.params.toList ++ Rows.dataOthersSpec.plain.varTypes Tryz.prog).any (Tryz.prog.loopsFrom ·)) = true := by kernel_rfl
theorem k_wide : (Rows.dataOthersRow.wideKeys == (Tryz.f7.params.toList ++ Rows.dataOthersSpec.plain.varTypes Tryz.prog ++ Tryz.f7.resultTypes.toList).any (Tryz.prog.wideKeysFrom ·)) = true := by kernel_rfl
theorem k_vars : Rows.dataOthersSpec.vars.all (Tryz.prog.varReadable ·) = true := by kernel_rfl
theorem k_res : Tryz.f7.resultTypes.all (fun t => Tryz.prog.readableRec t && decide (t < Tryz.prog.types.size)) = true := by kernel_rfl
theorem k_ifout : (Rows.dataOthersRow.ifacesOut == Tryz.f7.resultTypes.toList.any (Tryz.prog.ifacesRec ·)) = true := by kernel_rfl
theorem k_loout : (Rows.dataOthersRow.loopsOut == Tryz.f7.resultTypes.toList.any (Tryz.prog.loopsFrom ·)) = true := by kernel_rfl
theorem k_keys : (Rows.dataOthersRow.plainKeys == Tryz.prog.plainKeys) = true := by kernel_rfl
theorem k_short : Rows.dataOthersRow.shortTexts.isNone = true := by kernel_rfl
theorem k_heard : Tryz.prog.stopsHeard = true := by kernel_rfl
theorem k_enter : Tryz.prog.mayEnter = true := by kernel_rfl
theorem k_lifted : (Rows.dataOthersRow.lifted == Tryz.prog.liftsFinal) = true := by kernel_rfl
theorem k_make : (Tryz.prog.make == some Rows.dataOthersRow.make) = true := by kernel_rfl
theorem k_kinds : (Rows.dataOthersRow.kinds == (if Rows.dataOthersRow.domain.isEmpty then [] else Tryz.f7.params.toList.map fun t => match Tryz.prog.underlying t with | some (.int k) => some k | _ => none)) = true := by kernel_rfl
theorem k_pinned : (Rows.dataOthersRow.pinned == Rows.dataOthersRow.pinnedBy) = true := by kernel_rfl
theorem k_veiled : (Rows.dataOthersRow.veiled == (Tryz.f7.params.toList ++ Rows.dataOthersSpec.plain.varTypes Tryz.prog ++ Tryz.f7.resultTypes.toList).any (Tryz.prog.veiledRec ·)) = true := by kernel_rfl
theorem k_fits : Rows.dataOthersRow.veiledFits Tryz.prog Tryz.f7.params.toList (Tryz.f7.params.toList ++ Rows.dataOthersSpec.plain.varTypes Tryz.prog ++ Tryz.f7.resultTypes.toList) = true := by kernel_rfl
theorem k_fn : Tryz.prog.funcNamed Rows.dataOthersRow.func = some 7 := by kernel_rfl
theorem k_wft : Rows.dataOthersRow.wfByText (OpenSpec.ofChange Rows.dataOthersSpec) = true := by kernel_rfl
theorem k_goes : false = Rows.dataOthersRow.goesBy Tryz.prog := by kernel_rfl
theorem k_looks : true = Tryz.prog.looks [] := by kernel_rfl
theorem closed : joinedFacts Tryz.prog 7 Tryz.f7 (OpenSpec.ofChange Rows.dataOthersSpec).bare Rows.dataOthersRow = true := by
  show (Rows.dataOthersRow.wf (OpenSpec.ofChange Rows.dataOthersSpec) && laidOutB Tryz.prog && mapsRowed Tryz.prog && Tryz.f7.params.all (Tryz.prog.readableRec ·) && namedTie Tryz.prog Rows.dataOthersRow.named Rows.dataOthersSpec.vars && (Rows.dataOthersRow.stops == []) && (Tryz.prog.stops == []) && (Rows.dataOthersRow.knobs == []) && (Tryz.prog.stopKnobs == []) && (Rows.dataOthersRow.inPlace == Tryz.prog.inPlace 7) && (Rows.dataOthersRow.unfollowed == Tryz.prog.unfollowed 7) && (Rows.dataOthersRow.recurses == Tryz.prog.recurses 7) && (Rows.dataOthersRow.named == Tryz.prog.varsNamed 7) && (Rows.dataOthersRow.maps == (Tryz.f7.params.toList ++ Rows.dataOthersSpec.plain.varTypes Tryz.prog).any (Tryz.prog.mapsRec ·)) && (Rows.dataOthersRow.ifaces == (Tryz.f7.params.toList ++ Rows.dataOthersSpec.plain.varTypes Tryz.prog).any (Tryz.prog.ifacesRec ·)) && (Rows.dataOthersRow.mapsOut == Tryz.prog.mapsAmong Tryz.f7.resultTypes.toList) && (Rows.dataOthersRow.loops == (Tryz.f7.params.toList ++ Rows.dataOthersSpec.plain.varTypes Tryz.prog).any (Tryz.prog.loopsFrom ·)) && (Rows.dataOthersRow.wideKeys == (Tryz.f7.params.toList ++ Rows.dataOthersSpec.plain.varTypes Tryz.prog ++ Tryz.f7.resultTypes.toList).any (Tryz.prog.wideKeysFrom ·)) && Rows.dataOthersSpec.vars.all (Tryz.prog.varReadable ·) && Tryz.f7.resultTypes.all (fun t => Tryz.prog.readableRec t && decide (t < Tryz.prog.types.size)) && (Rows.dataOthersRow.ifacesOut == Tryz.f7.resultTypes.toList.any (Tryz.prog.ifacesRec ·)) && (Rows.dataOthersRow.loopsOut == Tryz.f7.resultTypes.toList.any (Tryz.prog.loopsFrom ·)) && (Rows.dataOthersRow.plainKeys == Tryz.prog.plainKeys) && Rows.dataOthersRow.shortTexts.isNone && Tryz.prog.stopsHeard && Tryz.prog.mayEnter && (Rows.dataOthersRow.lifted == Tryz.prog.liftsFinal) && (Tryz.prog.make == some Rows.dataOthersRow.make) && (Rows.dataOthersRow.kinds == (if Rows.dataOthersRow.domain.isEmpty then [] else Tryz.f7.params.toList.map fun t => match Tryz.prog.underlying t with | some (.int k) => some k | _ => none)) && (Rows.dataOthersRow.pinned == Rows.dataOthersRow.pinnedBy) && (Rows.dataOthersRow.veiled == (Tryz.f7.params.toList ++ Rows.dataOthersSpec.plain.varTypes Tryz.prog ++ Tryz.f7.resultTypes.toList).any (Tryz.prog.veiledRec ·)) && Rows.dataOthersRow.veiledFits Tryz.prog Tryz.f7.params.toList (Tryz.f7.params.toList ++ Rows.dataOthersSpec.plain.varTypes Tryz.prog ++ Tryz.f7.resultTypes.toList)) = true
  simp only [Bool.and_eq_true]
  exact ⟨⟨⟨⟨⟨⟨⟨⟨⟨⟨⟨⟨⟨⟨⟨⟨⟨⟨⟨⟨⟨⟨⟨⟨⟨⟨⟨⟨⟨⟨⟨k_wf, k_laid⟩, k_rowed⟩, k_read⟩, k_nt⟩, k_s1⟩, k_s2⟩, k_s3⟩, k_s4⟩, k_inplace⟩, k_unf⟩, k_rec⟩, k_named⟩, k_maps⟩, k_ifaces⟩, k_mapsout⟩, k_loops⟩, k_wide⟩, k_vars⟩, k_res⟩, k_ifout⟩, k_loout⟩, k_keys⟩, k_short⟩, k_heard⟩, k_enter⟩, k_lifted⟩, k_make⟩, k_kinds⟩, k_pinned⟩, k_veiled⟩, k_fits⟩
end Go.Proofs.YtogpmgjdmoglkaaGreatDoor.lawOthers
