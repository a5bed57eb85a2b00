/- Closed facts of the row of DataBodies, one by one. -/
import Derived.Test.YtogpmgjdmoglkaaGreatDoorCards
import Derived.Test.YtogpmgjdmoglkaaGreatDoorTie
import Derived.ProofKit
import Derived.JoinedCond
import Derived.SevenTiedAt
set_option linter.unusedVariables false
set_option linter.unusedSimpArgs false
set_option maxRecDepth 100000
namespace Go.Proofs.YtogpmgjdmoglkaaGreatDoor.lawBodies
open Go

theorem k_wf : Rows.dataBodiesRow.wf (OpenSpec.ofChange Rows.dataBodiesSpec) = true := by kernel_rfl
theorem k_laid : laidOutB Tryz.prog = true := by kernel_rfl
theorem k_rowed : mapsRowed Tryz.prog = true := by kernel_rfl
theorem k_read : Tryz.f6.params.all (Tryz.prog.readableRec ·) = true := by kernel_rfl
theorem k_nt : namedTie Tryz.prog Rows.dataBodiesRow.named Rows.dataBodiesSpec.vars = true := by kernel_rfl
theorem k_s1 : (Rows.dataBodiesRow.stops == []) = true := by kernel_rfl
theorem k_s2 : (Tryz.prog.stops == []) = true := by kernel_rfl
theorem k_s3 : (Rows.dataBodiesRow.knobs == []) = true := by kernel_rfl
theorem k_s4 : (Tryz.prog.stopKnobs == []) = true := by kernel_rfl
theorem k_inplace : (Rows.dataBodiesRow.inPlace == Tryz.prog.inPlace 6) = true := by kernel_rfl
theorem k_unf : (Rows.dataBodiesRow.unfollowed == Tryz.prog.unfollowed 6) = true := by kernel_rfl
theorem k_rec : (Rows.dataBodiesRow.recurses == Tryz.prog.recurses 6) = true := by kernel_rfl
theorem k_named : (Rows.dataBodiesRow.named == Tryz.prog.varsNamed 6) = true := by kernel_rfl
theorem k_maps : (Rows.dataBodiesRow.maps == (Tryz.f6.params.toList ++ Rows.dataBodiesSpec.plain.varTypes Tryz.prog).any (Tryz.prog.mapsRec ·)) = true := by kernel_rfl
theorem k_ifaces : (Rows.dataBodiesRow.ifaces == (Tryz.f6.params.toList ++ Rows.dataBodiesSpec.plain.varTypes Tryz.prog).any (Tryz.prog.ifacesRec ·)) = true := by kernel_rfl
theorem k_mapsout : (Rows.dataBodiesRow.mapsOut == Tryz.prog.mapsAmong Tryz.f6.resultTypes.toList) = true := by kernel_rfl
theorem k_loops : (Rows.dataBodiesRow.loops == (Tryz.f6.params.toList ++ Rows.dataBodiesSpec.plain.varTypes Tryz.prog).any (Tryz.prog.loopsFrom ·)) = true := by kernel_rfl
theorem k_wide : (Rows.dataBodiesRow.wideKeys == (Tryz.f6.params.toList ++ Rows.dataBodiesSpec.plain.varTypes Tryz.prog ++ Tryz.f6.resultTypes.toList).any (Tryz.prog.wideKeysFrom ·)) = true := by kernel_rfl
theorem k_vars : Rows.dataBodiesSpec.vars.all (Tryz.prog.varReadable ·) = true := by kernel_rfl
theorem k_res : Tryz.f6.resultTypes.all (fun t => Tryz.prog.readableRec t && decide (t < Tryz.prog.types.size)) = true := by kernel_rfl
theorem k_ifout : (Rows.dataBodiesRow.ifacesOut == Tryz.f6.resultTypes.toList.any (Tryz.prog.ifacesRec ·)) = true := by kernel_rfl
theorem k_loout : (Rows.dataBodiesRow.loopsOut == Tryz.f6.resultTypes.toList.any (Tryz.prog.loopsFrom ·)) = true := by kernel_rfl
theorem k_keys : (Rows.dataBodiesRow.plainKeys == Tryz.prog.plainKeys) = true := by kernel_rfl
theorem k_short : Rows.dataBodiesRow.shortTexts.isNone = true := by kernel_rfl
theorem k_heard : Tryz.prog.stopsHeard = true := by kernel_rfl
theorem k_enter : Tryz.prog.mayEnter = true := by kernel_rfl
theorem k_lifted : (Rows.dataBodiesRow.lifted == Tryz.prog.liftsFinal) = true := by kernel_rfl
theorem k_make : (Tryz.prog.make == some Rows.dataBodiesRow.make) = true := by kernel_rfl
theorem k_kinds : (Rows.dataBodiesRow.kinds == (if Rows.dataBodiesRow.domain.isEmpty then [] else Tryz.f6.params.toList.map fun t => match Tryz.prog.underlying t with | some (.int k) => some k | _ => none)) = true := by kernel_rfl
theorem k_pinned : (Rows.dataBodiesRow.pinned == Rows.dataBodiesRow.pinnedBy) = true := by kernel_rfl
theorem k_veiled : (Rows.dataBodiesRow.veiled == (Tryz.f6.params.toList ++ Rows.dataBodiesSpec.plain.varTypes Tryz.prog ++ Tryz.f6.resultTypes.toList).any (Tryz.prog.veiledRec ·)) = true := by kernel_rfl
theorem k_fits : Rows.dataBodiesRow.veiledFits Tryz.prog Tryz.f6.params.toList (Tryz.f6.params.toList ++ Rows.dataBodiesSpec.plain.varTypes Tryz.prog ++ Tryz.f6.resultTypes.toList) = true := by kernel_rfl
theorem k_fn : Tryz.prog.funcNamed Rows.dataBodiesRow.func = some 6 := by kernel_rfl
theorem k_wft : Rows.dataBodiesRow.wfByText (OpenSpec.ofChange Rows.dataBodiesSpec) = true := by kernel_rfl
theorem k_goes : false = Rows.dataBodiesRow.goesBy Tryz.prog := by kernel_rfl
theorem k_looks : true = Tryz.prog.looks [] := by kernel_rfl
theorem closed : joinedFacts Tryz.prog 6 Tryz.f6 (OpenSpec.ofChange Rows.dataBodiesSpec).bare Rows.dataBodiesRow = true := by
  show (Rows.dataBodiesRow.wf (OpenSpec.ofChange Rows.dataBodiesSpec) && laidOutB Tryz.prog && mapsRowed Tryz.prog && Tryz.f6.params.all (Tryz.prog.readableRec ·) && namedTie Tryz.prog Rows.dataBodiesRow.named Rows.dataBodiesSpec.vars && (Rows.dataBodiesRow.stops == []) && (Tryz.prog.stops == []) && (Rows.dataBodiesRow.knobs == []) && (Tryz.prog.stopKnobs == []) && (Rows.dataBodiesRow.inPlace == Tryz.prog.inPlace 6) && (Rows.dataBodiesRow.unfollowed == Tryz.prog.unfollowed 6) && (Rows.dataBodiesRow.recurses == Tryz.prog.recurses 6) && (Rows.dataBodiesRow.named == Tryz.prog.varsNamed 6) && (Rows.dataBodiesRow.maps == (Tryz.f6.params.toList ++ Rows.dataBodiesSpec.plain.varTypes Tryz.prog).any (Tryz.prog.mapsRec ·)) && (Rows.dataBodiesRow.ifaces == (Tryz.f6.params.toList ++ Rows.dataBodiesSpec.plain.varTypes Tryz.prog).any (Tryz.prog.ifacesRec ·)) && (Rows.dataBodiesRow.mapsOut == Tryz.prog.mapsAmong Tryz.f6.resultTypes.toList) && (Rows.dataBodiesRow.loops == (Tryz.f6.params.toList ++ Rows.dataBodiesSpec.plain.varTypes Tryz.prog).any (Tryz.prog.loopsFrom ·)) && (Rows.dataBodiesRow.wideKeys == (Tryz.f6.params.toList ++ Rows.dataBodiesSpec.plain.varTypes Tryz.prog ++ Tryz.f6.resultTypes.toList).any (Tryz.prog.wideKeysFrom ·)) && Rows.dataBodiesSpec.vars.all (Tryz.prog.varReadable ·) && Tryz.f6.resultTypes.all (fun t => Tryz.prog.readableRec t && decide (t < Tryz.prog.types.size)) && (Rows.dataBodiesRow.ifacesOut == Tryz.f6.resultTypes.toList.any (Tryz.prog.ifacesRec ·)) && (Rows.dataBodiesRow.loopsOut == Tryz.f6.resultTypes.toList.any (Tryz.prog.loopsFrom ·)) && (Rows.dataBodiesRow.plainKeys == Tryz.prog.plainKeys) && Rows.dataBodiesRow.shortTexts.isNone && Tryz.prog.stopsHeard && Tryz.prog.mayEnter && (Rows.dataBodiesRow.lifted == Tryz.prog.liftsFinal) && (Tryz.prog.make == some Rows.dataBodiesRow.make) && (Rows.dataBodiesRow.kinds == (if Rows.dataBodiesRow.domain.isEmpty then [] else Tryz.f6.params.toList.map fun t => match Tryz.prog.underlying t with | some (.int k) => some k | _ => none)) && (Rows.dataBodiesRow.pinned == Rows.dataBodiesRow.pinnedBy) && (Rows.dataBodiesRow.veiled == (Tryz.f6.params.toList ++ Rows.dataBodiesSpec.plain.varTypes Tryz.prog ++ Tryz.f6.resultTypes.toList).any (Tryz.prog.veiledRec ·)) && Rows.dataBodiesRow.veiledFits Tryz.prog Tryz.f6.params.toList (Tryz.f6.params.toList ++ Rows.dataBodiesSpec.plain.varTypes Tryz.prog ++ Tryz.f6.resultTypes.toList)) = true
  simp only [Bool.and_eq_true]
  exact ⟨⟨⟨⟨⟨⟨⟨⟨⟨⟨⟨⟨⟨⟨⟨⟨⟨⟨⟨⟨⟨⟨⟨⟨⟨⟨⟨⟨⟨⟨⟨k_wf, k_laid⟩, k_rowed⟩, k_read⟩, k_nt⟩, k_s1⟩, k_s2⟩, k_s3⟩, k_s4⟩, k_inplace⟩, k_unf⟩, k_rec⟩, k_named⟩, k_maps⟩, k_ifaces⟩, k_mapsout⟩, k_loops⟩, k_wide⟩, k_vars⟩, k_res⟩, k_ifout⟩, k_loout⟩, k_keys⟩, k_short⟩, k_heard⟩, k_enter⟩, k_lifted⟩, k_make⟩, k_kinds⟩, k_pinned⟩, k_veiled⟩, k_fits⟩
end Go.Proofs.YtogpmgjdmoglkaaGreatDoor.lawBodies
