/- Closed facts of the row of BuildPlain, one by one. -/
import Derived.Test.YtogpmgjdmoglkaaGreatDoorCards
import Derived.Test.YtogpmgjdmoglkaaGreatDoorTie
import Derived.ProofKit
import Derived.JoinedCond
import Derived.SevenTiedAt
set_option linter.unusedVariables false
set_option linter.unusedSimpArgs false
set_option maxRecDepth 100000
namespace Go.Proofs.YtogpmgjdmoglkaaGreatDoor.lawPlain
open Go

theorem k_wf : Rows.buildPlainRow.wf (OpenSpec.ofChange Rows.buildPlainSpec) = true := by kernel_rfl
theorem k_laid : laidOutB Tryz.prog = true := by kernel_rfl
theorem k_rowed : mapsRowed Tryz.prog = true := by kernel_rfl
theorem k_read : Tryz.f9.params.all (Tryz.prog.readableRec ·) = true := by kernel_rfl
theorem k_nt : namedTie Tryz.prog Rows.buildPlainRow.named Rows.buildPlainSpec.vars = true := by kernel_rfl
theorem k_s1 : (Rows.buildPlainRow.stops == []) = true := by kernel_rfl
theorem k_s2 : (Tryz.prog.stops == []) = true := by kernel_rfl
theorem k_s3 : (Rows.buildPlainRow.knobs == []) = true := by kernel_rfl
theorem k_s4 : (Tryz.prog.stopKnobs == []) = true := by kernel_rfl
theorem k_inplace : (Rows.buildPlainRow.inPlace == Tryz.prog.inPlace 9) = true := by kernel_rfl
theorem k_unf : (Rows.buildPlainRow.unfollowed == Tryz.prog.unfollowed 9) = true := by kernel_rfl
theorem k_rec : (Rows.buildPlainRow.recurses == Tryz.prog.recurses 9) = true := by kernel_rfl
theorem k_named : (Rows.buildPlainRow.named == Tryz.prog.varsNamed 9) = true := by kernel_rfl
theorem k_maps : (Rows.buildPlainRow.maps == (Tryz.f9.params.toList ++ Rows.buildPlainSpec.plain.varTypes Tryz.prog).any (Tryz.prog.mapsRec ·)) = true := by kernel_rfl
theorem k_ifaces : (Rows.buildPlainRow.ifaces == (Tryz.f9.params.toList ++ Rows.buildPlainSpec.plain.varTypes Tryz.prog).any (Tryz.prog.ifacesRec ·)) = true := by kernel_rfl
theorem k_mapsout : (Rows.buildPlainRow.mapsOut == Tryz.prog.mapsAmong Tryz.f9.resultTypes.toList) = true := by kernel_rfl
theorem k_loops : (Rows.buildPlainRow.loops == (Tryz.f9.params.toList ++ Rows.buildPlainSpec.plain.varTypes Tryz.prog).any (Tryz.prog.loopsFrom ·)) = true := by kernel_rfl
theorem k_wide : (Rows.buildPlainRow.wideKeys == (Tryz.f9.params.toList ++ Rows.buildPlainSpec.plain.varTypes Tryz.prog ++ Tryz.f9.resultTypes.toList).any (Tryz.prog.wideKeysFrom ·)) = true := by kernel_rfl
theorem k_vars : Rows.buildPlainSpec.vars.all (Tryz.prog.varReadable ·) = true := by kernel_rfl
theorem k_res : Tryz.f9.resultTypes.all (fun t => Tryz.prog.readableRec t && decide (t < Tryz.prog.types.size)) = true := by kernel_rfl
theorem k_ifout : (Rows.buildPlainRow.ifacesOut == Tryz.f9.resultTypes.toList.any (Tryz.prog.ifacesRec ·)) = true := by kernel_rfl
theorem k_loout : (Rows.buildPlainRow.loopsOut == Tryz.f9.resultTypes.toList.any (Tryz.prog.loopsFrom ·)) = true := by kernel_rfl
theorem k_keys : (Rows.buildPlainRow.plainKeys == Tryz.prog.plainKeys) = true := by kernel_rfl
theorem k_short : Rows.buildPlainRow.shortTexts.isNone = true := by kernel_rfl
theorem k_heard : Tryz.prog.stopsHeard = true := by kernel_rfl
theorem k_enter : Tryz.prog.mayEnter = true := by kernel_rfl
theorem k_lifted : (Rows.buildPlainRow.lifted == Tryz.prog.liftsFinal) = true := by kernel_rfl
theorem k_make : (Tryz.prog.make == some Rows.buildPlainRow.make) = true := by kernel_rfl
theorem k_kinds : (Rows.buildPlainRow.kinds == (if Rows.buildPlainRow.domain.isEmpty then [] else Tryz.f9.params.toList.map fun t => match Tryz.prog.underlying t with | some (.int k) => some k | _ => none)) = true := by kernel_rfl
theorem k_pinned : (Rows.buildPlainRow.pinned == Rows.buildPlainRow.pinnedBy) = true := by kernel_rfl
theorem k_veiled : (Rows.buildPlainRow.veiled == (Tryz.f9.params.toList ++ Rows.buildPlainSpec.plain.varTypes Tryz.prog ++ Tryz.f9.resultTypes.toList).any (Tryz.prog.veiledRec ·)) = true := by kernel_rfl
theorem k_fits : Rows.buildPlainRow.veiledFits Tryz.prog Tryz.f9.params.toList (Tryz.f9.params.toList ++ Rows.buildPlainSpec.plain.varTypes Tryz.prog ++ Tryz.f9.resultTypes.toList) = true := by kernel_rfl
theorem k_fn : Tryz.prog.funcNamed Rows.buildPlainRow.func = some 9 := by kernel_rfl
theorem k_wft : Rows.buildPlainRow.wfByText (OpenSpec.ofChange Rows.buildPlainSpec) = true := by kernel_rfl
theorem k_goes : false = Rows.buildPlainRow.goesBy Tryz.prog := by kernel_rfl
theorem k_looks : true = Tryz.prog.looks [] := by kernel_rfl
theorem closed : joinedFacts Tryz.prog 9 Tryz.f9 (OpenSpec.ofChange Rows.buildPlainSpec).bare Rows.buildPlainRow = true := by
  show (Rows.buildPlainRow.wf (OpenSpec.ofChange Rows.buildPlainSpec) && laidOutB Tryz.prog && mapsRowed Tryz.prog && Tryz.f9.params.all (Tryz.prog.readableRec ·) && namedTie Tryz.prog Rows.buildPlainRow.named Rows.buildPlainSpec.vars && (Rows.buildPlainRow.stops == []) && (Tryz.prog.stops == []) && (Rows.buildPlainRow.knobs == []) && (Tryz.prog.stopKnobs == []) && (Rows.buildPlainRow.inPlace == Tryz.prog.inPlace 9) && (Rows.buildPlainRow.unfollowed == Tryz.prog.unfollowed 9) && (Rows.buildPlainRow.recurses == Tryz.prog.recurses 9) && (Rows.buildPlainRow.named == Tryz.prog.varsNamed 9) && (Rows.buildPlainRow.maps == (Tryz.f9.params.toList ++ Rows.buildPlainSpec.plain.varTypes Tryz.prog).any (Tryz.prog.mapsRec ·)) && (Rows.buildPlainRow.ifaces == (Tryz.f9.params.toList ++ Rows.buildPlainSpec.plain.varTypes Tryz.prog).any (Tryz.prog.ifacesRec ·)) && (Rows.buildPlainRow.mapsOut == Tryz.prog.mapsAmong Tryz.f9.resultTypes.toList) && (Rows.buildPlainRow.loops == (Tryz.f9.params.toList ++ Rows.buildPlainSpec.plain.varTypes Tryz.prog).any (Tryz.prog.loopsFrom ·)) && (Rows.buildPlainRow.wideKeys == (Tryz.f9.params.toList ++ Rows.buildPlainSpec.plain.varTypes Tryz.prog ++ Tryz.f9.resultTypes.toList).any (Tryz.prog.wideKeysFrom ·)) && Rows.buildPlainSpec.vars.all (Tryz.prog.varReadable ·) && Tryz.f9.resultTypes.all (fun t => Tryz.prog.readableRec t && decide (t < Tryz.prog.types.size)) && (Rows.buildPlainRow.ifacesOut == Tryz.f9.resultTypes.toList.any (Tryz.prog.ifacesRec ·)) && (Rows.buildPlainRow.loopsOut == Tryz.f9.resultTypes.toList.any (Tryz.prog.loopsFrom ·)) && (Rows.buildPlainRow.plainKeys == Tryz.prog.plainKeys) && Rows.buildPlainRow.shortTexts.isNone && Tryz.prog.stopsHeard && Tryz.prog.mayEnter && (Rows.buildPlainRow.lifted == Tryz.prog.liftsFinal) && (Tryz.prog.make == some Rows.buildPlainRow.make) && (Rows.buildPlainRow.kinds == (if Rows.buildPlainRow.domain.isEmpty then [] else Tryz.f9.params.toList.map fun t => match Tryz.prog.underlying t with | some (.int k) => some k | _ => none)) && (Rows.buildPlainRow.pinned == Rows.buildPlainRow.pinnedBy) && (Rows.buildPlainRow.veiled == (Tryz.f9.params.toList ++ Rows.buildPlainSpec.plain.varTypes Tryz.prog ++ Tryz.f9.resultTypes.toList).any (Tryz.prog.veiledRec ·)) && Rows.buildPlainRow.veiledFits Tryz.prog Tryz.f9.params.toList (Tryz.f9.params.toList ++ Rows.buildPlainSpec.plain.varTypes Tryz.prog ++ Tryz.f9.resultTypes.toList)) = true
  simp only [Bool.and_eq_true]
  exact ⟨⟨⟨⟨⟨⟨⟨⟨⟨⟨⟨⟨⟨⟨⟨⟨⟨⟨⟨⟨⟨⟨⟨⟨⟨⟨⟨⟨⟨⟨⟨k_wf, k_laid⟩, k_rowed⟩, k_read⟩, k_nt⟩, k_s1⟩, k_s2⟩, k_s3⟩, k_s4⟩, k_inplace⟩, k_unf⟩, k_rec⟩, k_named⟩, k_maps⟩, k_ifaces⟩, k_mapsout⟩, k_loops⟩, k_wide⟩, k_vars⟩, k_res⟩, k_ifout⟩, k_loout⟩, k_keys⟩, k_short⟩, k_heard⟩, k_enter⟩, k_lifted⟩, k_make⟩, k_kinds⟩, k_pinned⟩, k_veiled⟩, k_fits⟩
end Go.Proofs.YtogpmgjdmoglkaaGreatDoor.lawPlain
