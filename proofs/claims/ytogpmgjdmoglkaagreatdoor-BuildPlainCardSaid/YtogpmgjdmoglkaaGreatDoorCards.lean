/-
  DERIVED. GIVEN WITH THE SEED: THE CARDS: each row of YtogpmgjdmoglkaaGreatDoorRows.lean that lists a variable, with what it lists TIED to the program's text (the seventh form; the later family's looks); each row that meets fmt, with fmt's text TOLD by the authors' own Lean function (tested against real Go, not proved from fmt's source: count such statements apart). THE CARD IS WHAT COUNTS. Prove the row's statement (the work); the ties are given (YtogpmgjdmoglkaaGreatDoorTie.lean); close each card by the builder's one call (the guide's Derived/Test/ToyasCard.lean, 'card_holds'). Laid BY PROGRAM, IN A SANDBOX (cutbox-door.mjs). By AI agents, Wed Nov 11 2026. No macro, syntax, notation, axiom, sorry.
-/
import Derived.Test.YtogpmgjdmoglkaaGreatDoorRows
import GoSem.ClaimSeven
namespace Go.Proofs.YtogpmgjdmoglkaaGreatDoor
namespace Rows

/-- THE TIED CARD OF 'carryalllaw17.DataSays'. -/
def dataSaysCard : Claim7 := { stood := { row := dataSaysRow, standIns := [], harness := (true, "3ebf76f6c7115ac5ded3f85acaf0eed8706bac575c0dde5283223eab7f53cc4f"), looks := true }, kinds := [], alts := [], laidByText := true, laidKinds := [.data, .data, .data, .data, .sentinel, .sentinel, .pinned], laidTests := true, laidLooks := .later }
def DataSaysCardSaid : Prop := Claim7.holds Tryz.pinned (.plain (OpenSpec.ofChange dataSaysSpec)) dataSaysCard

/-- THE TIED CARD OF 'carryalllaw17.DataAny'. -/
def dataAnyCard : Claim7 := { stood := { row := dataAnyRow, standIns := [], harness := (true, "3ebf76f6c7115ac5ded3f85acaf0eed8706bac575c0dde5283223eab7f53cc4f"), looks := true }, kinds := [], alts := [], laidByText := true, laidKinds := [.data, .data, .data, .data, .sentinel, .sentinel, .pinned], laidTests := true, laidLooks := .later }
def DataAnyCardSaid : Prop := Claim7.holds Tryz.pinned (.plain (OpenSpec.ofChange dataAnySpec)) dataAnyCard

/-- THE TIED CARD OF 'carryalllaw17.DataFragments'. -/
def dataFragmentsCard : Claim7 := { stood := { row := dataFragmentsRow, standIns := [], harness := (true, "3ebf76f6c7115ac5ded3f85acaf0eed8706bac575c0dde5283223eab7f53cc4f"), looks := true }, kinds := [], alts := [], laidByText := true, laidKinds := [.data, .data, .data, .data, .sentinel, .sentinel, .pinned], laidTests := true, laidLooks := .later }
def DataFragmentsCardSaid : Prop := Claim7.holds Tryz.pinned (.plain (OpenSpec.ofChange dataFragmentsSpec)) dataFragmentsCard

/-- THE TIED CARD OF 'carryalllaw17.DataBodies'. -/
def dataBodiesCard : Claim7 := { stood := { row := dataBodiesRow, standIns := [], harness := (true, "3ebf76f6c7115ac5ded3f85acaf0eed8706bac575c0dde5283223eab7f53cc4f"), looks := true }, kinds := [], alts := [], laidByText := true, laidKinds := [.data, .data, .data, .data, .sentinel, .sentinel, .pinned], laidTests := true, laidLooks := .later }
def DataBodiesCardSaid : Prop := Claim7.holds Tryz.pinned (.plain (OpenSpec.ofChange dataBodiesSpec)) dataBodiesCard

/-- THE TIED CARD OF 'carryalllaw17.DataOthers'. -/
def dataOthersCard : Claim7 := { stood := { row := dataOthersRow, standIns := [], harness := (true, "3ebf76f6c7115ac5ded3f85acaf0eed8706bac575c0dde5283223eab7f53cc4f"), looks := true }, kinds := [], alts := [], laidByText := true, laidKinds := [.data, .data, .data, .data, .sentinel, .sentinel, .pinned], laidTests := true, laidLooks := .later }
def DataOthersCardSaid : Prop := Claim7.holds Tryz.pinned (.plain (OpenSpec.ofChange dataOthersSpec)) dataOthersCard

/-- THE TIED CARD OF 'carryalllaw18.BuildMakes'. -/
def buildMakesCard : Claim7 := { stood := { row := buildMakesRow, standIns := [], harness := (true, "3ebf76f6c7115ac5ded3f85acaf0eed8706bac575c0dde5283223eab7f53cc4f"), looks := true }, kinds := [], alts := [], laidByText := true, laidKinds := [.data, .data, .data, .data, .sentinel, .sentinel, .pinned], laidTests := true, laidLooks := .later }
def BuildMakesCardSaid : Prop := Claim7.holds Tryz.pinned (.plain (OpenSpec.ofChange buildMakesSpec)) buildMakesCard

/-- THE TIED CARD OF 'carryalllaw18.BuildPlain'. -/
def buildPlainCard : Claim7 := { stood := { row := buildPlainRow, standIns := [], harness := (true, "3ebf76f6c7115ac5ded3f85acaf0eed8706bac575c0dde5283223eab7f53cc4f"), looks := true }, kinds := [], alts := [], laidByText := true, laidKinds := [.data, .data, .data, .data, .sentinel, .sentinel, .pinned], laidTests := true, laidLooks := .later }
def BuildPlainCardSaid : Prop := Claim7.holds Tryz.pinned (.plain (OpenSpec.ofChange buildPlainSpec)) buildPlainCard

/-- THE TIED CARD OF 'carryalllaw18.BuildAgain'. -/
def buildAgainCard : Claim7 := { stood := { row := buildAgainRow, standIns := [], harness := (true, "3ebf76f6c7115ac5ded3f85acaf0eed8706bac575c0dde5283223eab7f53cc4f"), looks := true }, kinds := [], alts := [], laidByText := true, laidKinds := [.data, .data, .data, .data, .sentinel, .sentinel, .pinned], laidTests := true, laidLooks := .later }
def BuildAgainCardSaid : Prop := Claim7.holds Tryz.pinned (.plain (OpenSpec.ofChange buildAgainSpec)) buildAgainCard

/-- THE TIED CARD OF 'carryalllaw18.BuildLong'. -/
def buildLongCard : Claim7 := { stood := { row := buildLongRow, standIns := [], harness := (true, "3ebf76f6c7115ac5ded3f85acaf0eed8706bac575c0dde5283223eab7f53cc4f"), looks := true }, kinds := [], alts := [], laidByText := true, laidKinds := [.data, .data, .data, .data, .sentinel, .sentinel, .pinned], laidTests := true, laidLooks := .later }
def BuildLongCardSaid : Prop := Claim7.holds Tryz.pinned (.plain (OpenSpec.ofChange buildLongSpec)) buildLongCard

/-- THE TIED CARD OF 'carryalllaw18.BuildBoth'. -/
def buildBothCard : Claim7 := { stood := { row := buildBothRow, standIns := [], harness := (true, "3ebf76f6c7115ac5ded3f85acaf0eed8706bac575c0dde5283223eab7f53cc4f"), looks := true }, kinds := [], alts := [], laidByText := true, laidKinds := [.data, .data, .data, .data, .sentinel, .sentinel, .pinned], laidTests := true, laidLooks := .later }
def BuildBothCardSaid : Prop := Claim7.holds Tryz.pinned (.plain (OpenSpec.ofChange buildBothSpec)) buildBothCard

/-- THE SECOND FORM's CARD OF 'carryalllaw17.DataSays'. -/
def dataSaysUptoCard : Claim7 := { stood := { row := dataSaysUptoRow, standIns := [], harness := (true, "3ebf76f6c7115ac5ded3f85acaf0eed8706bac575c0dde5283223eab7f53cc4f"), looks := true }, kinds := [], alts := [], laidByText := true, laidKinds := [.data, .data, .data, .data, .sentinel, .sentinel, .pinned], laidTests := true, laidLooks := .later }
def DataSaysUptoCardSaid : Prop := Claim7.holds Tryz.pinned (.plain (OpenSpec.upto dataSaysSpec)) dataSaysUptoCard

/-- THE SECOND FORM's CARD OF 'carryalllaw17.DataAny'. -/
def dataAnyUptoCard : Claim7 := { stood := { row := dataAnyUptoRow, standIns := [], harness := (true, "3ebf76f6c7115ac5ded3f85acaf0eed8706bac575c0dde5283223eab7f53cc4f"), looks := true }, kinds := [], alts := [], laidByText := true, laidKinds := [.data, .data, .data, .data, .sentinel, .sentinel, .pinned], laidTests := true, laidLooks := .later }
def DataAnyUptoCardSaid : Prop := Claim7.holds Tryz.pinned (.plain (OpenSpec.upto dataAnySpec)) dataAnyUptoCard

/-- THE SECOND FORM's CARD OF 'carryalllaw17.DataFragments'. -/
def dataFragmentsUptoCard : Claim7 := { stood := { row := dataFragmentsUptoRow, standIns := [], harness := (true, "3ebf76f6c7115ac5ded3f85acaf0eed8706bac575c0dde5283223eab7f53cc4f"), looks := true }, kinds := [], alts := [], laidByText := true, laidKinds := [.data, .data, .data, .data, .sentinel, .sentinel, .pinned], laidTests := true, laidLooks := .later }
def DataFragmentsUptoCardSaid : Prop := Claim7.holds Tryz.pinned (.plain (OpenSpec.upto dataFragmentsSpec)) dataFragmentsUptoCard

/-- THE SECOND FORM's CARD OF 'carryalllaw17.DataBodies'. -/
def dataBodiesUptoCard : Claim7 := { stood := { row := dataBodiesUptoRow, standIns := [], harness := (true, "3ebf76f6c7115ac5ded3f85acaf0eed8706bac575c0dde5283223eab7f53cc4f"), looks := true }, kinds := [], alts := [], laidByText := true, laidKinds := [.data, .data, .data, .data, .sentinel, .sentinel, .pinned], laidTests := true, laidLooks := .later }
def DataBodiesUptoCardSaid : Prop := Claim7.holds Tryz.pinned (.plain (OpenSpec.upto dataBodiesSpec)) dataBodiesUptoCard

/-- THE SECOND FORM's CARD OF 'carryalllaw17.DataOthers'. -/
def dataOthersUptoCard : Claim7 := { stood := { row := dataOthersUptoRow, standIns := [], harness := (true, "3ebf76f6c7115ac5ded3f85acaf0eed8706bac575c0dde5283223eab7f53cc4f"), looks := true }, kinds := [], alts := [], laidByText := true, laidKinds := [.data, .data, .data, .data, .sentinel, .sentinel, .pinned], laidTests := true, laidLooks := .later }
def DataOthersUptoCardSaid : Prop := Claim7.holds Tryz.pinned (.plain (OpenSpec.upto dataOthersSpec)) dataOthersUptoCard

/-- THE SECOND FORM's CARD OF 'carryalllaw18.BuildMakes'. -/
def buildMakesUptoCard : Claim7 := { stood := { row := buildMakesUptoRow, standIns := [], harness := (true, "3ebf76f6c7115ac5ded3f85acaf0eed8706bac575c0dde5283223eab7f53cc4f"), looks := true }, kinds := [], alts := [], laidByText := true, laidKinds := [.data, .data, .data, .data, .sentinel, .sentinel, .pinned], laidTests := true, laidLooks := .later }
def BuildMakesUptoCardSaid : Prop := Claim7.holds Tryz.pinned (.plain (OpenSpec.upto buildMakesSpec)) buildMakesUptoCard

/-- THE SECOND FORM's CARD OF 'carryalllaw18.BuildPlain'. -/
def buildPlainUptoCard : Claim7 := { stood := { row := buildPlainUptoRow, standIns := [], harness := (true, "3ebf76f6c7115ac5ded3f85acaf0eed8706bac575c0dde5283223eab7f53cc4f"), looks := true }, kinds := [], alts := [], laidByText := true, laidKinds := [.data, .data, .data, .data, .sentinel, .sentinel, .pinned], laidTests := true, laidLooks := .later }
def BuildPlainUptoCardSaid : Prop := Claim7.holds Tryz.pinned (.plain (OpenSpec.upto buildPlainSpec)) buildPlainUptoCard

/-- THE SECOND FORM's CARD OF 'carryalllaw18.BuildAgain'. -/
def buildAgainUptoCard : Claim7 := { stood := { row := buildAgainUptoRow, standIns := [], harness := (true, "3ebf76f6c7115ac5ded3f85acaf0eed8706bac575c0dde5283223eab7f53cc4f"), looks := true }, kinds := [], alts := [], laidByText := true, laidKinds := [.data, .data, .data, .data, .sentinel, .sentinel, .pinned], laidTests := true, laidLooks := .later }
def BuildAgainUptoCardSaid : Prop := Claim7.holds Tryz.pinned (.plain (OpenSpec.upto buildAgainSpec)) buildAgainUptoCard

/-- THE SECOND FORM's CARD OF 'carryalllaw18.BuildLong'. -/
def buildLongUptoCard : Claim7 := { stood := { row := buildLongUptoRow, standIns := [], harness := (true, "3ebf76f6c7115ac5ded3f85acaf0eed8706bac575c0dde5283223eab7f53cc4f"), looks := true }, kinds := [], alts := [], laidByText := true, laidKinds := [.data, .data, .data, .data, .sentinel, .sentinel, .pinned], laidTests := true, laidLooks := .later }
def BuildLongUptoCardSaid : Prop := Claim7.holds Tryz.pinned (.plain (OpenSpec.upto buildLongSpec)) buildLongUptoCard

/-- THE SECOND FORM's CARD OF 'carryalllaw18.BuildBoth'. -/
def buildBothUptoCard : Claim7 := { stood := { row := buildBothUptoRow, standIns := [], harness := (true, "3ebf76f6c7115ac5ded3f85acaf0eed8706bac575c0dde5283223eab7f53cc4f"), looks := true }, kinds := [], alts := [], laidByText := true, laidKinds := [.data, .data, .data, .data, .sentinel, .sentinel, .pinned], laidTests := true, laidLooks := .later }
def BuildBothUptoCardSaid : Prop := Claim7.holds Tryz.pinned (.plain (OpenSpec.upto buildBothSpec)) buildBothUptoCard
end Rows
end Go.Proofs.YtogpmgjdmoglkaaGreatDoor
