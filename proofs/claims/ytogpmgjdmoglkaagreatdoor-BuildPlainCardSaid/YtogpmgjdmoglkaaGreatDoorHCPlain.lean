/- THE CARD OF carryalllaw18.BuildPlain: of a plain type, and any bytes, in both ways, there is a data URL, which says them. For every type and every bytes. Conditions: package-level variables of Go's library (seven) begin as its text lays them. -/
import Derived.Test.YtogpmgjdmoglkaaGreatDoorHYe
import Derived.Test.YtogpmgjdmoglkaaGreatDoorHYi
import Derived.Test.YtogpmgjdmoglkaaGreatDoorHZe
import Derived.Test.YtogpmgjdmoglkaaGreatDoorHFPlain
set_option linter.unusedVariables false
set_option linter.unusedSimpArgs false
set_option maxRecDepth 100000
namespace Go.Proofs.YtogpmgjdmoglkaaGreatDoor.lawPlain
open Go.ChangeShapes Go.WideShapes Go.ChangeAt Go.RowKit Pu

theorem reads : ∀ t ∈ Tryz.f9.params.toList, Tryz.prog.readableRec t = true ∧ t < Tryz.prog.types.size := by
  rw [Tryz.params9]
  intro t ht
  simp only [List.mem_cons, List.mem_nil_iff, or_false] at ht
  rcases ht with rfl | rfl
  · exact ⟨by kernel_rfl, of_decide_eq_true (by kernel_rfl)⟩
  · exact ⟨by kernel_rfl, of_decide_eq_true (by kernel_rfl)⟩
theorem contract (H : Type) (enc : TypeId × Value → H) (W : World) (base : Nat) (args : Array Value) (ds gs : List (DataW H)) (before : List MemPlace)
    (hval : ∀ (j : Nat) t v, Tryz.f9.params[j]? = some t → args[j]? = some v → Value.okWide Tryz.prog W .any base t v)
    (hW : DataW.Whole enc Tryz.prog Tryz.f9.params.toList Rows.buildPlainSpec.vars false W args.toList ds gs before) (hL : laidMetH Tryz.prog Rows.buildPlainRow.laid W) (hS : W.ShapedOpen Tryz.prog)
    (hsz : (DataW.weightsEach Tryz.prog (Tryz.f9.params.toList ++ (OpenSpec.ofChange Rows.buildPlainSpec).bare.plain.varTypes Tryz.prog) (ds ++ gs)).all (· ≤ reachBytes) = true) :
    Calls Tryz.prog 9 args W fun e W' => ∃ v, e = .returned v ∧ Rows.buildPlainSpec.post enc Tryz.prog Tryz.f9 false true false false W args v W' := by
  have hE := env_of hL hS
  have hW' := hW
  obtain ⟨p, q, hA0, hV, rfl, hfz, hnd⟩ := hW
  have hA : DataW.TrodAll enc Tryz.prog W 0 (fun _ => true) true Tryz.f9.params.toList args.toList ds p := hA0
  rw [Tryz.params9] at hA hval hsz
  obtain ⟨v0, v1, d0, d1, p0, p1, rfl, rfl, rfl, h0, h1⟩ := trodAll_two hA
  have hwt : ∀ (j : Nat) (t : TypeId) (d : DataW H), (#[33, 34] : Array TypeId).toList[j]? = some t → ([d0, d1] : List (DataW H))[j]? = some d → ∀ k ∈ d.weights Tryz.prog t, k ≤ reachBytes := fun j t d hj hd k hk => by
    have hjl : j < (#[33, 34] : Array TypeId).toList.length := (List.getElem?_eq_some_iff.1 hj).1
    have hjd : j < ([d0, d1] : List (DataW H)).length := (List.getElem?_eq_some_iff.1 hd).1
    have := List.all_eq_true.1 hsz k (DataW.weights_mem_each (j := j) (by rw [List.getElem?_append_left hjl]; exact hj) (by rw [List.getElem?_append_left hjd]; exact hd) k hk)
    simpa using this
  obtain ⟨m0, A0, cap0, rfl, hcap0, hlong0, hrow0⟩ := open_mime (hval 0 _ v0 rfl rfl) h0 (hwt 0 _ _ rfl rfl)
  obtain ⟨l1, hl1⟩ := open_bytes (hval 1 _ v1 rfl rfl) h1
  refine (plain_any m0 hlong0 l1 A0 cap0 hcap0 v1 W hE hrow0 hl1).mono fun e W' ⟨he, hf⟩ => ?_
  subst he
  exact ⟨_, rfl, post_law laid_out Tryz.underlying4 hW' rfl (by kernel_rfl) rfl reads hf.out⟩

theorem witness (os : Os) {H : Type} (enc : TypeId × Value → H) :
    (OpenSpec.ofChange Rows.buildPlainSpec).preRow enc Tryz.prog Tryz.f9 Rows.buildPlainRow.domain false Rows.buildPlainRow.laid ((laidWorld os).forCall (fun _ _ => 0) ⟨#[], #[.agg #[.string ⟨#[]⟩, .string ⟨#[]⟩, .slice none 0 0], .slice none 0 0], []⟩).memory #[.agg #[.string ⟨#[]⟩, .string ⟨#[]⟩, .slice none 0 0], .slice none 0 0] := by
  have hw : (DataW.whole enc Tryz.prog ((laidWorld os).forCall (fun _ _ => 0) ⟨#[], #[.agg #[.string ⟨#[]⟩, .string ⟨#[]⟩, .slice none 0 0], .slice none 0 0], []⟩).memory Tryz.f9.params.toList Rows.buildPlainSpec.vars false (#[.agg #[.string ⟨#[]⟩, .string ⟨#[]⟩, .slice none 0 0], .slice none 0 0] : Array Value).toList 8).map (fun x => (x.1, x.2.1)) =
      some ([.agg [.lit (.string []), .lit (.string []), .nil], .nil], []) := by kernel_rfl
  obtain ⟨⟨x1, x2, x3⟩, hx, hx1⟩ := Option.map_eq_some_iff.1 hw
  simp only [Prod.mk.injEq] at hx1
  obtain ⟨rfl, rfl⟩ := hx1
  exact OpenSpec.preRow_of_cond 8 hx (by kernel_rfl) (fun k hk => by cases hk) (by kernel_rfl) (laid_met os _)

theorem lifted (os : Os) (started : os.Started) (H : Type) (enc : TypeId × Value → H) (F : Stop.Interp) :
    ReturnsInHanded {} Tryz.checked os 9 .any ((OpenSpec.ofChange Rows.buildPlainSpec).preRow enc Tryz.prog Tryz.f9 Rows.buildPlainRow.domain false Rows.buildPlainRow.laid) (((OpenSpec.ofChange Rows.buildPlainSpec).at F).post enc Tryz.prog Tryz.f9 false true false false) := by
  refine returnsInHanded_of_row (C := Tryz.checked) (s := OpenSpec.ofChange Rows.buildPlainSpec) own_knob started (by kernel_rfl) Tryz.func9
    (witness_row_atRef (enc := enc) (C := Tryz.checked) false (laidWorld os) #[.agg #[.string ⟨#[]⟩, .string ⟨#[]⟩, .slice none 0 0], .slice none 0 0] rfl (by kernel_rfl) (by kernel_rfl) (by kernel_rfl) (witness os enc)) ?_
  intro W base args ds gs before hval hW _ _ hsz hL hS _
  exact contract H enc W base args ds gs before hval hW hL hS hsz

theorem inst : Tryz.f9.isInstance Tryz.pinned.checked.prog Rows.buildPlainRow.origin Rows.buildPlainRow.targs := of_decide_eq_true (by kernel_rfl)
theorem wrap : Tryz.f9.isWrapper Tryz.pinned.checked.prog Rows.buildPlainRow.wrapper Rows.buildPlainRow.mainSum := by
  unfold Func.isWrapper; first | (rw [if_pos (by decide +kernel)]; kernel_rfl) | (rw [if_neg (by decide +kernel)]; exact ⟨rfl, rfl⟩)
theorem said : Rows.BuildPlainSaid :=
  OpenClaim.holds_of_cond 9 Tryz.f9 rfl rfl rfl rfl rfl rfl rfl ⟨rfl, rfl, rfl, rfl, rfl⟩ rfl rfl rfl rfl rfl k_fn Tryz.func9 closed inst wrap
    (fun os started H enc _ F => by rw [OpenClaim.pre_eq_preRow]; exact lifted os started H enc F)

theorem plain (f : FuncId) (fn : Func) (hf : Tryz.pinned.checked.prog.funcNamed "carryall/carryalllaw18.BuildPlain" = some f) (hfn : Tryz.pinned.checked.prog.funcs[f]? = some fn) :
    true = Tryz.pinned.checked.prog.looks [] ∧ ∀ (j : Nat) t, fn.params[j]? = some t → Tryz.pinned.checked.prog.wantsStandIn t = false := by
  obtain rfl : f = 9 := Option.some.inj (k_fn.symm.trans hf) |>.symm
  obtain rfl : fn = Tryz.f9 := (Option.some.inj (Tryz.func9.symm.trans hfn)).symm
  refine ⟨k_looks, fun j t ht => ?_⟩
  rw [Tryz.params9] at ht
  have hm := Array.mem_of_getElem? ht
  simp only [List.mem_toArray, List.mem_cons, List.mem_nil_iff, or_false] at hm
  rcases hm with rfl | rfl
  · exact (show Tryz.prog.wantsStandIn 33 = false by kernel_rfl)
  · exact (show Tryz.prog.wantsStandIn 34 = false by kernel_rfl)
theorem k_main : Tryz.pinned.checked.prog.mainIs = some (Rows.buildPlainCard.stood.harness.1, Rows.buildPlainCard.stood.harness.2.toList) := by kernel_rfl
/-- THE CARD. -/
theorem card : Rows.BuildPlainCardSaid :=
  Claim7.holds_tied_plain_at .later [] _ _ _ _ said (fun _ h => by cases h) k_wft (fun _ h => by cases h) buildPlain_row_tie rfl ⟨rfl, rfl⟩ k_main rfl plain k_goes
end Go.Proofs.YtogpmgjdmoglkaaGreatDoor.lawPlain
