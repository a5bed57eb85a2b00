/- Walks: build.Plain at a type without parameters; law18's awake. -/
import Derived.Test.YtogpmgjdmoglkaaGreatDoorHXf
import Derived.Lib.SlBytesConst
set_option linter.unusedVariables false
set_option linter.unusedSimpArgs false
namespace Go.Proofs.YtogpmgjdmoglkaaGreatDoor
open Go.RowKit Pu

theorem contains_one (s : Bs) (c : UInt8) (w : World) : Calls Tryz.prog 72 #[S s, S [c]] w fun e w' => e = .returned (.bool (s.contains c)) ∧ w' = w := by
  have := Tryz.strings_Contains_one ⟨s.toArray⟩ c w
  rw [show (⟨s.toArray⟩ : ByteArray).data.toList = s from rfl, indexByte_has] at this
  exact this
set_option maxRecDepth 100000 in
set_option maxHeartbeats 4000000 in
theorem bplain_nil (ty sub : Bs) (h1 : ty.length ≤ 1000000) (h2 : sub.length ≤ 1000000) (w : World) (hE : Env w) : Calls Tryz.prog 30 #[.agg #[S ty, S sub, .slice none 0 0]] w fun e w' => e = .returned (.bool (plainM ⟨ty, sub, []⟩)) ∧ Fr w w' := by
  have HRt : Hid (∀ w2, Fr w w2 → Calls Tryz.prog 62 #[.agg #[S ty, S sub, .slice none 0 0]] w2 fun e w' => e = .returned (.bool (mright ⟨ty, sub, []⟩)) ∧ Fr w2 w') := Lib.hid fun w2 hf => mright_any ⟨ty, sub, []⟩ ⟨h1, h2, by simp, fun p hp => by cases hp⟩ none 0 (by simp) w2 (hE.fr hf) (Row2.nil w2)
  have HEs : Hid (∀ w2, Calls Tryz.prog 32 #[.agg #[S ty, S sub, .slice none 0 0]] w2 fun e w' => e = .returned (S (ty ++ 47 :: sub)) ∧ Fr w2 w') := Lib.hid fun w2 => essence_any ⟨ty, sub, []⟩ (by simp only; omega) (by simp only; omega) (.slice none 0 0) w2
  have HP : Hid (plainM ⟨ty, sub, []⟩ = (mright ⟨ty, sub, []⟩ && !((ty ++ 47 :: sub).contains 35))) := Lib.hid (by
    unfold plainM
    simp)
  have HCo : Hid (∀ w, Calls Tryz.prog 72 #[S (ty ++ 47 :: sub), S [35]] w fun e w' => e = .returned (.bool ((ty ++ 47 :: sub).contains 35)) ∧ w' = w) := Lib.hid fun w => contains_one _ 35 w
  generalize (ty ++ 47 :: sub).contains 35 = d at *
  generalize ty ++ 47 :: sub = E at *
  have F1 : Fr w (w.alloc (Obj.cells #[S ty, S sub, .slice none 0 0] 33)) := (Fr.refl w).alloc _
  have B1 : Blk w.heap.size #[S ty, S sub, .slice none 0 0] 33 (w.alloc (Obj.cells #[S ty, S sub, .slice none 0 0] 33)) := ⟨heap_alloc_new w _⟩
  cases hmr : mright ⟨ty, sub, []⟩ with
  | false =>
    rw [hmr] at HRt HP
    go_enter Tryz.func30, Tryz.ntmps30
    go_wp2_with fail
    refine (HRt.out _ F1).mono ?_
    rintro e w2 ⟨rfl, f2⟩
    have k2 : w2.cell? ⟨w.heap.size, 2, none⟩ = some (.slice none 0 0) := (B1.fr f2).cell rfl
    go_wp2
    go_loopw [3, 18] (fun o i wr => o = .bool false ∧ i = .int .i64 0 ∧ wr = w2) (fun _ _ _ => 0)
    case atStart => exact ⟨rfl, rfl, rfl⟩
    case round =>
      obtain ⟨rfl, rfl, rfl⟩ := hrel
      go_wp2
      go_ret
      exact ⟨ret_b (by rw [HP.out]; rfl), F1.trans f2⟩
  | true =>
    rw [hmr] at HRt HP
    go_enter Tryz.func30, Tryz.ntmps30
    go_wp2_with fail
    refine (HRt.out _ F1).mono ?_
    rintro e w2 ⟨rfl, f2⟩
    have k0 : w2.cell? ⟨w.heap.size, 0, none⟩ = some (S ty) := (B1.fr f2).cell rfl
    have k1 : w2.cell? ⟨w.heap.size, 1, none⟩ = some (S sub) := (B1.fr f2).cell rfl
    have k2 : w2.cell? ⟨w.heap.size, 2, none⟩ = some (.slice none 0 0) := (B1.fr f2).cell rfl
    go_wp2_with fail
    refine (HEs.out _).mono ?_
    rintro e w3 ⟨rfl, f3⟩
    go_wp2_with fail
    refine (HCo.out _).mono ?_
    rintro e w4 ⟨rfl, hw⟩
    have hw := hw.symm
    subst hw
    have k2 : w3.cell? ⟨w.heap.size, 2, none⟩ = some (.slice none 0 0) := f3.cell k2
    have HP2 : Hid ((!d) = plainM ⟨ty, sub, []⟩) := Lib.hid (by rw [HP.out]; rfl)
    clear HP
    go_wp2
    go_loopw [3, 18] (fun o i wr => o = .bool (!d) ∧ i = .int .i64 0 ∧ wr = w3) (fun _ _ _ => 0)
    case atStart => exact ⟨rfl, rfl, rfl⟩
    case round =>
      obtain ⟨rfl, rfl, rfl⟩ := hrel
      go_wp2
      go_ret
      exact ⟨ret_b HP2.out, (F1.trans f2).trans f3⟩

def mTP : Mime := ⟨[116, 101, 120, 116], [112, 108, 97, 105, 110], []⟩
theorem mTP_build : buildD mTP [97, 32, 98] false = ([100, 97, 116, 97, 58, 116, 101, 120, 116, 47, 112, 108, 97, 105, 110, 44, 97, 37, 50, 48, 98], 0) := by
  have h := build_plain (fun _ _ => none) mTP [97, 32, 98] false (by decide) (by decide)
  rw [buildD_eq] at h
  have h1 := h.1
  have e : dataText mTP [97, 32, 98] false = [100, 97, 116, 97, 58, 116, 101, 120, 116, 47, 112, 108, 97, 105, 110, 44, 97, 37, 50, 48, 98] := by decide
  rw [e] at h1
  injection h1 with h2 h3
  exact Prod.ext h2 (by omega)
theorem mAB_plain : plainM ⟨[97], [98], []⟩ = true := by decide
theorem three_row (w : World) : RowB (.slice (some ⟨w.heap.size, 0, none⟩) 3 3) [97, 32, 98] (w.alloc (Obj.cells #[.int .u8 97, .int .u8 32, .int .u8 98] 5 (3, 4))) := by
  refine ⟨_, 3, rfl, by decide, fun j hj => ⟨w.heap.size, 0, rfl, ?_⟩⟩
  have hj3 : j < 3 := hj
  rw [Nat.zero_add, World.cell?_alloc_mark]
  have : j = 0 ∨ j = 1 ∨ j = 2 := by omega
  rcases this with rfl | rfl | rfl <;> rfl
set_option maxRecDepth 100000 in
set_option maxHeartbeats 4000000 in
theorem awake18_any (w : World) (hE : Env w) : Calls Tryz.prog 26 #[] w fun e w' => e = .returned (.bool true) ∧ Fr w w' := by
  have F1 : Fr w (w.alloc (Obj.cells #[.int .u8 97, .int .u8 32, .int .u8 98] 5 (3, 4))) := (Fr.refl w).alloc _
  have HB := Lib.hid (bbuild_any mTP ⟨by decide, by decide, by decide, fun p hp => by cases hp⟩ [97, 32, 98] (by decide) false none 0 (by decide) _ _ (hE.fr F1) (Row2.nil _) (three_row w))
  rw [mTP_build] at HB
  unfold mimeV mTP at HB
  simp only [List.length_nil] at HB
  have HPl : Hid (∀ w, Env w → Calls Tryz.prog 30 #[.agg #[S [97], S [98], .slice none 0 0]] w fun e w' => e = .returned (.bool true) ∧ Fr w w') := Lib.hid fun w h => by
    have := bplain_nil [97] [98] (by decide) (by decide) w h
    rw [mAB_plain] at this
    exact this
  have kc := fun (w : World) (C : Array Value) (n c : Nat) => Lib.run_convert_bytes_const (P := Tryz.prog) w 34 5 C n c Tryz.underlying34 Tryz.underlying5
  go_enter Tryz.func26, Tryz.ntmps26
  go_wp2_with fail
  refine HB.out.mono ?_
  rintro e w2 ⟨rfl, f2⟩
  go_wp2_with fail
  refine (HPl.out _ (hE.fr (F1.trans f2))).mono ?_
  rintro e w3 ⟨rfl, f3⟩
  go_wp2
  go_ret
  exact ⟨rfl, (F1.trans f2).trans f3⟩
end Go.Proofs.YtogpmgjdmoglkaaGreatDoor
