/- Walks: law17's awake. -/
import Derived.Test.YtogpmgjdmoglkaaGreatDoorHVm
import Derived.Test.YtogpmgjdmoglkaaGreatDoorHWw
set_option linter.unusedVariables false
set_option linter.unusedSimpArgs false
namespace Go.Proofs.YtogpmgjdmoglkaaGreatDoor
open Go.RowKit Pu

def aw17 : Bs := [59, 98, 97, 115, 101, 54, 52, 44, 89, 81]
def awU : Url := { scheme := sData, port := -1, opq := true, text := aw17 }
theorem aw17_url : dataUrl aw17 = awU := dataUrl_plain aw17 (by decide)
theorem aw17_clean : cleanL (sData ++ 58 :: aw17) = sData ++ 58 :: aw17 := clean_plain _ (by decide) (by decide) (by decide)
theorem awU_proc : procOf awU = (0, fallback, [97]) := by decide
theorem awU_short : Short awU := by constructor <;> decide
theorem field2 (a b v : Value) (w : World) : (Instr.field 33 (.agg #[a, b, v]) 2).run Tryz.prog w = .ok v w := by
  have a1 := Tryz.underlying33
  unfold Instr.field
  rw [Sem.run_bind, run_underlying a1]
  simp only [Result.andThen_ok]
  have a9 := Tryz.isAgg31
  have z9 := Tryz.sizeOf31
  go_simp
  simp [asAgg]
set_option maxRecDepth 100000 in
set_option maxHeartbeats 4000000 in
theorem awake17_any (w : World) (hE : Env w) : Calls Tryz.prog 13 #[] w fun e w' => e = .returned (.bool true) ∧ Fr w w' := by
  have HP := Lib.hid (fun w hE => parse_data (sData ++ 58 :: aw17) aw17 (by decide) aw17_clean (by decide) w hE)
  rw [aw17_url] at HP
  have HD : Hid (∀ w, Env w → Calls Tryz.prog 16 #[urlV awU (.slice none 0 0)] w (ProcPost awU w)) := Lib.hid fun w hE => process_any awU awU_short (by decide) _ w hE (Row1.nil w)
  have HX : Hid (∀ w e w', ProcPost awU w e w' → ∃ v x, e = .returned (.tuple #[.agg #[S fallback.type, S fallback.sub, v], x, .int .i64 0]) ∧ OwnM w v fallback.params w' ∧ OwnS w x [97] w') := Lib.hid fun w e w' h => by
    unfold ProcPost at h; rw [awU_proc] at h; exact h
  have HE : Hid (∀ v w, Calls Tryz.prog 32 #[.agg #[S fallback.type, S fallback.sub, v]] w fun e w' => e = .returned (S [116, 101, 120, 116, 47, 112, 108, 97, 105, 110]) ∧ Fr w w') := Lib.hid fun v w => essence_any fallback (by decide) (by decide) v w
  unfold urlV at HP HD
  go_enter Tryz.func13, Tryz.ntmps13
  go_wp2_with fail
  refine (HP.out _ hE).mono ?_
  rintro e w1 ⟨rfl, f1⟩
  clear HP
  go_wp2_with fail
  have f2 := f1.alloc (Obj.cells #[S awU.scheme, S awU.user, S awU.pass, S awU.host, .bool awU.hasHost, .int .i64 awU.port, .bool awU.opq, S awU.text, .slice none 0 0, .bool awU.hasQuery, .bool awU.hasFrag, S awU.query, S awU.frag] 25)
  refine (HD.out _ (hE.fr f2)).mono ?_
  intro e w2 hpost
  obtain ⟨v, x, rfl, ov, ox⟩ := HX.out _ _ _ hpost
  clear hpost HD HX
  have hf2 := f2.trans ov.fr
  clear f1 f2
  obtain ⟨A1, cap1, rfl⟩ := ov.slice
  obtain ⟨A2, cap2, rfl⟩ := ox.slice
  have hstr := ox.str
  have hfa := fallback_any
  have hfl : fallback.params.length = 1 := rfl
  unfold mimeV at hfa
  generalize awU = U at *
  generalize fallback = fb at *
  generalize (w1.alloc _) = w1b at ov ox
  clear ov
  have HS : Hid (∀ o, (convert 34 9 (.slice A2 [(97 : UInt8)].length cap2)).run Tryz.prog (w2.alloc o) = .ok (S [97]) (w2.alloc o)) := Lib.hid fun o => (ox.step ((Fr.refl w2).alloc o)).str
  have hs2 : (convert 34 9 (.slice A2 1 cap2)).run Tryz.prog (w2.alloc (Obj.cells #[S fb.type, S fb.sub, .slice A1 1 cap1] 33)) = .ok (S [97]) (w2.alloc (Obj.cells #[S fb.type, S fb.sub, .slice A1 1 cap1] 33)) := HS.out _
  clear HS hstr
  go_wp2_with fail
  have hf3 := hf2.alloc (Obj.cells #[S fb.type, S fb.sub, .slice A1 1 cap1] 33)
  refine (HE.out _ _).mono ?_
  rintro e w3 ⟨rfl, f4⟩
  clear hs2
  go_wp2_with fail
  refine (hfa _).mono ?_
  rintro e w4 ⟨v4, rfl, o4⟩
  obtain ⟨A4, cap4, rfl⟩ := o4.slice
  have hfd := fun w => field2 (S fb.type) (S fb.sub) (.slice A4 1 cap4) w
  go_wp2
  go_ret
  exact ⟨rfl, hf3.trans (f4.trans o4.fr)⟩
end Go.Proofs.YtogpmgjdmoglkaaGreatDoor
