/- Walks: data.based, data.Fallback. -/
import Derived.Test.YtogpmgjdmoglkaaGreatDoorHVk
import Derived.Test.YtogpmgjdmoglkaaGreatDoorHVh
import Derived.Test.YtogpmgjdmoglkaaGreatDoorHPu
set_option linter.unusedVariables false
set_option linter.unusedSimpArgs false
namespace Go.Proofs.YtogpmgjdmoglkaaGreatDoor
open Go.RowKit Pu

theorem isSp_in : hasIn [32] = isSp := by funext c; simp [hasIn, isSp]; rw [Bool.eq_iff_iff]; simp
theorem suf59 (t : Bs) : Lib.hasSuffix t [59] = decide (t.getLast? = some 59) := by
  unfold Lib.hasSuffix
  rw [Bool.eq_iff_iff, List.isSuffixOf_iff_suffix, decide_eq_true_iff]
  constructor
  · rintro ⟨p, rfl⟩; simp
  · intro h
    have hne : t ≠ [] := by intro e; rw [e] at h; cases h
    have ht := List.dropLast_concat_getLast hne
    rw [List.getLast?_eq_some_getLast hne] at h
    injection h with h
    rw [h] at ht
    exact ⟨_, ht⟩
theorem csuf_any (t : Bs) (hl : t.length ≤ 4000000000) (w : World) : Calls Tryz.prog 123 #[S t, S [59]] w fun e w' => e = .returned (.tuple #[S (if t.getLast? = some 59 then t.dropLast else t), .bool (decide (t.getLast? = some 59))]) ∧ w' = w := by
  have := Tryz.strings_CutSuffix ⟨t.toArray⟩ ⟨[59].toArray⟩ w (by rw [ba_size]; omega)
  simp only [Lib.trimSuffix, suf59] at this
  refine this.mono ?_
  rintro e w' ⟨rfl, rfl⟩
  refine ⟨?_, rfl⟩
  by_cases h : t.getLast? = some 59
  · simp only [h, decide_true, if_true]
    congr 4
    simp [take_last]
  · simp only [h, decide_false, if_false]
    simp
set_option maxRecDepth 100000 in
set_option maxHeartbeats 4000000 in
theorem based_any (l : Bs) (hl : l.length ≤ 1000000000) (w : World) : Calls Tryz.prog 45 #[S l] w fun e w' => e = .returned (.tuple #[S (based l).1, .bool (based l).2]) ∧ Fr w w' := by
  have hsz := ba_size l
  by_cases h6 : l.length < 6
  · have h0 : (l.length : Int) - 6 < 0 := by omega
    have hq : based l = (l, false) := by unfold based; rw [if_pos h6]
    rw [hq]
    clear h6 hq
    go_enter Tryz.func45, Tryz.ntmps45
    go_wp2
    go_ret2
    exact ⟨rfl, Fr.refl _⟩
  · have h0 : decide ((l.length : Int) - 6 < 0) = false := decide_eq_false (by omega)
    have hdr := drop_S' l (l.length - 6)
    have htk := take_S' l (l.length - 6)
    have hld : (l.drop (l.length - 6)).length = 6 := by simp; omega
    have hlt : (l.take (l.length - 6)).length ≤ l.length := by simp
    by_cases hw : lower (l.drop (l.length - 6)) = word64
    · have HL : Hid (∀ w, Calls Tryz.prog 85 #[.string ((⟨l.toArray⟩ : ByteArray).extract (l.length - 6) l.length)] w fun e w' => e = .returned (S word64) ∧ Fr w w') := Lib.hid fun w => by
        have := lower_any (l.drop (l.length - 6)) (by omega) w
        rw [hw] at this
        rw [hdr]
        exact this
      have HR : Hid (∀ w, Calls Tryz.prog 124 #[.string ((⟨l.toArray⟩ : ByteArray).extract 0 (l.length - 6)), S [32]] w fun e w' => e = .returned (S (trimR isSp (l.take (l.length - 6)))) ∧ Fr w w') := Lib.hid fun w => by
        have := trimRight_call [32] (l.take (l.length - 6)) (by simp) (by decide) (by omega) w
        rw [isSp_in] at this
        rw [htk]
        exact this
      have htr := trimR_len isSp (l.take (l.length - 6))
      have hq : based l = if (trimR isSp (l.take (l.length - 6))).getLast? = some 59 then ((trimR isSp (l.take (l.length - 6))).dropLast, true) else (l, false) := by unfold based; rw [if_neg h6, if_pos hw]
      rw [hq]
      have hwe : word64 = [98, 97, 115, 101, 54, 52] := rfl
      rw [hwe] at HL
      clear hw hq hdr htk hwe
      have hll : 6 ≤ l.length := by omega
      generalize trimR isSp (l.take (l.length - 6)) = T at *
      have hcs := fun w => csuf_any T (by omega) w
      by_cases h59 : T.getLast? = some 59
      · simp only [h59, if_true, decide_true] at hcs ⊢
        clear h6 h59
        go_enter Tryz.func45, Tryz.ntmps45
        go_wp2_with fail
        refine (HL.out _).mono ?_
        rintro e w2 ⟨rfl, f1⟩
        go_wp2_with fail
        refine (HR.out _).mono ?_
        rintro e w3 ⟨rfl, f2⟩
        go_wp2_with fail
        refine (hcs _).mono ?_
        rintro e w4 ⟨rfl, rfl⟩
        go_wp2
        go_ret2
        exact ⟨rfl, f1.trans f2⟩
      · simp only [h59, if_false, decide_false] at hcs ⊢
        clear h6 h59
        go_enter Tryz.func45, Tryz.ntmps45
        go_wp2_with fail
        refine (HL.out _).mono ?_
        rintro e w2 ⟨rfl, f1⟩
        go_wp2_with fail
        refine (HR.out _).mono ?_
        rintro e w3 ⟨rfl, f2⟩
        go_wp2_with fail
        refine (hcs _).mono ?_
        rintro e w4 ⟨rfl, rfl⟩
        go_wp2
        go_ret2
        exact ⟨rfl, f1.trans f2⟩
    · have hlow := lower_any (l.drop (l.length - 6)) (by omega)
      have hq : based l = (l, false) := by unfold based; rw [if_neg h6, if_neg hw]
      rw [hq]
      have HL : Hid (∀ w, Calls Tryz.prog 85 #[.string ((⟨l.toArray⟩ : ByteArray).extract (l.length - 6) l.length)] w fun e w' => e = .returned (S (lower (l.drop (l.length - 6)))) ∧ Fr w w') := Lib.hid fun w => by
        rw [hdr]
        exact hlow w
      have hne : (lower (l.drop (l.length - 6)) == [98, 97, 115, 101, 54, 52]) = false := by rw [beq_eq_false_iff_ne]; exact hw
      have hne2 : (lower (l.drop (l.length - 6)) != [98, 97, 115, 101, 54, 52]) = true := by rw [bne, hne]; rfl
      have hll : 6 ≤ l.length := by omega
      generalize lower (l.drop (l.length - 6)) = X at *
      clear hlow hw hdr htk hq h6
      go_enter Tryz.func45, Tryz.ntmps45
      go_wp2_with fail
      refine (HL.out _).mono ?_
      rintro e w2 ⟨rfl, f1⟩
      go_wp2
      go_ret2
      exact ⟨rfl, f1⟩
set_option maxRecDepth 100000 in
theorem fallback_any (w : World) : Calls Tryz.prog 19 #[] w fun e w' => ∃ v, e = .returned (mimeV fallback v) ∧ OwnM w v fallback.params w' := by
  have r0 := Tryz.results19
  go_enter Tryz.func19, Tryz.ntmps19
  go_wp2
  generalize hA : Obj.cells #[Value.string ⟨#[116, 101, 120, 116]⟩, .string ⟨#[112, 108, 97, 105, 110]⟩, .slice (some ⟨w.heap.size + 1, 0, none⟩) 1 1] 33 = A
  have hsz : (Tryz.prog.info? 33).map (·.size) = some 3 := by kernel_rfl
  have h1 := ((Fr.refl (w.alloc A)).alloc (Obj.cells #[Value.string ⟨#[99, 104, 97, 114, 115, 101, 116]⟩, .string ⟨#[85, 83, 45, 65, 83, 67, 73, 73]⟩] 82)).heap (heap_alloc_new w A)
  have h2 := heap_alloc_new (w.alloc A) (Obj.cells #[Value.string ⟨#[99, 104, 97, 114, 115, 101, 116]⟩, .string ⟨#[85, 83, 45, 65, 83, 67, 73, 73]⟩] 82)
  have hfr := (((Fr.refl w).alloc A).alloc (Obj.cells #[Value.string ⟨#[99, 104, 97, 114, 115, 101, 116]⟩, .string ⟨#[85, 83, 45, 65, 83, 67, 73, 73]⟩] 82))
  have hs : (w.alloc A).heap.size = w.heap.size + 1 := by simp
  rw [hs] at h2
  generalize (w.alloc A).alloc (Obj.cells #[Value.string ⟨#[99, 104, 97, 114, 115, 101, 116]⟩, .string ⟨#[85, 83, 45, 65, 83, 67, 73, 73]⟩] 82) = W at *
  rw [← hA] at h1
  have hld := run_loadVar_row (P := Tryz.prog) W w.heap.size 33 33 _ (0, 0) _ h1 Tryz.underlying33 rfl hsz
  refine bodyPost_ret (v := .agg #[Value.string ⟨#[116, 101, 120, 116]⟩, .string ⟨#[112, 108, 97, 105, 110]⟩, .slice (some ⟨w.heap.size + 1, 0, none⟩) 1 1]) (by simp [results, r0, asAddr, hld]) rfl ⟨.slice (some ⟨w.heap.size + 1, 0, none⟩) 1 1, rfl, ⟨rfl, .inr ⟨w.heap.size + 1, 1, _, rfl, by omega, h2, by decide, by unfold maxLen; omega, rfl, rfl⟩⟩, hfr⟩
end Go.Proofs.YtogpmgjdmoglkaaGreatDoor
