/- Walks: layer 18's escapes (build.escaped), and rows of bytes that are handed in. -/
import Derived.Test.YtogpmgjdmoglkaaGreatDoorHWe
import Derived.Test.YtogpmgjdmoglkaaGreatDoorHPu
set_option linter.unusedVariables false
set_option linter.unusedSimpArgs false
namespace Go.Proofs.YtogpmgjdmoglkaaGreatDoor
open Go.RowKit Pu

/-- A row of bytes that can be read, wherever it lies. -/
def RowB (v : Value) (l : Bs) (w : World) : Prop := ∃ A cap, v = .slice A l.length cap ∧ l.length ≤ cap ∧ ∀ j, (hj : j < l.length) → ∃ b off, A = some ⟨b, off, none⟩ ∧ w.cell? ⟨b, off + j, none⟩ = some (.int .u8 (l[j].toNat : Int))
theorem RowB.fr {v : Value} {l : Bs} {w w' : World} (h : RowB v l w) (hf : Fr w w') : RowB v l w' := by
  obtain ⟨A, cap, hv, hc, hr⟩ := h
  refine ⟨A, cap, hv, hc, fun j hj => ?_⟩
  obtain ⟨b, off, hA, h1⟩ := hr j hj
  exact ⟨b, off, hA, hf.cell h1⟩
theorem RowB.nil (w : World) : RowB (.slice none 0 0) [] w := ⟨none, 0, rfl, Nat.le_refl _, fun j hj => by cases hj⟩

def sgn4 : Bs := [45, 46, 95, 126]
theorem open_eq (c : UInt8) : openCh c = (letter (bI c) || digit (bI c) || sgn4.contains c) := by
  unfold openCh sgn4
  simp only [List.contains_cons, List.contains_nil, Bool.or_false, Bool.or_assoc]
theorem escaped_take (l : Bs) (k : Nat) (h : k < l.length) : escaped (l.take (k + 1)) = escaped (l.take k) ++ esc2C l[k] := by
  rw [List.take_succ_eq_append_getElem h]; simp only [escaped, List.flatMap_append]; simp
theorem escaped_le (l : Bs) : (escaped l).length ≤ 3 * l.length := by
  induction l with
  | nil => simp [escaped]
  | cons c r ih =>
    have : (esc2C c).length ≤ 3 := by unfold esc2C; split <;> simp [pct]
    simp [escaped] at ih ⊢
    omega

set_option maxHeartbeats 4000000 in
set_option maxRecDepth 100000 in
theorem escaped_any (l : Bs) (hl : l.length ≤ 1000000000) (v : Value) (w : World) (hv : RowB v l w) :
    Calls Tryz.prog 65 #[v] w fun e w' => e = .returned (S (escaped l)) ∧ Fr w w' := by
  obtain ⟨A, cap, rfl, hcap, hr0⟩ := hv
  have HR := Lib.hid hr0
  clear hr0
  have hb := Bld.new w
  go_enter Tryz.func65, Tryz.ntmps65
  go_wp2
  generalize w.alloc (.cells #[.pointer none, .slice none 0 0] 127) = w1 at *
  generalize w.heap.size = b at *
  go_loopw [8] (fun i wr => ∃ k : Nat, k ≤ l.length ∧ i = .int .i64 k ∧ Bld w b (escaped (l.take k)) wr) (fun i _ => l.length - (intOf i).toNat)
  case atStart => exact ⟨0, Nat.zero_le _, rfl, by simpa [escaped] using hb⟩
  case round =>
    obtain ⟨k, hk, rfl, hr⟩ := hrel
    by_cases hlt : k < l.length
    · obtain ⟨g, off, rfl, hc0⟩ := HR.out k hlt
      have hcell := hr.fr.cell hc0
      have hlen : (escaped (l.take k)).length ≤ 100000000000 := by
        have := escaped_le (l.take k)
        have h2 : (l.take k).length ≤ k := List.length_take_le _ _
        omega
      have hib := indexByte_has sgn4 l[k]
      have hop := open_eq l[k]
      have HT := Lib.hid (escaped_take l k hlt)
      have hu := u8_lt l[k]
      have hcb : (l[k].toNat : Int).toNat.toUInt8 = l[k] := by simp
      clear hc0
      cases h1 : letter (l[k].toNat : Int) with
      | true =>
        have HS : Hid (escaped (l.take (k + 1)) = escaped (l.take k) ++ [l[k]]) := Lib.hid (by rw [HT.out, esc2C, if_pos (by rw [hop]; simp [bI, h1])])
        clear hib hop HT HR hcb
        go_wp2_with (first
          | (go_at_call 82; refine (letter_any _ _).mono ?_; rintro e w' ⟨rfl, rfl⟩; rw [h1])
          | (go_at_call 153; refine (bld_byte hr hlen _).mono ?_; rintro e w' ⟨rfl, hr'⟩))
        go_roundw
        case rel => exact ⟨k + 1, by omega, by go_num, by rw [HS.out]; exact hr'⟩
        case measure => simp [intOf]; omega
      | false =>
        cases h2 : digit (l[k].toNat : Int) with
        | true =>
          have HS : Hid (escaped (l.take (k + 1)) = escaped (l.take k) ++ [l[k]]) := Lib.hid (by rw [HT.out, esc2C, if_pos (by rw [hop]; simp [bI, h2])])
          clear hib hop HT HR hcb
          go_wp2_with (first
            | (go_at_call 82; refine (letter_any _ _).mono ?_; rintro e w' ⟨rfl, rfl⟩; rw [h1])
            | (go_at_call 83; refine (digit_any _ _).mono ?_; rintro e w' ⟨rfl, rfl⟩; rw [h2])
            | (go_at_call 153; refine (bld_byte hr hlen _).mono ?_; rintro e w' ⟨rfl, hr'⟩))
          go_roundw
          case rel => exact ⟨k + 1, by omega, by go_num, by rw [HS.out]; exact hr'⟩
          case measure => simp [intOf]; omega
        | false =>
          have hop2 : openCh l[k] = sgn4.contains l[k] := by rw [hop]; simp [bI, h1, h2]
          rw [← hop2] at hib
          cases h3 : openCh l[k] with
          | true =>
            have HS : Hid (escaped (l.take (k + 1)) = escaped (l.take k) ++ [l[k]]) := Lib.hid (by rw [HT.out, esc2C, if_pos h3])
            rw [h3] at hib
            have h4 : 0 ≤ Lib.indexByte sgn4 l[k] := of_decide_eq_true hib
            unfold sgn4 at h4
            clear hib hop hop2 HT HR
            go_wp2_with (first
              | (go_at_call 82; refine (letter_any _ _).mono ?_; rintro e w' ⟨rfl, rfl⟩; rw [h1])
              | (go_at_call 83; refine (digit_any _ _).mono ?_; rintro e w' ⟨rfl, rfl⟩; rw [h2])
              | (go_at_call 84; refine (Tryz.strings_IndexByte _ _ _).mono ?_; rintro e w' ⟨rfl, hw⟩; have hw := hw.symm; subst hw)
              | (go_at_call 153; refine (bld_byte hr hlen _).mono ?_; rintro e w' ⟨rfl, hr'⟩))
            go_roundw
            case rel => exact ⟨k + 1, by omega, by go_num, by rw [HS.out]; exact hr'⟩
            case measure => simp [intOf]; omega
          | false =>
            have HS : Hid (escaped (l.take (k + 1)) = escaped (l.take k) ++ pct l[k]) := Lib.hid (by rw [HT.out, esc2C, if_neg (by simp [h3])])
            rw [h3] at hib
            have h4 : Lib.indexByte sgn4 l[k] < 0 := by have := of_decide_eq_false hib; omega
            have h5 : ¬ 0 ≤ Lib.indexByte sgn4 l[k] := by omega
            unfold sgn4 at h4 h5
            clear hib hop hop2 HT HR
            have q1 : IntKind.u8.wrap ((l[k].toNat : Int) / 16 + 1) = (l[k].toNat : Int) / 16 + 1 := u8_wrap _ (by omega) (by omega)
            have q2 : (l[k].toNat : Int) / 16 + 1 ≤ 16 := by omega
            have q3 : 0 ≤ (l[k].toNat : Int) / 16 := by omega
            have q4 : (l[k].toNat : Int) / 16 ≤ (l[k].toNat : Int) / 16 + 1 := by omega
            have q5 := digitsU_at ((l[k].toNat : Int) / 16) q3 (by omega)
            go_wp2_with (first
              | (go_at_call 82; refine (letter_any _ _).mono ?_; rintro e w' ⟨rfl, rfl⟩; rw [h1])
              | (go_at_call 83; refine (digit_any _ _).mono ?_; rintro e w' ⟨rfl, rfl⟩; rw [h2])
              | (go_at_call 84; refine (Tryz.strings_IndexByte _ _ _).mono ?_; rintro e w' ⟨rfl, hw⟩; have hw := hw.symm; subst hw))
            have q6 := and15 l[k]
            have q7 : IntKind.u8.wrap ((l[k].toNat : Int) % 16 + 1) = (l[k].toNat : Int) % 16 + 1 := u8_wrap _ (by omega) (by omega)
            have q8 : (l[k].toNat : Int) % 16 + 1 ≤ 16 := by omega
            have q9 : 0 ≤ (l[k].toNat : Int) % 16 := by omega
            have q10 : (l[k].toNat : Int) % 16 ≤ (l[k].toNat : Int) % 16 + 1 := by omega
            have q11 := digitsU_at ((l[k].toNat : Int) % 16) q9 (by omega)
            go_still_tail 14, (by kernel_rfl)
            clear hu q1 q2 q3 q4 q5 q6 q7 q8 q9 q10 q11
            have hr1 : Bld w b (escaped (l.take k)) wr.drew := hr.step (Fr.refl _).drew
            change wpList _ _ _ _ _ wr.drew
            generalize wr.drew = wr1 at *
            go_wp2_with fail
            rw [cat3]
            refine (bld_string hr1 (pct l[k]) hlen (by simp [pct])).mono ?_
            rintro e w' ⟨rfl, hr'⟩
            go_wp2
            go_roundw
            case rel => exact ⟨k + 1, by omega, by go_num, by rw [HS.out]; exact hr'⟩
            case measure => simp [intOf]; omega
    · obtain rfl : k = l.length := by omega
      rw [List.take_length] at hr
      go_wp2_with (go_at_call 152; refine (bld_done hr).mono ?_; rintro e w' ⟨rfl, hf⟩)
      go_ret
      exact ⟨rfl, hf⟩
end Go.Proofs.YtogpmgjdmoglkaaGreatDoor
