/- Walks: package utf's functions on letters; a text in small letters. -/
import Derived.Lib.ConvBytes
import Derived.Test.YtogpmgjdmoglkaaGreatDoorHWb
import Derived.Test.YtogpmgjdmoglkaaGreatDoorHPu
set_option linter.unusedVariables false
set_option linter.unusedSimpArgs false
namespace Go.Proofs.YtogpmgjdmoglkaaGreatDoor
open Go.RowKit Pu

theorem letter_any (n : Int) (w : World) : Calls Tryz.prog 82 #[.int .u8 n] w fun e w' => e = .returned (.bool (letter n)) ∧ w = w' := by
  unfold letter
  by_cases h1 : 65 ≤ n <;> by_cases h2 : n ≤ 90 <;> by_cases h3 : 97 ≤ n <;> by_cases h4 : n ≤ 122 <;> simp only [h1, h2, h3, h4, decide_true, decide_false, Bool.and_true, Bool.and_false, Bool.or_true, Bool.or_false, Bool.true_or, Bool.false_or] <;>
  (go_enter Tryz.func82, Tryz.ntmps82
   go_wp2
   go_ret
   exact ⟨rfl, rfl⟩)
theorem digit_any (n : Int) (w : World) : Calls Tryz.prog 83 #[.int .u8 n] w fun e w' => e = .returned (.bool (digit n)) ∧ w = w' := by
  unfold digit
  by_cases h1 : 48 ≤ n <;> by_cases h2 : n ≤ 57 <;> simp only [h1, h2, decide_true, decide_false, Bool.and_true, Bool.and_false] <;>
  (go_enter Tryz.func83, Tryz.ntmps83
   go_wp2
   go_ret
   exact ⟨rfl, rfl⟩)
theorem hex_any (n : Int) (h0 : 0 ≤ n) (h1 : n ≤ 255) (w : World) : Calls Tryz.prog 122 #[.int .u8 n] w fun e w' => e = .returned (.int .i64 (hex n)) ∧ w = w' := by
  have hd : digit n = true ↔ 48 ≤ n ∧ n ≤ 57 := by simp [digit]
  have HD := Lib.hid hd
  clear hd
  go_enter Tryz.func122, Tryz.ntmps122
  go_wp2_with (go_at_call 83; refine (digit_any _ _).mono ?_; rintro e w' ⟨rfl, rfl⟩)
  all_goals go_ret
  all_goals refine ⟨ret_i ?_, rfl⟩
  all_goals simp only [hex]
  all_goals
    have hq := HD.out
    cases hb : digit n
    · have hq' : ¬ (48 ≤ n ∧ n ≤ 57) := fun h => by have := hq.2 h; rw [hb] at this; cases this
      first | (exfalso; simp_all; done) | ((repeat' split) <;> omega)
    · have hq' := hq.1 hb
      first | (exfalso; simp_all; done) | ((repeat' split) <;> omega)

set_option maxRecDepth 100000 in
theorem lowC_all : ∀ c : Fin 256, ((lowC ⟨⟨c⟩⟩).toNat : Int) = if 65 ≤ c.val ∧ c.val ≤ 90 then (c.val : Int) + 32 else c.val := by decide
theorem lowC_yes (c : UInt8) (h : 65 ≤ (c.toNat : Int)) (h2 : (c.toNat : Int) ≤ 90) : ((lowC c).toNat : Int) = (c.toNat : Int) + 32 := by
  have := lowC_all c.toFin
  rw [if_pos ⟨by have : c.toFin.val = c.toNat := rfl; omega, by have : c.toFin.val = c.toNat := rfl; omega⟩] at this
  exact this
theorem lowC_no (c : UInt8) (h : ¬ (65 ≤ (c.toNat : Int) ∧ (c.toNat : Int) ≤ 90)) : lowC c = c := by
  unfold lowC
  rw [if_neg (by omega)]

/-- The bytes, the first k of them in small letters. -/
def lowTo (k : Nat) (l : Bs) : Bs := lower (l.take k) ++ l.drop k
theorem lowTo_length (k : Nat) (l : Bs) : (lowTo k l).length = l.length := by simp [lowTo, lower]; omega
theorem lowTo_at (k : Nat) (l : Bs) (h : k < l.length) : (lowTo k l).getD k 0 = l[k] := by
  have h1 : (lower (l.take k)).length = k := by simp [lower]; omega
  rw [List.getD_eq_getElem?_getD, lowTo, List.getElem?_append_right (by omega), h1]
  simp [h]
theorem lowTo_succ (k : Nat) (l : Bs) (h : k < l.length) : lowTo (k + 1) l = (lowTo k l).set k (lowC l[k]) := by
  have h1 : (lower (l.take k)).length = k := by simp [lower]; omega
  unfold lowTo
  rw [List.set_append_right _ _ (by omega), h1, Nat.sub_self, List.drop_eq_getElem_cons h, List.set_cons_zero, List.take_succ_eq_append_getElem h]
  simp [lower, List.append_assoc]
  rw [List.take_succ_eq_append_getElem (by simpa using h)]
  simp
theorem lowTo_end (l : Bs) : lowTo l.length l = lower l := by simp [lowTo]
theorem lowTo_zero (l : Bs) : lowTo 0 l = l := by simp [lowTo, lower]

theorem lowTo_same (k : Nat) (l : Bs) (h : k < l.length) (hc : lowC l[k] = l[k]) : lowTo (k + 1) l = lowTo k l := by
  rw [lowTo_succ k l h, hc]
  have h2 := lowTo_at k l h
  apply List.ext_getElem (by simp)
  intro i h3 h4
  rw [List.getElem_set]
  split
  · rename_i e
    subst e
    rw [List.getD_eq_getElem?_getD, List.getElem?_eq_getElem h4, Option.getD_some] at h2
    exact h2.symm
  · rfl

set_option maxRecDepth 100000 in
set_option maxHeartbeats 400000 in
theorem lower_any (l : Bs) (hl : l.length ≤ 1000000000) (w : World) : Calls Tryz.prog 85 #[S l] w fun e w' => e = .returned (S (lower l)) ∧ Fr w w' := by
  have kc := fun (w : World) (s : ByteArray) => Lib.run_convert_string_bytes (P := Tryz.prog) w 9 34 5 s Tryz.underlying9 Tryz.underlying34 Tryz.underlying5
  have ho := OwnB.conv w l
  go_enter Tryz.func85, Tryz.ntmps85
  go_wp2
  generalize Lib.bytesWorld w 5 ⟨l.toArray⟩ = w1 at *
  generalize grownCap w _ 0 5 = cap
  generalize w.heap.size = g at *
  clear kc
  go_loopw [10] (fun i wr => ∃ k : Nat, k ≤ l.length ∧ i = .int .i64 k ∧ OwnB w g (lowTo k l) wr) (fun i _ => l.length - (intOf i).toNat)
  case atStart => exact ⟨0, Nat.zero_le _, rfl, by rw [lowTo_zero]; exact ho⟩
  case round =>
    obtain ⟨k, hk, rfl, hr⟩ := hrel
    by_cases hlt : k < l.length
    · have hcell := hr.cell k (by rw [lowTo_length]; exact hlt)
      have hfree := hr.free k (by rw [lowTo_length]; exact hlt)
      rw [lowTo_at k l hlt] at hcell
      have hs := hr.set k (by rw [lowTo_length]; exact hlt) (lowC l[k])
      rw [← lowTo_succ k l hlt] at hs
      go_wp2
      all_goals refine ⟨⟨k + 1, by omega, by go_num, ?_⟩, by simp [intOf]; omega⟩
      all_goals first
        | (rw [show ((l[k].toNat : Int) + 97 - 65) = ((lowC l[k]).toNat : Int) from by rw [lowC_yes _ ‹_› ‹_›]; omega]; exact hs)
        | (rw [lowTo_same k l hlt (lowC_no _ (by omega))]; exact hr)
    · obtain rfl : k = l.length := by omega
      rw [lowTo_end] at hr
      have hs := hr.str cap
      have hll : (lower l).length = l.length := by simp [lower]
      rw [hll] at hs
      go_wp2
      go_ret
      exact ⟨rfl, hr.fr⟩
end Go.Proofs.YtogpmgjdmoglkaaGreatDoor
