/- Walks: the document's decimal numbers and ports. -/
import Derived.Test.YtogpmgjdmoglkaaGreatDoorHVo
import Derived.Lib.ItoaMem
set_option linter.unusedVariables false
set_option linter.unusedSimpArgs false
namespace Go.Proofs.YtogpmgjdmoglkaaGreatDoor
open Go.RowKit Pu

theorem dec_small (n : Nat) (h : n < 10) : Lib.decDigits n = [UInt8.ofNat (48 + n)] := by rw [Lib.decDigits]; simp [h]
set_option maxRecDepth 100000 in
set_option maxHeartbeats 4000000 in
theorem decimal_any : ∀ (n : Nat), n < 18446744073709551616 → ∀ (w : World), Calls Tryz.prog 145 #[.int .u64 (n : Int)] w fun e w' => e = .returned (S (Lib.decDigits n)) ∧ Fr w w' := by
  intro n
  induction n using Nat.strongRecOn with
  | _ n ih =>
    intro hn w
    have hc : ((UInt8.ofNat (48 + n % 10)).toNat : Int) = 48 + (n : Int) % 10 := by simp; omega
    have ob : OwnB w w.heap.size [UInt8.ofNat (48 + n % 10)] (w.alloc (Obj.cells #[.int .u8 (48 + (n : Int) % 10)] 5)) := by
      refine ⟨Nat.le_refl _, fun j hj => ?_, fun j hj => ?_, (Fr.refl w).alloc _⟩
      · obtain rfl : j = 0 := by simp at hj; omega
        have B : Blk w.heap.size #[.int .u8 (48 + (n : Int) % 10)] 5 (w.alloc (Obj.cells #[.int .u8 (48 + (n : Int) % 10)] 5)) := ⟨heap_alloc_new w _⟩
        rw [B.cell (j := 0) rfl, ← hc]; rfl
      · have B : Blk w.heap.size #[.int .u8 (48 + (n : Int) % 10)] 5 (w.alloc (Obj.cells #[.int .u8 (48 + (n : Int) % 10)] 5)) := ⟨heap_alloc_new w _⟩
        exact B.free j
    have hs : (convert 34 9 (.slice (some ⟨w.heap.size, 0, none⟩) 1 1)).run Tryz.prog (w.alloc (Obj.cells #[.int .u8 (48 + (n : Int) % 10)] 5)) = .ok (S [UInt8.ofNat (48 + n % 10)]) (w.alloc (Obj.cells #[.int .u8 (48 + (n : Int) % 10)] 5)) := ob.str 1
    have hf := ob.fr
    clear ob hc
    by_cases h9 : n < 10
    · have h9z : ¬ (9 : Int) < (n : Int) := by omega
      have hq : Lib.decDigits n = [UInt8.ofNat (48 + n % 10)] := by rw [dec_small n h9, Nat.mod_eq_of_lt h9]
      rw [hq]
      generalize UInt8.ofNat (48 + n % 10) = c at *
      clear ih hq h9
      go_enter Tryz.func145, Tryz.ntmps145
      go_wp2
      go_ret
      exact ⟨rfl, hf⟩
    · have h9z : (9 : Int) < (n : Int) := by omega
      have hq : Lib.decDigits n = Lib.decDigits (n / 10) ++ [UInt8.ofNat (48 + n % 10)] := by rw [Lib.decDigits]; simp [h9]
      rw [hq]
      have hl : (Lib.decDigits (n / 10)).length ≤ 30 := by
        have := itoa_le ((n / 10 : Nat) : Int) (by omega) (by omega)
        rw [Lib.itoa_nonneg] at this; exact this
      have ih2 := ih (n / 10) (by omega) (by omega)
      have hcat := cat2 (Lib.decDigits (n / 10)) [UInt8.ofNat (48 + n % 10)]
      generalize Lib.decDigits (n / 10) = ds at *
      generalize UInt8.ofNat (48 + n % 10) = c at *
      clear ih hq h9
      go_enter Tryz.func145, Tryz.ntmps145
      go_wp2_with fail
      refine (ih2 _).mono ?_
      rintro e w2 ⟨rfl, f2⟩
      have n1 : ¬ 9223372036854775807 < ds.length + 1 := by omega
      go_wp2
      go_ret
      exact ⟨rfl, hf.trans f2⟩
set_option maxRecDepth 100000 in
set_option maxHeartbeats 4000000 in
theorem port_any (n : Int) (h0 : -9223372036854775808 ≤ n) (h1 : n ≤ 9223372036854775807) (w : World) : Calls Tryz.prog 60 #[.int .i64 n] w fun e w' => e = .returned (S (Lib.itoa n)) ∧ Fr w w' := by
  by_cases hn : n < 0
  · obtain ⟨u, rfl⟩ : ∃ u : Nat, n = -(u : Int) := ⟨n.natAbs, by omega⟩
    rw [Lib.itoa_neg u (by omega)]
    have hd := decimal_any u (by omega)
    have hl : (Lib.decDigits u).length ≤ 30 := by
      have := itoa_le (-(u : Int)) (by omega) (by omega)
      rw [Lib.itoa_neg u (by omega)] at this; simp at this; omega
    generalize Lib.decDigits u = ds at *
    have hcat := cat2 [45] ds
    have n1 : ¬ 9223372036854775807 < 1 + ds.length := by omega
    go_enter Tryz.func60, Tryz.ntmps60
    go_wp2_with fail
    rw [show (-(-(u : Int) + 1) + 1) = (u : Int) from by omega]
    refine (hd _).mono ?_
    rintro e w2 ⟨rfl, hf⟩
    go_wp2
    go_ret
    exact ⟨rfl, hf⟩
  · obtain ⟨u, rfl⟩ : ∃ u : Nat, n = (u : Int) := ⟨n.toNat, by omega⟩
    rw [Lib.itoa_nonneg]
    have hd := decimal_any u (by omega)
    have hnz : ¬ (u : Int) < 0 := by omega
    generalize Lib.decDigits u = ds at *
    go_enter Tryz.func60, Tryz.ntmps60
    go_wp2_with fail
    refine (hd _).mono ?_
    rintro e w2 ⟨rfl, hf⟩
    go_wp2
    go_ret
    exact ⟨rfl, hf⟩
end Go.Proofs.YtogpmgjdmoglkaaGreatDoor
