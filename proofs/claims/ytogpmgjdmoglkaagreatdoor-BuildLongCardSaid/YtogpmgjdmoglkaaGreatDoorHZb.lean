/- The law BuildLong: the walk. -/
import Derived.Test.YtogpmgjdmoglkaaGreatDoorHZa
set_option linter.unusedVariables false
set_option linter.unusedSimpArgs false
namespace Go.Proofs.YtogpmgjdmoglkaaGreatDoor
open Go.RowKit Pu

def mAB : Mime := ⟨[97], [98], []⟩
theorem escaped_ge (b : Bs) : b.length ≤ (escaped b).length := by
  induction b with
  | nil => simp
  | cons c r ih =>
    have : 1 ≤ (esc2C c).length := by unfold esc2C; split <;> simp [pct]
    simp [escaped] at ih ⊢; omega
theorem long_build (l : Bs) (h : 65536 ≤ l.length) (letters : Bool) : buildD mAB l letters = ([], 3) := by
  have hlen : 65536 < (dataText mAB l letters).length := by
    have h1 := escaped_ge l
    have h2 := enc64_length l
    unfold dataText dataTail
    cases letters
    · simp; omega
    · simp [sB64]; omega
  unfold buildD
  rw [if_neg (by decide), if_pos hlen]
def fillC (c : UInt8) (k n : Nat) : Bs := List.replicate k c ++ List.replicate (n - k) 0
theorem fillC_len (c : UInt8) (k n : Nat) (h : k ≤ n) : (fillC c k n).length = n := by simp [fillC]; omega
theorem fillC_set (c : UInt8) (k n : Nat) (h : k < n) : (fillC c k n).set k c = fillC c (k + 1) n := by
  unfold fillC
  rw [List.set_append_right _ _ (by simp)]
  obtain ⟨d, hd⟩ : ∃ d, n - k = d + 1 := ⟨n - k - 1, by omega⟩
  rw [hd, show n - (k + 1) = d by omega, List.replicate_succ, List.replicate_succ']
  simp
theorem fillC_end (c : UInt8) (n : Nat) : fillC c n n = List.replicate n c := by simp [fillC]
theorem made_own (w : World) (n : Nat) : OwnB w w.heap.size (fillC 0 0 n) (w.alloc (.cells (madeCells #[.int .u8 0] n) 5)) := by
  have hf : fillC 0 0 n = List.replicate n 0 := by simp [fillC]
  have hsz : (madeCells #[.int .u8 0] n).size = n := by simp [madeCells]
  rw [hf]
  refine ⟨Nat.le_refl _, fun j hj => ?_, fun j hj => ?_, (Fr.refl w).alloc _⟩
  · have B : Blk w.heap.size (madeCells #[.int .u8 0] n) 5 (w.alloc (.cells (madeCells #[.int .u8 0] n) 5)) := ⟨heap_alloc_new w _⟩
    simp at hj
    refine B.cell ?_
    rw [Array.getElem?_eq_getElem (by omega)]
    simp [madeCells, hj, Nat.mod_one]
  · have B : Blk w.heap.size (madeCells #[.int .u8 0] n) 5 (w.alloc (.cells (madeCells #[.int .u8 0] n) 5)) := ⟨heap_alloc_new w _⟩
    exact B.free j
theorem OwnB.rowB {w0 w : World} {g cap : Nat} {xs : Bs} (h : OwnB w0 g xs w) (hc : xs.length ≤ cap) : RowB (.slice (some ⟨g, 0, none⟩) xs.length cap) xs w :=
  ⟨_, cap, rfl, hc, fun j hj => ⟨g, 0, rfl, by rw [Nat.zero_add, h.cell j hj, getD_at xs j hj]⟩⟩
set_option maxRecDepth 100000 in
set_option maxHeartbeats 4000000 in
theorem long_any (c : UInt8) (more : Nat) (hm : more ≤ 255) (w : World) (hE : Env w) : Calls Tryz.prog 11 #[.int .u8 (c.toNat : Int), .int .u8 (more : Int)] w fun e w' => e = .returned (.bool true) ∧ Fr w w' := by
  obtain ⟨i0, hi, hz0, hz1, hz2⟩ := info_parts byte_info
  obtain ⟨N, hN⟩ : ∃ N, N = 65536 + more := ⟨_, rfl⟩
  have hmk : ∀ u : World, (Instr.makeSlice 34 (.int .i64 (65536 + (more : Int))) (.int .i64 (65536 + (more : Int)))).run Tryz.prog u =
      .ok (.slice (some ⟨u.heap.size, 0, none⟩) N N) (u.alloc (.cells (madeCells #[.int .u8 0] N) 5)) := fun u => by
    have h := run_make (P := Tryz.prog) u 34 5 i0 (.int .u8 0) Tryz.underlying34 hi hz0 .i64 .i64 (65536 + (more : Int)) (65536 + (more : Int)) (by omega) (Int.le_refl _) (by rw [hz2]; omega) (by omega)
    have e : (65536 + (more : Int)).toNat = N := by omega
    rw [e] at h
    simpa [hz1, Value.cells] using h
  have hN2 : N ≤ 70000 := by omega
  have hN3 : 65536 ≤ N := by omega
  have HA : Hid (∀ w, Env w → Calls Tryz.prog 26 #[] w fun e w' => e = .returned (.bool true) ∧ Fr w w') := Lib.hid awake18_any
  have HB : Hid (∀ (letters : Bool) (vb : Value) (w : World), Env w → RowB vb (List.replicate N c) w → Calls Tryz.prog 28 #[.agg #[S [97], S [98], .slice none 0 0], vb, .bool letters] w fun e w' => e = .returned (.tuple #[S [], .int .i64 3]) ∧ Fr w w') := Lib.hid fun letters vb w hE hv => by
    have := bbuild_any mAB ⟨by decide, by decide, by decide, fun p hp => by cases hp⟩ (List.replicate N c) (by simp; omega) letters none 0 (by decide) vb w hE (Row2.nil w) hv
    rw [long_build _ (by simp; omega)] at this
    exact this
  have hcu := u8_lt c
  clear hi hz0 hz1 hz2 hN
  go_enter Tryz.func11, Tryz.ntmps11
  go_wp2_with fail
  refine (HA.out _ hE).mono ?_
  rintro e w1 ⟨rfl, f1⟩
  have hown := made_own w1 N
  go_wp2
  generalize w1.heap.size = g at *
  generalize w1.alloc _ = w2 at *
  go_loopw [20] (fun i wr => ∃ k : Nat, k ≤ N ∧ i = .int .i64 k ∧ OwnB w1 g (fillC c k N) wr) (fun i _ => N - (intOf i).toNat)
  case atStart => exact ⟨0, by omega, rfl, hown⟩
  case round =>
    obtain ⟨k, hk, rfl, hr⟩ := hrel
    clear hown
    by_cases hlt : k < N
    · have hlen := fillC_len c k N hk
      have hc0 := hr.cell k (by omega)
      have hz0 := hr.free k (by omega)
      have hr2 := hr.set k (by omega) c
      rw [fillC_set c k N hlt] at hr2
      clear hlen
      go_wp2
      exact ⟨⟨k + 1, by omega, by go_num, hr2⟩, by simp [intOf]; omega⟩
    · obtain rfl : k = N := by omega
      rw [fillC_end] at hr
      have hrow : RowB (.slice (some ⟨g, 0, none⟩) k k) (List.replicate k c) wr := by
        have := hr.rowB (cap := k) (by simp)
        simpa using this
      have f2 := f1.trans hr.fr
      have fM : Fr wr (wr.alloc (Obj.cells #[S [97], S [98], .slice none 0 0] 33)) := (Fr.refl wr).alloc _
      have M : Blk wr.heap.size #[S [97], S [98], .slice none 0 0] 33 (wr.alloc (Obj.cells #[S [97], S [98], .slice none 0 0] 33)) := ⟨heap_alloc_new wr _⟩
      clear hmk hr
      go_wp2_with fail
      refine (HB.out true _ _ (hE.fr (f2.trans fM)) (hrow.fr fM)).mono ?_
      rintro e w3 ⟨rfl, f3⟩
      have k0 : w3.cell? ⟨wr.heap.size, 0, none⟩ = some (S [97]) := (M.fr f3).cell rfl
      have k1 : w3.cell? ⟨wr.heap.size, 1, none⟩ = some (S [98]) := (M.fr f3).cell rfl
      have k2 : w3.cell? ⟨wr.heap.size, 2, none⟩ = some (.slice none 0 0) := (M.fr f3).cell rfl
      go_wp2_with fail
      refine (HB.out false _ _ (hE.fr ((f2.trans fM).trans f3)) ((hrow.fr fM).fr f3)).mono ?_
      rintro e w4 ⟨rfl, f4⟩
      go_wp2
      go_ret
      exact ⟨rfl, ((f2.trans fM).trans f3).trans f4⟩
end Go.Proofs.YtogpmgjdmoglkaaGreatDoor
