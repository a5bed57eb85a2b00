/- Walks: utf8.Valid of a text that may stand in quotes: true. -/
import Derived.Test.YtogpmgjdmoglkaaGreatDoorHWf
import Derived.Test.YtogpmgjdmoglkaaGreatDoorHWt
set_option linter.unusedVariables false
set_option linter.unusedSimpArgs false
namespace Go.Proofs.YtogpmgjdmoglkaaGreatDoor
open Go.RowKit Pu

theorem word_len (l : Bs) (g k n cap : Nat) (h8 : 8 ≤ n) (hk : k + n ≤ l.length) (w : World) (hc : CellsAt l g w) :
    Calls Tryz.prog 272 #[.slice (some ⟨g, k, none⟩) n cap] w fun e w' => e = .returned (.int .u64 (W8 l k : Nat)) ∧ ∃ q, w' = w.drewN q := by
  obtain ⟨m, rfl⟩ : ∃ m, n = m + 8 := ⟨n - 8, by omega⟩
  exact word_any l g k m cap hk w hc
theorem W8_eq (l : Bs) (k : Nat) : W8 l k = Lib.leNat [(⟨(l.drop k).toArray⟩ : ByteArray).get! 0, (⟨(l.drop k).toArray⟩ : ByteArray).get! 1, (⟨(l.drop k).toArray⟩ : ByteArray).get! 2, (⟨(l.drop k).toArray⟩ : ByteArray).get! 3, (⟨(l.drop k).toArray⟩ : ByteArray).get! 4, (⟨(l.drop k).toArray⟩ : ByteArray).get! 5, (⟨(l.drop k).toArray⟩ : ByteArray).get! 6, (⟨(l.drop k).toArray⟩ : ByteArray).get! 7] := by
  have hg : ∀ j, (⟨(l.drop k).toArray⟩ : ByteArray).get! j = l.getD (k + j) 0 := fun j => by
    rw [get_list]; simp [List.getD_eq_getElem?_getD]
  simp only [hg, Nat.add_zero, W8]
theorem W8_lt (l : Bs) (k : Nat) : W8 l k < 18446744073709551616 := by
  rw [W8_eq]
  exact Lib.word_lt _
def low8 (l : Bs) (k n : Nat) : Prop := ∀ c ∈ (l.drop k).take n, c.toNat < 128
theorem W8_low (l : Bs) (k : Nat) (hk : k + 8 ≤ l.length) : (W8 l k &&& 9259542123273814144 = 0) → low8 l k 8 := by
  have hs : (⟨(l.drop k).toArray⟩ : ByteArray).size = l.length - k := by show (l.drop k).toArray.size = _; simp
  have h := Lib.word_asc ⟨(l.drop k).toArray⟩ (by omega)
  have hg : ∀ j, (⟨(l.drop k).toArray⟩ : ByteArray).get! j = l.getD (k + j) 0 := fun j => by
    rw [get_list]; simp [List.getD_eq_getElem?_getD]
  simp only [hg, Nat.add_zero] at h
  intro h0
  have := h.1 h0
  unfold Lib.Asc at this
  intro c hc
  exact this c (by simpa using hc)
theorem quotable_low (k n : Nat) (l : Bs) (hl : low8 l k n) (h : quotable (l.drop k) = true) : quotable (l.drop (k + n)) = true := by
  have key : ∀ (n : Nat) (s : Bs), (∀ c ∈ s.take n, c.toNat < 128) → quotable s = true → quotable (s.drop n) = true := by
    intro n
    induction n with
    | zero => intro s _ h; exact h
    | succ n ih =>
      intro s hs h
      cases s with
      | nil => simpa using h
      | cons c r =>
        have hc := hs c (by simp)
        rw [quotable_rune, goRune_low c r hc] at h
        simp only [List.drop_succ_cons, List.drop_zero, Bool.and_eq_true] at h
        exact ih r (fun d hd => hs d (by simp [hd])) h.2
  rw [← List.drop_drop]
  exact key n (l.drop k) hl h
theorem quotable_one (k : Nat) (l : Bs) (hk : k < l.length) (hl : l[k].toNat < 128) (h : quotable (l.drop k) = true) : quotable (l.drop (k + 1)) = true :=
  quotable_low k 1 l (fun c hc => by
    have e : (l.drop k).take 1 = [l[k]] := by rw [List.drop_eq_getElem_cons hk]; rfl
    rw [e, List.mem_singleton] at hc
    subst hc; exact hl) h
theorem quotable_two (k : Nat) (l : Bs) (hk : k < l.length) (hl : ¬ l[k].toNat < 128) (h : quotable (l.drop k) = true) :
    (l[k] = 194 ∨ l[k] = 195) ∧ ∃ h2 : k + 1 < l.length, 128 ≤ l[k + 1].toNat ∧ l[k + 1].toNat ≤ 191 ∧ quotable (l.drop (k + 2)) = true := by
  rw [List.drop_eq_getElem_cons hk] at h
  have h9 : (l[k] == 9 || decide (32 ≤ l[k].toNat ∧ l[k].toNat ≤ 126)) = false := by
    have : l[k] ≠ 9 := by intro e; rw [e] at hl; exact hl (by decide)
    simp [this]; omega
  by_cases h2 : k + 1 < l.length
  · rw [List.drop_eq_getElem_cons h2] at h
    simp only [quotable, h9] at h
    simp only [Bool.false_eq_true, if_false, Bool.and_eq_true, decide_eq_true_eq] at h
    exact ⟨h.1.1, h2, h.1.2.1, h.1.2.2, h.2⟩
  · rw [List.drop_eq_nil_of_le (by omega)] at h
    simp only [quotable, h9] at h
    cases h
theorem fr_drewN (w : World) (q : Nat) : Fr w (w.drewN q) := (Fr.refl w).drewN q
theorem CellsAt.fr {l : Bs} {g : Nat} {w w' : World} (h : CellsAt l g w) (hf : Fr w w') : CellsAt l g w' := fun j hj => hf.cell (h j hj)

set_option maxHeartbeats 2000000 in
set_option maxRecDepth 1000000 in
theorem valid_quotable (l : Bs) (hl : l.length ≤ 1000000000) (hq : quotable l = true) (g cap : Nat) (hcap : l.length ≤ cap) (w : World) (hE : Env w) (hc : CellsAt l g w) :
    Calls Tryz.prog 246 #[.slice (some ⟨g, 0, none⟩) l.length cap] w fun e w' => e = .returned (.bool true) ∧ Fr w w' := by
  have HQ0 : Hid (quotable (l.drop 0) = true) := Lib.hid hq
  have HC := Lib.hid hc
  clear hq hc
  go_enter Tryz.func246, Tryz.ntmps246
  go_wp2
  go_loopw [0] (fun v wr => ∃ (k m : Nat) (A : Addr), v = .slice (some A) m m ∧ k + m = l.length ∧ Hid (0 < m → A = ⟨g, k, none⟩) ∧ Hid (quotable (l.drop k) = true) ∧ Fr w wr) (fun v _ => lenOf v)
  case atStart => exact ⟨0, l.length, ⟨g, 0, none⟩, rfl, by omega, Lib.hid (fun _ => rfl), HQ0, Fr.refl _⟩
  case round =>
    obtain ⟨k, m, A, rfl, hkm, HA, HQ, hfr⟩ := hrel
    have HCr : Hid (CellsAt l g wr) := Lib.hid (HC.out.fr hfr)
    have hEr := hE.fr hfr
    clear HQ0 hE
    rcases m with _ | m
    · go_wp2
      go_ret
      exact ⟨rfl, hfr⟩
    · obtain rfl : A = ⟨g, k, none⟩ := HA.out (by omega)
      have hk : k < l.length := by omega
      have hcell := HCr.out k hk
      rw [getD_at l k hk] at hcell
      by_cases hasc : l[k].toNat < 128
      · have hascz : (l[k].toNat : Int) < 128 := by omega
        have HQ1 : Hid (quotable (l.drop (k + 1)) = true) := Lib.hid (quotable_one k l hk hasc HQ.out)
        rcases m with _ | m
        · go_wp2
          exact ⟨⟨k + 1, 0, ⟨g, k, none⟩, by first | rfl | simp, by omega, Lib.hid (fun h => by omega), HQ1, hfr⟩, by simp [lenOf]⟩
        · by_cases c8 : 8 < m + 1
          · obtain ⟨m2, rfl⟩ : ∃ m2, m = m2 + 8 := ⟨m - 8, by omega⟩
            have c8z : (8 : Int) < (m2 : Int) + 8 + 1 := by omega
            have cW1 := word_len l g (k + 1) (m2 + 8 + 1) (m2 + 8 + 1) (by omega) (by omega) wr HCr.out
            have hw1 := W8_lt l (k + 1)
            have HL1 := Lib.hid (W8_low l (k + 1) (by omega))
            generalize W8 l (k + 1) = A1 at *
            have hand1 : bits .and .u64 (A1 : Int) 9259542123273814144 = ((A1 &&& 9259542123273814144 : Nat) : Int) := u64_and_nat A1 9259542123273814144 hw1 (by omega)
            generalize hZ1 : A1 &&& 9259542123273814144 = Z1 at *
            clear hZ1 hw1
            by_cases hz1 : Z1 = 0
            · have HQ9 : Hid (quotable (l.drop (k + 9)) = true) := Lib.hid (quotable_low (k + 1) 8 l (HL1.out hz1) HQ1.out)
              have hz1b : ((Z1 : Int) == 0) = true := by simp [hz1]
              clear hz1
              go_wp2_with (go_at_call 272; refine cW1.mono ?_; rintro e W1 ⟨rfl, q1, rfl⟩)
              have hfr1 : Fr w (wr.drewN q1) := hfr.drewN q1
              generalize wr.drewN q1 = wq at *
              have HCq : Hid (CellsAt l g wq) := Lib.hid (HC.out.fr hfr1)
              clear cW1 hfr HCr hcell hEr
              by_cases c16 : 16 < m2 + 1
              · obtain ⟨m3, rfl⟩ : ∃ m3, m2 = m3 + 16 := ⟨m2 - 16, by omega⟩
                have c16z : (16 : Int) < (m3 : Int) + 16 + 1 := by omega
                have cW2 := fun n c q (hn : n = m3 + 16 + 1) => word_len l g (k + 1 + 8) n c (by omega) (by omega) (wq.drewN q) (HCq.out.fr (fr_drewN wq q))
                have cW3 := fun n c q (hn : n = m3 + 9) => word_len l g (k + 1 + 8 + 8) n c (by omega) (by omega) (wq.drewN q) (HCq.out.fr (fr_drewN wq q))
                have lA2 := W8_lt l (k + 1 + 8)
                have lA3 := W8_lt l (k + 1 + 8 + 8)
                have HL2 := Lib.hid (W8_low l (k + 1 + 8) (by omega))
                have HL3 := Lib.hid (W8_low l (k + 1 + 8 + 8) (by omega))
                generalize W8 l (k + 1 + 8) = A2 at *
                generalize W8 l (k + 1 + 8 + 8) = A3 at *
                have hor2 : bits .or .u64 (A2 : Int) (A3 : Int) = ((A2 ||| A3 : Nat) : Int) := u64_or_nat A2 A3 lA2 lA3
                have lor2 : A2 ||| A3 < 18446744073709551616 := Nat.or_lt_two_pow (n := 64) lA2 lA3
                have hand2 : bits .and .u64 ((A2 ||| A3 : Nat) : Int) 9259542123273814144 = (((A2 ||| A3) &&& 9259542123273814144 : Nat) : Int) := u64_and_nat _ 9259542123273814144 lor2 (by omega)
                have HK2 : Hid ((A2 ||| A3) &&& 9259542123273814144 = 0 → quotable (l.drop (k + 25)) = true) := Lib.hid (fun h0 => by
                  obtain ⟨e1, e2⟩ := (Lib.or_mask A2 A3 _).1 h0
                  have h1 := quotable_low (k + 1 + 8) 8 l (HL2.out e1) HQ9.out
                  exact quotable_low (k + 1 + 8 + 8) 8 l (HL3.out e2) h1)
                generalize A2 ||| A3 = O2 at *
                generalize O2 &&& 9259542123273814144 = Z2 at *
                clear lA2 lA3 HL2 HL3 lor2
                by_cases hz2 : Z2 = 0
                · have hz2b : ((Z2 : Int) == 0) = true := by simp [hz2]
                  have HQ25 := Lib.hid (HK2.out hz2)
                  clear hz2 HK2
                  go_quiet (first | (go_at_call 272; (with_reducible refine Calls.quiet_of (cW2 _ _ _ ?_)); omega) | (go_at_call 272; (with_reducible refine Calls.quiet_of (cW3 _ _ _ ?_)); omega))
                  go_wp2
                  have hfr2 : Fr w (wq.drewN nq) := hfr1.drewN nq
                  generalize wq.drewN nq = wq2 at *
                  clear cW2 cW3 hfr1 HCq hand1 hand2 hor2 HL1
                  go_loopw [0] (fun v wx => ∃ k2 m4 : Nat, v = .slice (some ⟨g, k2, none⟩) m4 m4 ∧ k2 + m4 = l.length ∧ 0 < m4 ∧ m4 ≤ m3 + 1 ∧ Hid (quotable (l.drop k2) = true) ∧ Fr w wx) (fun v _ => lenOf v)
                  case atStart => exact ⟨k + 1 + 8 + 16, m3 + 1, rfl, by omega, by omega, by omega, HQ25, hfr2⟩
                  case round =>
                    obtain ⟨k2, m4, rfl, hkm2, hm4, hm43, HQi, hfi⟩ := hrel
                    clear hfr2 HQ25
                    have HCi : Hid (CellsAt l g wr) := Lib.hid (HC.out.fr hfi)
                    by_cases c32 : 32 < m4
                    · obtain ⟨m5, rfl⟩ : ∃ m5, m4 = m5 + 32 := ⟨m4 - 32, by omega⟩
                      have c32z : (32 : Int) < (m5 : Int) + 32 := by omega
                      have cB0 := fun n c q (hn : n = m5 + 32) => word_len l g k2 n c (by omega) (by omega) (wr.drewN q) (HCi.out.fr (fr_drewN wr q))
                      have cB1 := fun n c q (hn : n = m5 + 24) => word_len l g (k2 + 8) n c (by omega) (by omega) (wr.drewN q) (HCi.out.fr (fr_drewN wr q))
                      have cB2 := fun n c q (hn : n = m5 + 16) => word_len l g (k2 + 16) n c (by omega) (by omega) (wr.drewN q) (HCi.out.fr (fr_drewN wr q))
                      have cB3 := fun n c q (hn : n = m5 + 8) => word_len l g (k2 + 24) n c (by omega) (by omega) (wr.drewN q) (HCi.out.fr (fr_drewN wr q))
                      have lB0 := W8_lt l k2
                      have lB1 := W8_lt l (k2 + 8)
                      have lB2 := W8_lt l (k2 + 16)
                      have lB3 := W8_lt l (k2 + 24)
                      have HL0 := Lib.hid (W8_low l k2 (by omega))
                      have HL1 := Lib.hid (W8_low l (k2 + 8) (by omega))
                      have HL2 := Lib.hid (W8_low l (k2 + 16) (by omega))
                      have HL3 := Lib.hid (W8_low l (k2 + 24) (by omega))
                      generalize W8 l k2 = B0 at *
                      generalize W8 l (k2 + 8) = B1 at *
                      generalize W8 l (k2 + 16) = B2 at *
                      generalize W8 l (k2 + 24) = B3 at *
                      have ho1 : bits .or .u64 (B0 : Int) (B1 : Int) = ((B0 ||| B1 : Nat) : Int) := u64_or_nat B0 B1 lB0 lB1
                      have ho2 : bits .or .u64 (B2 : Int) (B3 : Int) = ((B2 ||| B3 : Nat) : Int) := u64_or_nat B2 B3 lB2 lB3
                      have lo1 : B0 ||| B1 < 18446744073709551616 := Nat.or_lt_two_pow (n := 64) lB0 lB1
                      have lo2 : B2 ||| B3 < 18446744073709551616 := Nat.or_lt_two_pow (n := 64) lB2 lB3
                      have ho3 : bits .or .u64 ((B0 ||| B1 : Nat) : Int) ((B2 ||| B3 : Nat) : Int) = (((B0 ||| B1) ||| (B2 ||| B3) : Nat) : Int) := u64_or_nat _ _ lo1 lo2
                      have lo3 : (B0 ||| B1) ||| (B2 ||| B3) < 18446744073709551616 := Nat.or_lt_two_pow (n := 64) lo1 lo2
                      have hand3 : bits .and .u64 (((B0 ||| B1) ||| (B2 ||| B3) : Nat) : Int) 9259542123273814144 = ((((B0 ||| B1) ||| (B2 ||| B3)) &&& 9259542123273814144 : Nat) : Int) := u64_and_nat _ 9259542123273814144 lo3 (by omega)
                      have HK3 : Hid (((B0 ||| B1) ||| (B2 ||| B3)) &&& 9259542123273814144 = 0 → quotable (l.drop (k2 + 32)) = true) := Lib.hid (fun h0 => by
                        obtain ⟨e01, e23⟩ := (Lib.or_mask _ _ _).1 h0
                        obtain ⟨e0, e1⟩ := (Lib.or_mask _ _ _).1 e01
                        obtain ⟨e2, e3⟩ := (Lib.or_mask _ _ _).1 e23
                        have q1 := quotable_low k2 8 l (HL0.out e0) HQi.out
                        have q2 := quotable_low (k2 + 8) 8 l (HL1.out e1) q1
                        have q3 := quotable_low (k2 + 16) 8 l (HL2.out e2) q2
                        exact quotable_low (k2 + 24) 8 l (HL3.out e3) q3)
                      generalize B0 ||| B1 = P1 at *
                      generalize B2 ||| B3 = P2 at *
                      generalize P1 ||| P2 = P3 at *
                      generalize P3 &&& 9259542123273814144 = Z3 at *
                      clear lB0 lB1 lB2 lB3 HL0 HL1 HL2 HL3 lo1 lo2 lo3
                      by_cases hz3 : Z3 = 0
                      · have hz3b : ((Z3 : Int) == 0) = true := by simp [hz3]
                        have HQj := Lib.hid (HK3.out hz3)
                        clear hz3 HK3
                        go_wp2_with fail
                        go_quiet (first | (go_at_call 272; (with_reducible refine Calls.quiet_of (cB0 _ _ _ ?_)); omega) | (go_at_call 272; (with_reducible refine Calls.quiet_of (cB1 _ _ _ ?_)); omega) | (go_at_call 272; (with_reducible refine Calls.quiet_of (cB2 _ _ _ ?_)); omega) | (go_at_call 272; (with_reducible refine Calls.quiet_of (cB3 _ _ _ ?_)); omega))
                        go_wp2
                        exact ⟨⟨k2 + 32, m5, by first | rfl | simp, by omega, by omega, by omega, HQj, hfi.drewN _⟩, by simp [lenOf]⟩
                      · have hz3b : ((Z3 : Int) == 0) = false := by simp; omega
                        clear hz3 HK3
                        go_wp2_with fail
                        go_quiet (first | (go_at_call 272; (with_reducible refine Calls.quiet_of (cB0 _ _ _ ?_)); omega) | (go_at_call 272; (with_reducible refine Calls.quiet_of (cB1 _ _ _ ?_)); omega) | (go_at_call 272; (with_reducible refine Calls.quiet_of (cB2 _ _ _ ?_)); omega) | (go_at_call 272; (with_reducible refine Calls.quiet_of (cB3 _ _ _ ?_)); omega))
                        go_wp2
                        exact ⟨⟨k2, m5 + 32, ⟨g, k2, none⟩, by first | rfl | simp, by omega, Lib.hid (fun h => rfl), HQi, hfi.drewN _⟩, by simp [lenOf]; omega⟩
                    · have c32b : decide ((32 : Int) < (m4 : Int)) = false := decide_eq_false (by omega)
                      go_wp2_with fail
                      go_quiet (fail)
                      go_wp2
                      exact ⟨⟨k2, m4, ⟨g, k2, none⟩, by first | rfl | simp, by omega, Lib.hid (fun h => rfl), HQi, hfi.drewN _⟩, by simp [lenOf]; omega⟩
                · have hz2b : ((Z2 : Int) == 0) = false := by simp; omega
                  clear hz2 HK2
                  go_quiet (first | (go_at_call 272; (with_reducible refine Calls.quiet_of (cW2 _ _ _ ?_)); omega) | (go_at_call 272; (with_reducible refine Calls.quiet_of (cW3 _ _ _ ?_)); omega))
                  go_wp2
                  exact ⟨⟨k + 1 + 8, m3 + 16 + 1, ⟨g, k + 1 + 8, none⟩, by first | rfl | simp, by omega, Lib.hid (fun h => rfl), HQ9, hfr1.drewN _⟩, by simp [lenOf]⟩
              · have c16b : decide ((16 : Int) < (m2 : Int) + 1) = false := decide_eq_false (by omega)
                go_quiet (fail)
                go_wp2
                exact ⟨⟨k + 1 + 8, m2 + 1, ⟨g, k + 1 + 8, none⟩, by first | rfl | simp, by omega, Lib.hid (fun h => rfl), HQ9, hfr1.drewN _⟩, by simp [lenOf]⟩
            · have hz1b : ((Z1 : Int) == 0) = false := by simp; omega
              clear hz1
              go_wp2_with (go_at_call 272; refine cW1.mono ?_; rintro e W1 ⟨rfl, q1, rfl⟩)
              exact ⟨⟨k + 1, m2 + 8 + 1, ⟨g, k + 1, none⟩, by first | rfl | simp, by omega, Lib.hid (fun h => rfl), HQ1, hfr.drewN q1⟩, by simp [lenOf]⟩
          · have c8b : decide ((8 : Int) < (m : Int) + 1) = false := decide_eq_false (by omega)
            go_wp2
            exact ⟨⟨k + 1, m + 1, ⟨g, k + 1, none⟩, by first | rfl | simp, by omega, Lib.hid (fun h => rfl), HQ1, hfr⟩, by simp [lenOf]⟩
      · obtain ⟨hx, h2, hb1, hb2, hq2⟩ := quotable_two k l hk hasc HQ.out
        have HQ2 : Hid (quotable (l.drop (k + 2)) = true) := Lib.hid hq2
        have hcell1 := HCr.out (k + 1) h2
        rw [getD_at l (k + 1) h2] at hcell1
        have hT := hEr.tabs
        have ht : wr.cell? ⟨1, l[k].toNat, none⟩ = some (.int .u8 2) := by
          rcases hx with h | h <;> rw [h]
          · exact hT.1 194 (by decide)
          · exact hT.1 195 (by decide)
        have ha0 : wr.cell? ⟨2, 0, none⟩ = some (.int .u8 128) := (hT.2 0 (by decide)).1
        have ha1 : wr.cell? ⟨2, 1, none⟩ = some (.int .u8 191) := (hT.2 0 (by decide)).2
        have hascz : ¬ ((l[k].toNat : Int) < 128) := by omega
        have hi1 : (l[k].toNat : Int) < 256 := by have := u8_lt l[k]; omega
        have hi2 : l[k].toNat < 256 := by omega
        have hz1 : decide ((l[k + 1].toNat : Int) < 128) = false := decide_eq_false (by omega)
        have hz2 : decide (191 < (l[k + 1].toNat : Int)) = false := decide_eq_false (by omega)
        have h7 : bits .and .u8 2 7 = 2 := by decide
        have hgl := World.block_lt_of_cell? wr _ hcell
        simp only at hgl
        rcases m with _ | m
        · exact absurd hkm (by omega)
        · clear hT hx hq2 hasc hEr HA
          rcases m with _ | m
          · go_wp2_with fail
            go_quiet (fail)
            go_wp2
            exact ⟨⟨k + 2, 0, ⟨g, k, none⟩, by first | rfl | simp, by omega, Lib.hid (fun h => by omega), HQ2, (hfr.alloc _).drewN _⟩, by simp [lenOf]⟩
          · have hm2 : decide ((m : Int) + 1 + 1 + 1 < 2) = false := decide_eq_false (by omega)
            have hm3 : (1 : Int) < (m : Int) + 1 + 1 + 1 := by omega
            have hm4 : (2 : Int) ≤ (m : Int) + 1 + 1 + 1 := by omega
            go_wp2_with fail
            go_quiet (fail)
            go_wp2
            exact ⟨⟨k + 2, m + 1, ⟨g, k + 2, none⟩, by first | rfl | simp, by omega, Lib.hid (fun h => rfl), HQ2, (hfr.alloc _).drewN _⟩, by simp [lenOf]⟩
end Go.Proofs.YtogpmgjdmoglkaaGreatDoor
