/- Walks: layer 3 in the document: bytes' letters, bit by bit (carryallref03.Encode). -/
import Derived.Test.YtogpmgjdmoglkaaGreatDoorHXa
import Derived.Test.YtogpmgjdmoglkaaGreatDoorHWf
import Derived.Test.YtogpmgjdmoglkaaGreatDoorHPu
import Derived.Laws.BitsAllLaws
set_option linter.unusedVariables false
set_option linter.unusedSimpArgs false
namespace Go.Proofs.YtogpmgjdmoglkaaGreatDoor
open Go.RowKit Pu

theorem let_nat (n : Nat) (h : n < 64) : ((let64 n).toNat : Int) = if n < 26 then 65 + (n : Int) else if n < 52 then 71 + n else if n < 62 then (n : Int) - 4 else if n = 62 then 43 else 47 := by
  have : ∀ k : _root_.Fin 64, ((let64 k.val).toNat : Int) = if k.val < 26 then 65 + (k.val : Int) else if k.val < 52 then 71 + k.val else if k.val < 62 then (k.val : Int) - 4 else if k.val = 62 then 43 else 47 := by decide +kernel
  exact this ⟨n, h⟩
set_option maxRecDepth 100000 in
set_option maxHeartbeats 4000000 in
theorem rletter64_any (n : Nat) (h : n < 64) (w : World) : Calls Tryz.prog 59 #[.int .i64 (n : Int)] w fun e w' => e = .returned (.int .u8 ((let64 n).toNat : Int)) ∧ w = w' := by
  rw [let_nat n h]
  have m1 : (n : Int) < 64 := by omega
  by_cases h1 : n < 26
  · rw [if_pos h1]
    have n1 : (n : Int) < 26 := by omega
    go_enter Tryz.func59, Tryz.ntmps59
    go_wp2
    go_ret
    exact ⟨rfl, rfl⟩
  · rw [if_neg h1]
    have n1 : ¬ (n : Int) < 26 := by omega
    by_cases h2 : n < 52
    · rw [if_pos h2]
      have n2 : (n : Int) < 52 := by omega
      go_enter Tryz.func59, Tryz.ntmps59
      go_wp2
      go_ret
      exact ⟨ret_i (by first | rfl | omega | (rw [IntKind.wrap_u8]; omega)), rfl⟩
    · rw [if_neg h2]
      have n2 : ¬ (n : Int) < 52 := by omega
      by_cases h3 : n < 62
      · rw [if_pos h3]
        have n3 : (n : Int) < 62 := by omega
        go_enter Tryz.func59, Tryz.ntmps59
        go_wp2
        go_ret
        exact ⟨ret_i (by first | rfl | omega | (rw [IntKind.wrap_u8]; omega)), rfl⟩
      · rw [if_neg h3]
        have n3 : ¬ (n : Int) < 62 := by omega
        by_cases h4 : n = 62
        · subst h4
          go_enter Tryz.func59, Tryz.ntmps59
          go_wp2
          go_ret
          exact ⟨rfl, rfl⟩
        · rw [if_neg h4]
          obtain rfl : n = 63 := by omega
          go_enter Tryz.func59, Tryz.ntmps59
          go_wp2
          go_ret
          exact ⟨rfl, rfl⟩

/-- The first bits of a letter's number. -/
def nb (b : Bs) (g : Nat) : Nat → Nat
  | 0 => 0
  | j + 1 => 2 * nb b g j + bit8 b (6 * g + j)
theorem bit8_lt (b : Bs) (j : Nat) : bit8 b j < 2 := Nat.mod_lt _ (by omega)
theorem nb_lt (b : Bs) (g : Nat) : ∀ j, nb b g j < 2 ^ j
  | 0 => by simp [nb]
  | j + 1 => by
    have := nb_lt b g j
    have := bit8_lt b (6 * g + j)
    simp only [nb]; omega
theorem nb_six (b : Bs) (g : Nat) : nb b g 6 = six8 b g := by
  simp only [nb, six8, Nat.add_zero]; omega
theorem bit8_out (b : Bs) (j : Nat) (h : 8 * b.length ≤ j) : bit8 b j = 0 := by
  unfold bit8
  rw [List.getD_eq_getElem?_getD, List.getElem?_eq_none (by omega)]
  simp
theorem and1 (n : Nat) (h : n < 256) : bits .and .u8 (n : Int) 1 = ((n % 2 : Nat) : Int) := by
  have : ∀ k : _root_.Fin 256, bits .and .u8 (k.val : Int) 1 = ((k.val % 2 : Nat) : Int) := by decide +kernel
  exact this ⟨n, h⟩
def outR (b : Bs) (g : Nat) : Bs := ((List.range g).map (six8 b)).map let64
theorem outR_succ (b : Bs) (g : Nat) : outR b (g + 1) = outR b g ++ [let64 (six8 b g)] := by simp [outR, List.range_succ]
theorem outR_len (b : Bs) (g : Nat) : (outR b g).length = g := by simp [outR]
theorem outR_all (b : Bs) : enc64 b = outR b ((8 * b.length + 5) / 6) ++ pad64 b := by
  unfold enc64 outR; rw [← encR_eq]; rfl
def padR (n : Nat) : Bs := match n % 4 with | 2 => [61, 61] | 3 => [61] | _ => []
set_option maxRecDepth 100000 in
set_option maxHeartbeats 40000000 in
theorem rencode_any (l : Bs) (hl : l.length ≤ 100000000) (v : Value) (w : World) (hv : RowB v l w) :
    Calls Tryz.prog 24 #[v] w fun e w' => e = .returned (S (enc64 l)) ∧ Fr w w' := by
  obtain ⟨i0, hi, hz0, hz1, hz2⟩ := info_parts byte_info
  obtain ⟨A0, cap0, rfl, hcap, hc⟩ := hv
  have HR := Lib.hid hc
  clear hc
  have hn := OwnS.nil w
  have HQ := Lib.hid (outR_all l)
  obtain ⟨G, hG⟩ : ∃ G, G = (8 * l.length + 5) / 6 := ⟨_, rfl⟩
  rw [← hG] at HQ
  go_enter Tryz.func24, Tryz.ntmps24
  go_wp2
  go_loopw [3, 4] (fun v i wr => ∃ g : Nat, g ≤ G ∧ i = .int .i64 (6 * g : Nat) ∧ OwnS w v (outR l g) wr) (fun _ i _ => 6 * G - (intOf i).toNat)
  case atStart => exact ⟨0, by omega, rfl, hn⟩
  case round =>
    obtain ⟨g, hg, rfl, hr⟩ := hrel
    clear hn
    by_cases hlt : g < G
    · have h6 : ((6 * g : Nat) : Int) < 8 * (l.length : Int) := by omega
      go_wp2
      go_loopw [5, 6] (fun n i wi => ∃ j : Nat, j ≤ 6 ∧ i = .int .i64 (6 * g + j : Nat) ∧ n = .int .i64 (nb l g j : Nat) ∧ wi = wr) (fun _ i _ => 6 * g + 6 - (intOf i).toNat)
      case atStart => exact ⟨0, by omega, rfl, rfl, rfl⟩
      case round =>
        obtain ⟨j, hj, rfl, rfl, rfl⟩ := hrel
        by_cases hj6 : j < 6
        · have hnb : nb l g (j + 1) = 2 * nb l g j + bit8 l (6 * g + j) := rfl
          have hb2 : nb l g j < 64 := Nat.lt_of_lt_of_le (nb_lt l g j) (Nat.pow_le_pow_right (by omega) (by omega : j ≤ 6))
          have hlt6 : ((6 * g + j : Nat) : Int) < ((6 * g : Nat) : Int) + 6 := by omega
          obtain ⟨K, hK⟩ : ∃ K, K = 6 * g + j := ⟨_, rfl⟩
          rw [← hK] at hnb hlt6 ⊢
          have HK := Lib.hid hK
          by_cases hin : K < 8 * l.length
          · obtain ⟨q, s, hqs, hs⟩ : ∃ q s, K = 8 * q + s ∧ s < 8 := ⟨K / 8, K % 8, by omega, by omega⟩
            have hin2 : (K : Int) < 8 * (l.length : Int) := by omega
            have hq : q < l.length := by omega
            have hq2 : (K : Int) / 8 = (q : Int) := by omega
            have hs2 : (K : Int) % 8 = (s : Int) := by omega
            obtain ⟨bk, off, rfl, hcell⟩ := HR.out q hq
            have hcell := hr.fr.cell hcell
            have hbit : bit8 l K = l[q].toNat / 2 ^ (7 - s) % 2 := by
              unfold bit8
              rw [show K / 8 = q by omega, show K % 8 = s by omega, getD_at l q hq]
            have hu := u8_lt l[q]
            have huN := l[q].toNat_lt
            have hso : s = 0 ∨ s = 1 ∨ s = 2 ∨ s = 3 ∨ s = 4 ∨ s = 5 ∨ s = 6 ∨ s = 7 := by omega
            generalize hC : l[q] = c at *
            have hqN : K / 8 = q := by omega
            clear hC hs hqs hK hin hj hj6 hq
            have hb01 : bit8 l K = 0 ∨ bit8 l K = 1 := by have := bit8_lt l K; omega
            rcases hso with rfl | rfl | rfl | rfl | rfl | rfl | rfl | rfl
            all_goals rcases hb01 with hb0 | hb0
            · have ha : bits .and .u8 ((c.toNat : Int) / 128) 1 = 0 := by
                have := and1 (c.toNat / 128) (by omega)
                have h2 : c.toNat / 128 % 2 = 0 := by have h3 := hbit; rw [hb0] at h3; simpa using h3.symm
                rw [h2] at this; simpa using this
              rw [hb0] at hnb
              have HNB := Lib.hid hnb
              clear hbit hb0 hnb
              go_wp2
              have hK := HK.out
              exact ⟨⟨j + 1, by omega, by rw [show 6 * g + (j + 1) = K + 1 by omega]; go_num, by rw [HNB.out]; go_num, by first | rfl | trivial⟩, by simp [intOf]; omega⟩
            · have ha : bits .and .u8 ((c.toNat : Int) / 128) 1 = 1 := by
                have := and1 (c.toNat / 128) (by omega)
                have h2 : c.toNat / 128 % 2 = 1 := by have h3 := hbit; rw [hb0] at h3; simpa using h3.symm
                rw [h2] at this; simpa using this
              rw [hb0] at hnb
              have HNB := Lib.hid hnb
              clear hbit hb0 hnb
              go_wp2
              have hK := HK.out
              exact ⟨⟨j + 1, by omega, by rw [show 6 * g + (j + 1) = K + 1 by omega]; go_num, by rw [HNB.out]; go_num, by first | rfl | trivial⟩, by simp [intOf]; omega⟩
            · have ha : bits .and .u8 ((c.toNat : Int) / 64) 1 = 0 := by
                have := and1 (c.toNat / 64) (by omega)
                have h2 : c.toNat / 64 % 2 = 0 := by have h3 := hbit; rw [hb0] at h3; simpa using h3.symm
                rw [h2] at this; simpa using this
              rw [hb0] at hnb
              have HNB := Lib.hid hnb
              clear hbit hb0 hnb
              go_wp2
              have hK := HK.out
              exact ⟨⟨j + 1, by omega, by rw [show 6 * g + (j + 1) = K + 1 by omega]; go_num, by rw [HNB.out]; go_num, by first | rfl | trivial⟩, by simp [intOf]; omega⟩
            · have ha : bits .and .u8 ((c.toNat : Int) / 64) 1 = 1 := by
                have := and1 (c.toNat / 64) (by omega)
                have h2 : c.toNat / 64 % 2 = 1 := by have h3 := hbit; rw [hb0] at h3; simpa using h3.symm
                rw [h2] at this; simpa using this
              rw [hb0] at hnb
              have HNB := Lib.hid hnb
              clear hbit hb0 hnb
              go_wp2
              have hK := HK.out
              exact ⟨⟨j + 1, by omega, by rw [show 6 * g + (j + 1) = K + 1 by omega]; go_num, by rw [HNB.out]; go_num, by first | rfl | trivial⟩, by simp [intOf]; omega⟩
            · have ha : bits .and .u8 ((c.toNat : Int) / 32) 1 = 0 := by
                have := and1 (c.toNat / 32) (by omega)
                have h2 : c.toNat / 32 % 2 = 0 := by have h3 := hbit; rw [hb0] at h3; simpa using h3.symm
                rw [h2] at this; simpa using this
              rw [hb0] at hnb
              have HNB := Lib.hid hnb
              clear hbit hb0 hnb
              go_wp2
              have hK := HK.out
              exact ⟨⟨j + 1, by omega, by rw [show 6 * g + (j + 1) = K + 1 by omega]; go_num, by rw [HNB.out]; go_num, by first | rfl | trivial⟩, by simp [intOf]; omega⟩
            · have ha : bits .and .u8 ((c.toNat : Int) / 32) 1 = 1 := by
                have := and1 (c.toNat / 32) (by omega)
                have h2 : c.toNat / 32 % 2 = 1 := by have h3 := hbit; rw [hb0] at h3; simpa using h3.symm
                rw [h2] at this; simpa using this
              rw [hb0] at hnb
              have HNB := Lib.hid hnb
              clear hbit hb0 hnb
              go_wp2
              have hK := HK.out
              exact ⟨⟨j + 1, by omega, by rw [show 6 * g + (j + 1) = K + 1 by omega]; go_num, by rw [HNB.out]; go_num, by first | rfl | trivial⟩, by simp [intOf]; omega⟩
            · have ha : bits .and .u8 ((c.toNat : Int) / 16) 1 = 0 := by
                have := and1 (c.toNat / 16) (by omega)
                have h2 : c.toNat / 16 % 2 = 0 := by have h3 := hbit; rw [hb0] at h3; simpa using h3.symm
                rw [h2] at this; simpa using this
              rw [hb0] at hnb
              have HNB := Lib.hid hnb
              clear hbit hb0 hnb
              go_wp2
              have hK := HK.out
              exact ⟨⟨j + 1, by omega, by rw [show 6 * g + (j + 1) = K + 1 by omega]; go_num, by rw [HNB.out]; go_num, by first | rfl | trivial⟩, by simp [intOf]; omega⟩
            · have ha : bits .and .u8 ((c.toNat : Int) / 16) 1 = 1 := by
                have := and1 (c.toNat / 16) (by omega)
                have h2 : c.toNat / 16 % 2 = 1 := by have h3 := hbit; rw [hb0] at h3; simpa using h3.symm
                rw [h2] at this; simpa using this
              rw [hb0] at hnb
              have HNB := Lib.hid hnb
              clear hbit hb0 hnb
              go_wp2
              have hK := HK.out
              exact ⟨⟨j + 1, by omega, by rw [show 6 * g + (j + 1) = K + 1 by omega]; go_num, by rw [HNB.out]; go_num, by first | rfl | trivial⟩, by simp [intOf]; omega⟩
            · have ha : bits .and .u8 ((c.toNat : Int) / 8) 1 = 0 := by
                have := and1 (c.toNat / 8) (by omega)
                have h2 : c.toNat / 8 % 2 = 0 := by have h3 := hbit; rw [hb0] at h3; simpa using h3.symm
                rw [h2] at this; simpa using this
              rw [hb0] at hnb
              have HNB := Lib.hid hnb
              clear hbit hb0 hnb
              go_wp2
              have hK := HK.out
              exact ⟨⟨j + 1, by omega, by rw [show 6 * g + (j + 1) = K + 1 by omega]; go_num, by rw [HNB.out]; go_num, by first | rfl | trivial⟩, by simp [intOf]; omega⟩
            · have ha : bits .and .u8 ((c.toNat : Int) / 8) 1 = 1 := by
                have := and1 (c.toNat / 8) (by omega)
                have h2 : c.toNat / 8 % 2 = 1 := by have h3 := hbit; rw [hb0] at h3; simpa using h3.symm
                rw [h2] at this; simpa using this
              rw [hb0] at hnb
              have HNB := Lib.hid hnb
              clear hbit hb0 hnb
              go_wp2
              have hK := HK.out
              exact ⟨⟨j + 1, by omega, by rw [show 6 * g + (j + 1) = K + 1 by omega]; go_num, by rw [HNB.out]; go_num, by first | rfl | trivial⟩, by simp [intOf]; omega⟩
            · have ha : bits .and .u8 ((c.toNat : Int) / 4) 1 = 0 := by
                have := and1 (c.toNat / 4) (by omega)
                have h2 : c.toNat / 4 % 2 = 0 := by have h3 := hbit; rw [hb0] at h3; simpa using h3.symm
                rw [h2] at this; simpa using this
              rw [hb0] at hnb
              have HNB := Lib.hid hnb
              clear hbit hb0 hnb
              go_wp2
              have hK := HK.out
              exact ⟨⟨j + 1, by omega, by rw [show 6 * g + (j + 1) = K + 1 by omega]; go_num, by rw [HNB.out]; go_num, by first | rfl | trivial⟩, by simp [intOf]; omega⟩
            · have ha : bits .and .u8 ((c.toNat : Int) / 4) 1 = 1 := by
                have := and1 (c.toNat / 4) (by omega)
                have h2 : c.toNat / 4 % 2 = 1 := by have h3 := hbit; rw [hb0] at h3; simpa using h3.symm
                rw [h2] at this; simpa using this
              rw [hb0] at hnb
              have HNB := Lib.hid hnb
              clear hbit hb0 hnb
              go_wp2
              have hK := HK.out
              exact ⟨⟨j + 1, by omega, by rw [show 6 * g + (j + 1) = K + 1 by omega]; go_num, by rw [HNB.out]; go_num, by first | rfl | trivial⟩, by simp [intOf]; omega⟩
            · have ha : bits .and .u8 ((c.toNat : Int) / 2) 1 = 0 := by
                have := and1 (c.toNat / 2) (by omega)
                have h2 : c.toNat / 2 % 2 = 0 := by have h3 := hbit; rw [hb0] at h3; simpa using h3.symm
                rw [h2] at this; simpa using this
              rw [hb0] at hnb
              have HNB := Lib.hid hnb
              clear hbit hb0 hnb
              go_wp2
              have hK := HK.out
              exact ⟨⟨j + 1, by omega, by rw [show 6 * g + (j + 1) = K + 1 by omega]; go_num, by rw [HNB.out]; go_num, by first | rfl | trivial⟩, by simp [intOf]; omega⟩
            · have ha : bits .and .u8 ((c.toNat : Int) / 2) 1 = 1 := by
                have := and1 (c.toNat / 2) (by omega)
                have h2 : c.toNat / 2 % 2 = 1 := by have h3 := hbit; rw [hb0] at h3; simpa using h3.symm
                rw [h2] at this; simpa using this
              rw [hb0] at hnb
              have HNB := Lib.hid hnb
              clear hbit hb0 hnb
              go_wp2
              have hK := HK.out
              exact ⟨⟨j + 1, by omega, by rw [show 6 * g + (j + 1) = K + 1 by omega]; go_num, by rw [HNB.out]; go_num, by first | rfl | trivial⟩, by simp [intOf]; omega⟩
            · have ha : bits .and .u8 ((c.toNat : Int)) 1 = 0 := by
                have := and1 (c.toNat / 1) (by omega)
                have h2 : c.toNat / 1 % 2 = 0 := by have h3 := hbit; rw [hb0] at h3; simpa using h3.symm
                rw [h2] at this; simpa using this
              rw [hb0] at hnb
              have HNB := Lib.hid hnb
              clear hbit hb0 hnb
              go_wp2
              have hK := HK.out
              exact ⟨⟨j + 1, by omega, by rw [show 6 * g + (j + 1) = K + 1 by omega]; go_num, by rw [HNB.out]; go_num, by first | rfl | trivial⟩, by simp [intOf]; omega⟩
            · have ha : bits .and .u8 ((c.toNat : Int)) 1 = 1 := by
                have := and1 (c.toNat / 1) (by omega)
                have h2 : c.toNat / 1 % 2 = 1 := by have h3 := hbit; rw [hb0] at h3; simpa using h3.symm
                rw [h2] at this; simpa using this
              rw [hb0] at hnb
              have HNB := Lib.hid hnb
              clear hbit hb0 hnb
              go_wp2
              have hK := HK.out
              exact ⟨⟨j + 1, by omega, by rw [show 6 * g + (j + 1) = K + 1 by omega]; go_num, by rw [HNB.out]; go_num, by first | rfl | trivial⟩, by simp [intOf]; omega⟩
          · have hb0 := bit8_out l K (by omega)
            rw [hb0] at hnb
            have HNB := Lib.hid hnb
            have hin2 : ¬ (K : Int) < 8 * (l.length : Int) := by omega
            clear hnb hb0 hK hin
            go_wp2
            have hK := HK.out
            exact ⟨⟨j + 1, by omega, by rw [show 6 * g + (j + 1) = K + 1 by omega]; go_num, by rw [HNB.out]; go_num, by first | rfl | trivial⟩, by simp [intOf]; omega⟩
        · obtain rfl : j = 6 := by omega
          have hn6 := nb_six l g
          have hlt64 : six8 l g < 64 := by rw [← hn6]; exact nb_lt l g 6
          have hc6 := fun w => rletter64_any (six8 l g) hlt64 w
          have hlen : (outR l g).length ≤ 200000000 := by rw [outR_len]; omega
          have hr0 := outR_succ l g
          rw [hn6]
          generalize six8 l g = Z at *
          clear hn6 hj hj6
          obtain ⟨A, cap, rfl⟩ := hr.slice
          have hown := hr.own
          have hbs : w.heap.size ≤ wr.heap.size := hr.fr.size
          have HS : Hid (∀ (gg cap3 : Nat) (w1 wx : World), Fr wr wx → wx.grownBy w1 (Value.slice A (outR l g).length cap).ownBlock → w1.ownsRow w.heap.size 5 1 (.slice (some ⟨gg, 0, none⟩) ((outR l g).length + 1) cap3) ((outR l g).length + 1) (Lib.byteCells (outR l g) ++ [.int .u8 ((let64 Z).toNat : Int)]) → OwnS w (.slice (some ⟨gg, 0, none⟩) ((outR l g).length + 1) cap3) (outR l (g + 1)) w1) := Lib.hid fun gg cap3 w1 wx h1 h2 h3 => by
            rw [hr0]; exact hr.snoc h1 h2 rfl h3
          clear hr0
          generalize hX : outR l g = xs at *
          clear hX
          go_wp2_with fail
          refine (hc6 _).mono ?_
          rintro e w3 ⟨rfl, rfl⟩
          go_wp2_with (at_builtin; refine wpList_append_lies _ rfl _ _ _ rfl w.heap.size 5 i0 _ 1 1 Tryz.underlying34 hi hz0 hz1 hz2 rfl (by omega) (.slice A (xs).length cap) (xs).length (Lib.byteCells (xs)) rfl (hown.alloc _) ⟨wr.heap.size, 0, none⟩ 1 1 [.int .u8 ((let64 Z).toNat : Int)] rfl rfl (World.news_of_block (cs := #[.int .u8 ((let64 Z).toNat : Int)]) (t := 5) (fr := (0, 0)) (heap_alloc_new wr _)) (by simp [Value.oneCell']) (by omega) (by unfold maxLen; omega) (by omega) (by simp; omega) (wr.heap.size + 1) (by simp) ?_; intro gg cap2 w1 hown1 hgrow hat hlt2)
          have hr3 := HS.out gg cap2 w1 _ ((Fr.refl _).alloc _) hgrow hown1
          exact ⟨⟨g + 1, by omega, by go_num, hr3⟩, by simp [intOf]; omega⟩
    · obtain rfl : g = G := by omega
      have h6 : ¬ 6 * (g : Int) < 8 * (l.length : Int) := by omega
      obtain ⟨P, hP, hP2, hP3⟩ : ∃ P, P ≤ 2 ∧ pad64 l = List.replicate P 61 ∧ (g + P) % 4 = 0 := by
        have h3 : l.length % 3 = 0 ∨ l.length % 3 = 1 ∨ l.length % 3 = 2 := by omega
        rcases h3 with h3 | h3 | h3
        · exact ⟨0, by omega, by simp [pad64, h3], by omega⟩
        · exact ⟨2, by omega, by simp [pad64, h3], by omega⟩
        · exact ⟨1, by omega, by simp [pad64, h3], by omega⟩
      have hlen := outR_len l g
      have HQ2 : Hid (enc64 l = outR l g ++ List.replicate P 61) := Lib.hid (by rw [HQ.out, hP2])
      have hg2 : g ≤ 200000000 := by omega
      have HL := Lib.hid hlen
      clear HQ HR hP2 hlen hG hlt hg
      generalize outR l g = xs at *
      go_wp2
      go_loopw [3] (fun v wr => ∃ m : Nat, m ≤ P ∧ OwnS w v (xs ++ List.replicate m 61) wr) (fun v _ => g + P - lenOf v)
      case atStart => exact ⟨0, by omega, by simpa using hr⟩
      case round =>
        obtain ⟨m, hm, hr2⟩ := hrel
        clear hr
        obtain ⟨A, cap, rfl⟩ := hr2.slice
        have hown := hr2.own
        have hbs : w.heap.size ≤ _ := hr2.fr.size
        have hln : (xs ++ List.replicate m 61).length = g + m := by simp [HL.out]
        have HLn := Lib.hid hln
        by_cases hmP : m < P
        · have hne : ((((xs ++ List.replicate m 61).length : Nat) : Int) % 4 != 0) = true := by
            rw [hln, bne_iff_ne]; omega
          have hle : (xs ++ List.replicate m 61).length ≤ 300000000 := by omega
          have HS : Hid (∀ (gg cap3 : Nat) (w1 wx : World), Fr wr wx → wx.grownBy w1 (Value.slice A (xs ++ List.replicate m 61).length cap).ownBlock → w1.ownsRow w.heap.size 5 1 (.slice (some ⟨gg, 0, none⟩) ((xs ++ List.replicate m 61).length + 1) cap3) ((xs ++ List.replicate m 61).length + 1) (Lib.byteCells (xs ++ List.replicate m 61) ++ [.int .u8 61]) → OwnS w (.slice (some ⟨gg, 0, none⟩) ((xs ++ List.replicate m 61).length + 1) cap3) (xs ++ List.replicate (m + 1) 61) w1) := Lib.hid fun gg cap3 w1 wx h1 h2 h3 => by
            rw [List.replicate_succ', ← List.append_assoc]; exact hr2.snoc h1 h2 (c := 61) rfl h3
          clear hln
          generalize hY : xs ++ List.replicate m 61 = ys at *
          clear hY
          go_wp2_with (at_builtin; refine wpList_append_lies _ rfl _ _ _ rfl w.heap.size 5 i0 _ 1 1 Tryz.underlying34 hi hz0 hz1 hz2 rfl (by omega) (.slice A (ys).length cap) (ys).length (Lib.byteCells (ys)) rfl (hown.alloc _) ⟨wr.heap.size, 0, none⟩ 1 1 [.int .u8 61] rfl rfl (World.news_of_block (cs := #[.int .u8 61]) (t := 5) (fr := (0, 0)) (heap_alloc_new wr _)) (by simp [Value.oneCell']) (by omega) (by unfold maxLen; omega) (by omega) (by simp; omega) (wr.heap.size + 1) (by simp) ?_; intro gg cap2 w1 hown1 hgrow hat hlt2)
          have hr3 := HS.out gg cap2 w1 _ ((Fr.refl _).alloc _) hgrow hown1
          exact ⟨⟨m + 1, by omega, hr3⟩, by have := HLn.out; simp [lenOf]; omega⟩
        · obtain rfl : m = P := by omega
          have hne : ((((xs ++ List.replicate m 61).length : Nat) : Int) % 4 != 0) = false := by
            rw [hln, bne_eq_false_iff_eq]; omega
          have hs := hr2.str
          have hf := hr2.fr
          have HE : Hid (enc64 l = xs ++ List.replicate m 61) := HQ2
          clear hln HQ2
          generalize hY : xs ++ List.replicate m 61 = ys at *
          clear hY
          go_wp2
          go_ret
          exact ⟨ret_s HE.out.symm, hf⟩
end Go.Proofs.YtogpmgjdmoglkaaGreatDoor
