/- Walks: base.Decode. -/
import Derived.Test.YtogpmgjdmoglkaaGreatDoorHVi
import Derived.Laws.BitsAllLaws
set_option linter.unusedVariables false
set_option linter.unusedSimpArgs false
namespace Go.Proofs.YtogpmgjdmoglkaaGreatDoor
open Go.RowKit Pu

def ltab : Bs := [65, 66, 67, 68, 69, 70, 71, 72, 73, 74, 75, 76, 77, 78, 79, 80, 81, 82, 83, 84, 85, 86, 87, 88, 89, 90, 97, 98, 99, 100, 101, 102, 103, 104, 105, 106, 107, 108, 109, 110, 111, 112, 113, 114, 115, 116, 117, 118, 119, 120, 121, 122, 48, 49, 50, 51, 52, 53, 54, 55, 56, 57, 43, 47]
set_option maxRecDepth 100000 in
theorem ltab_idx (c : UInt8) : Lib.indexByte ltab c = match num64 c with | some n => (n : Int) | none => -1 := by
  have key : ∀ n : _root_.Fin 256, Lib.indexByte ltab ⟨⟨n⟩⟩ = match num64 ⟨⟨n⟩⟩ with | some n => (n : Int) | none => -1 := by decide +kernel
  exact key c.toFin
theorem letter_idx (c : UInt8) (w : World) : Calls Tryz.prog 84 #[S ltab, .int .u8 (c.toNat : Int)] w fun e w' => e = .returned (.int .i64 (match num64 c with | some n => (n : Int) | none => -1)) ∧ w' = w := by
  have := Tryz.strings_IndexByte ⟨ltab.toArray⟩ (c.toNat : Int) w
  rw [show (c.toNat : Int).toNat.toUInt8 = c from by simp] at this
  rw [← ltab_idx]
  exact this
/-- What is decoded of the rest. -/
def decGo (xs : Bs) (bits n : Nat) (r : Bs) : Option Bs := (nums64 r).map fun l => (l.foldl dstep (xs, bits, n)).1
theorem decGo_nil (xs : Bs) (bits n : Nat) : decGo xs bits n [] = some xs := rfl
theorem decGo_none (xs : Bs) (bits n : Nat) (c : UInt8) (r : Bs) (h : num64 c = none) : decGo xs bits n (c :: r) = none := by simp [decGo, nums64, h]
theorem decGo_cons (xs : Bs) (bits n : Nat) (c : UInt8) (r : Bs) (x : Nat) (h : num64 c = some x) : decGo xs bits n (c :: r) = decGo (dstep (xs, bits, n) x).1 (dstep (xs, bits, n) x).2.1 (dstep (xs, bits, n) x).2.2 r := by
  simp only [decGo, nums64, h]
  cases nums64 r <;> rfl
theorem and16 (a : Nat) (h : a < 18446744073709551616) : bits .and .u64 (a : Int) 65535 = ((a % 65536 : Nat) : Int) := by
  have := u64_and_nat a 65535 h (by omega)
  rw [show (65535 : Nat) = 2 ^ 16 - 1 from rfl, Nat.and_two_pow_sub_one_eq_mod] at this
  exact this
theorem or6 (a x : Nat) (h : a < 18446744073709551616) (hx : x < 64) (ha : a % 64 = 0) : bits .or .u64 (a : Int) (x : Int) = ((a + x : Nat) : Int) := by
  have := u64_or_nat a x h (by omega)
  rw [this]
  congr 1
  obtain ⟨q, rfl⟩ : ∃ q, a = 2 ^ 6 * q := ⟨a / 64, by omega⟩
  rw [Nat.two_pow_add_eq_or_of_lt (by omega)]

set_option maxRecDepth 100000 in
set_option maxHeartbeats 4000000 in
theorem bdecode_any (l : Bs) (hl : l.length ≤ 100000000) (w : World) (hE : Env w) : Calls Tryz.prog 47 #[S l] w fun e w' => ∃ v, e = .returned (.tuple #[v, .bool (decB l).isSome]) ∧ OwnS w v ((decB l).getD []) w' := by
  obtain ⟨i0, hi, hz0, hz1, hz2⟩ := info_parts byte_info
  have HS : Hid (∀ w, Env w → _) := Lib.hid fun w h => squeeze_any l (by omega) w h
  rw [← dec_map]
  have hml := map_len dropB l.length l (Nat.le_refl _)
  have hsl := strip_len (Lib.mapD dropB l)
  generalize strip64 (Lib.mapD dropB l) = t at *
  have ht : t.length ≤ 400000000 := by omega
  clear hml hsl
  go_enter Tryz.func47, Tryz.ntmps47
  go_wp2_with fail
  refine (HS.out _ hE).mono ?_
  rintro e w2 ⟨rfl, hf⟩
  clear HS
  by_cases h1 : t.length % 4 = 1
  · have e1 : (t.length : Int) % 4 = 1 := by omega
    have hq : decT t = none := by unfold decT; rw [if_pos h1]
    go_wp2
    go_ret2
    exact ⟨_, by rw [hq]; rfl, by rw [hq]; exact (OwnS.nil w).step hf⟩
  · have e1 : ((t.length : Int) % 4 == 1) = false := by rw [beq_eq_false_iff_ne]; omega
    have hq : decT t = decGo [] 0 0 t := by unfold decT; rw [if_neg h1]; rfl
    have HD := Lib.hid hq
    have hn := (OwnS.nil w).step hf
    have hix := ba_get t
    clear h1 hq
    go_wp2
    go_loopw [4, 5, 6, 17] (fun v b m i wr => ∃ (k : Nat) (xs : Bs) (B n : Nat), k ≤ t.length ∧ i = .int .i64 k ∧ b = .int .u64 B ∧ m = .int .i64 n ∧ B < 65600 ∧ (n = 0 ∨ n = 2 ∨ n = 4 ∨ n = 6) ∧ OwnS w v xs wr ∧ xs.length ≤ k ∧ Hid (decGo [] 0 0 t = decGo xs B n (t.drop k))) (fun _ _ _ i _ => t.length - (intOf i).toNat)
    case atStart => exact ⟨0, [], 0, 0, by omega, rfl, rfl, rfl, by omega, .inl rfl, hn, by simp, Lib.hid rfl⟩
    case round =>
      obtain ⟨k, xs, B, n, hk, rfl, rfl, rfl, hB, hn4, hr, hxs, HQ⟩ := hrel
      clear hn
      by_cases hlt : k < t.length
      · have hdk : t.drop k = t[k] :: t.drop (k + 1) := List.drop_eq_getElem_cons hlt
        have hcall := fun w => letter_idx t[k] w
        cases hnum : num64 t[k] with
        | none =>
          have HN : Hid (decGo [] 0 0 t = none) := Lib.hid (by rw [HQ.out, hdk, decGo_none _ _ _ _ _ hnum])
          rw [hnum] at hcall
          clear hdk HQ hnum
          go_wp2_with fail
          refine (hcall _).mono ?_
          rintro e w3 ⟨rfl, rfl⟩
          go_wp2
          go_ret2
          exact ⟨_, by rw [HD.out, HN.out]; rfl, by rw [HD.out, HN.out]; exact (OwnS.nil w).step hr.fr⟩
        | some x =>
          have hx := num64_lt _ _ hnum
          have HN : Hid (decGo [] 0 0 t = decGo (dstep (xs, B, n) x).1 (dstep (xs, B, n) x).2.1 (dstep (xs, B, n) x).2.2 (t.drop (k + 1))) := Lib.hid (by rw [HQ.out, hdk, decGo_cons _ _ _ _ _ _ hnum])
          rw [hnum] at hcall
          clear hdk HQ hnum
          obtain ⟨M, hM⟩ : ∃ M, M = B * 64 % 65536 := ⟨_, rfl⟩
          obtain ⟨Z, hZ⟩ : ∃ Z, Z = B * 64 % 65536 + x := ⟨_, rfl⟩
          have ha : bits .and .u64 ((B : Int) * 64) 65535 = (M : Int) := by
            have := and16 (B * 64) (by omega)
            rw [hM]; simpa using this
          have ho : bits .or .u64 (M : Int) (x : Int) = (Z : Int) := by
            have := or6 M x (by omega) hx (by omega)
            rw [this, hZ, hM]
          have hZ2 : Z < 65600 := by omega
          have hM2 : M < 65536 := by omega
          clear hM
          rcases hn4 with rfl | rfl | rfl | rfl
          · have HN2 : Hid (decGo [] 0 0 t = decGo xs Z 6 (t.drop (k + 1))) := Lib.hid (by rw [HN.out, hZ]; rfl)
            clear HN hZ
            go_wp2_with fail
            refine (hcall _).mono ?_
            rintro e w3 ⟨rfl, rfl⟩
            go_wp2
            exact ⟨⟨k + 1, xs, Z, 6, by omega, by go_num, rfl, by go_num, hZ2, by omega, hr, by omega, HN2⟩, by simp [intOf]; omega⟩
          · have HN2 : Hid (decGo [] 0 0 t = decGo (xs ++ [UInt8.ofNat (Z / 1)]) Z 0 (t.drop (k + 1))) := Lib.hid (by rw [HN.out, hZ]; rfl)
            have hs := hr.slice
            obtain ⟨A, cap, rfl⟩ := hs
            have hown := hr.own
            have hbs : w.heap.size ≤ wr.heap.size := hr.fr.size
            have hc : ((Z : Int) % 256) = ((UInt8.ofNat (Z / 1)).toNat : Int) := by simp
            have HS : Hid (∀ (gg cap2 : Nat) (w1 wx : World), Fr wr wx → wx.grownBy w1 (Value.slice A xs.length cap).ownBlock → w1.ownsRow w.heap.size 5 1 (.slice (some ⟨gg, 0, none⟩) (xs.length + 1) cap2) (xs.length + 1) (Lib.byteCells xs ++ [.int .u8 ((Z : Int) % 256)]) → OwnS w (.slice (some ⟨gg, 0, none⟩) (xs.length + 1) cap2) (xs ++ [UInt8.ofNat (Z / 1)]) w1) := Lib.hid fun gg cap2 w1 wx h1 h2 h3 => hr.snoc h1 h2 hc h3
            clear HN hc hZ
            go_wp2_with fail
            refine (hcall _).mono ?_
            rintro e w3 ⟨rfl, rfl⟩
            go_wp2_with (at_builtin; refine wpList_append_lies _ rfl _ _ _ rfl w.heap.size 5 i0 _ 1 1 Tryz.underlying34 hi hz0 hz1 hz2 rfl (by omega) (.slice A (xs).length cap) (xs).length (Lib.byteCells (xs)) rfl (hown.alloc _) ⟨w3.heap.size, 0, none⟩ 1 1 [.int .u8 ((Z : Int) % 256)] rfl rfl (World.news_of_block (cs := #[.int .u8 ((Z : Int) % 256)]) (t := 5) (fr := (0, 0)) (heap_alloc_new w3 _)) (by simp [Value.oneCell']) (by omega) (by unfold maxLen; omega) (by omega) (by simp; omega) (w3.heap.size + 1) (by simp) ?_; intro gg cap2 w1 hown1 hgrow hat hlt2)
            have hr3 := HS.out gg cap2 w1 _ ((Fr.refl _).alloc _) hgrow hown1
            exact ⟨⟨k + 1, xs ++ [UInt8.ofNat (Z / 1)], Z, 0, by omega, by go_num, rfl, by go_num, hZ2, by omega, by simpa using hr3, by simp; omega, by simpa using HN2⟩, by simp [intOf]; omega⟩
          · have HN2 : Hid (decGo [] 0 0 t = decGo (xs ++ [UInt8.ofNat (Z / 4)]) Z 2 (t.drop (k + 1))) := Lib.hid (by rw [HN.out, hZ]; rfl)
            have hs := hr.slice
            obtain ⟨A, cap, rfl⟩ := hs
            have hown := hr.own
            have hbs : w.heap.size ≤ wr.heap.size := hr.fr.size
            have hc : ((Z : Int) / 4 % 256) = ((UInt8.ofNat (Z / 4)).toNat : Int) := by simp
            have HS : Hid (∀ (gg cap2 : Nat) (w1 wx : World), Fr wr wx → wx.grownBy w1 (Value.slice A xs.length cap).ownBlock → w1.ownsRow w.heap.size 5 1 (.slice (some ⟨gg, 0, none⟩) (xs.length + 1) cap2) (xs.length + 1) (Lib.byteCells xs ++ [.int .u8 ((Z : Int) / 4 % 256)]) → OwnS w (.slice (some ⟨gg, 0, none⟩) (xs.length + 1) cap2) (xs ++ [UInt8.ofNat (Z / 4)]) w1) := Lib.hid fun gg cap2 w1 wx h1 h2 h3 => hr.snoc h1 h2 hc h3
            clear HN hc hZ
            go_wp2_with fail
            refine (hcall _).mono ?_
            rintro e w3 ⟨rfl, rfl⟩
            go_wp2_with (at_builtin; refine wpList_append_lies _ rfl _ _ _ rfl w.heap.size 5 i0 _ 1 1 Tryz.underlying34 hi hz0 hz1 hz2 rfl (by omega) (.slice A (xs).length cap) (xs).length (Lib.byteCells (xs)) rfl (hown.alloc _) ⟨w3.heap.size, 0, none⟩ 1 1 [.int .u8 ((Z : Int) / 4 % 256)] rfl rfl (World.news_of_block (cs := #[.int .u8 ((Z : Int) / 4 % 256)]) (t := 5) (fr := (0, 0)) (heap_alloc_new w3 _)) (by simp [Value.oneCell']) (by omega) (by unfold maxLen; omega) (by omega) (by simp; omega) (w3.heap.size + 1) (by simp) ?_; intro gg cap2 w1 hown1 hgrow hat hlt2)
            have hr3 := HS.out gg cap2 w1 _ ((Fr.refl _).alloc _) hgrow hown1
            exact ⟨⟨k + 1, xs ++ [UInt8.ofNat (Z / 4)], Z, 2, by omega, by go_num, rfl, by go_num, hZ2, by omega, by simpa using hr3, by simp; omega, by simpa using HN2⟩, by simp [intOf]; omega⟩
          · have HN2 : Hid (decGo [] 0 0 t = decGo (xs ++ [UInt8.ofNat (Z / 16)]) Z 4 (t.drop (k + 1))) := Lib.hid (by rw [HN.out, hZ]; rfl)
            have hs := hr.slice
            obtain ⟨A, cap, rfl⟩ := hs
            have hown := hr.own
            have hbs : w.heap.size ≤ wr.heap.size := hr.fr.size
            have hc : ((Z : Int) / 16 % 256) = ((UInt8.ofNat (Z / 16)).toNat : Int) := by simp
            have HS : Hid (∀ (gg cap2 : Nat) (w1 wx : World), Fr wr wx → wx.grownBy w1 (Value.slice A xs.length cap).ownBlock → w1.ownsRow w.heap.size 5 1 (.slice (some ⟨gg, 0, none⟩) (xs.length + 1) cap2) (xs.length + 1) (Lib.byteCells xs ++ [.int .u8 ((Z : Int) / 16 % 256)]) → OwnS w (.slice (some ⟨gg, 0, none⟩) (xs.length + 1) cap2) (xs ++ [UInt8.ofNat (Z / 16)]) w1) := Lib.hid fun gg cap2 w1 wx h1 h2 h3 => hr.snoc h1 h2 hc h3
            clear HN hc hZ
            go_wp2_with fail
            refine (hcall _).mono ?_
            rintro e w3 ⟨rfl, rfl⟩
            go_wp2_with (at_builtin; refine wpList_append_lies _ rfl _ _ _ rfl w.heap.size 5 i0 _ 1 1 Tryz.underlying34 hi hz0 hz1 hz2 rfl (by omega) (.slice A (xs).length cap) (xs).length (Lib.byteCells (xs)) rfl (hown.alloc _) ⟨w3.heap.size, 0, none⟩ 1 1 [.int .u8 ((Z : Int) / 16 % 256)] rfl rfl (World.news_of_block (cs := #[.int .u8 ((Z : Int) / 16 % 256)]) (t := 5) (fr := (0, 0)) (heap_alloc_new w3 _)) (by simp [Value.oneCell']) (by omega) (by unfold maxLen; omega) (by omega) (by simp; omega) (w3.heap.size + 1) (by simp) ?_; intro gg cap2 w1 hown1 hgrow hat hlt2)
            have hr3 := HS.out gg cap2 w1 _ ((Fr.refl _).alloc _) hgrow hown1
            exact ⟨⟨k + 1, xs ++ [UInt8.ofNat (Z / 16)], Z, 4, by omega, by go_num, rfl, by go_num, hZ2, by omega, by simpa using hr3, by simp; omega, by simpa using HN2⟩, by simp [intOf]; omega⟩
      · have HN : Hid (decGo [] 0 0 t = some xs) := Lib.hid (by rw [HQ.out, List.drop_eq_nil_of_le (by omega), decGo_nil])
        clear HQ
        go_wp2
        go_ret2
        exact ⟨_, by rw [HD.out, HN.out]; rfl, by rw [HD.out, HN.out]; exact hr⟩
end Go.Proofs.YtogpmgjdmoglkaaGreatDoor
