/- Walks: the document's small letters, hexadecimal digits, and what a text with escapes means. -/
import Derived.Test.YtogpmgjdmoglkaaGreatDoorHWe
import Derived.Test.YtogpmgjdmoglkaaGreatDoorHWq
set_option linter.unusedVariables false
set_option linter.unusedSimpArgs false
namespace Go.Proofs.YtogpmgjdmoglkaaGreatDoor
open Go.RowKit Pu

theorem lower_take (l : Bs) (k : Nat) (h : k < l.length) : lower (l.take (k + 1)) = lower (l.take k) ++ [lowC l[k]] := by
  rw [List.take_succ_eq_append_getElem h]; unfold lower; rw [List.map_append]; rfl

set_option maxRecDepth 100000 in
set_option maxHeartbeats 1000000 in
theorem rlower_any (l : Bs) (hl : l.length ≤ 1000000000) (w : World) : Calls Tryz.prog 53 #[S l] w fun e w' => e = .returned (S (lower l)) ∧ Fr w w' := by
  obtain ⟨i0, hi, hz0, hz1, hz2⟩ := info_parts byte_info
  have hn := OwnS.nil w
  go_enter Tryz.func53, Tryz.ntmps53
  go_wp2
  go_loopw [3, 8] (fun v i wr => ∃ (k : Nat) (xs : Bs), k ≤ l.length ∧ i = .int .i64 k ∧ OwnS w v xs wr ∧ xs.length ≤ k ∧ Hid (xs = lower (l.take k))) (fun _ i _ => l.length - (intOf i).toNat)
  case atStart => exact ⟨0, [], Nat.zero_le _, rfl, hn, Nat.le_refl _, rfl⟩
  case round =>
    obtain ⟨k, xs, hk, rfl, hr, hxs, HX⟩ := hrel
    obtain ⟨A, cap, rfl⟩ := hr.slice
    by_cases hlt : k < l.length
    · have hix := ba_get l
      have hown := hr.own
      have hbs := hr.fr.size
      have hu := u8_lt l[k]
      have HS : Hid (∀ (gg cap2 : Nat) (w1 wx : World) (z : Int), z = ((lowC l[k]).toNat : Int) → Fr wr wx → wx.grownBy w1 (Value.slice A xs.length cap).ownBlock → w1.ownsRow w.heap.size 5 1 (.slice (some ⟨gg, 0, none⟩) (xs.length + 1) cap2) (xs.length + 1) (Lib.byteCells xs ++ [.int .u8 z]) →
            ∃ ys : Bs, OwnS w (.slice (some ⟨gg, 0, none⟩) (xs.length + 1) cap2) ys w1 ∧ ys.length ≤ k + 1 ∧ Hid (ys = lower (l.take (k + 1)))) := Lib.hid (fun gg cap2 w1 wx z hz hf hg ho =>
          ⟨_, hr.snoc hf hg hz ho, by simp; omega, Lib.hid (by rw [lower_take l k hlt, HX.out])⟩)
      clear hn
      by_cases h1 : 65 ≤ (l[k].toNat : Int)
      · by_cases h2 : (l[k].toNat : Int) ≤ 90
        · have hz : Hid ((l[k].toNat : Int) + 32 = ((lowC l[k]).toNat : Int)) := Lib.hid (lowC_yes _ h1 h2).symm
          go_wp2_with (at_builtin; refine wpList_append_lies _ rfl _ _ _ rfl w.heap.size 5 i0 _ 1 1 Tryz.underlying34 hi hz0 hz1 hz2 rfl (by omega) (.slice A (xs).length cap) (xs).length (Lib.byteCells (xs)) rfl (hown.alloc _) ⟨wr.heap.size, 0, none⟩ 1 1 [.int .u8 ((l[k].toNat : Int) + 32)] rfl rfl (World.news_of_block (cs := #[.int .u8 ((l[k].toNat : Int) + 32)]) (t := 5) (fr := (0, 0)) (heap_alloc_new wr _)) (by simp [Value.oneCell']) (by omega) (by unfold maxLen; omega) (by omega) (by simp; omega) (wr.heap.size + 1) (by simp) ?_; intro gg cap2 w1 hown1 hgrow hat hlt2)
          obtain ⟨ys, hy1, hy2, hy3⟩ := HS.out gg cap2 w1 _ _ hz.out ((Fr.refl wr).alloc _) hgrow hown1
          exact ⟨⟨k + 1, ys, by omega, by go_num, hy1, hy2, hy3⟩, by simp [intOf]; omega⟩
        · have hz : Hid ((l[k].toNat : Int) = ((lowC l[k]).toNat : Int)) := Lib.hid (by rw [lowC_no _ (by omega)])
          go_wp2_with (at_builtin; refine wpList_append_lies _ rfl _ _ _ rfl w.heap.size 5 i0 _ 1 1 Tryz.underlying34 hi hz0 hz1 hz2 rfl (by omega) (.slice A (xs).length cap) (xs).length (Lib.byteCells (xs)) rfl (hown.alloc _) ⟨wr.heap.size, 0, none⟩ 1 1 [.int .u8 (l[k].toNat : Int)] rfl rfl (World.news_of_block (cs := #[.int .u8 (l[k].toNat : Int)]) (t := 5) (fr := (0, 0)) (heap_alloc_new wr _)) (by simp [Value.oneCell']) (by omega) (by unfold maxLen; omega) (by omega) (by simp; omega) (wr.heap.size + 1) (by simp) ?_; intro gg cap2 w1 hown1 hgrow hat hlt2)
          obtain ⟨ys, hy1, hy2, hy3⟩ := HS.out gg cap2 w1 _ _ hz.out ((Fr.refl wr).alloc _) hgrow hown1
          exact ⟨⟨k + 1, ys, by omega, by go_num, hy1, hy2, hy3⟩, by simp [intOf]; omega⟩
      · have hz : Hid ((l[k].toNat : Int) = ((lowC l[k]).toNat : Int)) := Lib.hid (by rw [lowC_no _ (by omega)])
        go_wp2_with (at_builtin; refine wpList_append_lies _ rfl _ _ _ rfl w.heap.size 5 i0 _ 1 1 Tryz.underlying34 hi hz0 hz1 hz2 rfl (by omega) (.slice A (xs).length cap) (xs).length (Lib.byteCells (xs)) rfl (hown.alloc _) ⟨wr.heap.size, 0, none⟩ 1 1 [.int .u8 (l[k].toNat : Int)] rfl rfl (World.news_of_block (cs := #[.int .u8 (l[k].toNat : Int)]) (t := 5) (fr := (0, 0)) (heap_alloc_new wr _)) (by simp [Value.oneCell']) (by omega) (by unfold maxLen; omega) (by omega) (by simp; omega) (wr.heap.size + 1) (by simp) ?_; intro gg cap2 w1 hown1 hgrow hat hlt2)
        obtain ⟨ys, hy1, hy2, hy3⟩ := HS.out gg cap2 w1 _ _ hz.out ((Fr.refl wr).alloc _) hgrow hown1
        exact ⟨⟨k + 1, ys, by omega, by go_num, hy1, hy2, hy3⟩, by simp [intOf]; omega⟩
    · obtain rfl : k = l.length := by omega
      have H2 : Hid (xs = lower l) := Lib.hid (by rw [HX.out, List.take_length])
      have hs := hr.str
      have hf := hr.fr
      go_wp2
      go_ret
      exact ⟨ret_s H2.out, hf⟩

/-! ### Hex -/
def hexAt (k c : Nat) : Bool := (if k < 10 then 48 + k else 87 + k) == c || (decide (9 < k) && 55 + k == c)
set_option maxRecDepth 1000000 in
theorem hex_first : ∀ c : _root_.Fin 256, ∀ k : _root_.Fin 16, hexAt k.val c.val = true → hex (c.val : Int) = (k.val : Int) := by decide +kernel
set_option maxRecDepth 1000000 in
theorem hex_none : ∀ c : _root_.Fin 256, (∀ k : _root_.Fin 16, hexAt k.val c.val = false) → hex (c.val : Int) = -1 := by decide +kernel
set_option maxRecDepth 100000 in
set_option maxHeartbeats 4000000 in
theorem rhex_any (c : UInt8) (w : World) : Calls Tryz.prog 139 #[.int .u8 (c.toNat : Int)] w fun e w' => e = .returned (.int .i64 (hex (bI c))) ∧ w = w' := by
  have hu := u8_lt c
  have hu0 : 0 ≤ (c.toNat : Int) := by omega
  have HF : Hid (∀ k, k < 16 → hexAt k c.toNat = true → hex (bI c) = (k : Int)) := Lib.hid (fun k hk h => hex_first c.toFin ⟨k, hk⟩ h)
  have HN : Hid ((∀ k, k < 16 → hexAt k c.toNat = false) → hex (bI c) = -1) := Lib.hid (fun h => hex_none c.toFin fun k => h k.val k.isLt)
  go_enter Tryz.func139, Tryz.ntmps139
  go_wp2
  go_loopw [4] (fun i wr => ∃ k : Nat, k ≤ 16 ∧ i = .int .i64 k ∧ wr = w ∧ Hid (∀ j, j < k → hexAt j c.toNat = false)) (fun i _ => 16 - (intOf i).toNat)
  case atStart => exact ⟨0, by omega, rfl, rfl, Lib.hid (fun j h => by omega)⟩
  case round =>
    obtain ⟨k, hk, rfl, rfl, HA⟩ := hrel
    have HS : Hid (hexAt k c.toNat = false → ∀ j, j < k + 1 → hexAt j c.toNat = false) := Lib.hid (fun h j hj => by
      by_cases e : j = k
      · subst e; exact h
      · exact HA.out j (by omega))
    by_cases h16 : k = 16
    · subst h16
      have H2 : Hid (hex (bI c) = -1) := Lib.hid (HN.out HA.out)
      go_wp2
      go_ret
      exact ⟨ret_i H2.out.symm, rfl⟩
    · have hcs : k = 0 ∨ k = 1 ∨ k = 2 ∨ k = 3 ∨ k = 4 ∨ k = 5 ∨ k = 6 ∨ k = 7 ∨ k = 8 ∨ k = 9 ∨ k = 10 ∨ k = 11 ∨ k = 12 ∨ k = 13 ∨ k = 14 ∨ k = 15 := by omega
      clear h16 HA HN
      rcases hcs with rfl | rfl | rfl | rfl | rfl | rfl | rfl | rfl | rfl | rfl | rfl | rfl | rfl | rfl | rfl | rfl
      · have hq : (((⟨#[48, 49, 50, 51, 52, 53, 54, 55, 56, 57, 97, 98, 99, 100, 101, 102]⟩ : ByteArray)[0]'(by decide)).toNat : Int) = 48 := rfl
        by_cases h1 : c.toNat = 48
        · have e1 : ((48 : Int) == (c.toNat : Int)) = true := by rw [h1]; rfl
          have H2 : Hid (hex (bI c) = 0) := Lib.hid (HF.out 0 (by omega) (by rw [h1]; rfl))
          clear h1
          go_wp2
          go_ret
          exact ⟨ret_i H2.out.symm, rfl⟩
        · have e1 : ((48 : Int) == (c.toNat : Int)) = false := by rw [beq_eq_false_iff_ne]; omega
          have H2 := Lib.hid (HS.out (by simp [hexAt]; omega))
          clear h1
          go_wp2
          exact ⟨⟨0 + 1, by omega, by go_num, by first | rfl | trivial, H2⟩, by simp [intOf]⟩
      · have hq : (((⟨#[48, 49, 50, 51, 52, 53, 54, 55, 56, 57, 97, 98, 99, 100, 101, 102]⟩ : ByteArray)[1]'(by decide)).toNat : Int) = 49 := rfl
        by_cases h1 : c.toNat = 49
        · have e1 : ((49 : Int) == (c.toNat : Int)) = true := by rw [h1]; rfl
          have H2 : Hid (hex (bI c) = 1) := Lib.hid (HF.out 1 (by omega) (by rw [h1]; rfl))
          clear h1
          go_wp2
          go_ret
          exact ⟨ret_i H2.out.symm, rfl⟩
        · have e1 : ((49 : Int) == (c.toNat : Int)) = false := by rw [beq_eq_false_iff_ne]; omega
          have H2 := Lib.hid (HS.out (by simp [hexAt]; omega))
          clear h1
          go_wp2
          exact ⟨⟨1 + 1, by omega, by go_num, by first | rfl | trivial, H2⟩, by simp [intOf]⟩
      · have hq : (((⟨#[48, 49, 50, 51, 52, 53, 54, 55, 56, 57, 97, 98, 99, 100, 101, 102]⟩ : ByteArray)[2]'(by decide)).toNat : Int) = 50 := rfl
        by_cases h1 : c.toNat = 50
        · have e1 : ((50 : Int) == (c.toNat : Int)) = true := by rw [h1]; rfl
          have H2 : Hid (hex (bI c) = 2) := Lib.hid (HF.out 2 (by omega) (by rw [h1]; rfl))
          clear h1
          go_wp2
          go_ret
          exact ⟨ret_i H2.out.symm, rfl⟩
        · have e1 : ((50 : Int) == (c.toNat : Int)) = false := by rw [beq_eq_false_iff_ne]; omega
          have H2 := Lib.hid (HS.out (by simp [hexAt]; omega))
          clear h1
          go_wp2
          exact ⟨⟨2 + 1, by omega, by go_num, by first | rfl | trivial, H2⟩, by simp [intOf]⟩
      · have hq : (((⟨#[48, 49, 50, 51, 52, 53, 54, 55, 56, 57, 97, 98, 99, 100, 101, 102]⟩ : ByteArray)[3]'(by decide)).toNat : Int) = 51 := rfl
        by_cases h1 : c.toNat = 51
        · have e1 : ((51 : Int) == (c.toNat : Int)) = true := by rw [h1]; rfl
          have H2 : Hid (hex (bI c) = 3) := Lib.hid (HF.out 3 (by omega) (by rw [h1]; rfl))
          clear h1
          go_wp2
          go_ret
          exact ⟨ret_i H2.out.symm, rfl⟩
        · have e1 : ((51 : Int) == (c.toNat : Int)) = false := by rw [beq_eq_false_iff_ne]; omega
          have H2 := Lib.hid (HS.out (by simp [hexAt]; omega))
          clear h1
          go_wp2
          exact ⟨⟨3 + 1, by omega, by go_num, by first | rfl | trivial, H2⟩, by simp [intOf]⟩
      · have hq : (((⟨#[48, 49, 50, 51, 52, 53, 54, 55, 56, 57, 97, 98, 99, 100, 101, 102]⟩ : ByteArray)[4]'(by decide)).toNat : Int) = 52 := rfl
        by_cases h1 : c.toNat = 52
        · have e1 : ((52 : Int) == (c.toNat : Int)) = true := by rw [h1]; rfl
          have H2 : Hid (hex (bI c) = 4) := Lib.hid (HF.out 4 (by omega) (by rw [h1]; rfl))
          clear h1
          go_wp2
          go_ret
          exact ⟨ret_i H2.out.symm, rfl⟩
        · have e1 : ((52 : Int) == (c.toNat : Int)) = false := by rw [beq_eq_false_iff_ne]; omega
          have H2 := Lib.hid (HS.out (by simp [hexAt]; omega))
          clear h1
          go_wp2
          exact ⟨⟨4 + 1, by omega, by go_num, by first | rfl | trivial, H2⟩, by simp [intOf]⟩
      · have hq : (((⟨#[48, 49, 50, 51, 52, 53, 54, 55, 56, 57, 97, 98, 99, 100, 101, 102]⟩ : ByteArray)[5]'(by decide)).toNat : Int) = 53 := rfl
        by_cases h1 : c.toNat = 53
        · have e1 : ((53 : Int) == (c.toNat : Int)) = true := by rw [h1]; rfl
          have H2 : Hid (hex (bI c) = 5) := Lib.hid (HF.out 5 (by omega) (by rw [h1]; rfl))
          clear h1
          go_wp2
          go_ret
          exact ⟨ret_i H2.out.symm, rfl⟩
        · have e1 : ((53 : Int) == (c.toNat : Int)) = false := by rw [beq_eq_false_iff_ne]; omega
          have H2 := Lib.hid (HS.out (by simp [hexAt]; omega))
          clear h1
          go_wp2
          exact ⟨⟨5 + 1, by omega, by go_num, by first | rfl | trivial, H2⟩, by simp [intOf]⟩
      · have hq : (((⟨#[48, 49, 50, 51, 52, 53, 54, 55, 56, 57, 97, 98, 99, 100, 101, 102]⟩ : ByteArray)[6]'(by decide)).toNat : Int) = 54 := rfl
        by_cases h1 : c.toNat = 54
        · have e1 : ((54 : Int) == (c.toNat : Int)) = true := by rw [h1]; rfl
          have H2 : Hid (hex (bI c) = 6) := Lib.hid (HF.out 6 (by omega) (by rw [h1]; rfl))
          clear h1
          go_wp2
          go_ret
          exact ⟨ret_i H2.out.symm, rfl⟩
        · have e1 : ((54 : Int) == (c.toNat : Int)) = false := by rw [beq_eq_false_iff_ne]; omega
          have H2 := Lib.hid (HS.out (by simp [hexAt]; omega))
          clear h1
          go_wp2
          exact ⟨⟨6 + 1, by omega, by go_num, by first | rfl | trivial, H2⟩, by simp [intOf]⟩
      · have hq : (((⟨#[48, 49, 50, 51, 52, 53, 54, 55, 56, 57, 97, 98, 99, 100, 101, 102]⟩ : ByteArray)[7]'(by decide)).toNat : Int) = 55 := rfl
        by_cases h1 : c.toNat = 55
        · have e1 : ((55 : Int) == (c.toNat : Int)) = true := by rw [h1]; rfl
          have H2 : Hid (hex (bI c) = 7) := Lib.hid (HF.out 7 (by omega) (by rw [h1]; rfl))
          clear h1
          go_wp2
          go_ret
          exact ⟨ret_i H2.out.symm, rfl⟩
        · have e1 : ((55 : Int) == (c.toNat : Int)) = false := by rw [beq_eq_false_iff_ne]; omega
          have H2 := Lib.hid (HS.out (by simp [hexAt]; omega))
          clear h1
          go_wp2
          exact ⟨⟨7 + 1, by omega, by go_num, by first | rfl | trivial, H2⟩, by simp [intOf]⟩
      · have hq : (((⟨#[48, 49, 50, 51, 52, 53, 54, 55, 56, 57, 97, 98, 99, 100, 101, 102]⟩ : ByteArray)[8]'(by decide)).toNat : Int) = 56 := rfl
        by_cases h1 : c.toNat = 56
        · have e1 : ((56 : Int) == (c.toNat : Int)) = true := by rw [h1]; rfl
          have H2 : Hid (hex (bI c) = 8) := Lib.hid (HF.out 8 (by omega) (by rw [h1]; rfl))
          clear h1
          go_wp2
          go_ret
          exact ⟨ret_i H2.out.symm, rfl⟩
        · have e1 : ((56 : Int) == (c.toNat : Int)) = false := by rw [beq_eq_false_iff_ne]; omega
          have H2 := Lib.hid (HS.out (by simp [hexAt]; omega))
          clear h1
          go_wp2
          exact ⟨⟨8 + 1, by omega, by go_num, by first | rfl | trivial, H2⟩, by simp [intOf]⟩
      · have hq : (((⟨#[48, 49, 50, 51, 52, 53, 54, 55, 56, 57, 97, 98, 99, 100, 101, 102]⟩ : ByteArray)[9]'(by decide)).toNat : Int) = 57 := rfl
        by_cases h1 : c.toNat = 57
        · have e1 : ((57 : Int) == (c.toNat : Int)) = true := by rw [h1]; rfl
          have H2 : Hid (hex (bI c) = 9) := Lib.hid (HF.out 9 (by omega) (by rw [h1]; rfl))
          clear h1
          go_wp2
          go_ret
          exact ⟨ret_i H2.out.symm, rfl⟩
        · have e1 : ((57 : Int) == (c.toNat : Int)) = false := by rw [beq_eq_false_iff_ne]; omega
          have H2 := Lib.hid (HS.out (by simp [hexAt]; omega))
          clear h1
          go_wp2
          exact ⟨⟨9 + 1, by omega, by go_num, by first | rfl | trivial, H2⟩, by simp [intOf]⟩
      · have hq : (((⟨#[48, 49, 50, 51, 52, 53, 54, 55, 56, 57, 97, 98, 99, 100, 101, 102]⟩ : ByteArray)[10]'(by decide)).toNat : Int) = 97 := rfl
        by_cases h1 : c.toNat = 97
        · have e1 : ((97 : Int) == (c.toNat : Int)) = true := by rw [h1]; rfl
          have H2 : Hid (hex (bI c) = 10) := Lib.hid (HF.out 10 (by omega) (by rw [h1]; rfl))
          clear h1
          go_wp2
          go_ret
          exact ⟨ret_i H2.out.symm, rfl⟩
        · have e1 : ((97 : Int) == (c.toNat : Int)) = false := by rw [beq_eq_false_iff_ne]; omega
          by_cases h2 : c.toNat = 65
          · have e2 : ((65 : Int) == (c.toNat : Int)) = true := by rw [h2]; rfl
            have H2 : Hid (hex (bI c) = 10) := Lib.hid (HF.out 10 (by omega) (by rw [h2]; rfl))
            clear h1 h2
            go_wp2
            go_ret
            exact ⟨ret_i H2.out.symm, rfl⟩
          · have e2 : ((65 : Int) == (c.toNat : Int)) = false := by rw [beq_eq_false_iff_ne]; omega
            have H2 := Lib.hid (HS.out (by simp [hexAt]; omega))
            clear h1 h2
            go_wp2
            exact ⟨⟨10 + 1, by omega, by go_num, by first | rfl | trivial, H2⟩, by simp [intOf]⟩
      · have hq : (((⟨#[48, 49, 50, 51, 52, 53, 54, 55, 56, 57, 97, 98, 99, 100, 101, 102]⟩ : ByteArray)[11]'(by decide)).toNat : Int) = 98 := rfl
        by_cases h1 : c.toNat = 98
        · have e1 : ((98 : Int) == (c.toNat : Int)) = true := by rw [h1]; rfl
          have H2 : Hid (hex (bI c) = 11) := Lib.hid (HF.out 11 (by omega) (by rw [h1]; rfl))
          clear h1
          go_wp2
          go_ret
          exact ⟨ret_i H2.out.symm, rfl⟩
        · have e1 : ((98 : Int) == (c.toNat : Int)) = false := by rw [beq_eq_false_iff_ne]; omega
          by_cases h2 : c.toNat = 66
          · have e2 : ((66 : Int) == (c.toNat : Int)) = true := by rw [h2]; rfl
            have H2 : Hid (hex (bI c) = 11) := Lib.hid (HF.out 11 (by omega) (by rw [h2]; rfl))
            clear h1 h2
            go_wp2
            go_ret
            exact ⟨ret_i H2.out.symm, rfl⟩
          · have e2 : ((66 : Int) == (c.toNat : Int)) = false := by rw [beq_eq_false_iff_ne]; omega
            have H2 := Lib.hid (HS.out (by simp [hexAt]; omega))
            clear h1 h2
            go_wp2
            exact ⟨⟨11 + 1, by omega, by go_num, by first | rfl | trivial, H2⟩, by simp [intOf]⟩
      · have hq : (((⟨#[48, 49, 50, 51, 52, 53, 54, 55, 56, 57, 97, 98, 99, 100, 101, 102]⟩ : ByteArray)[12]'(by decide)).toNat : Int) = 99 := rfl
        by_cases h1 : c.toNat = 99
        · have e1 : ((99 : Int) == (c.toNat : Int)) = true := by rw [h1]; rfl
          have H2 : Hid (hex (bI c) = 12) := Lib.hid (HF.out 12 (by omega) (by rw [h1]; rfl))
          clear h1
          go_wp2
          go_ret
          exact ⟨ret_i H2.out.symm, rfl⟩
        · have e1 : ((99 : Int) == (c.toNat : Int)) = false := by rw [beq_eq_false_iff_ne]; omega
          by_cases h2 : c.toNat = 67
          · have e2 : ((67 : Int) == (c.toNat : Int)) = true := by rw [h2]; rfl
            have H2 : Hid (hex (bI c) = 12) := Lib.hid (HF.out 12 (by omega) (by rw [h2]; rfl))
            clear h1 h2
            go_wp2
            go_ret
            exact ⟨ret_i H2.out.symm, rfl⟩
          · have e2 : ((67 : Int) == (c.toNat : Int)) = false := by rw [beq_eq_false_iff_ne]; omega
            have H2 := Lib.hid (HS.out (by simp [hexAt]; omega))
            clear h1 h2
            go_wp2
            exact ⟨⟨12 + 1, by omega, by go_num, by first | rfl | trivial, H2⟩, by simp [intOf]⟩
      · have hq : (((⟨#[48, 49, 50, 51, 52, 53, 54, 55, 56, 57, 97, 98, 99, 100, 101, 102]⟩ : ByteArray)[13]'(by decide)).toNat : Int) = 100 := rfl
        by_cases h1 : c.toNat = 100
        · have e1 : ((100 : Int) == (c.toNat : Int)) = true := by rw [h1]; rfl
          have H2 : Hid (hex (bI c) = 13) := Lib.hid (HF.out 13 (by omega) (by rw [h1]; rfl))
          clear h1
          go_wp2
          go_ret
          exact ⟨ret_i H2.out.symm, rfl⟩
        · have e1 : ((100 : Int) == (c.toNat : Int)) = false := by rw [beq_eq_false_iff_ne]; omega
          by_cases h2 : c.toNat = 68
          · have e2 : ((68 : Int) == (c.toNat : Int)) = true := by rw [h2]; rfl
            have H2 : Hid (hex (bI c) = 13) := Lib.hid (HF.out 13 (by omega) (by rw [h2]; rfl))
            clear h1 h2
            go_wp2
            go_ret
            exact ⟨ret_i H2.out.symm, rfl⟩
          · have e2 : ((68 : Int) == (c.toNat : Int)) = false := by rw [beq_eq_false_iff_ne]; omega
            have H2 := Lib.hid (HS.out (by simp [hexAt]; omega))
            clear h1 h2
            go_wp2
            exact ⟨⟨13 + 1, by omega, by go_num, by first | rfl | trivial, H2⟩, by simp [intOf]⟩
      · have hq : (((⟨#[48, 49, 50, 51, 52, 53, 54, 55, 56, 57, 97, 98, 99, 100, 101, 102]⟩ : ByteArray)[14]'(by decide)).toNat : Int) = 101 := rfl
        by_cases h1 : c.toNat = 101
        · have e1 : ((101 : Int) == (c.toNat : Int)) = true := by rw [h1]; rfl
          have H2 : Hid (hex (bI c) = 14) := Lib.hid (HF.out 14 (by omega) (by rw [h1]; rfl))
          clear h1
          go_wp2
          go_ret
          exact ⟨ret_i H2.out.symm, rfl⟩
        · have e1 : ((101 : Int) == (c.toNat : Int)) = false := by rw [beq_eq_false_iff_ne]; omega
          by_cases h2 : c.toNat = 69
          · have e2 : ((69 : Int) == (c.toNat : Int)) = true := by rw [h2]; rfl
            have H2 : Hid (hex (bI c) = 14) := Lib.hid (HF.out 14 (by omega) (by rw [h2]; rfl))
            clear h1 h2
            go_wp2
            go_ret
            exact ⟨ret_i H2.out.symm, rfl⟩
          · have e2 : ((69 : Int) == (c.toNat : Int)) = false := by rw [beq_eq_false_iff_ne]; omega
            have H2 := Lib.hid (HS.out (by simp [hexAt]; omega))
            clear h1 h2
            go_wp2
            exact ⟨⟨14 + 1, by omega, by go_num, by first | rfl | trivial, H2⟩, by simp [intOf]⟩
      · have hq : (((⟨#[48, 49, 50, 51, 52, 53, 54, 55, 56, 57, 97, 98, 99, 100, 101, 102]⟩ : ByteArray)[15]'(by decide)).toNat : Int) = 102 := rfl
        by_cases h1 : c.toNat = 102
        · have e1 : ((102 : Int) == (c.toNat : Int)) = true := by rw [h1]; rfl
          have H2 : Hid (hex (bI c) = 15) := Lib.hid (HF.out 15 (by omega) (by rw [h1]; rfl))
          clear h1
          go_wp2
          go_ret
          exact ⟨ret_i H2.out.symm, rfl⟩
        · have e1 : ((102 : Int) == (c.toNat : Int)) = false := by rw [beq_eq_false_iff_ne]; omega
          by_cases h2 : c.toNat = 70
          · have e2 : ((70 : Int) == (c.toNat : Int)) = true := by rw [h2]; rfl
            have H2 : Hid (hex (bI c) = 15) := Lib.hid (HF.out 15 (by omega) (by rw [h2]; rfl))
            clear h1 h2
            go_wp2
            go_ret
            exact ⟨ret_i H2.out.symm, rfl⟩
          · have e2 : ((70 : Int) == (c.toNat : Int)) = false := by rw [beq_eq_false_iff_ne]; omega
            have H2 := Lib.hid (HS.out (by simp [hexAt]; omega))
            clear h1 h2
            go_wp2
            exact ⟨⟨15 + 1, by omega, by go_num, by first | rfl | trivial, H2⟩, by simp [intOf]⟩
end Go.Proofs.YtogpmgjdmoglkaaGreatDoor
