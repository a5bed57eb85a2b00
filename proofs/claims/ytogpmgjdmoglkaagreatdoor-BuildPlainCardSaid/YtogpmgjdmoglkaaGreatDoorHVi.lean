/- Walks: strings.IndexRune of a character that is no ASCII in base's blanks; base.squeeze. -/
import Derived.Test.YtogpmgjdmoglkaaGreatDoorHVc
import Derived.Test.YtogpmgjdmoglkaaGreatDoorHPu
import Derived.WalkMore
set_option linter.unusedVariables false
set_option linter.unusedSimpArgs false
namespace Go.Proofs.YtogpmgjdmoglkaaGreatDoor
open Go.RowKit Pu

def blank5 : Bs := [9, 10, 12, 13, 32]
theorem idx_none (l : Bs) (h : ∀ c ∈ l, c.toNat < 128) (d : UInt8) (hd : 128 ≤ d.toNat) : Lib.indexByte l d = -1 := by
  induction l with
  | nil => rfl
  | cons c r ih =>
    have hc := h c (by simp)
    have hne : (c == d) = false := by rw [beq_eq_false_iff_ne]; rintro rfl; omega
    have ih2 := ih (fun x hx => h x (by simp [hx]))
    simp [Lib.indexByte, hne, ih2]
theorem ib_none (l : Bs) (h : ∀ c ∈ l, c.toNat < 128) (d : UInt8) (hd : 128 ≤ d.toNat) (w : World) : Calls Tryz.prog 84 #[S l, .int .u8 (d.toNat : Int)] w fun e w' => e = .returned (.int .i64 (-1)) ∧ w' = w := by
  have := Tryz.strings_IndexByte ⟨l.toArray⟩ (d.toNat : Int) w
  rw [show (d.toNat : Int).toNat.toUInt8 = d from by simp, idx_none _ h d hd] at this
  exact this
set_option maxRecDepth 100000 in
set_option maxHeartbeats 4000000 in
theorem irune_bad (w : World) : Calls Tryz.prog 211 #[S blank5, .int .i32 65533] w fun e w' => e = .returned (.int .i64 (-1)) ∧ Fr w w' := by
  go_enter Tryz.func211, Tryz.ntmps211
  go_wp2
  go_loopg [] 5 (fun gf wx => ∃ pos : Nat, wx.heap[w.heap.size]? = some (.stringIter ⟨blank5.toArray⟩ pos) ∧ Below w.heap.size w wx ∧ pos ≤ 5 ∧ 5 ≤ pos + gf)
  case atStart => exact ⟨0, World.iter_heap w _ 0, (Below.refl _ w).alloc (Nat.le_refl _) _, by omega, by omega⟩
  case round =>
    obtain ⟨pos, hit, hbw, hpl, hfu⟩ := hrel
    by_cases hps : pos < blank5.length
    · obtain ⟨g', rfl⟩ : ∃ g', gk = g' + 1 := ⟨gk - 1, by have : blank5.length = 5 := rfl; omega⟩
      obtain ⟨R, K, W, hg, hK1, hK2, hnx, hitW, hbwW, -, -⟩ := rune_next blank5 wr _ pos hit hps
      have hbw2 := hbwW _ _ (Nat.le_refl _) hbw
      have hR : ((R : Int) == 65533) = false := by
        have hp : pos = 0 ∨ pos = 1 ∨ pos = 2 ∨ pos = 3 ∨ pos = 4 := by have : blank5.length = 5 := rfl; omega
        have hall : ∀ c ∈ blank5, c.toNat < 128 := by decide
        have h1 := goRune_low blank5[pos] (blank5.drop (pos + 1)) (hall _ (List.getElem_mem hps))
        rw [← List.drop_eq_getElem_cons hps, hg] at h1
        injection h1 with h1 h2
        rw [beq_eq_false_iff_ne]
        have := blank5[pos].toNat_lt
        omega
      have hb5 : blank5.length = 5 := rfl
      clear hg hit hbw hbwW
      go_wp2
      go_roundg g'
      case measure => omega
      case rel => exact ⟨pos + K, hitW, hbw2, by omega, by omega⟩
    · have hnx := rune_end blank5 wr _ pos hit hps
      go_wp2
      go_ret
      exact ⟨rfl, ⟨hbw⟩⟩
set_option maxRecDepth 100000 in
set_option maxHeartbeats 4000000 in
theorem irune_invalid (r : Int) (hr : 128 ≤ r) (hb : (r == 65533) = false) (hv : Lib.validRune r = false) (w : World) : Calls Tryz.prog 211 #[S blank5, .int .i32 r] w fun e w' => e = .returned (.int .i64 (-1)) ∧ Fr w w' := by
  have h128 : decide (r < 128) = false := decide_eq_false (by omega)
  have h0 : 0 ≤ r := by omega
  go_enter Tryz.func211, Tryz.ntmps211
  go_wp2_with fail
  refine (Tryz.utf8_ValidRune r _).mono ?_
  rw [hv]
  rintro e w2 ⟨rfl, rfl⟩
  go_wp2
  go_ret
  exact ⟨rfl, Fr.refl _⟩
set_option maxRecDepth 100000 in
set_option maxHeartbeats 4000000 in
theorem irune_valid (r : Int) (hr : 128 ≤ r) (hb : (r == 65533) = false) (hv : Lib.validRune r = true) (w : World) : Calls Tryz.prog 211 #[S blank5, .int .i32 r] w fun e w' => e = .returned (.int .i64 (-1)) ∧ Fr w w' := by
  have h128 : decide (r < 128) = false := decide_eq_false (by omega)
  have h0 : 0 ≤ r := by omega
  have hx := encode_facts r (by simp only [Lib.validRune, decide_eq_true_eq] at hv; simp [Utf8.valid]; omega) hr
  go_enter Tryz.func211, Tryz.ntmps211
  go_wp2_with fail
  refine (Tryz.utf8_ValidRune r _).mono ?_
  rw [hv]
  rintro e w2 ⟨rfl, rfl⟩
  clear hv
  have kc : ∀ w, (convert 21 9 (.int .i32 r)).run Tryz.prog w = _ := fun w => run_convert_int_string (P := Tryz.prog) w 21 9 .i32 r (by kernel_rfl) Tryz.underlying9
  generalize Utf8.encode r = U at *
  obtain ⟨h2, h4, hlast⟩ := hx
  have h3 := hlast (by omega)
  clear hlast
  have hn : U.size = 2 ∨ U.size = 3 ∨ U.size = 4 := by omega
  have hs5 : S blank5 = .string ⟨#[9, 10, 12, 13, 32]⟩ := rfl
  rw [hs5]
  rcases hn with hn | hn | hn
  · have hL : ((((⟨#[9, 10, 12, 13, 32]⟩ : ByteArray)[1]'(by decide)).toNat : Int) != (U[1].toNat : Int)) = true := by
      have e : ((⟨#[9, 10, 12, 13, 32]⟩ : ByteArray)[1]'(by decide)).toNat = 10 := by decide
      have : U[U.size - 1].toNat = U[1].toNat := by congr 2; omega
      rw [e]; simp; omega
    have hge : 128 ≤ U[1].toNat := by
      have : U[U.size - 1].toNat = U[1].toNat := by congr 2; omega
      omega
    have cI := fun w => ib_none [12, 13, 32] (by decide) U[1] hge w
    have hwr : IntKind.i64.wrap 2 = 2 := by decide
    have hex : (⟨#[9, 10, 12, 13, 32]⟩ : ByteArray).extract 2 5 = ⟨#[12, 13, 32]⟩ := by decide
    clear h3
    go_wp2
    go_step3
    go_wp2
    go_loopw [9, 10] (fun i f wr => i = .int .i64 1 ∧ f = .int .i64 0 ∧ Fr w2 wr) (fun _ _ _ => 0)
    case atStart => exact ⟨by go_num, rfl, Fr.refl _⟩
    case round =>
      obtain ⟨rfl, rfl, hf⟩ := hrel
      go_wp2_with fail
      try go_step3
      go_wp2_with fail
      go_quiet (fail)
      have hf2 := hf.drewN nq
      generalize wr.drewN nq = wq at *
      go_wp2_with fail
      go_quiet ((go_at_call 84; exact Calls.quiet_of_same (cI _)))
      go_wp2
      rw [Exit.noGoto_ret]
      simp only [Exit.inBlock, Exit.then]
      show Exit.noGoto _ Exit.ret _ _
      rw [Exit.noGoto_ret]
      simp only [Exit.inBlock, Exit.then]
      rw [Exit.noGoto_ret]
      go_ret
      exact ⟨rfl, hf2.drewN _⟩
  · have hL : ((((⟨#[9, 10, 12, 13, 32]⟩ : ByteArray)[2]'(by decide)).toNat : Int) != (U[2].toNat : Int)) = true := by
      have e : ((⟨#[9, 10, 12, 13, 32]⟩ : ByteArray)[2]'(by decide)).toNat = 12 := by decide
      have : U[U.size - 1].toNat = U[2].toNat := by congr 2; omega
      rw [e]; simp; omega
    have hge : 128 ≤ U[2].toNat := by
      have : U[U.size - 1].toNat = U[2].toNat := by congr 2; omega
      omega
    have cI := fun w => ib_none [13, 32] (by decide) U[2] hge w
    have hwr : IntKind.i64.wrap 3 = 3 := by decide
    have hex : (⟨#[9, 10, 12, 13, 32]⟩ : ByteArray).extract 3 5 = ⟨#[13, 32]⟩ := by decide
    clear h3
    go_wp2
    go_step3
    go_wp2
    go_loopw [9, 10] (fun i f wr => i = .int .i64 2 ∧ f = .int .i64 0 ∧ Fr w2 wr) (fun _ _ _ => 0)
    case atStart => exact ⟨by go_num, rfl, Fr.refl _⟩
    case round =>
      obtain ⟨rfl, rfl, hf⟩ := hrel
      go_wp2_with fail
      try go_step3
      go_wp2_with fail
      go_quiet (fail)
      have hf2 := hf.drewN nq
      generalize wr.drewN nq = wq at *
      go_wp2_with fail
      go_quiet ((go_at_call 84; exact Calls.quiet_of_same (cI _)))
      go_wp2
      rw [Exit.noGoto_ret]
      simp only [Exit.inBlock, Exit.then]
      show Exit.noGoto _ Exit.ret _ _
      rw [Exit.noGoto_ret]
      simp only [Exit.inBlock, Exit.then]
      rw [Exit.noGoto_ret]
      go_ret
      exact ⟨rfl, hf2.drewN _⟩
  · have hL : ((((⟨#[9, 10, 12, 13, 32]⟩ : ByteArray)[3]'(by decide)).toNat : Int) != (U[3].toNat : Int)) = true := by
      have e : ((⟨#[9, 10, 12, 13, 32]⟩ : ByteArray)[3]'(by decide)).toNat = 13 := by decide
      have : U[U.size - 1].toNat = U[3].toNat := by congr 2; omega
      rw [e]; simp; omega
    have hge : 128 ≤ U[3].toNat := by
      have : U[U.size - 1].toNat = U[3].toNat := by congr 2; omega
      omega
    have cI := fun w => ib_none [32] (by decide) U[3] hge w
    have hwr : IntKind.i64.wrap 4 = 4 := by decide
    have hex : (⟨#[9, 10, 12, 13, 32]⟩ : ByteArray).extract 4 5 = ⟨#[32]⟩ := by decide
    clear h3
    go_wp2
    go_step3
    go_wp2
    go_loopw [9, 10] (fun i f wr => i = .int .i64 3 ∧ f = .int .i64 0 ∧ Fr w2 wr) (fun _ _ _ => 0)
    case atStart => exact ⟨by go_num, rfl, Fr.refl _⟩
    case round =>
      obtain ⟨rfl, rfl, hf⟩ := hrel
      go_wp2_with fail
      try go_step3
      go_wp2_with fail
      go_quiet (fail)
      have hf2 := hf.drewN nq
      generalize wr.drewN nq = wq at *
      go_wp2_with fail
      go_quiet ((go_at_call 84; exact Calls.quiet_of_same (cI _)))
      go_wp2
      rw [Exit.noGoto_ret]
      simp only [Exit.inBlock, Exit.then]
      show Exit.noGoto _ Exit.ret _ _
      rw [Exit.noGoto_ret]
      simp only [Exit.inBlock, Exit.then]
      rw [Exit.noGoto_ret]
      go_ret
      exact ⟨rfl, hf2.drewN _⟩
end Go.Proofs.YtogpmgjdmoglkaaGreatDoor
/- Walks: base.squeeze. -/
set_option linter.unusedVariables false
set_option linter.unusedSimpArgs false
namespace Go.Proofs.YtogpmgjdmoglkaaGreatDoor
open Go.RowKit Pu

theorem irune_high (r : Int) (hr : 128 ≤ r) (w : World) : Calls Tryz.prog 211 #[S blank5, .int .i32 r] w fun e w' => e = .returned (.int .i64 (-1)) ∧ Fr w w' := by
  by_cases hb : r = 65533
  · subst hb; exact irune_bad w
  · have hb2 : (r == 65533) = false := by simp [hb]
    cases hv : Lib.validRune r
    · exact irune_invalid r hr hb2 hv w
    · exact irune_valid r hr hb2 hv w
theorem dropB_high (r : Int) (hr : 128 ≤ r) : dropB r = r := by unfold dropB; rw [if_neg (by omega)]
set_option maxRecDepth 100000 in
theorem crune_any (r : Int) (h0 : 0 ≤ r) (w : World) : Calls Tryz.prog 199 #[S blank5, .int .i32 r] w fun e w' => e = .returned (.bool (decide (dropB r = -1))) ∧ Fr w w' := by
  by_cases hr : 128 ≤ r
  · have hd : decide (dropB r = -1) = false := by rw [dropB_high r hr]; exact decide_eq_false (by omega)
    rw [hd]
    go_enter Tryz.func199, Tryz.ntmps199
    go_wp2_with fail
    refine (irune_high r hr _).mono ?_
    rintro e w2 ⟨rfl, hf⟩
    go_wp2
    go_ret
    exact ⟨rfl, hf⟩
  · refine (Tryz.strings_ContainsRune_ascii ⟨blank5.toArray⟩ r w h0 (by omega)).mono ?_
    rintro e w2 ⟨rfl, rfl⟩
    refine ⟨?_, Fr.refl _⟩
    congr 2
    have key : ∀ n : _root_.Fin 128, decide (0 ≤ Lib.indexByte blank5 (n.val : Nat).toUInt8) = decide (dropB (n.val : Int) = -1) := by decide
    have := key ⟨r.toNat, by omega⟩
    simp only at this
    rw [show ((r.toNat : Nat) : Int) = r from by omega] at this
    exact this
theorem smap_any (r : Int) (h0 : 0 ≤ r) (w : World) : Calls Tryz.prog 202 #[.int .i32 r] w fun e w' => e = .returned (.int .i32 (dropB r)) ∧ Fr w w' := by
  have hc := crune_any r h0 w
  by_cases hd : dropB r = -1
  · rw [show decide (dropB r = -1) = true from decide_eq_true hd] at hc
    rw [hd]
    go_enter Tryz.func202, Tryz.ntmps202
    go_wp2_with fail
    refine hc.mono ?_
    rintro e w2 ⟨rfl, hf⟩
    go_wp2
    go_ret
    exact ⟨rfl, hf⟩
  · rw [show decide (dropB r = -1) = false from decide_eq_false hd] at hc
    have hr : dropB r = r := by
      unfold dropB at hd ⊢
      split
      · rename_i h; rw [if_pos h] at hd; exact absurd rfl hd
      · rfl
    rw [hr]
    go_enter Tryz.func202, Tryz.ntmps202
    go_wp2_with fail
    refine hc.mono ?_
    rintro e w2 ⟨rfl, hf⟩
    go_wp2
    go_ret
    exact ⟨rfl, hf⟩
theorem map_call (l : Bs) (hl : l.length ≤ 1000000000) (w : World) (hE : Env w) : Calls Tryz.prog 201 #[.func (.func 202) #[] #[], S l] w fun e w' => e = .returned (S (Lib.mapD dropB l)) ∧ Fr w w' := by
  refine (Tryz.strings_Map_grows 202 #[] (enters_of Tryz.func202 (by kernel_rfl) rfl) dropB ⟨l.toArray⟩ w (by rw [ba_size]; omega) (fun W x hx hb => ?_) (fun x hx => ?_) hE.tabs).mono ?_
  · refine (smap_any x (by omega) W).mono ?_
    rintro e w' ⟨he, hf⟩
    exact ⟨he, hf.out⟩
  · unfold dropB; split <;> omega
  · rintro e w' ⟨rfl, hf⟩
    exact ⟨rfl, ⟨hf⟩⟩
theorem suf61 (t : Bs) : Lib.hasSuffix t [61] = decide (t.getLast? = some 61) := by
  unfold Lib.hasSuffix
  rw [Bool.eq_iff_iff, List.isSuffixOf_iff_suffix, decide_eq_true_iff]
  constructor
  · rintro ⟨p, rfl⟩; simp
  · intro h
    have hne : t ≠ [] := by intro e; rw [e] at h; cases h
    have ht := List.dropLast_concat_getLast hne
    rw [List.getLast?_eq_some_getLast hne] at h
    injection h with h
    rw [h] at ht
    exact ⟨_, ht⟩
theorem suf_any (t : Bs) (hl : t.length ≤ 4000000000) (w : World) : Calls Tryz.prog 178 #[S t, S [61]] w fun e w' => e = .returned (.bool (decide (t.getLast? = some 61))) ∧ w' = w := by
  have := Tryz.strings_HasSuffix ⟨t.toArray⟩ ⟨[61].toArray⟩ w (by rw [ba_size]; omega)
  simp only [] at this
  rw [← suf61]
  exact this
theorem take_last (t : Bs) : t.take (t.length - 1) = t.dropLast := by rw [List.dropLast_eq_take]

set_option maxRecDepth 100000 in
set_option maxHeartbeats 4000000 in
theorem squeeze_any (l : Bs) (hl : l.length ≤ 1000000000) (w : World) (hE : Env w) : Calls Tryz.prog 132 #[S l] w fun e w' => e = .returned (S (strip64 (Lib.mapD dropB l))) ∧ Fr w w' := by
  have HM : Hid (∀ w, Env w → _) := Lib.hid fun w h => map_call l hl w h
  have hml := map_len dropB l.length l (Nat.le_refl _)
  generalize Lib.mapD dropB l = t at *
  go_enter Tryz.func132, Tryz.ntmps132
  go_wp2_with fail
  refine (HM.out _ hE).mono ?_
  rintro e w2 ⟨rfl, hf⟩
  clear HM
  go_wp2
  go_loopw [0, 3] (fun s i wr => ∃ (k : Nat) (u : Bs), i = .int .i64 k ∧ s = S u ∧ u.length + k = t.length ∧ Fr w wr ∧ ((k = 0 ∧ u = t) ∨ (k = 1 ∧ Hid (t.length % 4 = 0 ∧ t.getLast? = some 61 ∧ u = t.dropLast)) ∨ (k = 2 ∧ Hid (strip64 t = u)))) (fun _ i _ => 3 - (intOf i).toNat)
  case atStart => exact ⟨0, t, rfl, rfl, by omega, hf, .inl ⟨rfl, rfl⟩⟩
  case round =>
    obtain ⟨k, u, rfl, rfl, hul, hf, hk⟩ := hrel
    have hsz := ba_size u
    rcases hk with ⟨rfl, rfl⟩ | ⟨rfl, HK⟩ | ⟨rfl, HK⟩
    · by_cases h4 : u.length % 4 = 0
      · have e4 : ((u.length : Int) % 4) = 0 := by omega
        by_cases hg : u.getLast? = some 61
        · have hne : 1 ≤ u.length := by
            cases u with
            | nil => cases hg
            | cons => simp
          have HN : Hid (∀ x, x = u.dropLast → Hid (u.length % 4 = 0 ∧ u.getLast? = some 61 ∧ x = u.dropLast)) := Lib.hid fun x hx => Lib.hid ⟨h4, hg, hx⟩
          have hs := fun w => suf_any u (by omega) w
          rw [decide_eq_true hg] at hs
          have htk : (⟨u.toArray⟩ : ByteArray).extract 0 (u.length - 1) = ⟨u.dropLast.toArray⟩ := by rw [take_S', take_last]
          have hdl : u.dropLast.length = u.length - 1 := by simp
          clear h4 hg
          go_wp2_with fail
          refine (hs _).mono ?_
          rintro e w3 ⟨rfl, rfl⟩
          go_wp2
          exact ⟨⟨1, u.dropLast, rfl, rfl, by omega, hf, .inr (.inl ⟨rfl, HN.out _ rfl⟩)⟩, by simp [intOf]⟩
        · have hq : strip64 u = u := by unfold strip64; rw [if_neg (fun h => hg h.2)]
          have hs := fun w => suf_any u (by omega) w
          rw [decide_eq_false hg] at hs
          clear h4 hg
          go_wp2_with fail
          refine (hs _).mono ?_
          rintro e w3 ⟨rfl, rfl⟩
          go_wp2
          go_ret
          exact ⟨by rw [hq]; rfl, hf⟩
      · have e4 : ¬ ((u.length : Int) % 4) = 0 := by omega
        have hq : strip64 u = u := by unfold strip64; rw [if_neg (fun h => h4 h.1)]
        clear h4
        go_wp2
        go_ret
        exact ⟨by rw [hq]; rfl, hf⟩
    · have e4 : ((u.length : Int) % 4) = 3 := by have := HK.out.1; omega
      by_cases hg : u.getLast? = some 61
      · have hne : 1 ≤ u.length := by omega
        have hq : Hid (strip64 t = u.dropLast) := Lib.hid (by
          obtain ⟨h1, h2, h3⟩ := HK.out
          unfold strip64
          rw [if_pos ⟨h1, h2⟩, ← h3, if_pos hg])
        have hs := fun w => suf_any u (by omega) w
        rw [decide_eq_true hg] at hs
        have htk : (⟨u.toArray⟩ : ByteArray).extract 0 (u.length - 1) = ⟨u.dropLast.toArray⟩ := by rw [take_S', take_last]
        have hdl : u.dropLast.length = u.length - 1 := by simp
        clear hg HK
        go_wp2_with fail
        refine (hs _).mono ?_
        rintro e w3 ⟨rfl, rfl⟩
        go_wp2
        exact ⟨⟨2, u.dropLast, rfl, rfl, by omega, hf, .inr (.inr ⟨rfl, hq⟩)⟩, by simp [intOf]⟩
      · have hq : Hid (strip64 t = u) := Lib.hid (by
          obtain ⟨h1, h2, h3⟩ := HK.out
          unfold strip64
          rw [if_pos ⟨h1, h2⟩, ← h3, if_neg hg])
        have hs := fun w => suf_any u (by omega) w
        rw [decide_eq_false hg] at hs
        clear hg HK
        go_wp2_with fail
        refine (hs _).mono ?_
        rintro e w3 ⟨rfl, rfl⟩
        go_wp2
        go_ret
        exact ⟨by rw [hq.out]; rfl, hf⟩
    · go_wp2
      go_ret
      exact ⟨by rw [HK.out]; rfl, hf⟩
end Go.Proofs.YtogpmgjdmoglkaaGreatDoor
