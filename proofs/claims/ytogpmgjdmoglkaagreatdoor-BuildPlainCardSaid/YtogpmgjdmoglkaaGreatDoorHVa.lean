/- Walks: tokens; blanks cut off. -/
import Derived.Shelf.Strings.SlTrimAscii
import Derived.Test.YtogpmgjdmoglkaaGreatDoorHWm
import Derived.Test.YtogpmgjdmoglkaaGreatDoorHWq
import Derived.Test.YtogpmgjdmoglkaaGreatDoorHPu
import Derived.Test.YtogpmgjdmoglkaaGreatDoorHWe
set_option linter.unusedVariables false
set_option linter.unusedSimpArgs false
namespace Go.Proofs.YtogpmgjdmoglkaaGreatDoor
open Go.RowKit Pu

set_option maxRecDepth 100000 in
set_option maxHeartbeats 2000000 in
theorem token_any (l : Bs) (hl : l.length ≤ 1000000000) (w : World) : Calls Tryz.prog 137 #[S l] w fun e w' => e = .returned (.bool (isToken l)) ∧ w = w' := by
  have hix := ba_get l
  go_enter Tryz.func137, Tryz.ntmps137
  go_wp2
  go_loopw [6] (fun i wr => ∃ k : Nat, k ≤ l.length ∧ i = .int .i64 k ∧ wr = w ∧ Hid (∀ j, (hj : j < l.length) → j < k → tokenCh l[j] = true)) (fun i _ => l.length - (intOf i).toNat)
  case atStart => exact ⟨0, Nat.zero_le _, rfl, rfl, Lib.hid (fun j hj h => by omega)⟩
  case round =>
    obtain ⟨k, hk, rfl, rfl, HA⟩ := hrel
    by_cases hlt : k < l.length
    · have hib := indexByte_has tokSigns l[k]
      have hu := u8_lt l[k]
      have HS : Hid (tokenCh l[k] = true → ∀ j, (hj : j < l.length) → j < k + 1 → tokenCh l[j] = true) := Lib.hid (fun h j hj hjk => by
        by_cases e : j = k
        · subst e; exact h
        · exact HA.out j hj (by omega))
      cases h1 : letter (l[k].toNat : Int) with
      | true =>
        have H2 := Lib.hid (HS.out (by simp [tokenCh, bI, h1]))
        clear hib HS
        go_wp2_with (first
          | (go_at_call 82; refine (letter_any _ _).mono ?_; rintro e w2 ⟨rfl, rfl⟩; rw [h1]))
        exact ⟨⟨k + 1, by omega, by go_num, by first | rfl | trivial, H2⟩, by simp [intOf]; omega⟩
      | false =>
        cases h2 : digit (l[k].toNat : Int) with
        | true =>
          have H2 := Lib.hid (HS.out (by simp [tokenCh, bI, h1, h2]))
          clear hib HS
          go_wp2_with (first
            | (go_at_call 82; refine (letter_any _ _).mono ?_; rintro e w2 ⟨rfl, rfl⟩; rw [h1])
            | (go_at_call 83; refine (digit_any _ _).mono ?_; rintro e w2 ⟨rfl, rfl⟩; rw [h2]))
          exact ⟨⟨k + 1, by omega, by go_num, by first | rfl | trivial, H2⟩, by simp [intOf]; omega⟩
        | false =>
          have hch : tokenCh l[k] = tokSigns.contains l[k] := by simp [tokenCh, bI, h1, h2]
          rw [← hch] at hib
          cases h3 : tokenCh l[k] with
          | true =>
            have H2 := Lib.hid (HS.out h3)
            rw [h3] at hib
            have h4 : 0 ≤ Lib.indexByte tokSigns l[k] := of_decide_eq_true hib
            have h5 : decide (Lib.indexByte tokSigns l[k] < 0) = false := decide_eq_false (by omega)
            unfold tokSigns at h4 h5
            clear hib hch HS
            go_wp2_with (first
              | (go_at_call 82; refine (letter_any _ _).mono ?_; rintro e w2 ⟨rfl, rfl⟩; rw [h1])
              | (go_at_call 83; refine (digit_any _ _).mono ?_; rintro e w2 ⟨rfl, rfl⟩; rw [h2])
              | (go_at_call 84; refine (Tryz.strings_IndexByte _ _ _).mono ?_; rintro e w' ⟨rfl, rfl⟩))
            exact ⟨⟨k + 1, by omega, by go_num, by first | rfl | trivial, H2⟩, by simp [intOf]; omega⟩
          | false =>
            rw [h3] at hib
            have h4 : Lib.indexByte tokSigns l[k] < 0 := by have := of_decide_eq_false hib; omega
            unfold tokSigns at h4
            have H3 : Hid (isToken l = false) := Lib.hid (by
              have : l.all tokenCh = false := by
                rw [List.all_eq_false]; exact ⟨l[k], List.getElem_mem hlt, by rw [h3]; simp⟩
              simp [isToken, this])
            clear hib hch HS
            go_wp2_with (first
              | (go_at_call 82; refine (letter_any _ _).mono ?_; rintro e w2 ⟨rfl, rfl⟩; rw [h1])
              | (go_at_call 83; refine (digit_any _ _).mono ?_; rintro e w2 ⟨rfl, rfl⟩; rw [h2])
              | (go_at_call 84; refine (Tryz.strings_IndexByte _ _ _).mono ?_; rintro e w' ⟨rfl, rfl⟩))
            go_ret
            exact ⟨ret_b H3.out.symm, rfl⟩
    · obtain rfl : k = l.length := by omega
      have H3 : Hid (isToken l = !l.isEmpty) := Lib.hid (by
        have : l.all tokenCh = true := all_take fun j hj => HA.out j hj hj
        simp [isToken, this])
      go_wp2
      go_ret
      exact ⟨ret_b (by rw [H3.out]), rfl⟩

/-! ### blanks -/
theorem ascii_of (cs : Bs) (h : ∀ c ∈ cs, c.toNat < 128) : ∀ (j : Nat) b, (⟨cs.toArray⟩ : ByteArray).data.toList[j]? = some b → b.toNat < 128 := by
  intro j b hb
  apply h
  have : cs[j]? = some b := by simpa using hb
  exact List.mem_of_getElem? this
theorem trimRightS_eq (l cs : Bs) : Lib.trimRightS l cs = trimR (hasIn cs) l := by
  unfold Lib.trimRightS trimR
  rfl
theorem trimR_app (p : UInt8 → Bool) (a b : Bs) (hb : ∃ c ∈ b, p c = false) : trimR p (a ++ b) = a ++ trimR p b := by
  unfold trimR
  rw [List.reverse_append, List.dropWhile_append]
  have : (b.reverse.dropWhile p).isEmpty = false := by
    obtain ⟨c, hc, hp⟩ := hb
    rw [Bool.eq_false_iff]
    intro h
    have h2 : b.reverse.dropWhile p = [] := by simpa using h
    have h3 : c ∈ b.reverse.takeWhile p := by
      have := List.takeWhile_append_dropWhile (p := p) (l := b.reverse)
      rw [h2, List.append_nil] at this
      rw [this]; simpa using hc
    have h4 := List.all_eq_true.1 (List.all_takeWhile (p := p) (l := b.reverse)) c h3
    rw [hp] at h4; cases h4
  rw [this]
  simp
theorem trim_comm (p : UInt8 → Bool) (l : Bs) : trimL p (trimR p l) = trimR p (trimL p l) := by
  have hsp := List.takeWhile_append_dropWhile (p := p) (l := l)
  have hall : ∀ c ∈ l.takeWhile p, p c = true := fun c hc => List.all_eq_true.1 (List.all_takeWhile (p := p) (l := l)) c hc
  unfold trimL
  cases hd : l.dropWhile p with
  | nil =>
    rw [hd, List.append_nil] at hsp
    have h1 : trimR p l = [] := by
      unfold trimR
      have := (takeWhile_all (p := p) (l := l.reverse) (fun x hx => hall x (by rw [hsp]; simpa using hx)) [] (fun x hx => by cases hx)).2
      rw [List.append_nil] at this
      rw [this]; rfl
    rw [h1]; rfl
  | cons c t =>
    have hp : p c = false := by
      have := List.head?_dropWhile_not p l
      rw [hd] at this
      simpa using this
    rw [hd] at hsp
    have hr : trimR p l = l.takeWhile p ++ trimR p (c :: t) := by
      conv => lhs; rw [← hsp]
      exact trimR_app p _ _ ⟨c, by simp, hp⟩
    rw [hr]
    have hh : ∃ u, trimR p (c :: t) = c :: u := by
      have h3 := trimR_append p [c] t (fun d hd => by simp at hd; subst hd; exact hp)
      obtain ⟨u, hu, _⟩ := h3
      exact ⟨u, hu⟩
    obtain ⟨u, hu⟩ := hh
    rw [hu]
    exact (takeWhile_all hall (c :: u) (fun x hx => by injection hx with hx; subst hx; exact hp)).2
theorem trimS_eq (l cs : Bs) : Lib.trimS l cs = trimB (hasIn cs) l := by
  show trimL (hasIn cs) (trimR (hasIn cs) l) = _
  exact trim_comm _ _
theorem toL (l : Bs) : (⟨l.toArray⟩ : ByteArray).data.toList = l := by simp
theorem trim_call (cs l : Bs) (hc : cs.length ≤ 100) (ha : ∀ c ∈ cs, c.toNat < 128) (hl : l.length ≤ 1000000000000) (w : World) : Calls Tryz.prog 46 #[S l, S cs] w fun e w' => e = .returned (S (trimB (hasIn cs) l)) ∧ Fr w w' := by
  refine (Any.strings_Trim_laid Tryz.lays160 (by kernel_rfl) ⟨l.toArray⟩ ⟨cs.toArray⟩ w (by show l.toArray.size ≤ _; simp; omega) (by show cs.toArray.size < _; simp; omega) (ascii_of cs ha)).mono ?_
  rintro e w' ⟨rfl, h⟩
  exact ⟨by rw [toL, toL, trimS_eq], Fr.of h⟩
theorem trimRight_call (cs l : Bs) (hc : cs.length ≤ 100) (ha : ∀ c ∈ cs, c.toNat < 128) (hl : l.length ≤ 1000000000000) (w : World) : Calls Tryz.prog 124 #[S l, S cs] w fun e w' => e = .returned (S (trimR (hasIn cs) l)) ∧ Fr w w' := by
  refine (Any.strings_TrimRight_laid Tryz.lays162 (by kernel_rfl) ⟨l.toArray⟩ ⟨cs.toArray⟩ w (by show l.toArray.size ≤ _; simp; omega) (by show cs.toArray.size < _; simp; omega) (ascii_of cs ha)).mono ?_
  rintro e w' ⟨rfl, h⟩
  exact ⟨rfl, Fr.of h⟩
theorem trimLeft_call (cs l : Bs) (hc : cs.length ≤ 100) (ha : ∀ c ∈ cs, c.toNat < 128) (hl : l.length ≤ 1000000000000) (w : World) : Calls Tryz.prog 204 #[S l, S cs] w fun e w' => e = .returned (S (trimL (hasIn cs) l)) ∧ Fr w w' := by
  refine (Any.strings_TrimLeft_laid Tryz.lays161 (by kernel_rfl) ⟨l.toArray⟩ ⟨cs.toArray⟩ w (by show cs.toArray.size < _; simp; omega) (ascii_of cs ha)).mono ?_
  rintro e w' ⟨rfl, h⟩
  exact ⟨rfl, Fr.of h⟩
theorem blankM_in : hasIn [9, 10, 13, 32] = blankM := by
  funext c
  rw [Bool.eq_iff_iff]
  simp [hasIn, blankM, or_assoc]
theorem ttrim_any (l : Bs) (hl : l.length ≤ 1000000000000) (w : World) : Calls Tryz.prog 134 #[S l] w fun e w' => e = .returned (S (trimB blankM l)) ∧ Fr w w' := by
  rw [← blankM_in]
  go_enter Tryz.func134, Tryz.ntmps134
  go_wp2_with (go_at_call 46; refine (trim_call [9, 10, 13, 32] l (by simp) (by decide) hl _).mono ?_; rintro e w1 ⟨rfl, hf⟩)
  go_ret
  exact ⟨rfl, hf⟩
theorem tright_any (l : Bs) (hl : l.length ≤ 1000000000000) (w : World) : Calls Tryz.prog 136 #[S l] w fun e w' => e = .returned (S (trimR blankM l)) ∧ Fr w w' := by
  rw [← blankM_in]
  go_enter Tryz.func136, Tryz.ntmps136
  go_wp2_with (go_at_call 124; refine (trimRight_call [9, 10, 13, 32] l (by simp) (by decide) hl _).mono ?_; rintro e w1 ⟨rfl, hf⟩)
  go_ret
  exact ⟨rfl, hf⟩
end Go.Proofs.YtogpmgjdmoglkaaGreatDoor
/- Walks: quoted strings. -/
set_option linter.unusedVariables false
set_option linter.unusedSimpArgs false
namespace Go.Proofs.YtogpmgjdmoglkaaGreatDoor
open Go.RowKit Pu

theorem qGo_at (t : Bs) : qGo (34 :: t) = ([], t) := by cases t <;> simp [qGo]
theorem qGo_esc (d : UInt8) (r : Bs) : qGo (92 :: d :: r) = (d :: (qGo r).1, (qGo r).2) := by simp [qGo]
theorem qGo_on (c : UInt8) (t : Bs) (h : c ≠ 34) (h2 : c ≠ 92 ∨ t = []) : qGo (c :: t) = (c :: (qGo t).1, (qGo t).2) := by
  cases t with
  | nil => simp [qGo, h]
  | cons d r =>
    have : c ≠ 92 := by rcases h2 with h2 | h2; exact h2; cases h2
    simp [qGo, h, this]
/-- What token.Quoted answers. -/
def quotedOf (l : Bs) : Bs × Nat := match l with
  | 34 :: t => ((qGo t).1, l.length - (qGo t).2.length)
  | _ => ([], 0)
theorem n_eq (c d : UInt8) (h : ¬ c = d) : ((c.toNat : Int) == (d.toNat : Int)) = false := by
  rw [beq_eq_false_iff_ne]; intro e; exact h (UInt8.toNat_inj.1 (by omega))

set_option maxRecDepth 100000 in
set_option maxHeartbeats 4000000 in
theorem quoted_yes (t : Bs) (hl : t.length ≤ 1000000000) (w : World) : Calls Tryz.prog 245 #[S (34 :: t)] w fun e w' => e = .returned (.tuple #[S (qGo t).1, .int .i64 (((34 :: t).length - (qGo t).2.length : Nat) : Int)]) ∧ Fr w w' := by
  obtain ⟨i0, hi, hz0, hz1, hz2⟩ := info_parts byte_info
  have hn := OwnS.nil w
  have hpre : Lib.hasPrefix (34 :: t) [34] = true := by simp [Lib.hasPrefix]
  have hq0 : qGo ((34 :: t).drop 1) = qGo t := rfl
  have hll : (34 :: t).length = t.length + 1 := rfl
  rw [← hq0]
  generalize hl0 : (34 :: t) = l at *
  have hl1 : l.length ≤ 1000000001 := by omega
  have hlp : 1 ≤ l.length := by omega
  clear hq0 hll hl0
  go_enter Tryz.func245, Tryz.ntmps245
  go_wp2_with (go_at_call 48; refine (prefix_any l _ _).mono ?_; rintro e w2 ⟨rfl, rfl⟩; rw [hpre])
  go_loopw [4, 5] (fun v i wr => ∃ (k : Nat) (xs : Bs), k ≤ l.length ∧ i = .int .i64 k ∧ OwnS w v xs wr ∧ xs.length ≤ k ∧ Hid (qGo (l.drop 1) = (xs ++ (qGo (l.drop k)).1, (qGo (l.drop k)).2))) (fun _ i _ => l.length - (intOf i).toNat)
  case atStart => exact ⟨1, [], hlp, rfl, hn, by simp, Lib.hid (by simp)⟩
  case round =>
    obtain ⟨k, xs, hk, rfl, hr, hxs, HQ⟩ := hrel
    obtain ⟨A, cap, rfl⟩ := hr.slice
    clear hn hpre
    have hs := hr.str
    have hf := hr.fr
    by_cases hlt : k < l.length
    · have hix := ba_get l
      have hown := hr.own
      have hbs := hr.fr.size
      have hdk : l.drop k = l[k] :: l.drop (k + 1) := List.drop_eq_getElem_cons hlt
      have hsz : (l.drop (k + 1)).length = l.length - (k + 1) := by simp
      by_cases h34 : l[k] = 34
      · have H2 : Hid (qGo (l.drop 1) = (xs, l.drop (k + 1))) := Lib.hid (by rw [HQ.out, hdk, h34, qGo_at]; simp)
        have e34 : ((l[k].toNat : Int) == 34) = true := by rw [h34]; rfl
        clear h34 hdk
        go_wp2
        go_ret2
        refine ⟨?_, hf⟩
        rw [H2.out]
        simp only [hsz]
        rw [show l.length - (l.length - (k + 1)) = k + 1 from by omega]
        rfl
      · have e34 : ((l[k].toNat : Int) == 34) = false := n_eq _ 34 h34
        by_cases h92 : l[k] = 92
        · have e92 : ((l[k].toNat : Int) == 92) = true := by rw [h92]; rfl
          by_cases h1 : k + 1 < l.length
          · have hdk1 : l.drop (k + 1) = l[k + 1] :: l.drop (k + 2) := List.drop_eq_getElem_cons h1
            have HS : Hid (∀ (gg cap2 : Nat) (w1 wx : World), Fr wr wx → wx.grownBy w1 (Value.slice A xs.length cap).ownBlock → w1.ownsRow w.heap.size 5 1 (.slice (some ⟨gg, 0, none⟩) (xs.length + 1) cap2) (xs.length + 1) (Lib.byteCells xs ++ [.int .u8 (l[k + 1].toNat : Int)]) →
                ∃ ys : Bs, OwnS w (.slice (some ⟨gg, 0, none⟩) (xs.length + 1) cap2) ys w1 ∧ ys.length ≤ k + 2 ∧ Hid (qGo (l.drop 1) = (ys ++ (qGo (l.drop (k + 2))).1, (qGo (l.drop (k + 2))).2))) := Lib.hid (fun gg cap2 w1 wx hf hg ho =>
              ⟨_, hr.snoc hf hg rfl ho, by simp; omega, Lib.hid (by rw [HQ.out, hdk, h92, hdk1, qGo_esc]; simp)⟩)
            have h1z : (k : Int) + 1 < (l.length : Int) := by omega
            clear h34 h92 hdk hdk1 hsz
            go_wp2_with (at_builtin; refine wpList_append_lies _ rfl _ _ _ rfl w.heap.size 5 i0 _ 1 1 Tryz.underlying34 hi hz0 hz1 hz2 rfl (by omega) (.slice A (xs).length cap) (xs).length (Lib.byteCells (xs)) rfl (hown.alloc _) ⟨wr.heap.size, 0, none⟩ 1 1 [.int .u8 (l[k + 1].toNat : Int)] rfl rfl (World.news_of_block (cs := #[.int .u8 (l[k + 1].toNat : Int)]) (t := 5) (fr := (0, 0)) (heap_alloc_new wr _)) (by simp [Value.oneCell']) (by omega) (by unfold maxLen; omega) (by omega) (by simp; omega) (wr.heap.size + 1) (by simp) ?_; intro gg cap2 w1 hown1 hgrow hat hlt2)
            obtain ⟨ys, hy1, hy2, hy3⟩ := HS.out gg cap2 w1 _ ((Fr.refl wr).alloc _) hgrow hown1
            exact ⟨⟨k + 2, ys, by omega, by go_num, hy1, hy2, hy3⟩, by simp [intOf]; omega⟩
          · have hdk1 : l.drop (k + 1) = [] := List.drop_eq_nil_of_le (by omega)
            have HS : Hid (∀ (gg cap2 : Nat) (w1 wx : World), Fr wr wx → wx.grownBy w1 (Value.slice A xs.length cap).ownBlock → w1.ownsRow w.heap.size 5 1 (.slice (some ⟨gg, 0, none⟩) (xs.length + 1) cap2) (xs.length + 1) (Lib.byteCells xs ++ [.int .u8 (l[k].toNat : Int)]) →
                ∃ ys : Bs, OwnS w (.slice (some ⟨gg, 0, none⟩) (xs.length + 1) cap2) ys w1 ∧ ys.length ≤ k + 1 ∧ Hid (qGo (l.drop 1) = (ys ++ (qGo (l.drop (k + 1))).1, (qGo (l.drop (k + 1))).2))) := Lib.hid (fun gg cap2 w1 wx hf hg ho =>
              ⟨_, hr.snoc hf hg rfl ho, by simp; omega, Lib.hid (by rw [HQ.out, hdk, qGo_on _ _ h34 (.inr hdk1)]; simp)⟩)
            have h1z : decide ((k : Int) + 1 < (l.length : Int)) = false := decide_eq_false (by omega)
            clear h34 h92 hdk hdk1 hsz
            go_wp2_with (at_builtin; refine wpList_append_lies _ rfl _ _ _ rfl w.heap.size 5 i0 _ 1 1 Tryz.underlying34 hi hz0 hz1 hz2 rfl (by omega) (.slice A (xs).length cap) (xs).length (Lib.byteCells (xs)) rfl (hown.alloc _) ⟨wr.heap.size, 0, none⟩ 1 1 [.int .u8 (l[k].toNat : Int)] rfl rfl (World.news_of_block (cs := #[.int .u8 (l[k].toNat : Int)]) (t := 5) (fr := (0, 0)) (heap_alloc_new wr _)) (by simp [Value.oneCell']) (by omega) (by unfold maxLen; omega) (by omega) (by simp; omega) (wr.heap.size + 1) (by simp) ?_; intro gg cap2 w1 hown1 hgrow hat hlt2)
            obtain ⟨ys, hy1, hy2, hy3⟩ := HS.out gg cap2 w1 _ ((Fr.refl wr).alloc _) hgrow hown1
            exact ⟨⟨k + 1, ys, by omega, by go_num, hy1, hy2, hy3⟩, by simp [intOf]; omega⟩
        · have e92 : ((l[k].toNat : Int) == 92) = false := n_eq _ 92 h92
          have HS : Hid (∀ (gg cap2 : Nat) (w1 wx : World), Fr wr wx → wx.grownBy w1 (Value.slice A xs.length cap).ownBlock → w1.ownsRow w.heap.size 5 1 (.slice (some ⟨gg, 0, none⟩) (xs.length + 1) cap2) (xs.length + 1) (Lib.byteCells xs ++ [.int .u8 (l[k].toNat : Int)]) →
              ∃ ys : Bs, OwnS w (.slice (some ⟨gg, 0, none⟩) (xs.length + 1) cap2) ys w1 ∧ ys.length ≤ k + 1 ∧ Hid (qGo (l.drop 1) = (ys ++ (qGo (l.drop (k + 1))).1, (qGo (l.drop (k + 1))).2))) := Lib.hid (fun gg cap2 w1 wx hf hg ho =>
            ⟨_, hr.snoc hf hg rfl ho, by simp; omega, Lib.hid (by rw [HQ.out, hdk, qGo_on _ _ h34 (.inl h92)]; simp)⟩)
          clear h34 h92 hdk hsz
          go_wp2_with (at_builtin; refine wpList_append_lies _ rfl _ _ _ rfl w.heap.size 5 i0 _ 1 1 Tryz.underlying34 hi hz0 hz1 hz2 rfl (by omega) (.slice A (xs).length cap) (xs).length (Lib.byteCells (xs)) rfl (hown.alloc _) ⟨wr.heap.size, 0, none⟩ 1 1 [.int .u8 (l[k].toNat : Int)] rfl rfl (World.news_of_block (cs := #[.int .u8 (l[k].toNat : Int)]) (t := 5) (fr := (0, 0)) (heap_alloc_new wr _)) (by simp [Value.oneCell']) (by omega) (by unfold maxLen; omega) (by omega) (by simp; omega) (wr.heap.size + 1) (by simp) ?_; intro gg cap2 w1 hown1 hgrow hat hlt2)
          obtain ⟨ys, hy1, hy2, hy3⟩ := HS.out gg cap2 w1 _ ((Fr.refl wr).alloc _) hgrow hown1
          exact ⟨⟨k + 1, ys, by omega, by go_num, hy1, hy2, hy3⟩, by simp [intOf]; omega⟩
    · obtain rfl : k = l.length := by omega
      have H2 : Hid (qGo (l.drop 1) = (xs, [])) := Lib.hid (by rw [HQ.out, List.drop_length]; simp [qGo])
      go_wp2
      go_ret2
      refine ⟨?_, hf⟩
      rw [H2.out]
      rfl
theorem quoted_any (l : Bs) (hl : l.length ≤ 1000000000) (w : World) : Calls Tryz.prog 245 #[S l] w fun e w' => e = .returned (.tuple #[S (quotedOf l).1, .int .i64 ((quotedOf l).2 : Int)]) ∧ Fr w w' := by
  by_cases h : ∃ t, l = 34 :: t
  · obtain ⟨t, rfl⟩ := h
    exact quoted_yes t (by simp at hl; omega) w
  · have hpre : Lib.hasPrefix l [34] = false := by
      cases l with
      | nil => rfl
      | cons c t =>
        have : ¬ c = 34 := fun e => h ⟨t, by rw [e]⟩
        simp [Lib.hasPrefix, List.isPrefixOf]
        exact fun e => this e.symm
    have hq : quotedOf l = ([], 0) := by
      unfold quotedOf
      split
      · rename_i t; exact absurd ⟨t, rfl⟩ h
      · rfl
    rw [hq]
    clear h hq
    go_enter Tryz.func245, Tryz.ntmps245
    go_wp2_with (go_at_call 48; refine (prefix_any l _ _).mono ?_; rintro e w2 ⟨rfl, rfl⟩; rw [hpre])
    go_ret2
    exact ⟨rfl, Fr.refl _⟩
end Go.Proofs.YtogpmgjdmoglkaaGreatDoor
