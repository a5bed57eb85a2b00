/- Plain words: strings.TrimFunc at 'no greater than a blank': what is cut off is bytes. -/
import Derived.Shelf.GgClosure.StringsTrimFunc
import Derived.Test.YtogpmgjdmoglkaaGreatDoorHPu
set_option linter.unusedVariables false
set_option linter.unusedSimpArgs false
namespace Go.Proofs.YtogpmgjdmoglkaaGreatDoor.Pu

abbrev p32 : Nat → Bool := fun x => decide (x ≤ 32)
theorem idx_low (s : Bs) : ∀ (f pos : Nat), s.length - pos ≤ f → Lib.idxFuncFrom p32 false ⟨s.toArray⟩ f pos = if (s.drop pos).dropWhile low32 = [] then -1 else ((pos + ((s.drop pos).takeWhile low32).length : Nat) : Int) := by
  have hs : (⟨s.toArray⟩ : ByteArray).size = s.length := by show s.toArray.size = _; simp
  intro f
  induction f with
  | zero =>
    intro pos h
    rw [List.drop_eq_nil_of_le (by omega)]
    simp [Lib.idxFuncFrom]
  | succ f ih =>
    intro pos h
    rw [Lib.idxFuncFrom, hs]
    by_cases hp : pos < s.length
    · rw [if_pos hp, decode_drop, List.drop_eq_getElem_cons hp]
      by_cases hl : s[pos].toNat ≤ 32
      · have hlow : low32 s[pos] = true := by simp [low32, hl]
        rw [goRune_low _ _ (by omega)]
        simp only [p32, hl, decide_true, Bool.true_eq_false, if_false]
        rw [ih (pos + 1) (by omega), List.dropWhile_cons, if_pos hlow, List.takeWhile_cons, if_pos hlow]
        simp only [List.length_cons, Nat.add_assoc, Nat.add_comm 1]
      · have hlow : low32 s[pos] = false := by simp [low32]; omega
        have hr : p32 (goRune (s[pos] :: s.drop (pos + 1))).1 = false := by
          by_cases h7 : s[pos].toNat < 128
          · rw [goRune_low _ _ h7]; simp [p32]; omega
          · have := (goRune_high s[pos] (s.drop (pos + 1)) h7).1
            exact decide_eq_false (by omega)
        rw [if_pos hr, List.dropWhile_cons, hlow, List.takeWhile_cons, hlow]
        simp [hp]
    · rw [if_neg hp, List.drop_eq_nil_of_le (by omega)]
      simp
theorem left_low (s : Bs) : (Lib.trimLeftF p32 ⟨s.toArray⟩) = ⟨(trimL low32 s).toArray⟩ := by
  have hs : (⟨s.toArray⟩ : ByteArray).size = s.length := by show s.toArray.size = _; simp
  have h := idx_low s s.length 0 (by omega)
  unfold Lib.trimLeftF Lib.idxFunc
  rw [hs, h]
  simp only [List.drop_zero, Nat.zero_add, trimL]
  rcases drop_while s with h2 | ⟨h2, h3⟩
  · rw [if_pos h2]
    rw [if_pos rfl, h2]
  · rw [if_neg h2, if_neg (by omega)]
    apply ByteArray.ext
    rw [Int.toNat_natCast]
    apply Array.toList_inj.1
    have := List.takeWhile_append_dropWhile (p := low32) (l := s)
    simp
    rw [List.take_of_length_le (by simp)]
    generalize List.takeWhile low32 s = a at *
    generalize List.dropWhile low32 s = b at *
    rw [← this]
    exact List.drop_left
where
  drop_while (s : Bs) : s.dropWhile low32 = [] ∨ (s.dropWhile low32 ≠ [] ∧ True) := by
    by_cases h : s.dropWhile low32 = []
    · exact .inl h
    · exact .inr ⟨h, trivial⟩
/-- A rune that takes all of a text takes it too where something below 128 follows. -/
theorem goRune_ext (b : UInt8) (r v : Bs) (hb : ¬ b.toNat < 128) (h : (goRune (b :: r)).2 = r.length + 1) (hv : ∀ c, v.head? = some c → c.toNat < 128) : (goRune (b :: (r ++ v))).2 = r.length + 1 := by
  have hc0 : ∀ k, k < r.length → (r ++ v).getD k 0 = r.getD k 0 := fun k hk => by
    simp [List.getD_eq_getElem?_getD, List.getElem?_append_left hk]
  rw [goRune_cons] at h ⊢
  simp only [hb, if_false] at h ⊢
  match r with
  | [] =>
    have hz2 : (decide (0 < (([] : Bs) ++ v).length) && ((([] : Bs) ++ v).getD 0 0).toNat / 64 == 2) = false := by
      cases v with
      | nil => simp
      | cons c v => have := hv c rfl; simp; omega
    simp only [hz2, Bool.and_false, Bool.false_and, Bool.false_eq_true, if_false]
    rfl
  | [c] =>
    simp only [List.length_cons, List.length_nil] at h ⊢
    split at h
    · rename_i h1
      rw [if_pos (by simp at h1 ⊢; exact h1)]
      split at h
      · rename_i h2
        rw [if_pos (by simp at h2 ⊢; exact h2)]
      · simp at h
    · split at h
      · rename_i h1; simp at h1
      · split at h
        · rename_i h1; simp at h1
        · simp at h
  | [c, d] =>
    simp only [List.length_cons, List.length_nil] at h ⊢
    split at h
    · split at h <;> simp at h
    · rename_i h0
      split at h
      · rename_i h1
        rw [if_neg (by simp at h0 ⊢; exact h0), if_pos (by simp at h1 ⊢; exact h1)]
        split at h
        · rename_i h2
          rw [if_pos (by simp at h2 ⊢; exact h2)]
        · simp at h
      · split at h
        · rename_i h1; simp at h1
        · simp at h
  | [c, d, e] =>
    simp only [List.length_cons, List.length_nil] at h ⊢
    split at h
    · split at h <;> simp at h
    · rename_i h0
      split at h
      · split at h <;> simp at h
      · rename_i h1
        split at h
        · rename_i h2
          rw [if_neg (by simp at h0 ⊢; exact h0), if_neg (by simp at h1 ⊢; exact h1), if_pos (by simp at h2 ⊢; exact h2)]
          split at h
          · rename_i h3
            rw [if_pos (by simp at h3 ⊢; exact h3)]
          · simp at h
        · simp at h
  | c :: d :: e :: f :: r =>
    exfalso
    simp only [List.length_cons] at h
    split at h
    · split at h <;> simp at h
    · split at h
      · split at h <;> simp at h
      · split at h
        · split at h <;> simp at h
        · simp at h
theorem last_width (t : Bs) (hne : t ≠ []) (hb : ¬ (t.getD (t.length - 1) 0).toNat < 128) (v : Bs) (hv : ∀ c, v.head? = some c → c.toNat < 128) :
    p32 (Lib.decodeLastL t).1 = false ∧ (Lib.decodeLastL t).2 ≤ t.length ∧ (t.length - (Lib.decodeLastL t).2) + (goRune ((t ++ v).drop (t.length - (Lib.decodeLastL t).2))).2 = t.length := by
  have hlen : 0 < t.length := List.length_pos_iff.2 hne
  unfold Lib.decodeLastL
  rw [if_neg hne, if_neg hb]
  simp only
  by_cases hst : Lib.lastStart t + (Lib.decodeL (t.drop (Lib.lastStart t))).2 = t.length
  · rw [if_pos hst]
    have hw := Lib.decodeL_width (t.drop (Lib.lastStart t))
    have hlt : Lib.lastStart t < t.length := by omega
    generalize hk : Lib.lastStart t = k at *
    rw [List.drop_eq_getElem_cons hlt] at hst hw ⊢
    have hg : ∀ l : Bs, Lib.decodeL l = goRune l := fun _ => rfl
    rw [hg] at hst hw ⊢
    have h128 : ¬ t[k].toNat < 128 := by
      intro hh
      rw [goRune_low _ _ hh] at hst
      simp only at hst
      have : t.length - 1 = k := by omega
      rw [this, getD_at2 t k hlt] at hb
      exact hb hh
    have hhi := goRune_high t[k] (t.drop (k + 1)) h128
    have hrl : (t.drop (k + 1)).length + 1 = t.length - k := by rw [List.length_drop]; omega
    have hext := goRune_ext t[k] (t.drop (k + 1)) v h128 (by omega) hv
    refine ⟨decide_eq_false (by omega), by omega, ?_⟩
    have e1 : t.length - (goRune (t[k] :: t.drop (k + 1))).2 = k := by omega
    rw [e1, List.drop_append_of_le_length (by omega), List.drop_eq_getElem_cons hlt, List.cons_append, hext, hrl]
    omega
  · rw [if_neg hst]
    refine ⟨by decide, by simp only; omega, ?_⟩
    simp only [Utf8.runeError]
    have hlt : t.length - 1 < t.length := by omega
    rw [List.drop_append_of_le_length (by omega), List.drop_eq_getElem_cons hlt, show t.length - 1 + 1 = t.length from by omega, List.drop_length]
    have hb2 : ¬ t[t.length - 1].toNat < 128 := by rw [getD_at2 t _ hlt] at hb; exact hb
    have h1 : (goRune [t[t.length - 1]]).2 = ([] : Bs).length + 1 := by
      have := goRune_bd t[t.length - 1] []
      simp at this ⊢; omega
    have hext := goRune_ext t[t.length - 1] [] v hb2 h1 hv
    show t.length - 1 + (goRune (t[t.length - 1] :: ([] ++ v))).2 = _
    rw [hext]
    simp; omega
where
  getD_at2 (l : Bs) (k : Nat) (h : k < l.length) : l.getD k 0 = l[k] := by simp [List.getD_eq_getElem?_getD, h]
theorem right_idx (s : Bs) : ∀ (f i : Nat), i ≤ s.length → i ≤ f → (∀ c ∈ s.drop i, low32 c = true) →
    (if 0 ≤ Lib.lastIdxFuncFrom p32 false ⟨s.toArray⟩ f i then (Lib.lastIdxFuncFrom p32 false ⟨s.toArray⟩ f i).toNat + (Lib.decodeGoB ((⟨s.toArray⟩ : ByteArray).extract (Lib.lastIdxFuncFrom p32 false ⟨s.toArray⟩ f i).toNat s.length)).2 else 0) = (trimR low32 (s.take i)).length := by
  have hd : ∀ k, k < s.length → Lib.decodeGoB ((⟨s.toArray⟩ : ByteArray).extract k s.length) = goRune (s.drop k) := by
    intro k hk
    have e : (⟨s.toArray⟩ : ByteArray).extract k s.length = ⟨(s.drop k).toArray⟩ := by
      apply ByteArray.ext
      simp
      exact List.take_of_length_le (by simp)
    have hsz : (⟨(s.drop k).toArray⟩ : ByteArray).size ≠ 0 := by show (s.drop k).toArray.size ≠ 0; simp; omega
    rw [e]
    unfold Lib.decodeGoB
    rw [if_neg hsz]; rfl
  intro f
  induction f with
  | zero =>
    intro i hi hf _
    obtain rfl : i = 0 := by omega
    simp [Lib.lastIdxFuncFrom, trimR]
  | succ f ih =>
    intro i hi hf hlow
    by_cases h0 : 0 < i
    · rw [Lib.lastIdxFuncFrom, if_pos h0]
      have htl : (⟨s.toArray⟩ : ByteArray).data.toList.take i = s.take i := by simp
      rw [htl]
      have hlen : (s.take i).length = i := by simp; omega
      have hne : s.take i ≠ [] := by intro e; rw [e] at hlen; simp at hlen; omega
      have hlt : i - 1 < s.length := by omega
      have hlast : (s.take i).getD ((s.take i).length - 1) 0 = s[i - 1] := by
        rw [hlen]
        simp [List.getD_eq_getElem?_getD, show i - 1 < i from by omega, hlt]
      have hsplit : s.take i = s.take (i - 1) ++ [s[i - 1]] := by
        have := List.take_succ_eq_append_getElem hlt
        rw [show i - 1 + 1 = i from by omega] at this
        exact this
      by_cases hb : s[i - 1].toNat < 128
      · have hdl : Lib.decodeLastL (s.take i) = (s[i - 1].toNat, 1) := by
          unfold Lib.decodeLastL
          rw [if_neg hne, hlast, if_pos hb]
        rw [hdl]
        simp only
        by_cases hl : s[i - 1].toNat ≤ 32
        · have hp : p32 s[i - 1].toNat = true := by simp [p32, hl]
          rw [hp]
          simp only [Bool.true_eq_false, if_false]
          rw [ih (i - 1) (by omega) (by omega) (fun c hc => by
            rw [List.drop_eq_getElem_cons hlt, show i - 1 + 1 = i from by omega] at hc
            rcases List.mem_cons.1 hc with rfl | hc
            · simp [low32, hl]
            · exact hlow c hc), hsplit]
          have : trimR low32 (s.take (i - 1) ++ [s[i - 1]]) = trimR low32 (s.take (i - 1)) := by
            unfold trimR
            rw [List.reverse_append]
            simp [low32, hl]
          rw [this]
        · have hp : p32 s[i - 1].toNat = false := by simp [p32]; omega
          rw [hp]
          simp only [if_true]
          rw [if_pos (by omega), Int.toNat_natCast, hd _ hlt, List.drop_eq_getElem_cons hlt, goRune_low _ _ hb]
          rw [trimR_id (s := s.take i) (fun c hc => by
            rw [hsplit, List.getLast?_concat] at hc
            injection hc with hc; subst hc
            simp [low32]; omega), hlen]
          simp only; omega
      · have hw := last_width (s.take i) hne (by rw [hlast]; exact hb) (s.drop i) (fun c hc => by
          have := hlow c (List.mem_of_mem_head? hc)
          simp [low32] at this; omega)
        rw [hlen, List.take_append_drop] at hw
        obtain ⟨hp, hn, he⟩ := hw
        have hpos := (Lib.decodeLastL_width (s.take i) (by omega)).1
        rw [hp]
        simp only [if_true]
        rw [if_pos (by omega), Int.toNat_natCast, hd _ (by omega), he]
        rw [trimR_id (s := s.take i) (fun c hc => by
          rw [hsplit, List.getLast?_concat] at hc
          injection hc with hc; subst hc
          simp [low32]; omega), hlen]
    · obtain rfl : i = 0 := by omega
      rw [Lib.lastIdxFuncFrom_zero]
      simp [trimR]
theorem right_low (s : Bs) : Lib.trimRightF p32 ⟨s.toArray⟩ = ⟨(trimR low32 s).toArray⟩ := by
  have hs : (⟨s.toArray⟩ : ByteArray).size = s.length := by show s.toArray.size = _; simp
  have h := right_idx s s.length s.length (Nat.le_refl _) (Nat.le_refl _) (by simp)
  rw [List.take_length] at h
  have hpre : ∃ t, s = trimR low32 s ++ t := by
    refine ⟨(s.reverse.takeWhile low32).reverse, ?_⟩
    unfold trimR
    rw [← List.reverse_append, List.takeWhile_append_dropWhile, List.reverse_reverse]
  unfold Lib.trimRightF Lib.rightEndF Lib.lastIdxFunc
  rw [hs, h]
  apply ByteArray.ext
  obtain ⟨t, ht⟩ := hpre
  apply Array.toList_inj.1
  simp
  generalize trimR low32 s = x at *
  rw [ht]
  exact List.take_left
/-- Text, trimmed of bytes no greater than a blank. -/
theorem trimF_low (s : Bs) : Lib.trimF p32 ⟨s.toArray⟩ = ⟨(trimB low32 s).toArray⟩ := by
  unfold Lib.trimF
  rw [left_low, right_low]
  rfl
end Go.Proofs.YtogpmgjdmoglkaaGreatDoor.Pu
