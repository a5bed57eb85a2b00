/- Walks: the document's functions of layer 1 on bytes and texts. -/
import Derived.Handy
import Derived.Test.YtogpmgjdmoglkaaGreatDoorHWc
import Derived.Test.YtogpmgjdmoglkaaGreatDoorHPu
set_option linter.unusedVariables false
set_option linter.unusedSimpArgs false
namespace Go.Proofs.YtogpmgjdmoglkaaGreatDoor
open Go.RowKit Pu

theorem u8_eq (a b : UInt8) (h : a = b) : ((a.toNat : Int) == (b.toNat : Int)) = true := by subst h; simp
theorem u8_ne (a b : UInt8) (h : ¬ a = b) : ((a.toNat : Int) == (b.toNat : Int)) = false := by
  rw [beq_eq_false_iff_ne]
  intro e
  exact h (UInt8.toNat_inj.1 (by omega))
def lenS : Value → Nat
  | .string s => s.size
  | _ => 0

theorem rletter_any (n : Int) (w : World) : Calls Tryz.prog 69 #[.int .u8 n] w fun e w' => e = .returned (.bool (letter n)) ∧ w = w' := by
  unfold letter
  by_cases h1 : 65 ≤ n <;> by_cases h2 : n ≤ 90 <;> by_cases h3 : 97 ≤ n <;> by_cases h4 : n ≤ 122 <;> simp only [h1, h2, h3, h4, decide_true, decide_false, Bool.and_true, Bool.and_false, Bool.or_true, Bool.or_false, Bool.true_or, Bool.false_or] <;>
  (go_enter Tryz.func69, Tryz.ntmps69
   go_wp2
   go_ret
   exact ⟨rfl, rfl⟩)
theorem rdigit_any (n : Int) (w : World) : Calls Tryz.prog 70 #[.int .u8 n] w fun e w' => e = .returned (.bool (digit n)) ∧ w = w' := by
  unfold digit
  by_cases h1 : 48 ≤ n <;> by_cases h2 : n ≤ 57 <;> simp only [h1, h2, decide_true, decide_false, Bool.and_true, Bool.and_false] <;>
  (go_enter Tryz.func70, Tryz.ntmps70
   go_wp2
   go_ret
   exact ⟨rfl, rfl⟩)

set_option maxRecDepth 100000 in
theorem rhas_any (l : Bs) (hl : l.length ≤ 1000000000) (c : UInt8) (w : World) : Calls Tryz.prog 74 #[S l, .int .u8 (c.toNat : Int)] w fun e w' => e = .returned (.bool (l.contains c)) ∧ w = w' := by
  have hix := ba_get l
  go_enter Tryz.func74, Tryz.ntmps74
  go_wp2
  go_loopw [8] (fun i wr => ∃ k : Nat, k ≤ l.length ∧ i = .int .i64 k ∧ wr = w ∧ Hid (∀ j, (hj : j < l.length) → j < k → l[j] ≠ c)) (fun i _ => l.length - (intOf i).toNat)
  case atStart => exact ⟨0, Nat.zero_le _, rfl, rfl, Lib.hid (fun j hj h => by omega)⟩
  case round =>
    obtain ⟨k, hk, rfl, rfl, HA⟩ := hrel
    by_cases hlt : k < l.length
    · by_cases hc : l[k] = c
      · have h1 := u8_eq _ _ hc
        have H2 : Hid (l.contains c = true) := Lib.hid (by simp; rw [← hc]; exact List.getElem_mem hlt)
        clear hc
        go_wp2
        go_ret
        exact ⟨ret_b H2.out.symm, rfl⟩
      · have h1 := u8_ne _ _ hc
        have H2 : Hid (∀ j, (hj : j < l.length) → j < k + 1 → l[j] ≠ c) := Lib.hid (fun j hj hjk => by
          by_cases e : j = k
          · subst e; exact hc
          · exact HA.out j hj (by omega))
        clear hc
        go_wp2
        exact ⟨⟨k + 1, by omega, by go_num, by first | rfl | trivial, H2⟩, by simp [intOf]; omega⟩
    · obtain rfl : k = l.length := by omega
      have H2 : Hid (l.contains c = false) := Lib.hid (by
        rw [Bool.eq_false_iff]
        intro h
        have : c ∈ l := by simpa using h
        obtain ⟨j, hj, e⟩ := List.getElem_of_mem this
        exact HA.out j hj hj e)
      go_wp2
      go_ret
      exact ⟨ret_b H2.out.symm, rfl⟩

/-! ### Find -/
def findB (l some : Bs) : Nat := (l.takeWhile fun c => !some.contains c).length
theorem findB_at (l some : Bs) (k : Nat) (hk : k < l.length) (h1 : ∀ j, (hj : j < l.length) → j < k → some.contains l[j] = false) (h2 : some.contains l[k] = true) : findB l some = k := by
  have e : l = l.take k ++ l[k] :: l.drop (k + 1) := by rw [← List.drop_eq_getElem_cons hk, List.take_append_drop]
  have := takeWhile_all (p := fun c => !some.contains c) (l := l.take k) (fun x hx => by
    obtain ⟨j, hj, rfl⟩ := List.getElem_of_mem hx
    have hj2 : j < k := by simp at hj; omega
    have := h1 j (by omega) hj2
    simpa using this) (l[k] :: l.drop (k + 1)) (fun x hx => by injection hx with hx; subst hx; simpa using h2)
  unfold findB
  conv => lhs; rw [e]
  rw [this.1]; simp; omega
theorem findB_end (l some : Bs) (h1 : ∀ j, (hj : j < l.length) → some.contains l[j] = false) : findB l some = l.length := by
  have := takeWhile_all (p := fun c => !some.contains c) (l := l) (fun x hx => by
    obtain ⟨j, hj, rfl⟩ := List.getElem_of_mem hx
    have := h1 j hj
    simpa using this) [] (fun x hx => by cases hx)
  rw [List.append_nil] at this
  unfold findB
  rw [this.1]

set_option maxRecDepth 100000 in
theorem rfind_any (l some : Bs) (hl : l.length ≤ 1000000000) (hs : some.length ≤ 1000000000) (w : World) : Calls Tryz.prog 50 #[S l, S some] w fun e w' => e = .returned (.int .i64 (findB l some)) ∧ w = w' := by
  have hix := ba_get l
  go_enter Tryz.func50, Tryz.ntmps50
  go_wp2
  go_loopw [8] (fun i wr => ∃ k : Nat, k ≤ l.length ∧ i = .int .i64 k ∧ wr = w ∧ Hid (∀ j, (hj : j < l.length) → j < k → some.contains l[j] = false)) (fun i _ => l.length - (intOf i).toNat)
  case atStart => exact ⟨0, Nat.zero_le _, rfl, rfl, Lib.hid (fun j hj h => by omega)⟩
  case round =>
    obtain ⟨k, hk, rfl, rfl, HA⟩ := hrel
    by_cases hlt : k < l.length
    · cases hc : some.contains l[k] with
      | true =>
        have H2 : Hid (findB l some = k) := Lib.hid (findB_at l some k hlt HA.out hc)
        go_wp2_with (go_at_call 74; refine (rhas_any some hs _ _).mono ?_; rintro e w2 ⟨rfl, rfl⟩; rw [hc])
        go_ret
        exact ⟨ret_i (by rw [H2.out]), rfl⟩
      | false =>
        have H2 : Hid (∀ j, (hj : j < l.length) → j < k + 1 → some.contains l[j] = false) := Lib.hid (fun j hj hjk => by
          by_cases e : j = k
          · subst e; exact hc
          · exact HA.out j hj (by omega))
        go_wp2_with (go_at_call 74; refine (rhas_any some hs _ _).mono ?_; rintro e w2 ⟨rfl, rfl⟩; rw [hc])
        exact ⟨⟨k + 1, by omega, by go_num, by first | rfl | trivial, H2⟩, by simp [intOf]; omega⟩
    · obtain rfl : k = l.length := by omega
      have H2 : Hid (findB l some = l.length) := Lib.hid (findB_end l some fun j hj => HA.out j hj hj)
      go_wp2
      go_ret
      exact ⟨ret_i (by rw [H2.out]), rfl⟩

/-! ### Right, Trim -/
def hasIn (some : Bs) (c : UInt8) : Bool := some.contains c
theorem trimR_snoc (p : UInt8 → Bool) (l : Bs) (c : UInt8) (h : p c = true) : trimR p (l ++ [c]) = trimR p l := by simp [trimR, h]
theorem drop1_S (c : UInt8) (r : Bs) : (⟨(c :: r).toArray⟩ : ByteArray).extract 1 (⟨(c :: r).toArray⟩ : ByteArray).size = ⟨r.toArray⟩ := by
  apply ByteArray.ext
  have h : (⟨(c :: r).toArray⟩ : ByteArray).size = r.length + 1 := by show (c :: r).toArray.size = _; simp
  rw [h]
  simp
theorem drop1_S' (c : UInt8) (r : Bs) : (⟨(c :: r).toArray⟩ : ByteArray).extract 1 (r.length + 1) = ⟨r.toArray⟩ := by
  apply ByteArray.ext
  simp
theorem take_S' (s : Bs) (n : Nat) : (⟨s.toArray⟩ : ByteArray).extract 0 n = ⟨(s.take n).toArray⟩ := by
  apply ByteArray.ext
  simp

set_option maxRecDepth 100000 in
theorem rright_any (l some : Bs) (hl : l.length ≤ 1000000000) (hs : some.length ≤ 1000000000) (w : World) : Calls Tryz.prog 54 #[S l, S some] w fun e w' => e = .returned (S (trimR (hasIn some) l)) ∧ w = w' := by
  go_enter Tryz.func54, Tryz.ntmps54
  go_wp2
  go_loopw [0] (fun v wr => ∃ t : Bs, v = S t ∧ t.length ≤ l.length ∧ wr = w ∧ Hid (trimR (hasIn some) l = trimR (hasIn some) t)) (fun v _ => lenS v)
  case atStart => exact ⟨l, rfl, Nat.le_refl _, rfl, Lib.hid rfl⟩
  case round =>
    obtain ⟨t, rfl, htl, rfl, HA⟩ := hrel
    by_cases ht : t = []
    · subst ht
      go_wp2
      go_ret
      exact ⟨ret_s (by rw [HA.out]; rfl), rfl⟩
    · have hpos : 0 < t.length := List.length_pos_iff.2 ht
      have hlt : t.length - 1 < t.length := by omega
      have hsn : t = t.take (t.length - 1) ++ [t[t.length - 1]] := by
        have := List.take_succ_eq_append_getElem hlt
        rw [show t.length - 1 + 1 = t.length from by omega, List.take_length] at this
        exact this
      have hemp : t.isEmpty = false := by simpa using ht
      have hn1 : ((t.length : Int) - 1).toNat = t.length - 1 := by omega
      have hn2 : (0 : Int) ≤ (t.length : Int) - 1 := by omega
      have hn3 : (t.length : Int) - 1 < (t.length : Int) := by omega
      have hn4 : (t.length : Int) - 1 ≤ (t.length : Int) := by omega
      have htk := take_S' t (t.length - 1)
      have hix := ba_get t
      cases hc : some.contains t[t.length - 1] with
      | true =>
        have H2 : Hid (trimR (hasIn some) l = trimR (hasIn some) (t.take (t.length - 1))) := Lib.hid (by
          rw [HA.out]; conv => lhs; rw [hsn]
          exact trimR_snoc _ _ _ hc)
        clear hsn ht
        go_wp2_with (go_at_call 74; refine (rhas_any some hs _ _).mono ?_; rintro e w2 ⟨rfl, rfl⟩; rw [hc])
        exact ⟨⟨t.take (t.length - 1), rfl, by rw [List.length_take]; omega, by first | rfl | trivial, H2⟩, by simp [lenS]; show (t.take (t.length - 1)).toArray.size < t.toArray.size; simp; omega⟩
      | false =>
        have H2 : Hid (trimR (hasIn some) l = t) := Lib.hid (by
          rw [HA.out]
          apply trimR_id
          intro c h
          rw [hsn, List.getLast?_concat] at h
          injection h with h; subst h; exact hc)
        clear hsn ht
        go_wp2_with (go_at_call 74; refine (rhas_any some hs _ _).mono ?_; rintro e w2 ⟨rfl, rfl⟩; rw [hc])
        go_ret
        exact ⟨ret_s H2.out.symm, rfl⟩

set_option maxRecDepth 100000 in
theorem rtrim_any (l some : Bs) (hl : l.length ≤ 1000000000) (hs : some.length ≤ 1000000000) (w : World) : Calls Tryz.prog 51 #[S l, S some] w fun e w' => e = .returned (S (trimB (hasIn some) l)) ∧ w = w' := by
  go_enter Tryz.func51, Tryz.ntmps51
  go_wp2
  go_loopw [0] (fun v wr => ∃ t : Bs, v = S t ∧ t.length ≤ l.length ∧ wr = w ∧ Hid (trimL (hasIn some) l = trimL (hasIn some) t)) (fun v _ => lenS v)
  case atStart => exact ⟨l, rfl, Nat.le_refl _, rfl, Lib.hid rfl⟩
  case round =>
    obtain ⟨t, rfl, htl, rfl, HA⟩ := hrel
    cases t with
    | nil =>
      have H2 : Hid (trimB (hasIn some) l = trimR (hasIn some) []) := Lib.hid (by unfold trimB; rw [HA.out]; rfl)
      go_wp2_with (go_at_call 54; refine (rright_any [] some (by simp) hs _).mono ?_; rintro e w2 ⟨rfl, rfl⟩)
      go_ret
      exact ⟨ret_s H2.out.symm, rfl⟩
    | cons x r =>
      have hix := ba_get (x :: r)
      have hdr := drop1_S' x r
      cases hc : some.contains x with
      | true =>
        have H2 : Hid (trimL (hasIn some) l = trimL (hasIn some) r) := Lib.hid (by rw [HA.out]; show List.dropWhile _ (x :: r) = _; rw [List.dropWhile_cons, if_pos (show hasIn some x = true from hc)]; rfl)
        go_wp2_with (go_at_call 74; refine (rhas_any some hs _ _).mono ?_; rintro e w2 ⟨rfl, rfl⟩; rw [hc])
        exact ⟨⟨r, rfl, by simp at htl; omega, by first | rfl | trivial, H2⟩, by simp [lenS]; show r.toArray.size < (x :: r).toArray.size; simp⟩
      | false =>
        have H2 : Hid (trimB (hasIn some) l = trimR (hasIn some) (x :: r)) := Lib.hid (by
          unfold trimB; rw [HA.out]; congr 1
          exact trimL_id fun c h => by injection h with h; subst h; exact hc)
        go_wp2_with (first
          | (go_at_call 74; refine (rhas_any some hs _ _).mono ?_; rintro e w2 ⟨rfl, rfl⟩; rw [hc])
          | (go_at_call 54; refine (rright_any (x :: r) some (by omega) hs _).mono ?_; rintro e w2 ⟨rfl, rfl⟩))
        go_ret
        exact ⟨ret_s H2.out.symm, rfl⟩
end Go.Proofs.YtogpmgjdmoglkaaGreatDoor
