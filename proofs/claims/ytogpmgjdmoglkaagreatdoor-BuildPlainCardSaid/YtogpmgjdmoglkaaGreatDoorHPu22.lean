/- Plain words: a type that is read has no more parameters than its text has bytes. -/
import Derived.Test.YtogpmgjdmoglkaaGreatDoorHVg
import Derived.Test.YtogpmgjdmoglkaaGreatDoorHVh
import Derived.Test.YtogpmgjdmoglkaaGreatDoorHVm
set_option linter.unusedVariables false
set_option linter.unusedSimpArgs false
namespace Go.Proofs.YtogpmgjdmoglkaaGreatDoor
open Go.RowKit Pu

theorem paramsGo_len : ∀ (n : Nat) (ps : List (Bs × Bs)) (s : Bs), s.length ≤ n → (paramsGo ps s).length ≤ ps.length + s.length
  | _, ps, [], _ => by rw [paramsGo]; simp
  | 0, ps, c :: r, h => by simp at h
  | n + 1, ps, c :: r, h => by
    have hr : (prest r).length ≤ r.length := Nat.le_trans (List.dropWhile_sublist _).length_le (List.dropWhile_sublist _).length_le
    have hl : r.length ≤ n := by simp at h; omega
    by_cases hx : ∃ r2, prest r = 61 :: r2
    · obtain ⟨r2, hx⟩ := hx
      have hv := valueOf_le r2
      have hr2 : r2.length + 1 ≤ r.length := by rw [hx] at hr; simpa using hr
      rw [pg_eq ps c r r2 hx]
      split
      · have := paramsGo_len n (ps ++ [(lower (pname r), (valueOf r2).1)]) (valueOf r2).2.1 (by omega)
        simp at this ⊢; omega
      · have := paramsGo_len n ps (valueOf r2).2.1 (by omega)
        simp; omega
    · rw [pg_no ps c r (fun t ht => hx ⟨t, ht⟩)]
      have := paramsGo_len n ps (prest r) (by omega)
      simp; omega
theorem mparse_len (s : Bs) (m : Mime) (h : mparse s = some m) : m.params.length ≤ s.length := by
  rw [mparse_cut] at h
  split at h
  · unfold mparse2 at h
    split at h
    · injection h with h
      subst h
      have h1 := (cutB_lens 47 (trimB blankM s)).2
      have h2 := trimB_len blankM s
      have h3 : ((cutB 47 (trimB blankM s)).2.1.dropWhile (not1 59)).length ≤ (cutB 47 (trimB blankM s)).2.1.length := (List.dropWhile_sublist _).length_le
      have := paramsGo_len _ [] ((cutB 47 (trimB blankM s)).2.1.dropWhile (not1 59)) (Nat.le_refl _)
      simp at this ⊢; omega
    · cases h
  · cases h
theorem mimeOr_len (h : Bs) : (mimeOr h).params.length ≤ h.length + 20 := by
  unfold mimeOr
  cases hm : mparse (if h.head? = some 59 then sText ++ h else h) with
  | none => simp [fallback]
  | some m =>
    have := mparse_len _ _ hm
    have h2 : (if h.head? = some 59 then sText ++ h else h).length ≤ h.length + 10 := by
      split
      · simp [sText]
      · omega
    simp; omega
theorem dataOf_len (s : Bs) (n : Mime) (c : Bs) (h : dataOf s = some (n, c)) : n.params.length ≤ s.length + 20 := by
  unfold dataOf at h
  have h1 := (cutB_lens 44 s).1
  have h2 := trimB_len Pu.blank5 (cutB 44 s).1
  have h3 := based_len (trimB Pu.blank5 (cutB 44 s).1)
  have h4 := mimeOr_len (based (trimB Pu.blank5 (cutB 44 s).1)).1
  split at h
  · cases h
  · split at h
    · simp only [Option.map_eq_some_iff, Prod.mk.injEq] at h
      obtain ⟨x, _, rfl, _⟩ := h
      omega
    · injection h with h
      injection h with h5 h6
      subst h5; omega
theorem process_len (u : Url) (n : Mime) (c : Bs) (h : process u = some (n, c)) : n.params.length ≤ (urlBare u).length + 20 := by
  have := dataOf_len _ n c h
  simp at this; omega
end Go.Proofs.YtogpmgjdmoglkaaGreatDoor
