/- Walks: data URLs of plain signs, parsed and read; bytes as a text; bytes.Equal; lengths. -/
import Derived.Test.YtogpmgjdmoglkaaGreatDoorHXa
import Derived.Test.YtogpmgjdmoglkaaGreatDoorHVo
import Derived.Test.YtogpmgjdmoglkaaGreatDoorHPu
import Derived.Lib.ConvBytes
set_option linter.unusedVariables false
set_option linter.unusedSimpArgs false
namespace Go.Proofs.YtogpmgjdmoglkaaGreatDoor
open Go.RowKit Pu

theorem RowB.str {v : Value} {l : Bs} {w : World} (h : RowB v l w) : (convert 34 9 v).run Tryz.prog w = .ok (S l) w := by
  obtain ⟨A, cap, rfl, hcap, hr⟩ := h
  cases A with
  | none =>
    have h0 : l = [] := by
      cases l with
      | nil => rfl
      | cons c r => obtain ⟨b, off, h, _⟩ := hr 0 (by simp); cases h
    subst h0
    exact run_convert_bytes_nil w 34 5 Tryz.underlying34 Tryz.underlying5 0 _ _ Tryz.underlying9
  | some a =>
    refine run_convert_bytes_back (P := Tryz.prog) w 34 9 5 a cap l Tryz.underlying34 Tryz.underlying5 Tryz.underlying9 (fun j hj => ?_)
    obtain ⟨b, off, h, hc⟩ := hr j hj
    injection h with h
    subst h
    rw [Addr.add_lit]
    exact hc
theorem plainU_short (r : Bs) (h : r.length ≤ 1000000) : Short (plainU r) := by
  constructor <;> simp [plainU, sData, segText]
  all_goals omega
theorem plainU_bare (r : Bs) (h : r.length ≤ 1000000) : (urlBare (plainU r)).length ≤ 10000000 := by
  simp [urlBare, plainU, urlAuth, urlDot, urlPath, sData]; omega
theorem procOf_plain (r : Bs) (m : Mime) (b : Bs) (h : dataOf r = some (m, b)) : procOf (plainU r) = (0, m, b) := by
  unfold procOf
  rw [if_pos (show (plainU r).scheme = sData from rfl), process_plain, h]
/-- A data URL of plain signs, parsed. -/
theorem parse_plain (r : Bs) (hl : r.length ≤ 60000) (h : ∀ d ∈ r, d ≠ 35 ∧ d ≠ 63 ∧ 33 ≤ d.toNat ∧ d.toNat ≤ 126) (hh : r.head? ≠ some 47) (w : World) (hE : Env w) :
    Calls Tryz.prog 14 #[S (sData ++ 58 :: r), .pointer none] w fun e w' => e = .returned (.tuple #[urlV (plainU r) (.slice none 0 0), .int .i64 0]) ∧ Fr w w' := by
  have := parse_data (sData ++ 58 :: r) r (by simp [sData]; omega) (data_clean r h) hh w hE
  rw [data_url r h] at this
  exact this
theorem proc_plain (r : Bs) (m : Mime) (b : Bs) (hl : r.length ≤ 60000) (h : dataOf r = some (m, b)) (w : World) (hE : Env w) :
    Calls Tryz.prog 16 #[urlV (plainU r) (.slice none 0 0)] w fun e w' => ∃ v x, e = .returned (.tuple #[mimeV m v, x, .int .i64 0]) ∧ OwnM w v m.params w' ∧ OwnS w x b w' := by
  refine (process_any (plainU r) (plainU_short r (by omega)) (plainU_bare r (by omega)) _ w hE (Row1.nil w)).mono fun e w' hp => ?_
  unfold ProcPost at hp
  rw [procOf_plain r m b h] at hp
  exact hp
theorem digitsL_at (n : Int) (h0 : 0 ≤ n) (h1 : n ≤ 15) : (⟨#[48, 49, 50, 51, 52, 53, 54, 55, 56, 57, 97, 98, 99, 100, 101, 102]⟩ : ByteArray).extract n.toNat (n + 1).toNat = ⟨#[hexL n.toNat]⟩ := by
  have h : ∀ k : _root_.Fin 16, (⟨#[48, 49, 50, 51, 52, 53, 54, 55, 56, 57, 97, 98, 99, 100, 101, 102]⟩ : ByteArray).extract k.val (k.val + 1) = ⟨#[hexL k.val]⟩ := by decide
  have := h ⟨n.toNat, by omega⟩
  rw [show (n + 1).toNat = n.toNat + 1 by omega]
  exact this

theorem OwnS.rowB {w0 w : World} {v : Value} {xs : Bs} (h : OwnS w0 v xs w) (hc : ∀ g cap, v = .slice (some ⟨g, 0, none⟩) xs.length cap → xs.length ≤ cap) : RowB v xs w := by
  rcases h.cells with ⟨rfl, rfl⟩ | ⟨g, cap, rfl, hg, hcl⟩
  · exact RowB.nil w
  · exact ⟨_, cap, rfl, hc g cap rfl, fun j hj => ⟨g, 0, rfl, by rw [Nat.zero_add, hcl j hj, getD_at xs j hj]⟩⟩
set_option maxRecDepth 100000 in
theorem bequal_any (a b : Bs) (v u : Value) (w : World) (h1 : (convert 34 9 v).run Tryz.prog w = .ok (S a) w) (h2 : (convert 34 9 u).run Tryz.prog w = .ok (S b) w) :
    Calls Tryz.prog 66 #[v, u] w fun e w' => e = .returned (.bool (a == b)) ∧ Fr w w' := by
  go_enter Tryz.func66, Tryz.ntmps66
  go_wp2
  go_ret
  exact ⟨rfl, Fr.refl _⟩
theorem cleanL_len4 (s : Bs) : (cleanL s).length ≤ 4 * s.length := by
  have h1 := decL_len s
  have h2 := encL_le (decL s)
  have h3 := trimB_len low32 (encL (decL s))
  have h4 := List.length_filter_le gone3 (trimB low32 (encL (decL s)))
  unfold cleanL
  omega
theorem opaqueOf_len (s : Bs) (more : Bool) : (opaqueOf s more).length ≤ 3 * s.length + 3 := by
  unfold opaqueOf
  split
  · have h1 := esc_le 0 s.dropLast
    have h2 : s.dropLast.length ≤ s.length := by simp
    simp; omega
  · have := esc_le 0 s; omega
theorem dataUrl_lens (r : Bs) : (dataUrl r).text.length ≤ 3 * r.length + 3 ∧ (dataUrl r).query.length ≤ 3 * r.length ∧ (dataUrl r).frag.length ≤ 3 * r.length := by
  have h1 := cutB_lens 35 r
  have h2 := cutB_lens 63 (cutB 35 r).1
  refine ⟨?_, ?_, ?_⟩
  · have := opaqueOf_len (cutB 63 (cutB 35 r).1).1 ((cutB 63 (cutB 35 r).1).2.2 || (cutB 35 r).2.2)
    show (opaqueOf _ _).length ≤ _
    omega
  · have := esc_le 2 (cutB 63 (cutB 35 r).1).2.1
    show (esc 2 _).length ≤ _
    omega
  · have := esc_le 1 (cutB 35 r).2.1
    show (esc 1 _).length ≤ _
    omega
theorem dataUrl_short (r : Bs) (h : r.length ≤ 300000) : Short (dataUrl r) := by
  obtain ⟨h1, h2, h3⟩ := dataUrl_lens r
  constructor
  · show sData.length ≤ _; decide
  · show ([] : Bs).length ≤ _; decide
  · show ([] : Bs).length ≤ _; decide
  · show ([] : Bs).length ≤ _; decide
  · omega
  · omega
  · omega
  · show (-9223372036854775808 : Int) ≤ -1; decide
  · show (-1 : Int) ≤ 9223372036854775807; decide
  · show (segText []).length ≤ _; decide
theorem dataUrl_bare (r : Bs) (h : r.length ≤ 300000) : (urlBare (dataUrl r)).length ≤ 10000000 := by
  obtain ⟨h1, h2, h3⟩ := dataUrl_lens r
  have e : urlBare (dataUrl r) = sData ++ 58 :: ((dataUrl r).text ++ (if (dataUrl r).hasQuery then 63 :: (dataUrl r).query else [])) := by
    unfold urlBare urlAuth urlDot urlPath dataUrl; simp
  rw [e]
  have h4 : (if (dataUrl r).hasQuery then 63 :: (dataUrl r).query else []).length ≤ 1 + 3 * r.length := by split <;> simp; omega
  have h5 : sData.length = 4 := rfl
  simp only [List.length_append, List.length_cons]
  omega
end Go.Proofs.YtogpmgjdmoglkaaGreatDoor
