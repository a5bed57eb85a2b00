/- Walks: what was built, read back; the document's Few of types. -/
import Derived.Test.YtogpmgjdmoglkaaGreatDoorHZa
set_option linter.unusedVariables false
set_option linter.unusedSimpArgs false
namespace Go.Proofs.YtogpmgjdmoglkaaGreatDoor
open Go.RowKit Pu

theorem buildD_ok {m : Mime} {b : Bs} {l : Bool} (h : (buildD m b l).2 = 0) : mright m = true ∧ (dataText m b l).length ≤ 65536 ∧ process (dataUrl (tailOf m b l)) = some (m, b) ∧ (buildD m b l).1 = dataText m b l := by
  unfold buildD at h ⊢
  by_cases h1 : mright m = false
  · rw [if_pos h1] at h; cases h
  · rw [if_neg h1] at h ⊢
    by_cases h2 : 65536 < (dataText m b l).length
    · rw [if_pos h2] at h; cases h
    · rw [if_neg h2] at h ⊢
      by_cases h3 : process (dataUrl (tailOf m b l)) = some (m, b)
      · rw [if_pos h3]
        exact ⟨by simpa using h1, by omega, h3, rfl⟩
      · rw [if_neg h3] at h; cases h
theorem buildD_bad {m : Mime} {b : Bs} {l : Bool} (h : (buildD m b l).2 ≠ 0) : (buildD m b l).1 = [] ∧ 1 ≤ (buildD m b l).2 ∧ (buildD m b l).2 ≤ 3 := by
  unfold buildD at h ⊢
  by_cases h1 : mright m = false
  · rw [if_pos h1]; exact ⟨rfl, by decide, by decide⟩
  · rw [if_neg h1] at h ⊢
    by_cases h2 : 65536 < (dataText m b l).length
    · rw [if_pos h2]; exact ⟨rfl, by decide, by decide⟩
    · rw [if_neg h2] at h ⊢
      by_cases h3 : process (dataUrl (tailOf m b l)) = some (m, b)
      · rw [if_pos h3] at h; exact absurd rfl h
      · rw [if_neg h3]; exact ⟨rfl, by decide, by decide⟩
def backU (m : Mime) (b : Bs) (l : Bool) : Url := dataUrl (tailOf m b l)
theorem back_parse {m : Mime} {b : Bs} {l : Bool} (h : (buildD m b l).2 = 0) (w : World) (hE : Env w) : Calls Tryz.prog 14 #[S (buildD m b l).1, .pointer none] w fun e w' => e = .returned (.tuple #[urlV (backU m b l) (.slice none 0 0), .int .i64 0]) ∧ Fr w w' := by
  obtain ⟨h1, h2, h3, h4⟩ := buildD_ok h
  obtain ⟨h5, h6⟩ := tail_of m b l h1
  rw [h4]
  exact parse_data _ _ h2 h5 h6 w hE
theorem back_proc {m : Mime} {b : Bs} {l : Bool} (h : (buildD m b l).2 = 0) (w : World) (hE : Env w) : Calls Tryz.prog 16 #[urlV (backU m b l) (.slice none 0 0)] w fun e w' => ∃ v x, e = .returned (.tuple #[mimeV m v, x, .int .i64 0]) ∧ OwnM w v m.params w' ∧ OwnS w x b w' := by
  obtain ⟨h1, h2, h3, h4⟩ := buildD_ok h
  have h7 := tail_len m b l
  refine (process_any (backU m b l) (dataUrl_short _ (by omega)) (dataUrl_bare _ (by omega)) _ w hE (Row1.nil w)).mono fun e w' hp => ?_
  unfold ProcPost backU at hp
  rw [procOf_data, h3] at hp
  exact hp

/-! ### Few -/
def fewP (p : Bs × Bs) : Bool := decide (p.1.length + p.2.length ≤ 200)
def fewM (m : Mime) : Bool := m.params.all fewP && (decide (m.params.length ≤ 20) && decide (m.type.length + m.sub.length ≤ 200))
/-- A type whose texts are texts. -/
structure LongM (m : Mime) : Prop where
  type : m.type.length ≤ 140737488355328
  sub : m.sub.length ≤ 140737488355328
  n : m.params.length ≤ 140737488355328
  par : ∀ p ∈ m.params, p.1.length ≤ 140737488355328 ∧ p.2.length ≤ 140737488355328
theorem few_short {m : Mime} (h : fewM m = true) : ShortM m := by
  unfold fewM at h
  simp only [Bool.and_eq_true, decide_eq_true_eq, List.all_eq_true] at h
  obtain ⟨h1, h2, h3⟩ := h
  refine ⟨by omega, by omega, by omega, fun p hp => ?_⟩
  have := h1 p hp
  unfold fewP at this
  simp only [decide_eq_true_eq] at this
  exact ⟨by omega, by omega⟩
set_option maxRecDepth 100000 in
set_option maxHeartbeats 4000000 in
theorem rfew5_any (m : Mime) (hm : LongM m) (v : Value) (w : World) (hr : Row2 v m.params w) : Calls Tryz.prog 27 #[mimeV m v] w fun e w' => e = .returned (.bool (fewM m)) ∧ Fr w w' := by
  obtain ⟨A, cap, rfl, hr⟩ := hr
  have HR := Lib.hid hr
  clear hr
  obtain ⟨ty, sub, ps⟩ := m
  obtain ⟨ht, hs, hn, hp⟩ := hm
  simp only at ht hs hn hp HR
  have HP := Lib.hid hp
  clear hp
  unfold mimeV
  show Calls Tryz.prog 27 #[.agg #[S ty, S sub, .slice A ps.length cap]] w fun e w' => e = .returned (.bool (ps.all fewP && (decide (ps.length ≤ 20) && decide (ty.length + sub.length ≤ 200)))) ∧ Fr w w'
  have F1 : Fr w (w.alloc (Obj.cells #[S ty, S sub, .slice A ps.length cap] 33)) := (Fr.refl w).alloc _
  have B1 : Blk w.heap.size #[S ty, S sub, .slice A ps.length cap] 33 (w.alloc (Obj.cells #[S ty, S sub, .slice A ps.length cap] 33)) := ⟨heap_alloc_new w _⟩
  have b0 : (w.alloc (Obj.cells #[S ty, S sub, .slice A ps.length cap] 33)).cell? ⟨w.heap.size, 0, none⟩ = some (S ty) := B1.cell rfl
  have b1 : (w.alloc (Obj.cells #[S ty, S sub, .slice A ps.length cap] 33)).cell? ⟨w.heap.size, 1, none⟩ = some (S sub) := B1.cell rfl
  have b2 : (w.alloc (Obj.cells #[S ty, S sub, .slice A ps.length cap] 33)).cell? ⟨w.heap.size, 2, none⟩ = some (.slice A ps.length cap) := B1.cell rfl
  go_enter Tryz.func27, Tryz.ntmps27
  go_wp2
  generalize w.alloc _ = w1 at *
  have HQ0 : Hid (ps.all fewP = (ps.drop 0).all fewP) := Lib.hid rfl
  go_loopw [7] (fun i wr => ∃ k : Nat, k ≤ ps.length ∧ i = .int .i64 k ∧ Fr w1 wr ∧ Hid (ps.all fewP = (ps.drop k).all fewP)) (fun i _ => ps.length - (intOf i).toNat)
  case atStart => exact ⟨0, by omega, rfl, Fr.refl _, HQ0⟩
  case round =>
    obtain ⟨k, hk, rfl, hf, HQ⟩ := hrel
    have c0 := hf.cell b0
    have c1 := hf.cell b1
    have c2 := hf.cell b2
    have hf1 := F1.trans hf
    clear b0 b1 b2 HQ0
    by_cases hlt : k < ps.length
    · obtain ⟨g, off, rfl, h1, h2⟩ := HR.out k hlt
      have h1 := hf1.cell h1
      have h2 := hf1.cell h2
      obtain ⟨hp1, hp2⟩ := HP.out ps[k] (List.getElem_mem hlt)
      have hdk : ps.drop k = ps[k] :: ps.drop (k + 1) := List.drop_eq_getElem_cons hlt
      have HQ1 : Hid (ps.all fewP = (fewP ps[k] && (ps.drop (k + 1)).all fewP)) := Lib.hid (by rw [HQ.out, hdk]; rfl)
      have HF : Hid (fewP ps[k] = decide (ps[k].1.length + ps[k].2.length ≤ 200)) := Lib.hid rfl
      clear hdk HQ HP HR
      generalize hpn : ps[k].1 = pn at *
      generalize hpw : ps[k].2 = pw at *
      clear hpn hpw
      by_cases hb : pn.length + pw.length ≤ 200
      · have hbz : decide ((200 : Int) < (pn.length : Int) + (pw.length : Int)) = false := decide_eq_false (by omega)
        have HE : Hid (ps.all fewP = (ps.drop (k + 1)).all fewP) := Lib.hid (by rw [HQ1.out, HF.out, decide_eq_true hb]; rfl)
        clear HQ1 HF
        go_wp2
        go_quiet (fail)
        go_wp2
        exact ⟨⟨k + 1, by omega, by go_num, hf.drewN _, HE⟩, by simp [intOf]; omega⟩
      · have hbz : (200 : Int) < (pn.length : Int) + (pw.length : Int) := by omega
        have HE : Hid (ps.all fewP = false) := Lib.hid (by rw [HQ1.out, HF.out, decide_eq_false hb]; rfl)
        clear HQ1 HF
        go_wp2
        go_quiet (fail)
        go_wp2
        go_ret
        exact ⟨ret_b (by rw [HE.out]; rfl), hf1.drewN _⟩
    · obtain rfl : k = ps.length := by omega
      have HE : Hid (ps.all fewP = true) := Lib.hid (by rw [HQ.out, List.drop_length]; rfl)
      clear HQ HP HR
      by_cases h20 : ps.length ≤ 20
      · have h20z : (ps.length : Int) ≤ 20 := by omega
        by_cases h200 : ty.length + sub.length ≤ 200
        · have h200z : (ty.length : Int) + (sub.length : Int) ≤ 200 := by omega
          go_wp2
          go_ret
          exact ⟨ret_b (by rw [HE.out, decide_eq_true h20, decide_eq_true h200]; rfl), hf1⟩
        · have h200z : decide ((ty.length : Int) + (sub.length : Int) ≤ 200) = false := decide_eq_false (by omega)
          go_wp2
          go_ret
          exact ⟨ret_b (by rw [HE.out, decide_eq_true h20, decide_eq_false h200]; rfl), hf1⟩
      · have h20z : decide ((ps.length : Int) ≤ 20) = false := decide_eq_false (by omega)
        go_wp2
        go_ret
        exact ⟨ret_b (by rw [HE.out, decide_eq_false h20]; rfl), hf1⟩
end Go.Proofs.YtogpmgjdmoglkaaGreatDoor
