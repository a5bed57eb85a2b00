/- Walks: the document's path and URL, written; short URLs. -/
import Derived.Test.YtogpmgjdmoglkaaGreatDoorHVp
set_option linter.unusedVariables false
set_option linter.unusedSimpArgs false
namespace Go.Proofs.YtogpmgjdmoglkaaGreatDoor
open Go.RowKit Pu

set_option maxRecDepth 100000 in
set_option maxHeartbeats 4000000 in
theorem rpath_any (u : Url) (h : Short u) (pv : Value) (w : World) (hp : Row1 pv (Ss u.path) w) : Calls Tryz.prog 61 #[urlV u pv] w fun e w' => e = .returned (S (urlPath u)) ∧ Fr w w' := by
  obtain ⟨sch, user, pass, host, hh, port, opq, text, path, hq, hf, query, frag⟩ := u
  have hsegs := h.segs
  simp only at hp hsegs
  unfold urlV
  cases opq
  · show Calls Tryz.prog 61 _ w fun e w' => e = .returned (S (segText path)) ∧ Fr w w'
    obtain ⟨A, cap, rfl, hr⟩ := hp
    have hlp : (Ss path).length = path.length := by simp
    rw [hlp] at *
    have HR := Lib.hid hr
    clear hr
    have bB : Blk w.heap.size (urlL ⟨sch, user, pass, host, hh, port, false, text, path, hq, hf, query, frag⟩ (.slice A path.length cap)).toArray 25 (w.alloc (.cells (urlL ⟨sch, user, pass, host, hh, port, false, text, path, hq, hf, query, frag⟩ (.slice A path.length cap)).toArray 25)) := ⟨heap_alloc_new w _⟩
    have c8 := bB.cell (j := 8) (v := .slice A path.length cap) rfl
    have f0 : Fr w (w.alloc (.cells (urlL ⟨sch, user, pass, host, hh, port, false, text, path, hq, hf, query, frag⟩ (.slice A path.length cap)).toArray 25)) := (Fr.refl w).alloc _
    clear bB h
    have hpl := segs_le path
    have HL := Lib.hid (fun j (hj : j < path.length) => (show (Ss path)[j]'(by simpa using hj) = S path[j] from by simp))
    go_enter Tryz.func61, Tryz.ntmps61
    go_wp2
    go_loopw [3, 12] (fun o i wr => ∃ k : Nat, k ≤ path.length ∧ i = .int .i64 k ∧ o = S (segText (path.take k)) ∧ Fr w wr ∧ wr.cell? ⟨w.heap.size, 8, none⟩ = some (.slice A path.length cap)) (fun _ i _ => path.length - (intOf i).toNat)
    case atStart => exact ⟨0, by omega, rfl, rfl, f0, c8⟩
    case round =>
      obtain ⟨k, hk, rfl, rfl, hf1, hc8⟩ := hrel
      clear f0 c8
      by_cases hlt : k < path.length
      · obtain ⟨b, off, rfl, h1⟩ := HR.out k (by simpa using hlt)
        rw [HL.out k hlt] at h1
        have h1 := hf1.cell h1
        have HT := Lib.hid (segText_take path k hlt)
        have hb1 := segText_le path (k + 1)
        have hb2 := segText_le path k
        have hb3 := seg_le path k hlt
        have e1 := cat2 (segText (path.take k)) [47]
        have e2 := cat2 (segText (path.take k) ++ [47]) path[k]
        have n1 : ¬ 9223372036854775807 < (segText (path.take k)).length + 1 := by omega
        have n2 : ¬ 9223372036854775807 < (segText (path.take k)).length + 1 + path[k].length := by omega
        clear HR HL
        generalize hX : segText (path.take k) = X at *
        generalize hY : path[k] = Y at *
        clear hX hY
        go_wp2
        refine ⟨⟨k + 1, by omega, by go_num, by rw [HT.out], hf1, hc8⟩, by simp [intOf]; omega⟩
      · obtain rfl : k = path.length := by omega
        have HT : Hid (segText (path.take path.length) = segText path) := Lib.hid (by rw [List.take_length])
        clear HR HL
        go_wp2
        go_ret
        exact ⟨by rw [← HT.out]; rfl, hf1⟩
  · show Calls Tryz.prog 61 _ w fun e w' => e = .returned (S text) ∧ Fr w w'
    go_enter Tryz.func61, Tryz.ntmps61
    go_wp2
    go_ret
    exact ⟨rfl, (Fr.refl w).alloc _⟩
end Go.Proofs.YtogpmgjdmoglkaaGreatDoor
