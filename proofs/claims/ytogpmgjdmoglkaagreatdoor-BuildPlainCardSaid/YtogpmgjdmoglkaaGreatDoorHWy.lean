/- Walks: what is written of a path; of a URL without its fragment. -/
import Derived.StillTailTactics
import Derived.Deep.RegionHeld3
import Derived.Deep.RegionLaw
import Derived.Test.YtogpmgjdmoglkaaGreatDoorHWx
set_option linter.unusedVariables false
set_option linter.unusedSimpArgs false
namespace Go.Proofs.YtogpmgjdmoglkaaGreatDoor
open Go.RowKit Pu

/-- A slice of one-cell values, wherever it lies. -/
def Row1 (v : Value) (vs : List Value) (w : World) : Prop := ∃ A cap, v = .slice A vs.length cap ∧ ∀ j, (hj : j < vs.length) → ∃ b off, A = some ⟨b, off, none⟩ ∧ w.cell? ⟨b, off + j, none⟩ = some vs[j]
theorem Row1.fr {v : Value} {vs : List Value} {w w' : World} (h : Row1 v vs w) (hf : Fr w w') : Row1 v vs w' := by
  obtain ⟨A, cap, hv, hc⟩ := h
  refine ⟨A, cap, hv, fun j hj => ?_⟩
  obtain ⟨b, off, h1, h2⟩ := hc j hj
  exact ⟨b, off, h1, hf.cell h2⟩
theorem Row1.nil (w : World) : Row1 (.slice none 0 0) [] w := ⟨none, 0, rfl, fun j hj => by cases hj⟩
abbrev Ss (l : List Bs) : List Value := l.map S
theorem segText_take (l : List Bs) (k : Nat) (h : k < l.length) : segText (l.take (k + 1)) = segText (l.take k) ++ 47 :: l[k] := by
  unfold segText
  rw [List.take_succ_eq_append_getElem h, List.flatMap_append]
  simp only [List.flatMap_cons, List.flatMap_nil, List.append_nil]
theorem segText_le (l : List Bs) (k : Nat) : (segText (l.take k)).length ≤ (segText l).length := by
  have e : segText l = segText (l.take k) ++ segText (l.drop k) := by unfold segText; rw [← List.flatMap_append, List.take_append_drop]
  rw [e, List.length_append]
  omega
theorem seg_le (l : List Bs) (k : Nat) (h : k < l.length) : l[k].length ≤ (segText l).length := by
  have h1 := segText_le l (k + 1)
  rw [segText_take l k h] at h1
  simp at h1; omega
theorem segs_le (l : List Bs) : l.length ≤ (segText l).length := by
  induction l with
  | nil => simp
  | cons a l ih =>
    have e : segText (a :: l) = 47 :: a ++ segText l := by simp [segText]
    rw [e]
    simp; omega

set_option maxRecDepth 100000 in
set_option maxHeartbeats 2000000 in
theorem path_opq (user pass host sch text query frag : Bs) (hh hq hf : Bool) (port : Int) (pv : Value) (w : World) :
    Calls Tryz.prog 121 #[.agg #[S sch, S user, S pass, S host, .bool hh, .int .i64 port, .bool true, S text, pv, .bool hq, .bool hf, S query, S frag]] w fun e w' => e = .returned (S text) ∧ Fr w w' := by
  go_enter Tryz.func121, Tryz.ntmps121
  go_wp2
  go_ret
  exact ⟨rfl, (Fr.refl w).alloc _⟩

set_option maxRecDepth 100000 in
set_option maxHeartbeats 2000000 in
theorem path_segs (user pass host sch text query frag : Bs) (hh hq hf : Bool) (port : Int) (path : List Bs) (hl : (segText path).length ≤ 1000000000) (pv : Value) (w : World) (hp : Row1 pv (Ss path) w) :
    Calls Tryz.prog 121 #[.agg #[S sch, S user, S pass, S host, .bool hh, .int .i64 port, .bool false, S text, pv, .bool hq, .bool hf, S query, S frag]] w fun e w' => e = .returned (S (segText path)) ∧ Fr w w' := by
  obtain ⟨A, cap, rfl, hc⟩ := hp
  have hc2 : ∀ j, (hj : j < path.length) → ∃ b off, A = some ⟨b, off, none⟩ ∧ w.cell? ⟨b, off + j, none⟩ = some (S path[j]) := fun j hj => by
    obtain ⟨b, off, h1, h2⟩ := hc j (by simpa using hj)
    exact ⟨b, off, h1, by rw [h2]; simp⟩
  have HC := Lib.hid hc2
  have hpl := segs_le path
  clear hc hc2
  rw [show (Ss path).length = path.length from by simp]
  have F1 : Hid (Fr w (w.alloc (.cells #[S sch, S user, S pass, S host, .bool hh, .int .i64 port, .bool false, S text, .slice A path.length cap, .bool hq, .bool hf, S query, S frag] 25))) := Lib.hid ((Fr.refl w).alloc _)
  have HB : Hid (Bld (w.alloc (.cells #[S sch, S user, S pass, S host, .bool hh, .int .i64 port, .bool false, S text, .slice A path.length cap, .bool hq, .bool hf, S query, S frag] 25)) (w.heap.size + 1) [] ((w.alloc (.cells #[S sch, S user, S pass, S host, .bool hh, .int .i64 port, .bool false, S text, .slice A path.length cap, .bool hq, .bool hf, S query, S frag] 25)).alloc (.cells #[.pointer none, .slice none 0 0] 127))) := Lib.hid (by
    have hb := Bld.new (w.alloc (.cells #[S sch, S user, S pass, S host, .bool hh, .int .i64 port, .bool false, S text, .slice A path.length cap, .bool hq, .bool hf, S query, S frag] 25))
    rw [show (w.alloc (.cells #[S sch, S user, S pass, S host, .bool hh, .int .i64 port, .bool false, S text, .slice A path.length cap, .bool hq, .bool hf, S query, S frag] 25)).heap.size = w.heap.size + 1 from by simp] at hb
    exact hb)
  go_enter Tryz.func121, Tryz.ntmps121
  go_wp2
  have f1 := F1.out
  have hb := HB.out
  clear F1 HB
  generalize (w.alloc (.cells #[S sch, S user, S pass, S host, .bool hh, .int .i64 port, .bool false, S text, .slice A path.length cap, .bool hq, .bool hf, S query, S frag] 25)) = W1 at *
  generalize (W1.alloc (.cells #[.pointer none, .slice none 0 0] 127)) = W2 at *
  generalize w.heap.size + 1 = B at *
  go_loopw [13] (fun i wr => ∃ k : Nat, k ≤ path.length ∧ i = .int .i64 k ∧ Bld W1 B (segText (path.take k)) wr) (fun i _ => path.length - (intOf i).toNat)
  case atStart => exact ⟨0, Nat.zero_le _, rfl, by simpa [segText] using hb⟩
  case round =>
    obtain ⟨k, hk, rfl, hr⟩ := hrel
    clear hb
    by_cases hlt : k < path.length
    · obtain ⟨b, off, rfl, hcell0⟩ := HC.out k hlt
      have hcell := (f1.trans hr.fr).cell hcell0
      have HS := Lib.hid (segText_take path k hlt)
      have h1 := segText_le path k
      have h2 := seg_le path k hlt
      have e1 := cat2 [47] path[k]
      clear hcell0
      go_wp2_with (go_at_call 150; refine (bld_string hr (47 :: path[k]) (by first | omega | (simp; done) | (simp; omega)) (by first | omega | (simp; done) | (simp; omega))).mono ?_; rintro e w4 ⟨rfl, hb4⟩)
      go_roundw
      case rel => exact ⟨k + 1, by omega, by go_num, by rw [HS.out]; exact hb4⟩
      case measure => simp [intOf]; omega
    · obtain rfl : k = path.length := by omega
      rw [List.take_length] at hr
      go_wp2_with (go_at_call 152; refine (bld_done hr).mono ?_; rintro e w6 ⟨rfl, hf6⟩)
      go_ret
      exact ⟨rfl, f1.trans hf6⟩
theorem path_any (u : Url) (h : Short u) (pv : Value) (w : World) (hp : Row1 pv (Ss u.path) w) : Calls Tryz.prog 121 #[urlV u pv] w fun e w' => e = .returned (S (urlPath u)) ∧ Fr w w' := by
  obtain ⟨sch, user, pass, host, hh, port, opq, text, path, hq, hf, query, frag⟩ := u
  cases opq with
  | true =>
    refine (path_opq user pass host sch text query frag hh hq hf port pv w).mono ?_
    rintro e w' ⟨rfl, h⟩
    exact ⟨rfl, h⟩
  | false =>
    refine (path_segs user pass host sch text query frag hh hq hf port path h.segs pv w hp).mono ?_
    rintro e w' ⟨rfl, h⟩
    exact ⟨rfl, h⟩
end Go.Proofs.YtogpmgjdmoglkaaGreatDoor
