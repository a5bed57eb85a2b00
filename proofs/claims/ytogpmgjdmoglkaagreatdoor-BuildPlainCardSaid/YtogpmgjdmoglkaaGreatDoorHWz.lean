/- Walks: what is written of a URL without its fragment. -/
import Derived.Deep.CutBlock
import Derived.Deep.DeepCutAuto
import Derived.Test.YtogpmgjdmoglkaaGreatDoorHWy
set_option linter.unusedVariables false
set_option linter.unusedSimpArgs false
namespace Go.Proofs.YtogpmgjdmoglkaaGreatDoor
open Go.RowKit Pu

theorem urlAuth_le (u : Url) (h : Short u) : (urlAuth u).length ≤ 4000000000 := by
  have h1 := h.user; have h2 := h.pass; have h3 := h.host
  have h4 := itoa_le u.port h.p0 h.p1
  unfold urlAuth
  split
  · simp only [List.length_append]
    have a1 : (if u.pass = [] then ([] : Bs) else 58 :: u.pass).length ≤ u.pass.length + 1 := by split <;> simp
    have a2 : (if u.user = [] ∧ u.pass = [] then ([] : Bs) else [64]).length ≤ 1 := by split <;> simp
    have a3 : (if u.port = -1 then ([] : Bs) else 58 :: Lib.itoa u.port).length ≤ 31 := by split <;> simp; omega
    simp; omega
  · simp
theorem urlPath_le (u : Url) (h : Short u) : (urlPath u).length ≤ 1000000000 := by
  unfold urlPath
  split
  · exact h.text
  · exact h.segs

def dotB (u : Url) : Bool := decide (u.hasHost = false ∧ u.opq = false ∧ 1 < u.path.length ∧ u.path.head? = some [])
theorem dot_of (u : Url) : urlDot u = if dotB u then [47, 46] else [] := by unfold urlDot dotB; by_cases h : u.hasHost = false ∧ u.opq = false ∧ 1 < u.path.length ∧ u.path.head? = some [] <;> simp [h]
set_option maxRecDepth 100000 in
set_option maxHeartbeats 2000000 in
theorem bare_any (u : Url) (h : Short u) (pv : Value) (w : World) (hE : Env w) (hp : Row1 pv (Ss u.path) w) : Calls Tryz.prog 43 #[urlV u pv] w fun e w' => e = .returned (S (urlBare u)) ∧ Fr w w' := by
  have hA := urlAuth_le u h
  have hPl := urlPath_le u h
  have hq := h.query
  have hs := h.scheme
  have f1 : Fr w (w.alloc (.cells (urlL u pv).toArray 25)) := (Fr.refl w).alloc _
  have bB : Blk w.heap.size (urlL u pv).toArray 25 (w.alloc (.cells (urlL u pv).toArray 25)) := ⟨heap_alloc_new w _⟩
  have F1 := Lib.hid f1
  have BB := Lib.hid bB
  clear f1 bB
  unfold urlV
  go_enter Tryz.func43, Tryz.ntmps43
  go_wp2_with fail
  have e1 := cat2 u.scheme [58]
  have e2 := cat2 (u.scheme ++ [58]) (urlAuth u)
  have n1 : ¬ 9223372036854775807 < u.scheme.length + 1 := by omega
  have n2 : ¬ 9223372036854775807 < u.scheme.length + 1 + (urlAuth u).length := by omega
  have CA := fun w1 (hw1 : Env w1) => authority_any u h pv w1 hw1
  unfold urlV at CA
  have KF : Hid (∀ w1 w2 : World, Fr (w.alloc (.cells (urlL u pv).toArray 25)) w1 → Fr w1 w2 → w2.cell? ⟨w.heap.size, 0, none⟩ = some (S u.scheme) ∧ Blk w.heap.size (urlL u pv).toArray 25 w2 ∧ Fr w w2) := Lib.hid (fun w1 w2 h1 h2 => ⟨((BB.out.fr h1).fr h2).cell rfl, (BB.out.fr h1).fr h2, (F1.out.trans h1).trans h2⟩)
  go_cut [3] from 4 to 10 (fun v wx => v = S (u.scheme ++ 58 :: urlAuth u) ∧ Fr w wx ∧ Blk w.heap.size (urlL u pv).toArray 25 wx)
  case first =>
    go_region_law (first
      | (go_simp; go_at_call 120; refine (CA _ (hE.fr (by repeat (first | exact Fr.refl _ | assumption | refine Fr.drew ?_ | refine Fr.drewN ?_ _ | refine Fr.alloc ?_ _ | refine Fr.trans ?_ (by assumption))))).mono ?_; rintro e w2 ⟨rfl, hf2⟩; obtain ⟨k0, bB2, f2⟩ := KF.out _ w2 (by repeat (first | exact Fr.refl _ | assumption | refine Fr.drew ?_ | refine Fr.drewN ?_ _ | refine Fr.alloc ?_ _ | refine Fr.trans ?_ (by assumption))) hf2))
    all_goals
      go_wp2
      go_meet
      exact ⟨rfl, f2, bB2⟩
  case rest =>
    obtain ⟨rfl, f2, bB2⟩ := hcut
    clear CA KF n1 n2 e1 e2 F1 BB
    have k4 : wc.cell? ⟨w.heap.size, 4, none⟩ = some (.bool u.hasHost) := bB2.cell rfl
    have k6 : wc.cell? ⟨w.heap.size, 6, none⟩ = some (.bool u.opq) := bB2.cell rfl
    have k8 : wc.cell? ⟨w.heap.size, 8, none⟩ = some pv := bB2.cell rfl
    have hp2 := hp.fr f2
    go_upto_region 2 with fail
    go_cut [30] from 10 to 30 (fun v wx => v = .bool (dotB u) ∧ wx = wc)
    case first =>
      obtain ⟨A, cap, rfl, hc⟩ := hp2
      obtain ⟨d, hd⟩ : ∃ d, dotB u = d := ⟨_, rfl⟩
      have HD := Lib.hid hd
      have HD0 := Lib.hid hd
      clear hd bB2
      rw [show (Ss u.path).length = u.path.length from by simp] at *
      unfold dotB at HD
      obtain ⟨hh, hhe⟩ : ∃ b, u.hasHost = b := ⟨_, rfl⟩
      obtain ⟨oo, ooe⟩ : ∃ b, u.opq = b := ⟨_, rfl⟩
      rw [hhe] at k4
      rw [ooe] at k6
      rw [hhe, ooe] at HD
      clear hhe ooe
      cases hh with
      | true =>
        have H2 : Hid (d = false) := Lib.hid (by rw [← HD.out]; simp)
        go_wp2
        go_meet
        exact ⟨by rw [HD0.out, H2.out], by first | rfl | trivial⟩
      | false =>
        cases oo with
        | true =>
          have H2 : Hid (d = false) := Lib.hid (by rw [← HD.out]; simp)
          go_wp2
          go_meet
          exact ⟨by rw [HD0.out, H2.out], by first | rfl | trivial⟩
        | false =>
          by_cases h1 : 1 < u.path.length
          · obtain ⟨b, off, rfl, hc0⟩ := hc 0 (by simp; omega)
            have hc1 : wc.cell? ⟨b, off, none⟩ = some (S (u.path[0]'(by omega))) := by have := hc0; simpa using this
            have h1z : (1 : Int) < (u.path.length : Int) := by omega
            have h0z : (0 : Int) < (u.path.length : Int) := by omega
            have hh0 : u.path.head? = some (u.path[0]'(by omega)) := by rw [List.head?_eq_getElem?, List.getElem?_eq_getElem (by omega)]
            rw [hh0] at HD
            obtain ⟨x0, hx0⟩ : ∃ x, u.path[0]'(by omega) = x := ⟨_, rfl⟩
            rw [hx0] at hc1 HD
            clear hx0
            clear hc hc0 hh0
            cases x0 with
            | nil =>
              have H2 : Hid (d = true) := Lib.hid (by rw [← HD.out]; simp [h1])
              go_wp2
              go_meet
              exact ⟨by rw [HD0.out, H2.out], by first | rfl | trivial⟩
            | cons c r =>
              have H2 : Hid (d = false) := Lib.hid (by rw [← HD.out]; simp)
              go_wp2
              go_meet
              exact ⟨by rw [HD0.out, H2.out], by first | rfl | trivial⟩
          · have h1b : decide ((1 : Int) < (u.path.length : Int)) = false := decide_eq_false (by omega)
            have H2 : Hid (d = false) := Lib.hid (by rw [← HD.out]; simp [h1])
            go_wp2
            go_meet
            exact ⟨by rw [HD0.out, H2.out], by first | rfl | trivial⟩
    case rest =>
      obtain ⟨rfl, rfl⟩ := hcut
      have hXl : (u.scheme ++ 58 :: urlAuth u).length ≤ 6000000000 := by simp; omega
      have HR : Hid (∀ d, dotB u = d → urlBare u = (u.scheme ++ 58 :: urlAuth u) ++ (if d then [47, 46] else []) ++ urlPath u ++ (if u.hasQuery then 63 :: u.query else [])) := Lib.hid (fun d hd => by
        unfold urlBare; rw [dot_of, hd]; simp)
      have CP := fun w1 (hw1 : Row1 pv (Ss u.path) w1) => path_any u h pv w1 hw1
      unfold urlV at CP
      have k9 : wc.cell? ⟨w.heap.size, 9, none⟩ = some (.bool u.hasQuery) := bB2.cell rfl
      have k11 : wc.cell? ⟨w.heap.size, 11, none⟩ = some (S u.query) := bB2.cell rfl
      have K9 := Lib.hid k9
      have K11 := Lib.hid k11
      have hr2 := bB2.fr (Fr.refl wc)
      have hrr : wc.rangeAt w.heap.size 0 (urlL u pv) := fun j v hv => by rw [Nat.zero_add]; exact bB2.cell (by simpa using hv)
      obtain ⟨d, hd⟩ : ∃ d, dotB u = d := ⟨_, rfl⟩
      have HR2 := Lib.hid (HR.out d hd)
      rw [hd]
      generalize (u.scheme ++ 58 :: urlAuth u) = X at *
      have ePl := hPl
      generalize urlPath u = Pt at *
      have e0 := cat2 X [47, 46]
      have e1 := cat2 X Pt
      have e2 := cat2 (X ++ [47, 46]) Pt
      have e3 := cat2 [63] u.query
      have e4 := cat2 (X ++ Pt) (63 :: u.query)
      have e5 := cat2 (X ++ [47, 46] ++ Pt) (63 :: u.query)
      clear hd HR k9 k11 k4 k6 k8 hr2 bB2
      obtain ⟨hqb, hqe⟩ : ∃ b, u.hasQuery = b := ⟨_, rfl⟩
      have HQ := Lib.hid hqe
      clear hqe
      cases d <;> cases hqb
      all_goals
        go_wp2_with (first
          | (refine wpList_load_mid rfl 25 (.tmp 1) rfl w.heap.size 0 rfl (urlL u pv) _ hrr Tryz.underlying25 rfl (by kernel_rfl) ?_)
          | (go_at_call 121; refine (CP _ hp2).mono ?_; rintro e w2 ⟨rfl, hf2⟩; have k9 := hf2.cell K9.out; rw [HQ.out] at k9; have k11 := hf2.cell K11.out))
      all_goals
        have hfin := HR2.out
        rw [HQ.out] at hfin
        go_ret
        refine ⟨ret_s ?_, f2.trans hf2⟩
        rw [hfin]
        simp
end Go.Proofs.YtogpmgjdmoglkaaGreatDoor
