/- Walks: the document's Few of URLs. -/
import Derived.Test.YtogpmgjdmoglkaaGreatDoorHXf
set_option linter.unusedVariables false
set_option linter.unusedSimpArgs false
namespace Go.Proofs.YtogpmgjdmoglkaaGreatDoor
open Go.RowKit Pu

/-- A URL whose texts are texts. -/
structure LongU (u : Url) : Prop where
  scheme : u.scheme.length ≤ 140737488355328
  user : u.user.length ≤ 140737488355328
  pass : u.pass.length ≤ 140737488355328
  host : u.host.length ≤ 140737488355328
  text : u.text.length ≤ 140737488355328
  query : u.query.length ≤ 140737488355328
  frag : u.frag.length ≤ 140737488355328
  p0 : -9223372036854775808 ≤ u.port
  p1 : u.port ≤ 9223372036854775807
  n : u.path.length ≤ 140737488355328
  seg : ∀ p ∈ u.path, p.length ≤ 140737488355328
def sumL (l : List Bs) : Nat := (l.map List.length).sum
def len7 (u : Url) : Nat := u.scheme.length + u.user.length + u.pass.length + u.host.length + u.text.length + u.query.length + u.frag.length
def fewU (u : Url) : Bool := decide (u.path.length ≤ 50 ∧ len7 u + sumL u.path ≤ 1000)
theorem segText_sum (l : List Bs) : (segText l).length = l.length + sumL l := by
  induction l with
  | nil => rfl
  | cons p r ih =>
    have : segText (p :: r) = (47 :: p) ++ segText r := by simp [segText]
    rw [this, List.length_append, ih]
    simp [sumL]; omega
theorem few_shortU {u : Url} (h : fewU u = true) (hl : LongU u) : Short u := by
  unfold fewU len7 at h
  simp only [decide_eq_true_eq] at h
  have := segText_sum u.path
  exact ⟨by omega, by omega, by omega, by omega, by omega, by omega, by omega, hl.p0, hl.p1, by omega⟩
theorem sumL_take (l : List Bs) (k : Nat) (h : k < l.length) : sumL (l.take (k + 1)) = sumL (l.take k) + l[k].length := by
  unfold sumL
  rw [List.take_succ_eq_append_getElem h, List.map_append, List.sum_append_nat]
  simp
theorem sumL_le (l : List Bs) (B : Nat) (h : ∀ p ∈ l, p.length ≤ B) : ∀ k, k ≤ l.length → sumL (l.take k) ≤ k * B := by
  intro k
  induction k with
  | zero => intro _; simp [sumL]
  | succ k ih =>
    intro hk
    rw [sumL_take l k (by omega), Nat.succ_mul]
    have := h (l[k]'(by omega)) (List.getElem_mem _)
    have := ih (by omega)
    omega
set_option maxRecDepth 100000 in
set_option maxHeartbeats 4000000 in
theorem rfew11_any (u : Url) (hu : LongU u) (v : Value) (w : World) (hr : Row1 v (Ss u.path) w) : Calls Tryz.prog 21 #[urlV u v] w fun e w' => e = .returned (.bool (fewU u)) ∧ Fr w w' := by
  obtain ⟨A, cap, rfl, hr⟩ := hr
  have HR := Lib.hid hr
  clear hr
  obtain ⟨sch, user, pass, host, hh, port, opq, text, path, hq, hf, query, frag⟩ := u
  obtain ⟨h1, h2, h3, h4, h5, h6, h7, _, _, hn, hs⟩ := hu
  simp only at h1 h2 h3 h4 h5 h6 h7 hn hs HR
  have hlp : (Ss path).length = path.length := by simp
  rw [hlp] at *
  have HS := Lib.hid (fun k hk => sumL_le path 140737488355328 hs k hk)
  have HP := Lib.hid hs
  clear hs
  unfold urlV
  have HFew : Hid (∀ n : Int, (path.length ≤ 50 → n = ((sch.length + user.length + pass.length + host.length + text.length + query.length + frag.length + sumL path : Nat) : Int)) → fewU ⟨sch, user, pass, host, hh, port, opq, text, path, hq, hf, query, frag⟩ = (decide (n ≤ 1000) && decide (path.length ≤ 50))) := Lib.hid (by
    intro n hn
    unfold fewU len7
    by_cases hp : path.length ≤ 50
    · rw [hn hp]
      simp [hp]
      omega
    · simp [hp])
  have F1 : Fr w (w.alloc (.cells #[S sch, S user, S pass, S host, .bool hh, .int .i64 port, .bool opq, S text, .slice A path.length cap, .bool hq, .bool hf, S query, S frag] 25)) := (Fr.refl w).alloc _
  have bB : Blk w.heap.size #[S sch, S user, S pass, S host, .bool hh, .int .i64 port, .bool opq, S text, .slice A path.length cap, .bool hq, .bool hf, S query, S frag] 25 (w.alloc (.cells #[S sch, S user, S pass, S host, .bool hh, .int .i64 port, .bool opq, S text, .slice A path.length cap, .bool hq, .bool hf, S query, S frag] 25)) := ⟨heap_alloc_new w _⟩
  have c8 := bB.cell (j := 8) (v := .slice A path.length cap) rfl
  have c0 := bB.cell (j := 0) (v := S sch) rfl
  have c1 := bB.cell (j := 1) (v := S user) rfl
  have c2 := bB.cell (j := 2) (v := S pass) rfl
  have c3 := bB.cell (j := 3) (v := S host) rfl
  have c7 := bB.cell (j := 7) (v := S text) rfl
  have c11 := bB.cell (j := 11) (v := S query) rfl
  have c12 := bB.cell (j := 12) (v := S frag) rfl
  clear bB
  have HL := Lib.hid (fun j (hj : j < path.length) => (show (Ss path)[j]'(by simpa using hj) = S path[j] from by simp))
  go_enter Tryz.func21, Tryz.ntmps21
  go_wp2
  generalize hB : sch.length + user.length + pass.length + host.length + text.length + query.length + frag.length = B at *
  have hBz : (↑(List.length sch) + ↑(List.length user) + ↑(List.length pass) + ↑(List.length host) + ↑(List.length text) + ↑(List.length query) + ↑(List.length frag) : Int) = (B : Int) := by omega
  have HBl : Hid (B ≤ 7 * 140737488355328) := Lib.hid (by omega)
  rw [hBz]
  clear hBz hB h1 h2 h3 h4 h5 h6 h7 c0 c1 c2 c3 c7 c11 c12
  generalize hw1 : w.alloc _ = w1 at *
  clear hw1
  go_loopw [3, 35] (fun n i wr => ∃ (k : Nat) (z : Int), k ≤ path.length ∧ i = .int .i64 k ∧ n = .int .i64 z ∧ Hid (path.length ≤ 50 → z = ((B + sumL (path.take k) : Nat) : Int)) ∧ Fr w1 wr) (fun _ i _ => path.length - (intOf i).toNat)
  case atStart => exact ⟨0, (B : Int), by omega, rfl, rfl, Lib.hid (fun _ => by simp [sumL]), by first | exact Fr.refl _ | (rw [hw1]; exact Fr.refl _)⟩
  case round =>
    obtain ⟨k, z, hk, rfl, rfl, HZ, hf⟩ := hrel
    have c8 := hf.cell c8
    have hf1 := F1.trans hf
    by_cases hlt : k < path.length
    · obtain ⟨b, off, rfl, g1⟩ := HR.out k (by simpa using hlt)
      rw [HL.out k hlt] at g1
      have g1 := hf1.cell g1
      have HZ2 : Hid (path.length ≤ 50 → wrap64 (z + (path[k].length : Int)) = ((B + sumL (path.take (k + 1)) : Nat) : Int)) := Lib.hid (fun hp => by
        have e := HZ.out hp
        have e2 := sumL_take path k hlt
        have e3 := HS.out k hk
        have e4 := HP.out path[k] (List.getElem_mem hlt)
        have e5 := HBl.out
        have e6 : k * 140737488355328 ≤ 50 * 140737488355328 := Nat.mul_le_mul_right _ (by omega)
        rw [show wrap64 (z + (path[k].length : Int)) = z + (path[k].length : Int) from by unfold wrap64; omega, e2]
        omega)
      have hy := HP.out path[k] (List.getElem_mem hlt)
      clear HR HL HZ HS HP HBl HFew
      generalize path[k] = Y at *
      go_wp2
      exact ⟨⟨k + 1, _, by omega, by go_num, rfl, HZ2, hf⟩, by simp [intOf]; omega⟩
    · obtain rfl : k = path.length := by omega
      have HF := Lib.hid (HFew.out z (fun hp => by rw [HZ.out hp, List.take_length]))
      clear HR HL HZ HS HP HBl HFew
      by_cases h20 : z ≤ 1000
      · by_cases h50 : path.length ≤ 50
        · have h50z : (path.length : Int) ≤ 50 := by omega
          go_wp2
          go_ret
          exact ⟨ret_b (by rw [HF.out, decide_eq_true h20, decide_eq_true h50]; rfl), hf1⟩
        · have h50z : decide ((path.length : Int) ≤ 50) = false := decide_eq_false (by omega)
          go_wp2
          go_ret
          exact ⟨ret_b (by rw [HF.out, decide_eq_true h20, decide_eq_false h50]; rfl), hf1⟩
      · have h20z : decide (z ≤ 1000) = false := decide_eq_false (by omega)
        go_wp2
        go_ret
        exact ⟨ret_b (by rw [HF.out, show decide (z ≤ 1000) = false from decide_eq_false (by omega)]; rfl), hf1⟩
end Go.Proofs.YtogpmgjdmoglkaaGreatDoor
