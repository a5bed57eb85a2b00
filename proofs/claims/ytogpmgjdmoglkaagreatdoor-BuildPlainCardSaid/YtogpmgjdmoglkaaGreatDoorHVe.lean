/- Walks: rows of parameters: read, compared, searched. -/
import Derived.Test.YtogpmgjdmoglkaaGreatDoorHVc
import Derived.Laws.StructEq
import Derived.Deep.CutBlock
import Derived.Deep.DeepCutAuto
set_option linter.unusedVariables false
set_option linter.unusedSimpArgs false
namespace Go.Proofs.YtogpmgjdmoglkaaGreatDoor
open Go.RowKit Pu

/-- A row of parameters that can be read. -/
def Row2 (v : Value) (ps : List (Bs × Bs)) (w : World) : Prop := ∃ A cap, v = .slice A ps.length cap ∧ ∀ j, (hj : j < ps.length) → ∃ b off, A = some ⟨b, off, none⟩ ∧ w.cell? ⟨b, off + j * 2, none⟩ = some (S ps[j].1) ∧ w.cell? ⟨b, off + j * 2 + 1, none⟩ = some (S ps[j].2)
theorem Row2.fr {v : Value} {ps : List (Bs × Bs)} {w w' : World} (h : Row2 v ps w) (hf : Fr w w') : Row2 v ps w' := by
  obtain ⟨A, cap, hv, hr⟩ := h
  refine ⟨A, cap, hv, fun j hj => ?_⟩
  obtain ⟨b, off, hA, h1, h2⟩ := hr j hj
  exact ⟨b, off, hA, hf.cell h1, hf.cell h2⟩
theorem Row2.nil (w : World) : Row2 (.slice none 0 0) [] w := ⟨none, 0, rfl, fun j hj => by cases hj⟩
def pcs (ps : List (Bs × Bs)) : List Value := ps.flatMap fun p => [S p.1, S p.2]
def pv (p : Bs × Bs) : Value := .agg #[S p.1, S p.2]

set_option maxRecDepth 100000 in
theorem twice_any (p : Bs × Bs) (n : Bs) (b : Nat) (w : World) (hb : w.cell? ⟨b, 0, none⟩ = some (S n)) : Calls Tryz.prog 206 #[pv p, .pointer (some ⟨b, 0, none⟩)] w fun e w' => e = .returned (.bool (p.1 == n)) ∧ Fr w w' := by
  have hc := fun o => ((Fr.refl w).alloc o).cell hb
  unfold pv
  go_enter Tryz.func206, Tryz.ntmps206
  go_wp2
  go_ret
  exact ⟨rfl, (Fr.refl w).alloc _⟩
set_option maxRecDepth 100000 in
set_option maxHeartbeats 4000000 in
theorem index_any (ps : List (Bs × Bs)) (hl : ps.length ≤ 1000000000) (n : Bs) (v : Value) (b : Nat) (w : World) (hr : Row2 v ps w) (hb : w.cell? ⟨b, 0, none⟩ = some (S n)) :
    Calls Tryz.prog 208 #[v, .func (.func 206) #[] #[.pointer (some ⟨b, 0, none⟩)]] w fun e w' => (∃ i : Int, e = .returned (.int .i64 i) ∧ decide (0 ≤ i) = ps.any fun p => p.1 == n) ∧ Fr w w' := by
  obtain ⟨A, cap, rfl, hr⟩ := hr
  have HR := Lib.hid hr
  clear hr
  go_enter Tryz.func208, Tryz.ntmps208
  go_wp2
  go_loopw [8] (fun i wr => ∃ k : Nat, k ≤ ps.length ∧ i = .int .i64 k ∧ Fr w wr ∧ Hid (((ps.drop k).any fun p => p.1 == n) = ps.any fun p => p.1 == n)) (fun i _ => ps.length - (intOf i).toNat)
  case atStart => exact ⟨0, by omega, rfl, Fr.refl _, Lib.hid (by simp)⟩
  case round =>
    obtain ⟨k, hk, rfl, hf, HQ⟩ := hrel
    by_cases hlt : k < ps.length
    · obtain ⟨g, off, rfl, h1, h2⟩ := HR.out k hlt
      have h1 := hf.cell h1
      have h2 := hf.cell h2
      have hb2 := hf.cell hb
      have hb2 := hf.cell hb
      have hdk : ps.drop k = ps[k] :: ps.drop (k + 1) := List.drop_eq_getElem_cons hlt
      have HT : Hid (∀ w, w.cell? ⟨b, 0, none⟩ = some (S n) → Calls Tryz.prog 206 #[.agg #[S ps[k].1, S ps[k].2], .pointer (some ⟨b, 0, none⟩)] w fun e w' => e = .returned (.bool (ps[k].1 == n)) ∧ Fr w w') := Lib.hid fun w h => twice_any ps[k] n b w h
      by_cases he : (ps[k].1 == n) = true
      · have HQ2 : Hid (decide (0 ≤ (k : Int)) = ps.any fun p => p.1 == n) := Lib.hid (by rw [← HQ.out, hdk, List.any_cons, he, Bool.true_or]; exact decide_eq_true (by omega))
        rw [he] at HT
        clear HQ hdk HR he
        go_wp2_with fail
        refine (HT.out _ hb2).mono ?_
        rintro e w2 ⟨rfl, hf2⟩
        go_wp2
        go_ret
        exact ⟨⟨_, rfl, HQ2.out⟩, hf.trans hf2⟩
      · have he : (ps[k].1 == n) = false := by simpa using he
        have HQ2 : Hid (((ps.drop (k + 1)).any fun p => p.1 == n) = ps.any fun p => p.1 == n) := Lib.hid (by rw [← HQ.out, hdk, List.any_cons, he, Bool.false_or])
        rw [he] at HT
        clear HQ hdk HR he
        go_wp2_with fail
        refine (HT.out _ hb2).mono ?_
        rintro e w2 ⟨rfl, hf2⟩
        go_wp2
        exact ⟨⟨k + 1, by omega, by go_num, hf.trans hf2, HQ2⟩, by simp [intOf]; omega⟩
    · have HQ2 : (ps.any fun p => p.1 == n) = false := by rw [← HQ.out, List.drop_eq_nil_of_le (by omega)]; rfl
      clear HQ HR
      go_wp2
      go_ret
      exact ⟨⟨_, rfl, by rw [HQ2]; rfl⟩, hf⟩
set_option maxRecDepth 100000 in
theorem contains_any (ps : List (Bs × Bs)) (hl : ps.length ≤ 1000000000) (n : Bs) (v : Value) (b : Nat) (w : World) (hr : Row2 v ps w) (hb : w.cell? ⟨b, 0, none⟩ = some (S n)) :
    Calls Tryz.prog 146 #[v, .func (.func 206) #[] #[.pointer (some ⟨b, 0, none⟩)]] w fun e w' => e = .returned (.bool (ps.any fun p => p.1 == n)) ∧ Fr w w' := by
  have HI : Hid (∀ w, Row2 v ps w → w.cell? ⟨b, 0, none⟩ = some (S n) → _) := Lib.hid fun w h1 h2 => index_any ps hl n v b w h1 h2
  go_enter Tryz.func146, Tryz.ntmps146
  go_wp2_with fail
  refine (HI.out _ hr hb).mono ?_
  rintro e w2 ⟨⟨i, rfl, hi⟩, hf⟩
  go_wp2
  go_ret
  exact ⟨by rw [← hi]; rfl, hf⟩

theorem list_beq (a b : Bs) : ((⟨a.toArray⟩ : ByteArray).toList == (⟨b.toArray⟩ : ByteArray).toList) = (a == b) := by
  rw [ByteArray.toList_eq, ByteArray.toList_eq]
set_option maxRecDepth 1000000 in
theorem param_eq (a b c d : Bs) (w : World) : (Op.equalIn 10000 82 (.agg #[S a, S b]) (.agg #[S c, S d])).run Tryz.prog w = .ok ((a, b) == (c, d)) w := by
  rw [show (10000 : Nat) = 9999 + 1 from rfl, run_equalIn_struct w 9999 _ _ _ (by kernel_rfl) (by kernel_rfl)]
  have u9 := Tryz.underlying9
  have a9 := Tryz.isAgg9
  have z9 := Tryz.sizeOf9
  simp only [Program.fieldsOf, Tryz.underlying82]
  go_simp
  by_cases h1 : a = c <;> by_cases h2 : b = d <;> simp [h1, h2]
theorem param_neq (a b c d : Bs) (w : World) : Sem.run Tryz.prog (binOp .neq 82 (.agg #[S a, S b]) (.agg #[S c, S d])) w = .ok (.bool (!((a, b) == (c, d)))) w := by
  rw [run_neq_struct, param_eq]; rfl
set_option maxRecDepth 1000000 in
theorem param_guard (op : BinOp) (x y : Operand) (a b c d : Bs) (w : World) : Sem.run Tryz.prog (eqGuard op 82 x y (.agg #[S a, S b]) (.agg #[S c, S d])) w = .ok () w :=
  run_eqGuard_agg w op _ x y _ _ (by kernel_rfl)

set_option maxRecDepth 100000 in
set_option maxHeartbeats 4000000 in
theorem equal_any (ps qs : List (Bs × Bs)) (hl : ps.length ≤ 1000000000) (hl2 : qs.length ≤ 1000000000) (v u : Value) (w : World) (hr : Row2 v ps w) (hr2 : Row2 u qs w) :
    Calls Tryz.prog 58 #[v, u] w fun e w' => e = .returned (.bool (ps == qs)) ∧ Fr w w' := by
  obtain ⟨A, cap, rfl, hr⟩ := hr
  obtain ⟨B, cap2, rfl, hr2⟩ := hr2
  by_cases hlen : ps.length = qs.length
  · have hne : ((ps.length : Int) != (qs.length : Int)) = false := by rw [hlen]; simp
    have HR := Lib.hid hr
    have HR2 := Lib.hid hr2
    have HL := Lib.hid hlen
    clear hr hr2 hlen
    go_enter Tryz.func58, Tryz.ntmps58
    go_wp2
    go_loopw [13] (fun i wr => ∃ k : Nat, k ≤ ps.length ∧ i = .int .i64 k ∧ Fr w wr ∧ Hid (((ps.drop k) == (qs.drop k)) = (ps == qs))) (fun i _ => ps.length - (intOf i).toNat)
    case atStart => exact ⟨0, by omega, rfl, Fr.refl _, Lib.hid (by simp)⟩
    case round =>
      obtain ⟨k, hk, rfl, hf, HQ⟩ := hrel
      by_cases hlt : k < ps.length
      · obtain ⟨g, off, rfl, h1, h2⟩ := HR.out k hlt
        have hlt2 : k < qs.length := by rw [← HL.out]; exact hlt
        obtain ⟨g2, off2, rfl, h3, h4⟩ := HR2.out k hlt2
        have h1 := hf.cell h1
        have h2 := hf.cell h2
        have h3 := hf.cell h3
        have h4 := hf.cell h4
        have hdk : ps.drop k = ps[k] :: ps.drop (k + 1) := List.drop_eq_getElem_cons hlt
        have hdk2 : qs.drop k = qs[k] :: qs.drop (k + 1) := List.drop_eq_getElem_cons hlt2
        have hgd := param_guard
        by_cases he : (ps[k] == qs[k]) = true
        · have hne := fun w => param_neq ps[k].1 ps[k].2 qs[k].1 qs[k].2 w
          rw [show ((ps[k].1, ps[k].2) == (qs[k].1, qs[k].2)) = true from he] at hne
          have HQ2 : Hid ((ps.drop (k + 1) == qs.drop (k + 1)) = (ps == qs)) := Lib.hid (by rw [← HQ.out, hdk, hdk2, List.cons_beq_cons, he, Bool.true_and])
          clear HQ hdk hdk2 HR HR2 he
          go_wp2_with fail
          go_quiet (fail)
          go_wp2
          exact ⟨⟨k + 1, by omega, by go_num, hf.drewN _, HQ2⟩, by simp [intOf]; omega⟩
        · have he : (ps[k] == qs[k]) = false := by simpa using he
          have hne := fun w => param_neq ps[k].1 ps[k].2 qs[k].1 qs[k].2 w
          rw [show ((ps[k].1, ps[k].2) == (qs[k].1, qs[k].2)) = false from he] at hne
          have HQ2 : Hid ((ps == qs) = false) := Lib.hid (by rw [← HQ.out, hdk, hdk2, List.cons_beq_cons, he, Bool.false_and])
          clear HQ hdk hdk2 HR HR2 he
          go_wp2_with fail
          go_quiet (fail)
          go_wp2
          go_ret
          exact ⟨by rw [HQ2.out]; rfl, hf.drewN _⟩
      · have hlt2 : qs.length ≤ k := by rw [← HL.out]; omega
        have HQ2 : (ps == qs) = true := by rw [← HQ.out, List.drop_eq_nil_of_le (by omega), List.drop_eq_nil_of_le hlt2]; rfl
        clear HQ HR HR2
        go_wp2
        go_ret
        exact ⟨by rw [HQ2]; rfl, hf⟩
  · have hne : ((ps.length : Int) != (qs.length : Int)) = true := by simp; omega
    have hq : (ps == qs) = false := by rw [beq_eq_false_iff_ne]; intro e; exact hlen (by rw [e])
    go_enter Tryz.func58, Tryz.ntmps58
    go_wp2
    go_ret
    exact ⟨by rw [hq]; rfl, Fr.refl _⟩
end Go.Proofs.YtogpmgjdmoglkaaGreatDoor
/- Walks: types compared; their two names. -/
set_option linter.unusedVariables false
set_option linter.unusedSimpArgs false
namespace Go.Proofs.YtogpmgjdmoglkaaGreatDoor
open Go.RowKit Pu

def mimeV (m : Mime) (v : Value) : Value := .agg #[S m.type, S m.sub, v]
set_option maxRecDepth 100000 in
set_option maxHeartbeats 4000000 in
theorem same_any (m n : Mime) (hl : m.params.length ≤ 1000000000) (hl2 : n.params.length ≤ 1000000000) (v u : Value) (w : World) (hr : Row2 v m.params w) (hr2 : Row2 u n.params w) :
    Calls Tryz.prog 23 #[mimeV m v, mimeV n u] w fun e w' => e = .returned (.bool (decide (m = n))) ∧ Fr w w' := by
  obtain ⟨mt, ms, mp⟩ := m
  obtain ⟨nt, ns, np⟩ := n
  simp only [mimeV, Mime.mk.injEq]
  simp only at hl hl2 hr hr2
  have HE : Hid (∀ w2, Fr w w2 → Calls Tryz.prog 58 #[v, u] w2 fun e w' => e = .returned (.bool (mp == np)) ∧ Fr w2 w') := Lib.hid fun w2 h => equal_any mp np hl hl2 v u w2 (hr.fr h) (hr2.fr h)
  clear hr hr2
  by_cases h1 : mt = nt
  · have e1 : (mt == nt) = true := by simp [h1]
    by_cases h2 : ms = ns
    · have e2 : (ms == ns) = true := by simp [h2]
      have hq : decide (mt = nt ∧ ms = ns ∧ mp = np) = (mp == np) := by rw [Bool.eq_iff_iff]; simp [h1, h2]
      rw [hq]
      clear h1 h2 hq
      go_enter Tryz.func23, Tryz.ntmps23
      go_wp2_with fail
      refine (HE.out _ (by repeat (first | exact Fr.refl _ | assumption | refine Fr.drew ?_ | refine Fr.drewN ?_ _ | refine Fr.alloc ?_ _ | refine Fr.trans ?_ (by assumption)))).mono ?_
      rintro e w2 ⟨rfl, hf⟩
      go_wp2
      go_ret
      exact ⟨rfl, Fr.trans (((Fr.refl w).alloc _).alloc _) hf⟩
    · have e2 : (ms == ns) = false := by rw [beq_eq_false_iff_ne]; exact h2
      have hq : decide (mt = nt ∧ ms = ns ∧ mp = np) = false := by simp [h2]
      rw [hq]
      clear h1 h2 hq
      go_enter Tryz.func23, Tryz.ntmps23
      go_wp2
      go_ret
      exact ⟨rfl, (((Fr.refl w).alloc _).alloc _)⟩
  · have e1 : (mt == nt) = false := by rw [beq_eq_false_iff_ne]; exact h1
    have hq : decide (mt = nt ∧ ms = ns ∧ mp = np) = false := by simp [h1]
    rw [hq]
    clear h1 hq
    go_enter Tryz.func23, Tryz.ntmps23
    go_wp2
    go_ret
    exact ⟨rfl, (((Fr.refl w).alloc _).alloc _)⟩
set_option maxRecDepth 100000 in
theorem essence_any (m : Mime) (h1 : m.type.length ≤ 1000000000) (h2 : m.sub.length ≤ 1000000000) (v : Value) (w : World) :
    Calls Tryz.prog 32 #[mimeV m v] w fun e w' => e = .returned (S (essence m)) ∧ Fr w w' := by
  obtain ⟨mt, ms, mp⟩ := m
  simp only [mimeV, essence]
  simp only at h1 h2
  have c1 := cat2 mt [47]
  have c2 := cat2 (mt ++ [47]) ms
  go_enter Tryz.func32, Tryz.ntmps32
  go_wp2
  go_ret
  exact ⟨rfl, (Fr.refl w).alloc _⟩
set_option maxRecDepth 100000 in
theorem small_any (l : Bs) (hl : l.length ≤ 1000000000) (w : World) : Calls Tryz.prog 148 #[S l] w fun e w' => e = .returned (.bool (small l)) ∧ Fr w w' := by
  unfold small
  cases ht : isToken l
  · go_enter Tryz.func148, Tryz.ntmps148
    go_wp2_with fail
    refine (token_any l (by omega) _).mono ?_
    rw [ht]
    rintro e w2 ⟨rfl, rfl⟩
    go_wp2
    go_ret
    exact ⟨rfl, Fr.refl _⟩
  · go_enter Tryz.func148, Tryz.ntmps148
    go_wp2_with fail
    refine (token_any l (by omega) _).mono ?_
    rw [ht]
    rintro e w2 ⟨rfl, rfl⟩
    go_wp2_with fail
    refine (lower_any l (by omega) _).mono ?_
    rintro e w3 ⟨rfl, hf3⟩
    go_wp2
    go_ret
    exact ⟨by simp, hf3⟩
end Go.Proofs.YtogpmgjdmoglkaaGreatDoor
