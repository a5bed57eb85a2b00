/- Walks: the document's characters: how they start. -/
import Derived.Test.YtogpmgjdmoglkaaGreatDoorHXa
import Derived.Test.YtogpmgjdmoglkaaGreatDoorHWr
import Derived.Test.YtogpmgjdmoglkaaGreatDoorHWf
import Derived.Deep.CutBlock
import Derived.Test.YtogpmgjdmoglkaaGreatDoorHXe
import Derived.Test.YtogpmgjdmoglkaaGreatDoorHPu
import Derived.Test.YtogpmgjdmoglkaaGreatDoorHXc
set_option linter.unusedVariables false
set_option linter.unusedSimpArgs false
namespace Go.Proofs.YtogpmgjdmoglkaaGreatDoor
open Go.RowKit Pu

def rmany (c : UInt8) : Nat := if c.toNat < 128 then 1 else if 194 ≤ c.toNat ∧ c.toNat ≤ 223 then 2 else if 224 ≤ c.toNat ∧ c.toNat ≤ 239 then 3 else if 240 ≤ c.toNat ∧ c.toNat ≤ 244 then 4 else 0
def rcont (c : UInt8) : Bool := decide (128 ≤ c.toNat) && decide (c.toNat ≤ 191)
def rbad (c : UInt8) : Bs → Bool
  | [] => false
  | d :: _ => (decide (c.toNat = 224) && decide (d.toNat < 160)) || ((decide (c.toNat = 237) && decide (159 < d.toNat)) || ((decide (c.toNat = 240) && decide (d.toNat < 144)) || (decide (c.toNat = 244) && decide (143 < d.toNat))))
/-- Could a character's bytes begin with these, and are they one's, whole? -/
def rstarts (l : Bs) : Bool × Bool := match l with
  | [] => (false, false)
  | c :: r => if rmany c < r.length + 1 ∨ r.all rcont = false ∨ rbad c r = true then (false, false) else (true, r.length + 1 == rmany c)
theorem rbad_iff (c d : UInt8) (t : Bs) : rbad c (d :: t) = true ↔ (c.toNat = 224 ∧ d.toNat < 160) ∨ (c.toNat = 237 ∧ 159 < d.toNat) ∨ (c.toNat = 240 ∧ d.toNat < 144) ∨ (c.toNat = 244 ∧ 143 < d.toNat) := by
  simp only [rbad, Bool.or_eq_true, Bool.and_eq_true, decide_eq_true_eq]
theorem rcont_no {r : Bs} {j : Nat} (hj : j < r.length) (h : rcont r[j] = false) : r.all rcont = false := by
  rw [Bool.eq_false_iff]
  intro e
  rw [List.all_eq_true.1 e r[j] (List.getElem_mem hj)] at h
  cases h
theorem rcont_all {r : Bs} (h : ∀ j, (hj : j < r.length) → rcont r[j] = true) : r.all rcont = true := List.all_eq_true.2 (fun x hx => by
  obtain ⟨j, hj, rfl⟩ := List.getElem_of_mem hx
  exact h j hj)
set_option maxRecDepth 100000 in
set_option maxHeartbeats 4000000 in
theorem rstarts_r1 (c : UInt8) (r : Bs) (hl : r.length ≤ 1000000000) (v : Value) (w : World) (hv : RowB v (c :: r) w) (x0 : (c.toNat : Int) < 128) :
    Calls Tryz.prog 181 #[v] w fun e w' => e = .returned (.tuple #[.bool (rstarts (c :: r)).1, .bool (rstarts (c :: r)).2]) ∧ Fr w w' := by
  obtain ⟨A, cap, rfl, hcap, hc⟩ := hv
  obtain ⟨b, off, rfl, c0⟩ := hc 0 (by simp)
  have hu := u8_lt c
  rw [Nat.add_zero] at c0
  have c0 : w.cell? ⟨b, off, none⟩ = some (.int .u8 (c.toNat : Int)) := c0
  have hz : (0 : Int) < ((c :: r).length : Int) := by simp
  have hcl : (c :: r).length = r.length + 1 := rfl
  have HM : Hid (rmany c = 1) := Lib.hid (by unfold rmany; first | rw [if_pos (by omega)] | (rw [if_neg (by omega)]; first | rw [if_pos (by omega)] | (rw [if_neg (by omega)]; first | rw [if_pos (by omega)] | (rw [if_neg (by omega)]; first | rw [if_pos (by omega)] | rw [if_neg (by omega)]))))
  have HS : Hid (rstarts (c :: r) = if rmany c < r.length + 1 ∨ r.all rcont = false ∨ rbad c r = true then (false, false) else (true, r.length + 1 == rmany c)) := Lib.hid rfl
  have HC : Hid (∀ j, (hj : j < r.length) → w.cell? ⟨b, off + (j + 1), none⟩ = some (.int .u8 (r[j].toNat : Int))) := Lib.hid (fun j hj => by
    obtain ⟨b', off', e, h⟩ := hc (j + 1) (by simp; omega)
    injection e with e; injection e with e1 e2
    subst e1 e2
    exact h)
  clear hc
  generalize hq : (c :: r).length = q at *
  clear hq
  subst hcl
  by_cases hm : 1 < r.length + 1
  · have hmz : (1 : Int) < (r.length : Int) + 1 := by omega
    have HE : Hid (rstarts (c :: r) = (false, false)) := Lib.hid (by rw [HS.out, if_pos (Or.inl (by rw [HM.out]; exact hm))])
    clear HS HM HC hm
    go_enter Tryz.func181, Tryz.ntmps181
    go_wp2
    go_ret2
    exact ⟨by rw [HE.out]; rfl, Fr.refl _⟩
  · have hmz : (r.length : Int) + 1 ≤ 1 := by omega
    have HS : Hid (rstarts (c :: r) = if r.all rcont = false ∨ rbad c r = true then (false, false) else (true, r.length + 1 == 1)) := Lib.hid (by rw [HS.out, HM.out]; simp only [hm, false_or])
    clear HM hm
    go_enter Tryz.func181, Tryz.ntmps181
    go_wp2
    go_loopw [5] (fun i wr => ∃ k : Nat, k ≤ r.length ∧ i = .int .i64 ((k : Int) + 1) ∧ Fr w wr ∧ Hid (∀ j, (hj : j < r.length) → j < k → rcont r[j] = true)) (fun i _ => r.length + 1 - (intOf i).toNat)
    case atStart => exact ⟨0, by omega, rfl, Fr.refl _, Lib.hid (fun j hj h => by omega)⟩
    case round =>
      obtain ⟨k, hk, rfl, hf, HA⟩ := hrel
      have c0 := hf.cell c0
      by_cases hlt : k < r.length
      · exfalso; omega
      · obtain rfl : k = r.length := by omega
        have HS : Hid (rstarts (c :: r) = if rbad c r = true then (false, false) else (true, r.length + 1 == 1)) := Lib.hid (by rw [HS.out, rcont_all (fun j hj => HA.out j hj hj)]; simp)
        clear HA
        cases hr : r with
        | nil =>
          subst hr
          have HE : Hid (rstarts [c] = (true, true)) := Lib.hid (by rw [HS.out]; rfl)
          clear HS HC
          go_wp2
          go_ret2
          exact ⟨by rw [HE.out]; rfl, hf⟩
        | cons d t =>
          subst hr
          simp at hmz; omega
set_option maxRecDepth 100000 in
set_option maxHeartbeats 4000000 in
theorem rstarts_r2 (c : UInt8) (r : Bs) (hl : r.length ≤ 1000000000) (v : Value) (w : World) (hv : RowB v (c :: r) w) (x0 : 128 ≤ (c.toNat : Int)) (x1 : (c.toNat : Int) < 194) (x2 : (c.toNat : Int) < 224) (x3 : (c.toNat : Int) < 240) :
    Calls Tryz.prog 181 #[v] w fun e w' => e = .returned (.tuple #[.bool (rstarts (c :: r)).1, .bool (rstarts (c :: r)).2]) ∧ Fr w w' := by
  obtain ⟨A, cap, rfl, hcap, hc⟩ := hv
  obtain ⟨b, off, rfl, c0⟩ := hc 0 (by simp)
  have hu := u8_lt c
  rw [Nat.add_zero] at c0
  have c0 : w.cell? ⟨b, off, none⟩ = some (.int .u8 (c.toNat : Int)) := c0
  have hz : (0 : Int) < ((c :: r).length : Int) := by simp
  have hcl : (c :: r).length = r.length + 1 := rfl
  have HM : Hid (rmany c = 0) := Lib.hid (by unfold rmany; first | rw [if_pos (by omega)] | (rw [if_neg (by omega)]; first | rw [if_pos (by omega)] | (rw [if_neg (by omega)]; first | rw [if_pos (by omega)] | (rw [if_neg (by omega)]; first | rw [if_pos (by omega)] | rw [if_neg (by omega)]))))
  have HS : Hid (rstarts (c :: r) = if rmany c < r.length + 1 ∨ r.all rcont = false ∨ rbad c r = true then (false, false) else (true, r.length + 1 == rmany c)) := Lib.hid rfl
  have HC : Hid (∀ j, (hj : j < r.length) → w.cell? ⟨b, off + (j + 1), none⟩ = some (.int .u8 (r[j].toNat : Int))) := Lib.hid (fun j hj => by
    obtain ⟨b', off', e, h⟩ := hc (j + 1) (by simp; omega)
    injection e with e; injection e with e1 e2
    subst e1 e2
    exact h)
  clear hc
  generalize hq : (c :: r).length = q at *
  clear hq
  subst hcl
  have hmz : (0 : Int) < (r.length : Int) + 1 := by omega
  have HE : Hid (rstarts (c :: r) = (false, false)) := Lib.hid (by rw [HS.out, if_pos (Or.inl (by rw [HM.out]; omega))])
  clear HS HM HC
  go_enter Tryz.func181, Tryz.ntmps181
  go_wp2
  go_ret2
  exact ⟨by rw [HE.out]; rfl, Fr.refl _⟩
set_option maxRecDepth 100000 in
set_option maxHeartbeats 4000000 in
theorem rstarts_r3 (c : UInt8) (r : Bs) (hl : r.length ≤ 1000000000) (v : Value) (w : World) (hv : RowB v (c :: r) w) (x0 : 128 ≤ (c.toNat : Int)) (x1 : 194 ≤ (c.toNat : Int)) (x2 : (c.toNat : Int) ≤ 223) :
    Calls Tryz.prog 181 #[v] w fun e w' => e = .returned (.tuple #[.bool (rstarts (c :: r)).1, .bool (rstarts (c :: r)).2]) ∧ Fr w w' := by
  obtain ⟨A, cap, rfl, hcap, hc⟩ := hv
  obtain ⟨b, off, rfl, c0⟩ := hc 0 (by simp)
  have hu := u8_lt c
  rw [Nat.add_zero] at c0
  have c0 : w.cell? ⟨b, off, none⟩ = some (.int .u8 (c.toNat : Int)) := c0
  have hz : (0 : Int) < ((c :: r).length : Int) := by simp
  have hcl : (c :: r).length = r.length + 1 := rfl
  have HM : Hid (rmany c = 2) := Lib.hid (by unfold rmany; first | rw [if_pos (by omega)] | (rw [if_neg (by omega)]; first | rw [if_pos (by omega)] | (rw [if_neg (by omega)]; first | rw [if_pos (by omega)] | (rw [if_neg (by omega)]; first | rw [if_pos (by omega)] | rw [if_neg (by omega)]))))
  have HS : Hid (rstarts (c :: r) = if rmany c < r.length + 1 ∨ r.all rcont = false ∨ rbad c r = true then (false, false) else (true, r.length + 1 == rmany c)) := Lib.hid rfl
  have HC : Hid (∀ j, (hj : j < r.length) → w.cell? ⟨b, off + (j + 1), none⟩ = some (.int .u8 (r[j].toNat : Int))) := Lib.hid (fun j hj => by
    obtain ⟨b', off', e, h⟩ := hc (j + 1) (by simp; omega)
    injection e with e; injection e with e1 e2
    subst e1 e2
    exact h)
  clear hc
  generalize hq : (c :: r).length = q at *
  clear hq
  subst hcl
  by_cases hm : 2 < r.length + 1
  · have hmz : (2 : Int) < (r.length : Int) + 1 := by omega
    have HE : Hid (rstarts (c :: r) = (false, false)) := Lib.hid (by rw [HS.out, if_pos (Or.inl (by rw [HM.out]; exact hm))])
    clear HS HM HC hm
    go_enter Tryz.func181, Tryz.ntmps181
    go_wp2
    go_ret2
    exact ⟨by rw [HE.out]; rfl, Fr.refl _⟩
  · have hmz : (r.length : Int) + 1 ≤ 2 := by omega
    have HS : Hid (rstarts (c :: r) = if r.all rcont = false ∨ rbad c r = true then (false, false) else (true, r.length + 1 == 2)) := Lib.hid (by rw [HS.out, HM.out]; simp only [hm, false_or])
    clear HM hm
    go_enter Tryz.func181, Tryz.ntmps181
    go_wp2
    go_loopw [5] (fun i wr => ∃ k : Nat, k ≤ r.length ∧ i = .int .i64 ((k : Int) + 1) ∧ Fr w wr ∧ Hid (∀ j, (hj : j < r.length) → j < k → rcont r[j] = true)) (fun i _ => r.length + 1 - (intOf i).toNat)
    case atStart => exact ⟨0, by omega, rfl, Fr.refl _, Lib.hid (fun j hj h => by omega)⟩
    case round =>
      obtain ⟨k, hk, rfl, hf, HA⟩ := hrel
      have c0 := hf.cell c0
      by_cases hlt : k < r.length
      · have ck := hf.cell (HC.out k hlt)
        have hu2 := u8_lt r[k]
        have hkz : (k : Int) + 1 < (r.length : Int) + 1 := by omega
        obtain ⟨d, hd⟩ : ∃ d, r[k] = d := ⟨_, rfl⟩
        rw [hd] at ck hu2
        by_cases h1 : 128 ≤ (d.toNat : Int)
        · by_cases h2 : (d.toNat : Int) ≤ 191
          · have HA2 : Hid (∀ j, (hj : j < r.length) → j < k + 1 → rcont r[j] = true) := Lib.hid (fun j hj hjk => by
              by_cases e : j = k
              · subst e; rw [hd]; unfold rcont; simp; try omega
              · exact HA.out j hj (by omega))
            clear HS HA HC hd
            go_wp2
            exact ⟨⟨k + 1, by omega, by go_num, hf, HA2⟩, by simp [intOf]; omega⟩
          · have HE : Hid (rstarts (c :: r) = (false, false)) := Lib.hid (by rw [HS.out, if_pos (Or.inl (rcont_no hlt (by rw [hd]; unfold rcont; simp; try omega)))])
            clear HS HA HC hd
            go_wp2
            go_ret2
            exact ⟨by rw [HE.out]; rfl, hf⟩
        · have HE : Hid (rstarts (c :: r) = (false, false)) := Lib.hid (by rw [HS.out, if_pos (Or.inl (rcont_no hlt (by rw [hd]; unfold rcont; simp; try omega)))])
          clear HS HA HC hd
          go_wp2
          go_ret2
          exact ⟨by rw [HE.out]; rfl, hf⟩
      · obtain rfl : k = r.length := by omega
        have HS : Hid (rstarts (c :: r) = if rbad c r = true then (false, false) else (true, r.length + 1 == 2)) := Lib.hid (by rw [HS.out, rcont_all (fun j hj => HA.out j hj hj)]; simp)
        clear HA
        cases hr : r with
        | nil =>
          subst hr
          have HE : Hid (rstarts [c] = (true, false)) := Lib.hid (by rw [HS.out]; rfl)
          clear HS HC
          go_wp2
          go_ret2
          exact ⟨by rw [HE.out]; rfl, hf⟩
        | cons d t =>
          subst hr
          have c1 : wr.cell? ⟨b, off + 1, none⟩ = some (.int .u8 (d.toNat : Int)) := hf.cell (HC.out 0 (by simp))
          have hud := u8_lt d
          have hmz2 : (t.length : Int) + 2 ≤ 2 := by simp at hmz; omega
          have hlen1 : (d :: t).length = t.length + 1 := rfl
          clear HC hlt hk
          simp only [List.length_cons] at *
          have hgt : (1 : Int) < (t.length : Int) + 1 + 1 := by omega
          have e224 : ((c.toNat : Int) == 224) = false := by rw [beq_eq_false_iff_ne]; omega
          have e237 : ((c.toNat : Int) == 237) = false := by rw [beq_eq_false_iff_ne]; omega
          have e240 : ((c.toNat : Int) == 240) = false := by rw [beq_eq_false_iff_ne]; omega
          have e244 : ((c.toNat : Int) == 244) = false := by rw [beq_eq_false_iff_ne]; omega
          by_cases hw : t.length + 2 = 2
          · have hw1 : ((t.length : Int) + 1 + 1 == 2) = true := by rw [beq_iff_eq]; omega
            have HE : Hid (rstarts (c :: d :: t) = (true, true)) := Lib.hid ((HS.out.trans (if_neg (by rw [rbad_iff]; omega))).trans (by rw [show (t.length + 1 + 1 == 2) = true from by rw [beq_iff_eq]; omega]))
            clear HS hw
            go_wp2
            go_ret2
            exact ⟨by rw [HE.out]; first | rfl | (simp; done), hf⟩
          · have hw1 : ((t.length : Int) + 1 + 1 == 2) = false := by rw [beq_eq_false_iff_ne]; omega
            have HE : Hid (rstarts (c :: d :: t) = (true, false)) := Lib.hid ((HS.out.trans (if_neg (by rw [rbad_iff]; omega))).trans (by rw [show (t.length + 1 + 1 == 2) = false from by rw [beq_eq_false_iff_ne]; omega]))
            clear HS hw
            go_wp2
            go_ret2
            exact ⟨by rw [HE.out]; first | rfl | (simp; done), hf⟩
set_option maxRecDepth 100000 in
set_option maxHeartbeats 4000000 in
theorem rstarts_r4 (c : UInt8) (r : Bs) (hl : r.length ≤ 1000000000) (v : Value) (w : World) (hv : RowB v (c :: r) w) (x0 : 128 ≤ (c.toNat : Int)) (x1 : 194 ≤ (c.toNat : Int)) (x2 : 223 < (c.toNat : Int)) (x3 : 224 ≤ (c.toNat : Int)) (x4 : (c.toNat : Int) ≤ 239) :
    Calls Tryz.prog 181 #[v] w fun e w' => e = .returned (.tuple #[.bool (rstarts (c :: r)).1, .bool (rstarts (c :: r)).2]) ∧ Fr w w' := by
  obtain ⟨A, cap, rfl, hcap, hc⟩ := hv
  obtain ⟨b, off, rfl, c0⟩ := hc 0 (by simp)
  have hu := u8_lt c
  rw [Nat.add_zero] at c0
  have c0 : w.cell? ⟨b, off, none⟩ = some (.int .u8 (c.toNat : Int)) := c0
  have hz : (0 : Int) < ((c :: r).length : Int) := by simp
  have hcl : (c :: r).length = r.length + 1 := rfl
  have HM : Hid (rmany c = 3) := Lib.hid (by unfold rmany; first | rw [if_pos (by omega)] | (rw [if_neg (by omega)]; first | rw [if_pos (by omega)] | (rw [if_neg (by omega)]; first | rw [if_pos (by omega)] | (rw [if_neg (by omega)]; first | rw [if_pos (by omega)] | rw [if_neg (by omega)]))))
  have HS : Hid (rstarts (c :: r) = if rmany c < r.length + 1 ∨ r.all rcont = false ∨ rbad c r = true then (false, false) else (true, r.length + 1 == rmany c)) := Lib.hid rfl
  have HC : Hid (∀ j, (hj : j < r.length) → w.cell? ⟨b, off + (j + 1), none⟩ = some (.int .u8 (r[j].toNat : Int))) := Lib.hid (fun j hj => by
    obtain ⟨b', off', e, h⟩ := hc (j + 1) (by simp; omega)
    injection e with e; injection e with e1 e2
    subst e1 e2
    exact h)
  clear hc
  generalize hq : (c :: r).length = q at *
  clear hq
  subst hcl
  by_cases hm : 3 < r.length + 1
  · have hmz : (3 : Int) < (r.length : Int) + 1 := by omega
    have HE : Hid (rstarts (c :: r) = (false, false)) := Lib.hid (by rw [HS.out, if_pos (Or.inl (by rw [HM.out]; exact hm))])
    clear HS HM HC hm
    go_enter Tryz.func181, Tryz.ntmps181
    go_wp2
    go_ret2
    exact ⟨by rw [HE.out]; rfl, Fr.refl _⟩
  · have hmz : (r.length : Int) + 1 ≤ 3 := by omega
    have HS : Hid (rstarts (c :: r) = if r.all rcont = false ∨ rbad c r = true then (false, false) else (true, r.length + 1 == 3)) := Lib.hid (by rw [HS.out, HM.out]; simp only [hm, false_or])
    clear HM hm
    go_enter Tryz.func181, Tryz.ntmps181
    go_wp2
    go_loopw [5] (fun i wr => ∃ k : Nat, k ≤ r.length ∧ i = .int .i64 ((k : Int) + 1) ∧ Fr w wr ∧ Hid (∀ j, (hj : j < r.length) → j < k → rcont r[j] = true)) (fun i _ => r.length + 1 - (intOf i).toNat)
    case atStart => exact ⟨0, by omega, rfl, Fr.refl _, Lib.hid (fun j hj h => by omega)⟩
    case round =>
      obtain ⟨k, hk, rfl, hf, HA⟩ := hrel
      have c0 := hf.cell c0
      by_cases hlt : k < r.length
      · have ck := hf.cell (HC.out k hlt)
        have hu2 := u8_lt r[k]
        have hkz : (k : Int) + 1 < (r.length : Int) + 1 := by omega
        obtain ⟨d, hd⟩ : ∃ d, r[k] = d := ⟨_, rfl⟩
        rw [hd] at ck hu2
        by_cases h1 : 128 ≤ (d.toNat : Int)
        · by_cases h2 : (d.toNat : Int) ≤ 191
          · have HA2 : Hid (∀ j, (hj : j < r.length) → j < k + 1 → rcont r[j] = true) := Lib.hid (fun j hj hjk => by
              by_cases e : j = k
              · subst e; rw [hd]; unfold rcont; simp; try omega
              · exact HA.out j hj (by omega))
            clear HS HA HC hd
            go_wp2
            exact ⟨⟨k + 1, by omega, by go_num, hf, HA2⟩, by simp [intOf]; omega⟩
          · have HE : Hid (rstarts (c :: r) = (false, false)) := Lib.hid (by rw [HS.out, if_pos (Or.inl (rcont_no hlt (by rw [hd]; unfold rcont; simp; try omega)))])
            clear HS HA HC hd
            go_wp2
            go_ret2
            exact ⟨by rw [HE.out]; rfl, hf⟩
        · have HE : Hid (rstarts (c :: r) = (false, false)) := Lib.hid (by rw [HS.out, if_pos (Or.inl (rcont_no hlt (by rw [hd]; unfold rcont; simp; try omega)))])
          clear HS HA HC hd
          go_wp2
          go_ret2
          exact ⟨by rw [HE.out]; rfl, hf⟩
      · obtain rfl : k = r.length := by omega
        have HS : Hid (rstarts (c :: r) = if rbad c r = true then (false, false) else (true, r.length + 1 == 3)) := Lib.hid (by rw [HS.out, rcont_all (fun j hj => HA.out j hj hj)]; simp)
        clear HA
        cases hr : r with
        | nil =>
          subst hr
          have HE : Hid (rstarts [c] = (true, false)) := Lib.hid (by rw [HS.out]; rfl)
          clear HS HC
          go_wp2
          go_ret2
          exact ⟨by rw [HE.out]; rfl, hf⟩
        | cons d t =>
          subst hr
          have c1 : wr.cell? ⟨b, off + 1, none⟩ = some (.int .u8 (d.toNat : Int)) := hf.cell (HC.out 0 (by simp))
          have hud := u8_lt d
          have hmz2 : (t.length : Int) + 2 ≤ 3 := by simp at hmz; omega
          have hlen1 : (d :: t).length = t.length + 1 := rfl
          clear HC hlt hk
          simp only [List.length_cons] at *
          have hgt : (1 : Int) < (t.length : Int) + 1 + 1 := by omega
          by_cases q224 : c.toNat = 224
          · have e224 : ((c.toNat : Int) == 224) = true := by simp; omega
            have e237 : ((c.toNat : Int) == 237) = false := by rw [beq_eq_false_iff_ne]; omega
            have e240 : ((c.toNat : Int) == 240) = false := by rw [beq_eq_false_iff_ne]; omega
            have e244 : ((c.toNat : Int) == 244) = false := by rw [beq_eq_false_iff_ne]; omega
            by_cases hd : (d.toNat : Int) < 160
            · have HE := Lib.hid (HS.out.trans (if_pos (by rw [rbad_iff]; omega)))
              clear HS
              go_wp2
              go_ret2
              exact ⟨by rw [HE.out]; rfl, hf⟩
            · have hd : 160 ≤ (d.toNat : Int) := by omega
              by_cases hw : t.length + 2 = 3
              · have hw1 : ((t.length : Int) + 1 + 1 == 3) = true := by rw [beq_iff_eq]; omega
                have HE : Hid (rstarts (c :: d :: t) = (true, true)) := Lib.hid ((HS.out.trans (if_neg (by rw [rbad_iff]; omega))).trans (by rw [show (t.length + 1 + 1 == 3) = true from by rw [beq_iff_eq]; omega]))
                clear HS hw
                go_wp2
                go_ret2
                exact ⟨by rw [HE.out]; first | rfl | (simp; done), hf⟩
              · have hw1 : ((t.length : Int) + 1 + 1 == 3) = false := by rw [beq_eq_false_iff_ne]; omega
                have HE : Hid (rstarts (c :: d :: t) = (true, false)) := Lib.hid ((HS.out.trans (if_neg (by rw [rbad_iff]; omega))).trans (by rw [show (t.length + 1 + 1 == 3) = false from by rw [beq_eq_false_iff_ne]; omega]))
                clear HS hw
                go_wp2
                go_ret2
                exact ⟨by rw [HE.out]; first | rfl | (simp; done), hf⟩
          · skip
            by_cases q237 : c.toNat = 237
            · have e224 : ((c.toNat : Int) == 224) = false := by rw [beq_eq_false_iff_ne]; omega
              have e237 : ((c.toNat : Int) == 237) = true := by simp; omega
              have e240 : ((c.toNat : Int) == 240) = false := by rw [beq_eq_false_iff_ne]; omega
              have e244 : ((c.toNat : Int) == 244) = false := by rw [beq_eq_false_iff_ne]; omega
              by_cases hd : 159 < (d.toNat : Int)
              · have HE := Lib.hid (HS.out.trans (if_pos (by rw [rbad_iff]; omega)))
                clear HS
                go_wp2
                go_ret2
                exact ⟨by rw [HE.out]; rfl, hf⟩
              · have hd : (d.toNat : Int) ≤ 159 := by omega
                by_cases hw : t.length + 2 = 3
                · have hw1 : ((t.length : Int) + 1 + 1 == 3) = true := by rw [beq_iff_eq]; omega
                  have HE : Hid (rstarts (c :: d :: t) = (true, true)) := Lib.hid ((HS.out.trans (if_neg (by rw [rbad_iff]; omega))).trans (by rw [show (t.length + 1 + 1 == 3) = true from by rw [beq_iff_eq]; omega]))
                  clear HS hw
                  go_wp2
                  go_ret2
                  exact ⟨by rw [HE.out]; first | rfl | (simp; done), hf⟩
                · have hw1 : ((t.length : Int) + 1 + 1 == 3) = false := by rw [beq_eq_false_iff_ne]; omega
                  have HE : Hid (rstarts (c :: d :: t) = (true, false)) := Lib.hid ((HS.out.trans (if_neg (by rw [rbad_iff]; omega))).trans (by rw [show (t.length + 1 + 1 == 3) = false from by rw [beq_eq_false_iff_ne]; omega]))
                  clear HS hw
                  go_wp2
                  go_ret2
                  exact ⟨by rw [HE.out]; first | rfl | (simp; done), hf⟩
            · skip
              have e224 : ((c.toNat : Int) == 224) = false := by rw [beq_eq_false_iff_ne]; omega
              have e237 : ((c.toNat : Int) == 237) = false := by rw [beq_eq_false_iff_ne]; omega
              have e240 : ((c.toNat : Int) == 240) = false := by rw [beq_eq_false_iff_ne]; omega
              have e244 : ((c.toNat : Int) == 244) = false := by rw [beq_eq_false_iff_ne]; omega
              by_cases hw : t.length + 2 = 3
              · have hw1 : ((t.length : Int) + 1 + 1 == 3) = true := by rw [beq_iff_eq]; omega
                have HE : Hid (rstarts (c :: d :: t) = (true, true)) := Lib.hid ((HS.out.trans (if_neg (by rw [rbad_iff]; omega))).trans (by rw [show (t.length + 1 + 1 == 3) = true from by rw [beq_iff_eq]; omega]))
                clear HS hw
                go_wp2
                go_ret2
                exact ⟨by rw [HE.out]; first | rfl | (simp; done), hf⟩
              · have hw1 : ((t.length : Int) + 1 + 1 == 3) = false := by rw [beq_eq_false_iff_ne]; omega
                have HE : Hid (rstarts (c :: d :: t) = (true, false)) := Lib.hid ((HS.out.trans (if_neg (by rw [rbad_iff]; omega))).trans (by rw [show (t.length + 1 + 1 == 3) = false from by rw [beq_eq_false_iff_ne]; omega]))
                clear HS hw
                go_wp2
                go_ret2
                exact ⟨by rw [HE.out]; first | rfl | (simp; done), hf⟩
set_option maxRecDepth 100000 in
set_option maxHeartbeats 4000000 in
theorem rstarts_r5 (c : UInt8) (r : Bs) (hl : r.length ≤ 1000000000) (v : Value) (w : World) (hv : RowB v (c :: r) w) (x0 : 128 ≤ (c.toNat : Int)) (x1 : 194 ≤ (c.toNat : Int)) (x2 : 223 < (c.toNat : Int)) (x3 : 224 ≤ (c.toNat : Int)) (x4 : 239 < (c.toNat : Int)) (x5 : 240 ≤ (c.toNat : Int)) (x6 : (c.toNat : Int) ≤ 244) :
    Calls Tryz.prog 181 #[v] w fun e w' => e = .returned (.tuple #[.bool (rstarts (c :: r)).1, .bool (rstarts (c :: r)).2]) ∧ Fr w w' := by
  obtain ⟨A, cap, rfl, hcap, hc⟩ := hv
  obtain ⟨b, off, rfl, c0⟩ := hc 0 (by simp)
  have hu := u8_lt c
  rw [Nat.add_zero] at c0
  have c0 : w.cell? ⟨b, off, none⟩ = some (.int .u8 (c.toNat : Int)) := c0
  have hz : (0 : Int) < ((c :: r).length : Int) := by simp
  have hcl : (c :: r).length = r.length + 1 := rfl
  have HM : Hid (rmany c = 4) := Lib.hid (by unfold rmany; first | rw [if_pos (by omega)] | (rw [if_neg (by omega)]; first | rw [if_pos (by omega)] | (rw [if_neg (by omega)]; first | rw [if_pos (by omega)] | (rw [if_neg (by omega)]; first | rw [if_pos (by omega)] | rw [if_neg (by omega)]))))
  have HS : Hid (rstarts (c :: r) = if rmany c < r.length + 1 ∨ r.all rcont = false ∨ rbad c r = true then (false, false) else (true, r.length + 1 == rmany c)) := Lib.hid rfl
  have HC : Hid (∀ j, (hj : j < r.length) → w.cell? ⟨b, off + (j + 1), none⟩ = some (.int .u8 (r[j].toNat : Int))) := Lib.hid (fun j hj => by
    obtain ⟨b', off', e, h⟩ := hc (j + 1) (by simp; omega)
    injection e with e; injection e with e1 e2
    subst e1 e2
    exact h)
  clear hc
  generalize hq : (c :: r).length = q at *
  clear hq
  subst hcl
  by_cases hm : 4 < r.length + 1
  · have hmz : (4 : Int) < (r.length : Int) + 1 := by omega
    have HE : Hid (rstarts (c :: r) = (false, false)) := Lib.hid (by rw [HS.out, if_pos (Or.inl (by rw [HM.out]; exact hm))])
    clear HS HM HC hm
    go_enter Tryz.func181, Tryz.ntmps181
    go_wp2
    go_ret2
    exact ⟨by rw [HE.out]; rfl, Fr.refl _⟩
  · have hmz : (r.length : Int) + 1 ≤ 4 := by omega
    have HS : Hid (rstarts (c :: r) = if r.all rcont = false ∨ rbad c r = true then (false, false) else (true, r.length + 1 == 4)) := Lib.hid (by rw [HS.out, HM.out]; simp only [hm, false_or])
    clear HM hm
    go_enter Tryz.func181, Tryz.ntmps181
    go_wp2
    go_loopw [5] (fun i wr => ∃ k : Nat, k ≤ r.length ∧ i = .int .i64 ((k : Int) + 1) ∧ Fr w wr ∧ Hid (∀ j, (hj : j < r.length) → j < k → rcont r[j] = true)) (fun i _ => r.length + 1 - (intOf i).toNat)
    case atStart => exact ⟨0, by omega, rfl, Fr.refl _, Lib.hid (fun j hj h => by omega)⟩
    case round =>
      obtain ⟨k, hk, rfl, hf, HA⟩ := hrel
      have c0 := hf.cell c0
      by_cases hlt : k < r.length
      · have ck := hf.cell (HC.out k hlt)
        have hu2 := u8_lt r[k]
        have hkz : (k : Int) + 1 < (r.length : Int) + 1 := by omega
        obtain ⟨d, hd⟩ : ∃ d, r[k] = d := ⟨_, rfl⟩
        rw [hd] at ck hu2
        by_cases h1 : 128 ≤ (d.toNat : Int)
        · by_cases h2 : (d.toNat : Int) ≤ 191
          · have HA2 : Hid (∀ j, (hj : j < r.length) → j < k + 1 → rcont r[j] = true) := Lib.hid (fun j hj hjk => by
              by_cases e : j = k
              · subst e; rw [hd]; unfold rcont; simp; try omega
              · exact HA.out j hj (by omega))
            clear HS HA HC hd
            go_wp2
            exact ⟨⟨k + 1, by omega, by go_num, hf, HA2⟩, by simp [intOf]; omega⟩
          · have HE : Hid (rstarts (c :: r) = (false, false)) := Lib.hid (by rw [HS.out, if_pos (Or.inl (rcont_no hlt (by rw [hd]; unfold rcont; simp; try omega)))])
            clear HS HA HC hd
            go_wp2
            go_ret2
            exact ⟨by rw [HE.out]; rfl, hf⟩
        · have HE : Hid (rstarts (c :: r) = (false, false)) := Lib.hid (by rw [HS.out, if_pos (Or.inl (rcont_no hlt (by rw [hd]; unfold rcont; simp; try omega)))])
          clear HS HA HC hd
          go_wp2
          go_ret2
          exact ⟨by rw [HE.out]; rfl, hf⟩
      · obtain rfl : k = r.length := by omega
        have HS : Hid (rstarts (c :: r) = if rbad c r = true then (false, false) else (true, r.length + 1 == 4)) := Lib.hid (by rw [HS.out, rcont_all (fun j hj => HA.out j hj hj)]; simp)
        clear HA
        cases hr : r with
        | nil =>
          subst hr
          have HE : Hid (rstarts [c] = (true, false)) := Lib.hid (by rw [HS.out]; rfl)
          clear HS HC
          go_wp2
          go_ret2
          exact ⟨by rw [HE.out]; rfl, hf⟩
        | cons d t =>
          subst hr
          have c1 : wr.cell? ⟨b, off + 1, none⟩ = some (.int .u8 (d.toNat : Int)) := hf.cell (HC.out 0 (by simp))
          have hud := u8_lt d
          have hmz2 : (t.length : Int) + 2 ≤ 4 := by simp at hmz; omega
          have hlen1 : (d :: t).length = t.length + 1 := rfl
          clear HC hlt hk
          simp only [List.length_cons] at *
          have hgt : (1 : Int) < (t.length : Int) + 1 + 1 := by omega
          by_cases q240 : c.toNat = 240
          · have e224 : ((c.toNat : Int) == 224) = false := by rw [beq_eq_false_iff_ne]; omega
            have e237 : ((c.toNat : Int) == 237) = false := by rw [beq_eq_false_iff_ne]; omega
            have e240 : ((c.toNat : Int) == 240) = true := by simp; omega
            have e244 : ((c.toNat : Int) == 244) = false := by rw [beq_eq_false_iff_ne]; omega
            by_cases hd : (d.toNat : Int) < 144
            · have HE := Lib.hid (HS.out.trans (if_pos (by rw [rbad_iff]; omega)))
              clear HS
              go_wp2
              go_ret2
              exact ⟨by rw [HE.out]; rfl, hf⟩
            · have hd : 144 ≤ (d.toNat : Int) := by omega
              by_cases hw : t.length + 2 = 4
              · have hw1 : ((t.length : Int) + 1 + 1 == 4) = true := by rw [beq_iff_eq]; omega
                have HE : Hid (rstarts (c :: d :: t) = (true, true)) := Lib.hid ((HS.out.trans (if_neg (by rw [rbad_iff]; omega))).trans (by rw [show (t.length + 1 + 1 == 4) = true from by rw [beq_iff_eq]; omega]))
                clear HS hw
                go_wp2
                go_ret2
                exact ⟨by rw [HE.out]; first | rfl | (simp; done), hf⟩
              · have hw1 : ((t.length : Int) + 1 + 1 == 4) = false := by rw [beq_eq_false_iff_ne]; omega
                have HE : Hid (rstarts (c :: d :: t) = (true, false)) := Lib.hid ((HS.out.trans (if_neg (by rw [rbad_iff]; omega))).trans (by rw [show (t.length + 1 + 1 == 4) = false from by rw [beq_eq_false_iff_ne]; omega]))
                clear HS hw
                go_wp2
                go_ret2
                exact ⟨by rw [HE.out]; first | rfl | (simp; done), hf⟩
          · skip
            by_cases q244 : c.toNat = 244
            · have e224 : ((c.toNat : Int) == 224) = false := by rw [beq_eq_false_iff_ne]; omega
              have e237 : ((c.toNat : Int) == 237) = false := by rw [beq_eq_false_iff_ne]; omega
              have e240 : ((c.toNat : Int) == 240) = false := by rw [beq_eq_false_iff_ne]; omega
              have e244 : ((c.toNat : Int) == 244) = true := by simp; omega
              by_cases hd : 143 < (d.toNat : Int)
              · have HE := Lib.hid (HS.out.trans (if_pos (by rw [rbad_iff]; omega)))
                clear HS
                go_wp2
                go_ret2
                exact ⟨by rw [HE.out]; rfl, hf⟩
              · have hd : (d.toNat : Int) ≤ 143 := by omega
                by_cases hw : t.length + 2 = 4
                · have hw1 : ((t.length : Int) + 1 + 1 == 4) = true := by rw [beq_iff_eq]; omega
                  have HE : Hid (rstarts (c :: d :: t) = (true, true)) := Lib.hid ((HS.out.trans (if_neg (by rw [rbad_iff]; omega))).trans (by rw [show (t.length + 1 + 1 == 4) = true from by rw [beq_iff_eq]; omega]))
                  clear HS hw
                  go_wp2
                  go_ret2
                  exact ⟨by rw [HE.out]; first | rfl | (simp; done), hf⟩
                · have hw1 : ((t.length : Int) + 1 + 1 == 4) = false := by rw [beq_eq_false_iff_ne]; omega
                  have HE : Hid (rstarts (c :: d :: t) = (true, false)) := Lib.hid ((HS.out.trans (if_neg (by rw [rbad_iff]; omega))).trans (by rw [show (t.length + 1 + 1 == 4) = false from by rw [beq_eq_false_iff_ne]; omega]))
                  clear HS hw
                  go_wp2
                  go_ret2
                  exact ⟨by rw [HE.out]; first | rfl | (simp; done), hf⟩
            · skip
              have e224 : ((c.toNat : Int) == 224) = false := by rw [beq_eq_false_iff_ne]; omega
              have e237 : ((c.toNat : Int) == 237) = false := by rw [beq_eq_false_iff_ne]; omega
              have e240 : ((c.toNat : Int) == 240) = false := by rw [beq_eq_false_iff_ne]; omega
              have e244 : ((c.toNat : Int) == 244) = false := by rw [beq_eq_false_iff_ne]; omega
              by_cases hw : t.length + 2 = 4
              · have hw1 : ((t.length : Int) + 1 + 1 == 4) = true := by rw [beq_iff_eq]; omega
                have HE : Hid (rstarts (c :: d :: t) = (true, true)) := Lib.hid ((HS.out.trans (if_neg (by rw [rbad_iff]; omega))).trans (by rw [show (t.length + 1 + 1 == 4) = true from by rw [beq_iff_eq]; omega]))
                clear HS hw
                go_wp2
                go_ret2
                exact ⟨by rw [HE.out]; first | rfl | (simp; done), hf⟩
              · have hw1 : ((t.length : Int) + 1 + 1 == 4) = false := by rw [beq_eq_false_iff_ne]; omega
                have HE : Hid (rstarts (c :: d :: t) = (true, false)) := Lib.hid ((HS.out.trans (if_neg (by rw [rbad_iff]; omega))).trans (by rw [show (t.length + 1 + 1 == 4) = false from by rw [beq_eq_false_iff_ne]; omega]))
                clear HS hw
                go_wp2
                go_ret2
                exact ⟨by rw [HE.out]; first | rfl | (simp; done), hf⟩
set_option maxRecDepth 100000 in
set_option maxHeartbeats 4000000 in
theorem rstarts_r6 (c : UInt8) (r : Bs) (hl : r.length ≤ 1000000000) (v : Value) (w : World) (hv : RowB v (c :: r) w) (x0 : 128 ≤ (c.toNat : Int)) (x1 : 194 ≤ (c.toNat : Int)) (x2 : 223 < (c.toNat : Int)) (x3 : 224 ≤ (c.toNat : Int)) (x4 : 239 < (c.toNat : Int)) (x5 : 240 ≤ (c.toNat : Int)) (x6 : 244 < (c.toNat : Int)) :
    Calls Tryz.prog 181 #[v] w fun e w' => e = .returned (.tuple #[.bool (rstarts (c :: r)).1, .bool (rstarts (c :: r)).2]) ∧ Fr w w' := by
  obtain ⟨A, cap, rfl, hcap, hc⟩ := hv
  obtain ⟨b, off, rfl, c0⟩ := hc 0 (by simp)
  have hu := u8_lt c
  rw [Nat.add_zero] at c0
  have c0 : w.cell? ⟨b, off, none⟩ = some (.int .u8 (c.toNat : Int)) := c0
  have hz : (0 : Int) < ((c :: r).length : Int) := by simp
  have hcl : (c :: r).length = r.length + 1 := rfl
  have HM : Hid (rmany c = 0) := Lib.hid (by unfold rmany; first | rw [if_pos (by omega)] | (rw [if_neg (by omega)]; first | rw [if_pos (by omega)] | (rw [if_neg (by omega)]; first | rw [if_pos (by omega)] | (rw [if_neg (by omega)]; first | rw [if_pos (by omega)] | rw [if_neg (by omega)]))))
  have HS : Hid (rstarts (c :: r) = if rmany c < r.length + 1 ∨ r.all rcont = false ∨ rbad c r = true then (false, false) else (true, r.length + 1 == rmany c)) := Lib.hid rfl
  have HC : Hid (∀ j, (hj : j < r.length) → w.cell? ⟨b, off + (j + 1), none⟩ = some (.int .u8 (r[j].toNat : Int))) := Lib.hid (fun j hj => by
    obtain ⟨b', off', e, h⟩ := hc (j + 1) (by simp; omega)
    injection e with e; injection e with e1 e2
    subst e1 e2
    exact h)
  clear hc
  generalize hq : (c :: r).length = q at *
  clear hq
  subst hcl
  have hmz : (0 : Int) < (r.length : Int) + 1 := by omega
  have HE : Hid (rstarts (c :: r) = (false, false)) := Lib.hid (by rw [HS.out, if_pos (Or.inl (by rw [HM.out]; omega))])
  clear HS HM HC
  go_enter Tryz.func181, Tryz.ntmps181
  go_wp2
  go_ret2
  exact ⟨by rw [HE.out]; rfl, Fr.refl _⟩
theorem rstarts_any (c : UInt8) (r : Bs) (hl : r.length ≤ 1000000000) (v : Value) (w : World) (hv : RowB v (c :: r) w) :
    Calls Tryz.prog 181 #[v] w fun e w' => e = .returned (.tuple #[.bool (rstarts (c :: r)).1, .bool (rstarts (c :: r)).2]) ∧ Fr w w' := by
  by_cases h1 : (c.toNat : Int) < 128
  · exact rstarts_r1 c r hl v w hv h1
  by_cases h2 : (c.toNat : Int) < 194
  · exact rstarts_r2 c r hl v w hv (by omega) (by omega) (by omega) (by omega)
  by_cases h3 : (c.toNat : Int) ≤ 223
  · exact rstarts_r3 c r hl v w hv (by omega) (by omega) (by omega)
  by_cases h4 : (c.toNat : Int) ≤ 239
  · exact rstarts_r4 c r hl v w hv (by omega) (by omega) (by omega) (by omega) (by omega)
  by_cases h5 : (c.toNat : Int) ≤ 244
  · exact rstarts_r5 c r hl v w hv (by omega) (by omega) (by omega) (by omega) (by omega) (by omega) (by omega)
  · exact rstarts_r6 c r hl v w hv (by omega) (by omega) (by omega) (by omega) (by omega) (by omega) (by omega)
end Go.Proofs.YtogpmgjdmoglkaaGreatDoor
/- Walks: the document's characters: the number of a character's bytes. -/
set_option linter.unusedVariables false
set_option linter.unusedSimpArgs false
namespace Go.Proofs.YtogpmgjdmoglkaaGreatDoor
open Go.RowKit Pu

def rnumGo (r : Int) : Bs → Int
  | [] => r
  | c :: t => rnumGo (r * 64 + (c.toNat : Int) - 128) t
def rnum : Bs → Int
  | [] => 0
  | c :: t => rnumGo ((c.toNat : Int) - (if t.length = 1 then 192 else if t.length = 2 then 224 else if t.length = 3 then 240 else 0)) t
set_option maxRecDepth 100000 in
set_option maxHeartbeats 4000000 in
theorem rnum_0 (c : UInt8) (v : Value) (w : World) (hv : RowB v [c] w) :
    Calls Tryz.prog 182 #[v] w fun e w' => e = .returned (.int .i32 (rnum [c])) ∧ Fr w w' := by
  obtain ⟨A, cap, rfl, hcap, hc⟩ := hv
  obtain ⟨b, off, rfl, c0⟩ := hc 0 (by simp)
  have hu0 := u8_lt c
  have c0 : w.cell? ⟨b, off, none⟩ = some (.int .u8 (c.toNat : Int)) := c0
  clear hc
  have HE : Hid (rnum [c] = (c.toNat : Int)) := Lib.hid (by unfold rnum; simp [rnumGo])
  obtain ⟨z0, hz0⟩ : ∃ z : Int, z = (c.toNat : Int) := ⟨_, rfl⟩
  have hb0 : -255 ≤ z0 ∧ z0 ≤ 255 := by omega
  obtain ⟨hl0, hh0⟩ := hb0
  have HE : Hid (rnum [c] = z0) := Lib.hid (by rw [HE.out, hz0])
  have HZ0 := Lib.hid hz0
  clear hz0
  have fz := HZ0.out.symm
  go_enter Tryz.func182, Tryz.ntmps182
  go_wp2
  clear fz
  go_loopw [3, 4] (fun r i wr => (i = .int .i64 1 ∧ r = .int .i32 z0 ∧ Fr w wr)) (fun _ i _ => 1 - (intOf i).toNat)
  case atStart => exact ⟨rfl, rfl, Fr.refl _⟩
  case round =>
    obtain ⟨rfl, rfl, hf⟩ := hrel
    go_wp2
    go_ret
    exact ⟨by rw [HE.out]; rfl, hf⟩
set_option maxRecDepth 100000 in
set_option maxHeartbeats 4000000 in
theorem rnum_1 (c d1 : UInt8) (v : Value) (w : World) (hv : RowB v [c, d1] w) :
    Calls Tryz.prog 182 #[v] w fun e w' => e = .returned (.int .i32 (rnum [c, d1])) ∧ Fr w w' := by
  obtain ⟨A, cap, rfl, hcap, hc⟩ := hv
  obtain ⟨b, off, rfl, c0⟩ := hc 0 (by simp)
  have hu0 := u8_lt c
  have c0 : w.cell? ⟨b, off, none⟩ = some (.int .u8 (c.toNat : Int)) := c0
  have hu1 := u8_lt d1
  have c1 : w.cell? ⟨b, off + 1, none⟩ = some (.int .u8 (d1.toNat : Int)) := by
    obtain ⟨b', off', e, h⟩ := hc 1 (by simp)
    injection e with e; injection e with e1 e2
    subst e1 e2
    exact h
  clear hc
  have HE : Hid (rnum [c, d1] = ((c.toNat : Int) - 192) * 64 + (d1.toNat : Int) - 128) := Lib.hid (by unfold rnum; simp [rnumGo])
  obtain ⟨z0, hz0⟩ : ∃ z : Int, z = (c.toNat : Int) - 192 := ⟨_, rfl⟩
  have hb0 : -255 ≤ z0 ∧ z0 ≤ 255 := by omega
  obtain ⟨hl0, hh0⟩ := hb0
  obtain ⟨z1, hz1⟩ : ∃ z : Int, z = z0 * 64 + (d1.toNat : Int) - 128 := ⟨_, rfl⟩
  have hb1 : -20000 ≤ z1 ∧ z1 ≤ 20000 := by omega
  obtain ⟨hl1, hh1⟩ := hb1
  have HE : Hid (rnum [c, d1] = z1) := Lib.hid (by rw [HE.out, hz1, hz0])
  have HZ0 := Lib.hid hz0
  have HZ1 := Lib.hid hz1
  clear hz0 hz1
  have fz := HZ0.out.symm
  go_enter Tryz.func182, Tryz.ntmps182
  go_wp2
  clear fz
  go_loopw [3, 4] (fun r i wr => (i = .int .i64 1 ∧ r = .int .i32 z0 ∧ Fr w wr) ∨ (i = .int .i64 2 ∧ r = .int .i32 z1 ∧ Fr w wr)) (fun _ i _ => 2 - (intOf i).toNat)
  case atStart => exact Or.inl ⟨rfl, rfl, Fr.refl _⟩
  case round =>
    rcases hrel with ⟨rfl, rfl, hf⟩ | ⟨rfl, rfl, hf⟩
    · have g := hf.cell c1
      have fz := HZ1.out.symm
      go_wp2
      exact ⟨Or.inr (⟨by go_num, by first | rfl | go_num, hf⟩), by simp [intOf]⟩
    · go_wp2
      go_ret
      exact ⟨by rw [HE.out]; rfl, hf⟩
set_option maxRecDepth 100000 in
set_option maxHeartbeats 4000000 in
theorem rnum_2 (c d1 d2 : UInt8) (v : Value) (w : World) (hv : RowB v [c, d1, d2] w) :
    Calls Tryz.prog 182 #[v] w fun e w' => e = .returned (.int .i32 (rnum [c, d1, d2])) ∧ Fr w w' := by
  obtain ⟨A, cap, rfl, hcap, hc⟩ := hv
  obtain ⟨b, off, rfl, c0⟩ := hc 0 (by simp)
  have hu0 := u8_lt c
  have c0 : w.cell? ⟨b, off, none⟩ = some (.int .u8 (c.toNat : Int)) := c0
  have hu1 := u8_lt d1
  have c1 : w.cell? ⟨b, off + 1, none⟩ = some (.int .u8 (d1.toNat : Int)) := by
    obtain ⟨b', off', e, h⟩ := hc 1 (by simp)
    injection e with e; injection e with e1 e2
    subst e1 e2
    exact h
  have hu2 := u8_lt d2
  have c2 : w.cell? ⟨b, off + 2, none⟩ = some (.int .u8 (d2.toNat : Int)) := by
    obtain ⟨b', off', e, h⟩ := hc 2 (by simp)
    injection e with e; injection e with e1 e2
    subst e1 e2
    exact h
  clear hc
  have HE : Hid (rnum [c, d1, d2] = (((c.toNat : Int) - 224) * 64 + (d1.toNat : Int) - 128) * 64 + (d2.toNat : Int) - 128) := Lib.hid (by unfold rnum; simp [rnumGo])
  obtain ⟨z0, hz0⟩ : ∃ z : Int, z = (c.toNat : Int) - 224 := ⟨_, rfl⟩
  have hb0 : -255 ≤ z0 ∧ z0 ≤ 255 := by omega
  obtain ⟨hl0, hh0⟩ := hb0
  obtain ⟨z1, hz1⟩ : ∃ z : Int, z = z0 * 64 + (d1.toNat : Int) - 128 := ⟨_, rfl⟩
  have hb1 : -20000 ≤ z1 ∧ z1 ≤ 20000 := by omega
  obtain ⟨hl1, hh1⟩ := hb1
  obtain ⟨z2, hz2⟩ : ∃ z : Int, z = z1 * 64 + (d2.toNat : Int) - 128 := ⟨_, rfl⟩
  have hb2 : -1300000 ≤ z2 ∧ z2 ≤ 1300000 := by omega
  obtain ⟨hl2, hh2⟩ := hb2
  have HE : Hid (rnum [c, d1, d2] = z2) := Lib.hid (by rw [HE.out, hz2, hz1, hz0])
  have HZ0 := Lib.hid hz0
  have HZ1 := Lib.hid hz1
  have HZ2 := Lib.hid hz2
  clear hz0 hz1 hz2
  have fz := HZ0.out.symm
  go_enter Tryz.func182, Tryz.ntmps182
  go_wp2
  clear fz
  go_loopw [3, 4] (fun r i wr => (i = .int .i64 1 ∧ r = .int .i32 z0 ∧ Fr w wr) ∨ (i = .int .i64 2 ∧ r = .int .i32 z1 ∧ Fr w wr) ∨ (i = .int .i64 3 ∧ r = .int .i32 z2 ∧ Fr w wr)) (fun _ i _ => 3 - (intOf i).toNat)
  case atStart => exact Or.inl ⟨rfl, rfl, Fr.refl _⟩
  case round =>
    rcases hrel with ⟨rfl, rfl, hf⟩ | ⟨rfl, rfl, hf⟩ | ⟨rfl, rfl, hf⟩
    · have g := hf.cell c1
      have fz := HZ1.out.symm
      go_wp2
      exact ⟨Or.inr (Or.inl ⟨by go_num, by first | rfl | go_num, hf⟩), by simp [intOf]⟩
    · have g := hf.cell c2
      have fz := HZ2.out.symm
      go_wp2
      exact ⟨Or.inr (Or.inr (⟨by go_num, by first | rfl | go_num, hf⟩)), by simp [intOf]⟩
    · go_wp2
      go_ret
      exact ⟨by rw [HE.out]; rfl, hf⟩
set_option maxRecDepth 100000 in
set_option maxHeartbeats 4000000 in
theorem rnum_3 (c d1 d2 d3 : UInt8) (v : Value) (w : World) (hv : RowB v [c, d1, d2, d3] w) :
    Calls Tryz.prog 182 #[v] w fun e w' => e = .returned (.int .i32 (rnum [c, d1, d2, d3])) ∧ Fr w w' := by
  obtain ⟨A, cap, rfl, hcap, hc⟩ := hv
  obtain ⟨b, off, rfl, c0⟩ := hc 0 (by simp)
  have hu0 := u8_lt c
  have c0 : w.cell? ⟨b, off, none⟩ = some (.int .u8 (c.toNat : Int)) := c0
  have hu1 := u8_lt d1
  have c1 : w.cell? ⟨b, off + 1, none⟩ = some (.int .u8 (d1.toNat : Int)) := by
    obtain ⟨b', off', e, h⟩ := hc 1 (by simp)
    injection e with e; injection e with e1 e2
    subst e1 e2
    exact h
  have hu2 := u8_lt d2
  have c2 : w.cell? ⟨b, off + 2, none⟩ = some (.int .u8 (d2.toNat : Int)) := by
    obtain ⟨b', off', e, h⟩ := hc 2 (by simp)
    injection e with e; injection e with e1 e2
    subst e1 e2
    exact h
  have hu3 := u8_lt d3
  have c3 : w.cell? ⟨b, off + 3, none⟩ = some (.int .u8 (d3.toNat : Int)) := by
    obtain ⟨b', off', e, h⟩ := hc 3 (by simp)
    injection e with e; injection e with e1 e2
    subst e1 e2
    exact h
  clear hc
  have HE : Hid (rnum [c, d1, d2, d3] = ((((c.toNat : Int) - 240) * 64 + (d1.toNat : Int) - 128) * 64 + (d2.toNat : Int) - 128) * 64 + (d3.toNat : Int) - 128) := Lib.hid (by unfold rnum; simp [rnumGo])
  obtain ⟨z0, hz0⟩ : ∃ z : Int, z = (c.toNat : Int) - 240 := ⟨_, rfl⟩
  have hb0 : -255 ≤ z0 ∧ z0 ≤ 255 := by omega
  obtain ⟨hl0, hh0⟩ := hb0
  obtain ⟨z1, hz1⟩ : ∃ z : Int, z = z0 * 64 + (d1.toNat : Int) - 128 := ⟨_, rfl⟩
  have hb1 : -20000 ≤ z1 ∧ z1 ≤ 20000 := by omega
  obtain ⟨hl1, hh1⟩ := hb1
  obtain ⟨z2, hz2⟩ : ∃ z : Int, z = z1 * 64 + (d2.toNat : Int) - 128 := ⟨_, rfl⟩
  have hb2 : -1300000 ≤ z2 ∧ z2 ≤ 1300000 := by omega
  obtain ⟨hl2, hh2⟩ := hb2
  obtain ⟨z3, hz3⟩ : ∃ z : Int, z = z2 * 64 + (d3.toNat : Int) - 128 := ⟨_, rfl⟩
  have hb3 : -84000000 ≤ z3 ∧ z3 ≤ 84000000 := by omega
  obtain ⟨hl3, hh3⟩ := hb3
  have HE : Hid (rnum [c, d1, d2, d3] = z3) := Lib.hid (by rw [HE.out, hz3, hz2, hz1, hz0])
  have HZ0 := Lib.hid hz0
  have HZ1 := Lib.hid hz1
  have HZ2 := Lib.hid hz2
  have HZ3 := Lib.hid hz3
  clear hz0 hz1 hz2 hz3
  have fz := HZ0.out.symm
  go_enter Tryz.func182, Tryz.ntmps182
  go_wp2
  clear fz
  go_loopw [3, 4] (fun r i wr => (i = .int .i64 1 ∧ r = .int .i32 z0 ∧ Fr w wr) ∨ (i = .int .i64 2 ∧ r = .int .i32 z1 ∧ Fr w wr) ∨ (i = .int .i64 3 ∧ r = .int .i32 z2 ∧ Fr w wr) ∨ (i = .int .i64 4 ∧ r = .int .i32 z3 ∧ Fr w wr)) (fun _ i _ => 4 - (intOf i).toNat)
  case atStart => exact Or.inl ⟨rfl, rfl, Fr.refl _⟩
  case round =>
    rcases hrel with ⟨rfl, rfl, hf⟩ | ⟨rfl, rfl, hf⟩ | ⟨rfl, rfl, hf⟩ | ⟨rfl, rfl, hf⟩
    · have g := hf.cell c1
      have fz := HZ1.out.symm
      go_wp2
      exact ⟨Or.inr (Or.inl ⟨by go_num, by first | rfl | go_num, hf⟩), by simp [intOf]⟩
    · have g := hf.cell c2
      have fz := HZ2.out.symm
      go_wp2
      exact ⟨Or.inr (Or.inr (Or.inl ⟨by go_num, by first | rfl | go_num, hf⟩)), by simp [intOf]⟩
    · have g := hf.cell c3
      have fz := HZ3.out.symm
      go_wp2
      exact ⟨Or.inr (Or.inr (Or.inr (⟨by go_num, by first | rfl | go_num, hf⟩))), by simp [intOf]⟩
    · go_wp2
      go_ret
      exact ⟨by rw [HE.out]; rfl, hf⟩
theorem rnum_any (l : Bs) (h1 : 1 ≤ l.length) (h4 : l.length ≤ 4) (v : Value) (w : World) (hv : RowB v l w) :
    Calls Tryz.prog 182 #[v] w fun e w' => e = .returned (.int .i32 (rnum l)) ∧ Fr w w' := by
  match l, h1, h4, hv with
  | [c], _, _, hv => exact rnum_0 c v w hv
  | [c, d], _, _, hv => exact rnum_1 c d v w hv
  | [c, d, e], _, _, hv => exact rnum_2 c d e v w hv
  | [c, d, e, f], _, _, hv => exact rnum_3 c d e f v w hv
end Go.Proofs.YtogpmgjdmoglkaaGreatDoor
/- Walks: the document's characters of bytes. -/
set_option linter.unusedVariables false
set_option linter.unusedSimpArgs false
namespace Go.Proofs.YtogpmgjdmoglkaaGreatDoor
open Go.RowKit Pu

/-- How many bytes are read for a character, and whether it is whole. -/
def rscan (b : Bs) (n : Nat) : Nat × Bool :=
  if n < b.length then
    (if (rstarts (b.take (n + 1))).1 = true then (if (rstarts (b.take (n + 1))).2 = true then (n + 1, true) else rscan b (n + 1)) else (n, false))
  else (n, false)
termination_by b.length - n
theorem rmany_le (c : UInt8) : rmany c ≤ 4 := by unfold rmany; repeat' split
                                                 all_goals omega
theorem rstarts_le {l : Bs} (h : (rstarts l).2 = true) : l.length ≤ 4 := by
  cases l with
  | nil => simp
  | cons c r =>
    have e : rstarts (c :: r) = if rmany c < r.length + 1 ∨ r.all rcont = false ∨ rbad c r = true then (false, false) else (true, r.length + 1 == rmany c) := rfl
    rw [e] at h
    by_cases hh : rmany c < r.length + 1 ∨ r.all rcont = false ∨ rbad c r = true
    · rw [if_pos hh] at h; cases h
    · rw [if_neg hh] at h
      have := rmany_le c
      have h : (r.length + 1 == rmany c) = true := h
      rw [beq_iff_eq] at h
      simp; omega
theorem rscan_bd (b : Bs) : ∀ (k n : Nat), b.length - n ≤ k → n ≤ b.length → n ≤ (rscan b n).1 ∧ (rscan b n).1 ≤ b.length ∧ ((rscan b n).2 = true → n + 1 ≤ (rscan b n).1 ∧ (rscan b n).1 ≤ 4) := by
  intro k
  induction k with
  | zero =>
    intro n h hn
    rw [rscan, if_neg (by omega)]
    exact ⟨Nat.le_refl _, hn, fun h => by cases h⟩
  | succ k ih =>
    intro n h hn
    rw [rscan]
    by_cases hlt : n < b.length
    · rw [if_pos hlt]
      by_cases h1 : (rstarts (b.take (n + 1))).1 = true
      · rw [if_pos h1]
        by_cases h2 : (rstarts (b.take (n + 1))).2 = true
        · rw [if_pos h2]
          have := rstarts_le h2
          rw [List.length_take] at this
          exact ⟨by simp, by simp; omega, fun _ => ⟨Nat.le_refl _, by simp; omega⟩⟩
        · rw [if_neg h2]
          obtain ⟨a1, a2, a3⟩ := ih (n + 1) (by omega) (by omega)
          exact ⟨by omega, a2, fun h => by have := a3 h; omega⟩
      · rw [if_neg h1]
        exact ⟨Nat.le_refl _, hn, fun h => by cases h⟩
    · rw [if_neg hlt]
      exact ⟨Nat.le_refl _, hn, fun h => by cases h⟩
def radv (b : Bs) : Nat := if (rscan b 0).2 = true then (rscan b 0).1 else max (rscan b 0).1 1
def rrune (b : Bs) : Int := if (rscan b 0).2 = true then rnum (b.take (rscan b 0).1) else 65533
theorem radv_bd (b : Bs) (h : b ≠ []) : 1 ≤ radv b ∧ radv b ≤ b.length := by
  obtain ⟨a1, a2, a3⟩ := rscan_bd b _ 0 (Nat.le_refl _) (by omega)
  have : 0 < b.length := List.length_pos_iff.2 h
  unfold radv
  split
  · rename_i h
    have := a3 h
    omega
  · omega
def rdec (l : Bs) : List Int :=
  match l with
  | [] => []
  | c :: r => rrune (c :: r) :: rdec ((c :: r).drop (radv (c :: r)))
termination_by l.length
decreasing_by
  have := (radv_bd (c :: r) (by simp)).1
  simp
  omega
theorem rdec_at (l : Bs) (k : Nat) (hk : k < l.length) : rdec (l.drop k) = rrune (l.drop k) :: rdec (l.drop (k + radv (l.drop k))) := by
  cases h : l.drop k with
  | nil => have := List.length_drop (i := k) (l := l); rw [h] at this; simp at this; omega
  | cons c r =>
    rw [rdec, ← h, List.drop_drop]
theorem rscan_go (b : Bs) (n : Nat) (h : n < b.length) : rscan b n = if (rstarts (b.take (n + 1))).1 = true then (if (rstarts (b.take (n + 1))).2 = true then (n + 1, true) else rscan b (n + 1)) else (n, false) := by
  conv => lhs; rw [rscan]
  rw [if_pos h]
theorem rscan_end (b : Bs) (n : Nat) (h : ¬ n < b.length) : rscan b n = (n, false) := by
  rw [rscan, if_neg h]
theorem rstarts_all (l : Bs) (h : l ≠ []) (hl : l.length ≤ 1000000000) (v : Value) (w : World) (hv : RowB v l w) :
    Calls Tryz.prog 181 #[v] w fun e w' => e = .returned (.tuple #[.bool (rstarts l).1, .bool (rstarts l).2]) ∧ Fr w w' := by
  cases l with
  | nil => exact absurd rfl h
  | cons c r => exact rstarts_any c r (by simp at hl; omega) v w hv
set_option maxRecDepth 100000 in
set_option maxHeartbeats 4000000 in
theorem rdecode01_any (l : Bs) (hl : l.length ≤ 1000000000) (v : Value) (w : World) (hv : RowB v l w) :
    Calls Tryz.prog 97 #[v] w fun e w' => ∃ v, e = .returned v ∧ OwnR 21 w v (Rn (rdec l)) w' := by
  obtain ⟨i0, hi, hz0, hz1, hz2⟩ := info_parts rune_info
  have hn := OwnR.nil 21 w
  obtain ⟨A, cap, rfl, hcap, hc⟩ := hv
  by_cases hl0 : l = []
  · subst hl0
    have HE : Hid (rdec [] = []) := Lib.hid (by rw [rdec])
    clear hc
    simp only [List.length_nil] at *
    go_enter Tryz.func97, Tryz.ntmps97
    go_wp2
    go_loopw [0, 3] (fun b v wr => b = .slice A 0 cap ∧ v = .slice none 0 0 ∧ wr = w) (fun _ _ _ => 0)
    case atStart => exact ⟨rfl, rfl, rfl⟩
    case round =>
      obtain ⟨rfl, rfl, rfl⟩ := hrel
      go_wp2
      go_ret
      exact ⟨_, rfl, by rw [HE.out]; exact hn⟩
  obtain ⟨g, off, rfl, hc00⟩ := hc 0 (List.length_pos_iff.2 hl0)
  have HC : Hid (∀ j, (hj : j < l.length) → w.cell? ⟨g, off + j, none⟩ = some (.int .u8 (l[j].toNat : Int))) := Lib.hid (fun j hj => by
    obtain ⟨b', off', e, h⟩ := hc j hj
    injection e with e; injection e with e1 e2
    subst e1 e2
    exact h)
  clear hc hc00 hl0
  go_enter Tryz.func97, Tryz.ntmps97
  go_wp2
  go_loopw [0, 3] (fun b v wr => ∃ (k : Nat) (B : Addr) (rs : List Int), k ≤ l.length ∧ b = .slice (some B) (l.length - k) (cap - k) ∧ Hid (k < l.length → B = ⟨g, off + k, none⟩) ∧ OwnR 21 w v (Rn rs) wr ∧ rs.length ≤ k ∧ Hid (rdec l = rs ++ rdec (l.drop k))) (fun b _ _ => lenOf b)
  case atStart => exact ⟨0, ⟨g, off, none⟩, [], Nat.zero_le _, rfl, Lib.hid (fun _ => rfl), hn, Nat.le_refl _, Lib.hid rfl⟩
  case round =>
    obtain ⟨k, B, rs, hk, rfl, hA, hr, hrs, HD⟩ := hrel
    by_cases hlt : k < l.length
    · obtain rfl := hA.out hlt
      have HRow : Hid (∀ (n : Nat) (wx : World), Fr w wx → n ≤ l.length - k → RowB (.slice (some ⟨g, off + k, none⟩) n (cap - k)) ((l.drop k).take n) wx) := Lib.hid (fun n wx hf hn => by
        have hle : ((l.drop k).take n).length = n := by rw [List.length_take, List.length_drop]; omega
        refine ⟨some ⟨g, off + k, none⟩, cap - k, by rw [hle], by rw [hle]; omega, fun j hj => ⟨g, off + k, rfl, ?_⟩⟩
        rw [hle] at hj
        rw [List.getElem_take, List.getElem_drop, Nat.add_assoc]
        exact hf.cell (HC.out (k + j) (by omega)))
      have hdl : (l.drop k).length = l.length - k := List.length_drop
      generalize hLe : l.length - k = L at *
      have HS : Hid (∀ (m : Nat) (wx : World), Fr w wx → m < L → Calls Tryz.prog 181 #[.slice (some ⟨g, off + k, none⟩) (m + 1) (cap - k)] wx fun e w' => e = .returned (.tuple #[.bool (rstarts ((l.drop k).take (m + 1))).1, .bool (rstarts ((l.drop k).take (m + 1))).2]) ∧ Fr wx w') := Lib.hid (fun m wx hf hm => by
        have hle : ((l.drop k).take (m + 1)).length = m + 1 := by rw [List.length_take, hdl]; omega
        exact rstarts_all _ (by intro e; rw [e] at hle; cases hle) (by omega) _ _ (HRow.out (m + 1) wx hf (by omega)))
      have HG := Lib.hid (fun n (h : n < L) => rscan_go (l.drop k) n (by rw [hdl]; exact h))
      have HN := Lib.hid (rscan_end (l.drop k) L (by rw [hdl]; omega))
      have hLz : (0 : Int) < (L : Int) := by omega
      go_upto_block 2 with fail
      go_cut [4, 5] from 6 to 47 (fun n wh wx => n = .int .i64 ((rscan (l.drop k) 0).1 : Nat) ∧ wh = .bool (rscan (l.drop k) 0).2 ∧ Fr wr wx)
      case first =>
        go_wp2
        go_loopw [4, 5] (fun n wh wi => ∃ (m : Nat) (wb : Bool), m ≤ L ∧ n = .int .i64 m ∧ wh = .bool wb ∧ Fr wr wi ∧ Hid (rscan (l.drop k) 0 = if wb = true then (m, true) else rscan (l.drop k) m)) (fun n _ _ => L - (intOf n).toNat)
        case atStart => exact ⟨0, false, by omega, rfl, rfl, Fr.refl _, Lib.hid rfl⟩
        case round =>
          obtain ⟨m, wb, hm, rfl, rfl, hfi, HI⟩ := hrel
          have hfi2 := hr.fr.trans hfi
          cases wb with
          | true =>
            have HE : Hid (rscan (l.drop k) 0 = (m, true)) := Lib.hid HI.out
            by_cases hml : m < L
            · clear HI HG HN HS
              go_wp2
              go_meet
              exact ⟨by rw [HE.out], by rw [HE.out], hfi⟩
            · clear HI HG HN HS
              go_wp2
              go_meet
              exact ⟨by rw [HE.out], by rw [HE.out], hfi⟩
          | false =>
            by_cases hml : m < L
            · have HI2 : Hid (rscan (l.drop k) 0 = if (rstarts ((l.drop k).take (m + 1))).1 = true then (if (rstarts ((l.drop k).take (m + 1))).2 = true then (m + 1, true) else rscan (l.drop k) (m + 1)) else (m, false)) := Lib.hid (HI.out.trans (HG.out m hml))
              have hcall := HS.out m _ hfi2 hml
              generalize rstarts ((l.drop k).take (m + 1)) = R at *
              obtain ⟨ok, is⟩ := R
              simp only at hcall
              clear HI HG HN HS
              cases ok with
              | false =>
                have HE : Hid (rscan (l.drop k) 0 = (m, false)) := Lib.hid HI2.out
                go_wp2_with fail
                refine hcall.mono ?_
                rintro e w2 ⟨rfl, f2⟩
                go_wp2
                go_meet
                exact ⟨by rw [HE.out], by rw [HE.out], hfi.trans f2⟩
              | true =>
                have HE : Hid (rscan (l.drop k) 0 = if is = true then (m + 1, true) else rscan (l.drop k) (m + 1)) := Lib.hid HI2.out
                go_wp2_with fail
                refine hcall.mono ?_
                rintro e w2 ⟨rfl, f2⟩
                go_wp2
                exact ⟨⟨m + 1, is, by omega, by go_num, rfl, hfi.trans f2, HE⟩, by simp [intOf]; omega⟩
            · obtain rfl : m = L := by omega
              have HE : Hid (rscan (l.drop k) 0 = (m, false)) := Lib.hid (HI.out.trans HN.out)
              clear HI HG HN HS
              go_wp2
              go_meet
              exact ⟨by rw [HE.out], by rw [HE.out], hfi⟩
      case rest =>
        obtain ⟨rfl, rfl, f2⟩ := hcut
        have HA := Lib.hid (rdec_at l k hlt)
        have hbd := rscan_bd (l.drop k) _ 0 (Nat.le_refl _) (by omega)
        rw [hdl] at hbd
        have hL0 : 0 < L := by omega
        obtain ⟨C, cap1, rfl⟩ := hr.slice
        have hlen : (Rn rs).length = rs.length := by simp
        rw [hlen]
        have HStep : Hid (∀ (u : Int) (w' w1 : World) (gg cap2 : Nat) (hf : Fr wr w') (hg : (w'.alloc (.cells #[.int .i32 u] 21)).grownBy w1 (Value.slice C rs.length cap1).ownBlock) (ho : w1.ownsRow w.heap.size 21 1 (.slice (some ⟨gg, 0, none⟩) (rs.length + 1) cap2) (rs.length + 1) (Rn rs ++ [.int .i32 u])),
            OwnR 21 w (.slice (some ⟨gg, 0, none⟩) (rs.length + 1) cap2) (Rn (rs ++ [u])) w1) := Lib.hid (by
          intro u w' w1 gg cap2 hf hg ho
          have hr2 := hr
          rw [hlen] at hr2
          have := hr2.snoc (x := .int .i32 u) (hf.alloc _) hg (by simpa [hlen] using ho)
          simpa [Rn] using this)
        have hr2 : wc.ownsRow w.heap.size 21 1 (.slice C rs.length cap1) rs.length (Rn rs) := by
          have := (hr.step f2).own; simpa using this
        have hsz := (hr.fr.trans f2).size
        have hrow := hr.fr.trans f2
        have HU : Hid (rrune (l.drop k) = if (rscan (l.drop k) 0).2 = true then rnum ((l.drop k).take (rscan (l.drop k) 0).1) else 65533) := Lib.hid rfl
        have HV : Hid (radv (l.drop k) = if (rscan (l.drop k) 0).2 = true then (rscan (l.drop k) 0).1 else max (rscan (l.drop k) 0).1 1) := Lib.hid rfl
        generalize rscan (l.drop k) 0 = R at *
        obtain ⟨n, wh⟩ := R
        simp only at hbd HU HV ⊢
        obtain ⟨_, hb1, hb2⟩ := hbd
        cases wh with
        | true =>
          have hb3 := hb2 rfl
          have HU2 : Hid (rrune (l.drop k) = rnum ((l.drop k).take n)) := Lib.hid HU.out
          have HV2 : Hid (radv (l.drop k) = n) := Lib.hid HV.out
          have hle : ((l.drop k).take n).length = n := by rw [List.length_take, hdl]; omega
          have hcall := rnum_any ((l.drop k).take n) (by rw [hle]; omega) (by rw [hle]; omega) _ _ (HRow.out n wc hrow hb1)
          rw [← HU2.out] at hcall
          clear HU HV HU2 hle hb2 HRow HS HG HN
          generalize rrune (l.drop k) = u at *
          go_wp2_with fail
          refine hcall.mono ?_
          rintro e w2 ⟨rfl, f3⟩
          have hr3 : w2.ownsRow w.heap.size 21 1 (.slice C rs.length cap1) rs.length (Rn rs) := by
            have := (hr.step (f2.trans f3)).own; simpa using this
          have hsz2 := (hrow.trans f3).size
          go_wp2_with (at_builtin; refine wpList_append_lies _ rfl _ _ _ rfl w.heap.size 21 i0 _ 1 4 Tryz.underlying92 hi hz0 hz1 hz2 rfl (by omega) (.slice C rs.length cap1) (rs.length) (Rn rs) rfl (hr3.alloc _) ⟨w2.heap.size, 0, none⟩ 1 1 [.int .i32 u] rfl rfl (World.news_of_block (cs := #[.int .i32 u]) (t := 21) (fr := (0, 0)) (heap_alloc_new w2 _)) (by simp [Value.oneCell']) (by omega) (by unfold maxLen; omega) (by omega) (by simp; omega) (w2.heap.size + 1) (by simp) ?_; intro gg cap2 w1 hown1 hgrow hat hlt2)
          have e1 : L - n = l.length - (k + n) := by omega
          have e2 : cap - k - n = cap - (k + n) := by omega
          refine ⟨⟨k + n, if cap - k = n then ⟨g, off + k, none⟩ else ⟨g, off + k + n, none⟩, rs ++ [u], by omega, by first | (rw [e1, e2]; split <;> rfl) | (simp only [hmz, show (1 : Int).toNat = 1 from rfl]; rw [e1, e2]; split <;> rfl), Lib.hid (by intro h; rw [if_neg (by omega), Nat.add_assoc]), HStep.out _ _ _ _ _ (f2.trans f3) hgrow hown1, by simp; omega, Lib.hid (by rw [HD.out, HA.out, HV2.out]; simp)⟩, by simp only [lenOf]; omega⟩
        | false =>
          have HU2 : Hid (rrune (l.drop k) = 65533) := Lib.hid HU.out
          have HV2 : Hid (radv (l.drop k) = max n 1) := Lib.hid HV.out
          clear HU HV hb2 HRow HS HG HN
          obtain ⟨u, hu⟩ : ∃ u : Int, u = 65533 := ⟨_, rfl⟩
          rw [HU2.out, ← hu] at HA
          have hA65 : Hid ((65533 : Int) = u) := Lib.hid hu.symm
          clear HU2 hu
          by_cases hn0 : n = 0
          · subst hn0
            have HV2 : Hid (radv (l.drop k) = 1) := Lib.hid HV2.out
            have hmz : max (0 : Int) 1 = 1 := by decide
            go_wp2_with (at_builtin; refine wpList_append_lies _ rfl _ _ _ rfl w.heap.size 21 i0 _ 1 4 Tryz.underlying92 hi hz0 hz1 hz2 rfl (by omega) (.slice C rs.length cap1) (rs.length) (Rn rs) rfl (hr2.alloc _) ⟨wc.heap.size, 0, none⟩ 1 1 [.int .i32 65533] rfl rfl (World.news_of_block (cs := #[.int .i32 65533]) (t := 21) (fr := (0, 0)) (heap_alloc_new wc _)) (by simp [Value.oneCell']) (by omega) (by unfold maxLen; omega) (by omega) (by simp; omega) (wc.heap.size + 1) (by simp) ?_; intro gg cap2 w1 hown1 hgrow hat hlt2)
            rw [hA65.out] at hown1 hgrow
            have e1 : L - 1 = l.length - (k + 1) := by omega
            have e2 : cap - k - 1 = cap - (k + 1) := by omega
            refine ⟨⟨k + 1, if cap - k = 1 then ⟨g, off + k, none⟩ else ⟨g, off + k + 1, none⟩, rs ++ [u], by omega, by first | (rw [e1, e2]; split <;> rfl) | (simp only [hmz, show (1 : Int).toNat = 1 from rfl]; rw [e1, e2]; split <;> rfl), Lib.hid (by intro h; rw [if_neg (by omega), Nat.add_assoc]), HStep.out _ _ _ _ _ (f2) hgrow hown1, by simp; omega, Lib.hid (by rw [HD.out, HA.out, HV2.out]; simp)⟩, by simp only [lenOf]; omega⟩
          · have hmx : max n 1 = n := by omega
            have hmz : max (n : Int) 1 = (n : Int) := by omega
            have HV2 : Hid (radv (l.drop k) = n) := Lib.hid (HV2.out.trans hmx)
            clear hmx
            go_wp2_with (at_builtin; refine wpList_append_lies _ rfl _ _ _ rfl w.heap.size 21 i0 _ 1 4 Tryz.underlying92 hi hz0 hz1 hz2 rfl (by omega) (.slice C rs.length cap1) (rs.length) (Rn rs) rfl (hr2.alloc _) ⟨wc.heap.size, 0, none⟩ 1 1 [.int .i32 65533] rfl rfl (World.news_of_block (cs := #[.int .i32 65533]) (t := 21) (fr := (0, 0)) (heap_alloc_new wc _)) (by simp [Value.oneCell']) (by omega) (by unfold maxLen; omega) (by omega) (by simp; omega) (wc.heap.size + 1) (by simp) ?_; intro gg cap2 w1 hown1 hgrow hat hlt2)
            rw [hA65.out] at hown1 hgrow
            have e1 : L - n = l.length - (k + n) := by omega
            have e2 : cap - k - n = cap - (k + n) := by omega
            refine ⟨⟨k + n, if cap - k = n then ⟨g, off + k, none⟩ else ⟨g, off + k + n, none⟩, rs ++ [u], by omega, by first | (rw [e1, e2]; split <;> rfl) | (simp only [hmz, show (1 : Int).toNat = 1 from rfl]; rw [e1, e2]; split <;> rfl), Lib.hid (by intro h; rw [if_neg (by omega), Nat.add_assoc]), HStep.out _ _ _ _ _ (f2) hgrow hown1, by simp; omega, Lib.hid (by rw [HD.out, HA.out, HV2.out]; simp)⟩, by simp only [lenOf]; omega⟩
    · obtain rfl : k = l.length := by omega
      have hz : l.length - l.length = 0 := Nat.sub_self _
      have hd : rdec l = rs := by rw [HD.out, List.drop_length]; rw [rdec]; simp
      rw [← hd] at hr
      rw [hz]
      clear hd
      go_wp2
      go_ret
      exact ⟨_, rfl, hr⟩
end Go.Proofs.YtogpmgjdmoglkaaGreatDoor
/- Walks: the document's bytes of a character. -/
set_option linter.unusedVariables false
set_option linter.unusedSimpArgs false
namespace Go.Proofs.YtogpmgjdmoglkaaGreatDoor
open Go.RowKit Pu

def rchar (r : Int) : Bool := decide (0 ≤ r) && (decide (r ≤ 1114111) && (decide (r < 55296) || decide (57343 < r)))
theorem rchar_any (r : Int) (w : World) : Calls Tryz.prog 236 #[.int .i32 r] w fun e w' => e = .returned (.bool (rchar r)) ∧ w = w' := by
  unfold rchar
  by_cases h1 : 0 ≤ r <;> by_cases h2 : r ≤ 1114111 <;> by_cases h3 : r < 55296 <;> by_cases h4 : 57343 < r <;> simp only [h1, h2, h3, h4, decide_true, decide_false, Bool.and_true, Bool.and_false, Bool.true_and, Bool.false_and, Bool.or_true, Bool.or_false, Bool.true_or, Bool.false_or] <;>
  (go_enter Tryz.func236, Tryz.ntmps236
   go_wp2
   go_ret
   exact ⟨rfl, rfl⟩)
theorem OwnS.lit (w : World) (r : Int) : OwnS w (.slice (some ⟨w.heap.size, 0, none⟩) (Lib.encodeRune r).length (Lib.encodeRune r).length) (Lib.encodeRune r) (w.alloc (Obj.cells (Lib.runeCells r).toArray 5)) := by
  have h := (Lib.runeCells_le r).2
  rw [Lib.runeCells_length] at h
  refine ⟨⟨by simp [Lib.byteCells], .inr ⟨w.heap.size, _, _, rfl, by omega, heap_alloc_new w _, Nat.le_refl _, by unfold maxLen; omega, ?_, ?_⟩⟩, (Fr.refl w).alloc _⟩
  · rw [← Lib.runeCells_length]; simp
  · rw [← Lib.runeCells_length, Lib.byteCells_encodeRune]; simp
theorem one_val {w : World} {r : Int} {n : Nat} {cs : List Value} (h : Lib.runeCells r = cs) (hn : cs.length = n) : OwnS w (.slice (some ⟨w.heap.size, 0, none⟩) n n) (Lib.encodeRune r) (w.alloc (Obj.cells cs.toArray 5)) := by
  have := OwnS.lit w r
  rw [← Lib.runeCells_length, h, hn] at this
  exact this
set_option maxRecDepth 100000 in
set_option maxHeartbeats 4000000 in
theorem rone_any (r : Int) (w : World) : Calls Tryz.prog 180 #[.int .i32 r] w fun e w' => ∃ v, e = .returned v ∧ OwnS w v (Lib.encodeRune r) w' := by
  have HC := Lib.hid (fun w => rchar_any r w)
  by_cases hch : rchar r = true
  · rw [hch] at HC
    have hb : 0 ≤ r ∧ r ≤ 1114111 ∧ (r < 55296 ∨ 57343 < r) := by unfold rchar at hch; simpa using hch
    obtain ⟨h0, h1, h2⟩ := hb
    clear hch
    by_cases c1 : r < 128
    · have HE := Lib.hid (@one_val w r 1 [.int .u8 r] (by unfold Lib.runeCells; rw [Lib.encodeRuneZ_one h0 (by omega)]; rfl) rfl)
      clear h2
      go_enter Tryz.func180, Tryz.ntmps180
      go_wp2_with fail
      refine (HC.out _).mono ?_
      rintro e w2 ⟨rfl, rfl⟩
      go_wp2
      go_ret
      exact ⟨_, rfl, HE.out⟩
    · by_cases c2 : r < 2048
      · have HE := Lib.hid (@one_val w r 2 [.int .u8 (192 + r / 64), .int .u8 (128 + r % 64)] (by unfold Lib.runeCells; rw [Lib.encodeRuneZ_two (by omega) (by omega)]; rfl) rfl)
        have q1 : 0 ≤ r / 64 := by omega
        have q2 : r / 64 ≤ 31 := by omega
        have q3 : 0 ≤ r % 64 := by omega
        have q4 : r % 64 ≤ 63 := by omega
        clear h2
        go_enter Tryz.func180, Tryz.ntmps180
        go_wp2_with fail
        refine (HC.out _).mono ?_
        rintro e w2 ⟨rfl, rfl⟩
        go_wp2
        go_ret
        exact ⟨_, rfl, HE.out⟩
      · by_cases c3 : r < 65536
        · have HE := Lib.hid (@one_val w r 3 [.int .u8 (224 + r / 4096), .int .u8 (128 + r / 64 % 64), .int .u8 (128 + r % 64)] (by unfold Lib.runeCells; rw [Lib.encodeRuneZ_three (by omega)]; rfl) rfl)
          have q1 : 0 ≤ r / 4096 := by omega
          have q2 : r / 4096 ≤ 15 := by omega
          have q3 : 0 ≤ r % 64 := by omega
          have q4 : r % 64 ≤ 63 := by omega
          have q5 : 0 ≤ r / 64 % 64 := by omega
          have q6 : r / 64 % 64 ≤ 63 := by omega
          have q7 : 0 ≤ r / 64 := by omega
          clear h2
          go_enter Tryz.func180, Tryz.ntmps180
          go_wp2_with fail
          refine (HC.out _).mono ?_
          rintro e w2 ⟨rfl, rfl⟩
          go_wp2
          go_ret
          exact ⟨_, rfl, HE.out⟩
        · have HE := Lib.hid (@one_val w r 4 [.int .u8 (240 + r / 262144), .int .u8 (128 + r / 4096 % 64), .int .u8 (128 + r / 64 % 64), .int .u8 (128 + r % 64)] (by unfold Lib.runeCells; rw [Lib.encodeRuneZ_four (by omega) (by omega)]; rfl) rfl)
          have q1 : 0 ≤ r / 262144 := by omega
          have q2 : r / 262144 ≤ 4 := by omega
          have q3 : 0 ≤ r % 64 := by omega
          have q4 : r % 64 ≤ 63 := by omega
          have q5 : 0 ≤ r / 64 % 64 := by omega
          have q6 : r / 64 % 64 ≤ 63 := by omega
          have q7 : 0 ≤ r / 64 := by omega
          have q8 : 0 ≤ r / 4096 % 64 := by omega
          have q9 : r / 4096 % 64 ≤ 63 := by omega
          have q10 : 0 ≤ r / 4096 := by omega
          clear h2
          go_enter Tryz.func180, Tryz.ntmps180
          go_wp2_with fail
          refine (HC.out _).mono ?_
          rintro e w2 ⟨rfl, rfl⟩
          go_wp2
          go_ret
          exact ⟨_, rfl, HE.out⟩
  · rw [Bool.not_eq_true] at hch
    rw [hch] at HC
    have HE := Lib.hid (@one_val w r 3 [.int .u8 239, .int .u8 191, .int .u8 189] (by
      unfold rchar at hch
      have hb : ¬ (0 ≤ r ∧ r ≤ 1114111 ∧ (r < 55296 ∨ 57343 < r)) := by
        intro h
        rw [Bool.eq_false_iff] at hch
        exact hch (by simpa using h)
      unfold Lib.runeCells
      rw [Lib.encodeRuneZ_bad (by omega)]; rfl) rfl)
    clear hch
    go_enter Tryz.func180, Tryz.ntmps180
    go_wp2_with fail
    refine (HC.out _).mono ?_
    rintro e w2 ⟨rfl, rfl⟩
    go_wp2
    go_ret
    exact ⟨_, rfl, HE.out⟩
set_option maxHeartbeats 2000000 in
set_option maxRecDepth 100000 in
theorem rencode01_any (rs : List Int) (hl : rs.length ≤ 1000000000) (v : Value) (w : World) (hv : RowAt v (Rn rs) w) :
    Calls Tryz.prog 96 #[v] w fun e w' => ∃ v', e = .returned v' ∧ OwnS w v' (encL rs) w' := by
  obtain ⟨i0, hi, hz0, hz1, hz2⟩ := info_parts byte_info
  have hn := OwnS.nil w
  obtain ⟨A, cap, hv1⟩ : ∃ A cap, v = .slice A rs.length cap := by
    rcases hv with ⟨h1, rfl⟩ | ⟨g, cap, rfl, _⟩
    · simp at h1; subst h1; exact ⟨none, 0, rfl⟩
    · exact ⟨some ⟨g, 0, none⟩, cap, by simp⟩
  have hc : ∀ k, (hk : k < rs.length) → ∃ g, A = some ⟨g, 0, none⟩ ∧ w.cell? ⟨g, k, none⟩ = some (.int .i32 rs[k]) := by
    intro k hk
    rcases hv with ⟨h1, h2⟩ | ⟨g, c, h1, h2⟩
    · simp at h1; subst h1; simp at hk
    · rw [hv1] at h1
      injection h1 with h1 _ _
      have h3 := h2 k (by simpa [Rn] using hk)
      rw [List.getElem_map] at h3
      exact ⟨g, h1, h3⟩
  subst hv1
  clear hv
  have HC := Lib.hid hc
  clear hc
  go_enter Tryz.func96, Tryz.ntmps96
  go_wp2
  go_loopw [3, 7] (fun v i wr => ∃ k : Nat, k ≤ rs.length ∧ i = .int .i64 k ∧ OwnS w v (encL (rs.take k)) wr) (fun _ i _ => rs.length - (intOf i).toNat)
  case atStart => exact ⟨0, Nat.zero_le _, rfl, by simpa [encL] using hn⟩
  case round =>
    obtain ⟨k, hk, rfl, hr⟩ := hrel
    by_cases hlt : k < rs.length
    · obtain ⟨g, rfl, hcell0⟩ := HC.out k hlt
      have hcell := hr.fr.cell hcell0
      have hst := encL_snoc rs k hlt
      have HS := Lib.hid hst
      have hle := encL_le (rs.take k)
      have hle2 : (rs.take k).length ≤ k := List.length_take_le _ _
      have hel := (Lib.runeCells_le rs[k])
      rw [Lib.runeCells_length] at hel
      have hcall := rone_any rs[k] wr
      obtain ⟨X, hX⟩ : ∃ X, encL (rs.take k) = X := ⟨_, rfl⟩
      obtain ⟨R, hR⟩ : ∃ R, Lib.encodeRune rs[k] = R := ⟨_, rfl⟩
      rw [hX] at hr hle HS
      rw [hR] at hcall hel HS
      obtain ⟨C, cap1, rfl⟩ := hr.slice
      clear hst hcell0 hX hR
      go_wp2_with fail
      refine hcall.mono ?_
      rintro e w2 ⟨v2, rfl, o2⟩
      have hX : X.length ≤ 4000000000 := by omega
      have hrown : w2.ownsRow w.heap.size 5 1 (.slice C X.length cap1) X.length (Lib.byteCells X) := (hr.step o2.fr).own
      have hsz := (hr.fr.trans o2.fr).size
      rcases o2.cells with ⟨h0, _⟩ | ⟨g2, cap2, rfl, _, hc2⟩
      · rw [h0] at hel; simp at hel
      have hnews : ∀ j u, (Lib.byteCells R)[j]? = some u → w2.cell? ((⟨g2, 0, none⟩ : Addr).add j) = some u := fun j u hu => by
        have hj : j < R.length := by have := (List.getElem?_eq_some_iff.1 hu).1; simpa [Lib.byteCells] using this
        rw [add_at, hc2 j hj, ← hu]
        simp [Lib.byteCells, List.getD_eq_getElem?_getD, hj]
      have h1 : ∀ u ∈ Lib.byteCells R, u.oneCell' = true := fun u hu => by
        simp only [Lib.byteCells, List.mem_map] at hu
        obtain ⟨c, _, rfl⟩ := hu
        rfl
      have hlR : (Lib.byteCells R).length = R.length * 1 := by simp [Lib.byteCells]
      have HStep : Hid (∀ (gg cap3 : Nat) (w1 : World), w2.grownBy w1 (Value.slice C X.length cap1).ownBlock → w1.ownsRow w.heap.size 5 1 (.slice (some ⟨gg, 0, none⟩) (X.length + R.length) cap3) (X.length + R.length) (Lib.byteCells X ++ Lib.byteCells R) →
          OwnS w (.slice (some ⟨gg, 0, none⟩) (X.length + R.length) cap3) (encL (rs.take (k + 1))) w1) := Lib.hid (fun gg cap3 w1 hg ho => by
        rw [HS.out]
        refine ⟨by simpa [Lib.byteCells] using ho, (hr.fr.trans o2.fr).grown hg fun j hj => (hr.own.lt j hj).1⟩)
      clear hc2
      go_wp2_with (at_builtin; refine wpList_append_lies _ rfl _ _ _ rfl w.heap.size 5 i0 _ 1 1 Tryz.underlying34 hi hz0 hz1 hz2 rfl (by omega) (.slice C X.length cap1) X.length (Lib.byteCells X) rfl hrown ⟨g2, 0, none⟩ R.length cap2 (Lib.byteCells R) rfl hlR hnews h1 (by omega) (by unfold maxLen; omega) (by omega) hsz w2.heap.size rfl ?_; intro gg cap3 w1 hown1 hgrow hat hlt2)
      exact ⟨⟨k + 1, by omega, by go_num, HStep.out _ _ _ hgrow hown1⟩, by simp [intOf]; omega⟩
    · obtain rfl : k = rs.length := by omega
      rw [List.take_length] at hr
      go_wp2
      go_ret
      exact ⟨_, rfl, hr⟩
end Go.Proofs.YtogpmgjdmoglkaaGreatDoor
/- Walks: the document's Valid, and what may stand in quotes. -/
set_option linter.unusedVariables false
set_option linter.unusedSimpArgs false
namespace Go.Proofs.YtogpmgjdmoglkaaGreatDoor
open Go.RowKit Pu

theorem rdec_len (l : Bs) : (rdec l).length ≤ l.length := by
  suffices h : ∀ (n : Nat) (l : Bs), l.length ≤ n → (rdec l).length ≤ l.length from h _ l (Nat.le_refl _)
  intro n
  induction n with
  | zero =>
    intro l hl
    have : l = [] := List.eq_nil_of_length_eq_zero (by omega)
    subst this
    rw [rdec]; simp
  | succ n ih =>
    intro l hl
    cases l with
    | nil => rw [rdec]; simp
    | cons c r =>
      rw [rdec]
      have h1 := (radv_bd (c :: r) (by simp)).1
      have hd : ((c :: r).drop (radv (c :: r))).length = (c :: r).length - radv (c :: r) := List.length_drop
      have := ih ((c :: r).drop (radv (c :: r))) (by omega)
      simp only [List.length_cons] at *
      omega
set_option maxHeartbeats 2000000 in
set_option maxRecDepth 100000 in
theorem rvalid_any (l : Bs) (hl : l.length ≤ 1000000000) (v : Value) (w : World) (hv : RowB v l w) :
    Calls Tryz.prog 207 #[v] w fun e w' => e = .returned (.bool (encL (rdec l) == l)) ∧ Fr w w' := by
  have hrl := rdec_len l
  have HD : Hid (∀ w2, Fr w w2 → Calls Tryz.prog 97 #[v] w2 fun e w' => ∃ v, e = .returned v ∧ OwnR 21 w2 v (Rn (rdec l)) w') := Lib.hid fun w2 hf => rdecode01_any l hl v w2 (hv.fr hf)
  have HEn : Hid (∀ v w, RowAt v (Rn (rdec l)) w → Calls Tryz.prog 96 #[v] w fun e w' => ∃ v', e = .returned v' ∧ OwnS w v' (encL (rdec l)) w') := Lib.hid fun v w h => rencode01_any (rdec l) (by omega) v w h
  have HB : Hid (∀ w2, Fr w w2 → (convert 34 9 v).run Tryz.prog w2 = .ok (S l) w2) := Lib.hid fun w2 hf => (hv.fr hf).str
  have hb0 := HB.out w.drew (Fr.refl w).drew
  generalize encL (rdec l) = X at *
  generalize rdec l = rs at *
  go_enter Tryz.func207, Tryz.ntmps207
  go_wp2_with fail
  go_region_law (first
    | (go_simp; go_at_call 97; refine (HD.out _ (Fr.refl w).drew).mono ?_; rintro e w1 ⟨v1, rfl, o1⟩; have g1 := (Fr.refl w).drew.trans o1.fr; have r1 := o1.row; have hb1 := HB.out w1 g1)
    | (go_simp; go_at_call 96; refine (HEn.out _ _ r1).mono ?_; rintro e w2 ⟨v2, rfl, o2⟩; have g2 := g1.trans o2.fr; have hs2 := o2.str; have hb2 := HB.out w2 g2))
  all_goals
    go_wp2
    go_ret
    exact ⟨rfl, g2⟩
def rokI (n : Int) : Bool := !(n != 9 && (decide (n < 32) || n == 127 || decide (255 < n)))
def rquot (l : Bs) : Bool := (rdec l).all rokI && (encL (rdec l) == l)
set_option maxHeartbeats 4000000 in
set_option maxRecDepth 100000 in
theorem rquot_any (l : Bs) (hl : l.length ≤ 1000000000) (w : World) :
    Calls Tryz.prog 144 #[S l] w fun e w' => e = .returned (.bool (rquot l)) ∧ Fr w w' := by
  have hrl := rdec_len l
  have kc := fun (w : World) (s : ByteArray) => Lib.run_convert_string_bytes (P := Tryz.prog) w 9 34 5 s Tryz.underlying9 Tryz.underlying34 Tryz.underlying5
  have hob := OwnB.conv w l
  have HRow : Hid (∀ (wr w2 : World) (cap : Nat), l.length ≤ cap → Fr (Lib.bytesWorld wr 5 ⟨l.toArray⟩) w2 → RowB (.slice (some ⟨wr.heap.size, 0, none⟩) l.length cap) l w2) := Lib.hid (fun wr w2 cap hc hf => by
    have hob := OwnB.conv wr l
    refine ⟨some ⟨wr.heap.size, 0, none⟩, cap, rfl, hc, fun j hj => ⟨wr.heap.size, 0, rfl, ?_⟩⟩
    have := hf.cell (hob.cell j hj)
    rw [Nat.zero_add, this]
    simp [List.getD_eq_getElem?_getD, hj])
  have HQ : Hid (rquot l = ((rdec l).all rokI && (encL (rdec l) == l))) := Lib.hid rfl
  go_enter Tryz.func144, Tryz.ntmps144
  go_wp2_with fail
  refine (rdecode01_any l hl _ _ (HRow.out w _ _ (grownCap_ge _ _ _ _) (Fr.refl _))).mono ?_
  rintro e w1 ⟨v1, rfl, o1⟩
  have F1 := hob.fr.trans o1.fr
  clear hob
  have hrr := o1.row
  obtain ⟨C, cap1, rfl⟩ := o1.slice
  have hlen : (Rn (rdec l)).length = (rdec l).length := by simp
  have HC : Hid (∀ k, (hk : k < (rdec l).length) → ∃ g, C = some ⟨g, 0, none⟩ ∧ w1.cell? ⟨g, k, none⟩ = some (.int .i32 (rdec l)[k])) := Lib.hid (fun k hk => by
    rcases hrr with ⟨h1, h2⟩ | ⟨g, c, h1, h2⟩
    · rw [h1] at hlen; simp at hlen; omega
    · injection h1 with h1 _ _
      have h3 := h2 k (by rw [hlen]; exact hk)
      rw [List.getElem_map] at h3
      exact ⟨g, h1, h3⟩)
  rw [hlen]
  clear o1 hrr hlen
  generalize hrs : rdec l = rs at *
  have HrsE := Lib.hid hrs.symm
  clear hrs
  go_wp2
  go_loopw [10] (fun i wr => ∃ k : Nat, k ≤ rs.length ∧ i = .int .i64 k ∧ Fr w1 wr ∧ Hid (∀ j, (hj : j < rs.length) → j < k → rokI rs[j] = true)) (fun i _ => rs.length - (intOf i).toNat)
  case atStart => exact ⟨0, Nat.zero_le _, rfl, Fr.refl _, Lib.hid (fun j hj h => by omega)⟩
  case round =>
    obtain ⟨k, hk, rfl, hf, HA⟩ := hrel
    have F2 := F1.trans hf
    by_cases hlt : k < rs.length
    · obtain ⟨g, rfl, hc0⟩ := HC.out k hlt
      have hcell := hf.cell hc0
      clear hc0
      cases hok : rokI rs[k] with
      | true =>
        have HA2 : Hid (∀ j, (hj : j < rs.length) → j < k + 1 → rokI rs[j] = true) := Lib.hid (fun j hj hjk => by
          by_cases e : j = k
          · subst e; exact hok
          · exact HA.out j hj (by omega))
        clear HA HQ HC HRow
        generalize rs[k] = r at *
        unfold rokI at hok
        cases h9 : r != 9 with
        | false =>
          clear hok
          go_wp2
          exact ⟨⟨k + 1, by omega, by go_num, hf, HA2⟩, by simp [intOf]; omega⟩
        | true =>
          rw [h9] at hok
          have hb : (32 ≤ r ∧ r ≠ 127) ∧ r ≤ 255 := by simpa [and_assoc] using hok
          obtain ⟨⟨b1, b2⟩, b3⟩ := hb
          have b2z : (r == 127) = false := by rw [beq_eq_false_iff_ne]; exact b2
          clear b2 hok
          go_wp2
          exact ⟨⟨k + 1, by omega, by go_num, hf, HA2⟩, by simp [intOf]; omega⟩
      | false =>
        have hbad : rs.all rokI = false := by
          rw [Bool.eq_false_iff]
          intro h
          rw [List.all_eq_true.1 h rs[k] (List.getElem_mem hlt)] at hok
          cases hok
        have HE : Hid (rquot l = false) := Lib.hid (by rw [HQ.out, hbad]; rfl)
        clear HA HQ HC HRow hbad
        generalize rs[k] = r at *
        unfold rokI at hok
        cases h9 : r != 9 with
        | false => rw [h9] at hok; cases hok
        | true =>
          rw [h9] at hok
          by_cases b1 : r < 32
          · clear hok
            go_wp2
            go_ret
            exact ⟨ret_b HE.out.symm, F2⟩
          · by_cases b2 : (r == 127) = true
            · clear hok
              go_wp2
              go_ret
              exact ⟨ret_b HE.out.symm, F2⟩
            · rw [Bool.not_eq_true] at b2
              have b3 : 255 < r := by
                rw [b2, decide_eq_false b1] at hok
                simpa using hok
              clear hok
              go_wp2
              go_ret
              exact ⟨ret_b HE.out.symm, F2⟩
    · obtain rfl : k = rs.length := by omega
      have hall : rs.all rokI = true := List.all_eq_true.2 (fun x hx => by
        obtain ⟨j, hj, rfl⟩ := List.getElem_of_mem hx
        exact HA.out j hj hj)
      have HE : Hid (rquot l = (encL rs == l)) := Lib.hid (by rw [HQ.out, hall]; rfl)
      have HV : Hid (∀ v w2, RowB v l w2 → Calls Tryz.prog 207 #[v] w2 fun e w' => e = .returned (.bool (rquot l)) ∧ Fr w2 w') := Lib.hid (fun v w2 h => by rw [HE.out, HrsE.out]; exact rvalid_any l hl v w2 h)
      clear HA HQ HC hall HE
      have hob := OwnB.conv wr l
      go_wp2_with fail
      refine (HV.out _ _ (HRow.out wr _ _ (grownCap_ge _ _ _ _) (Fr.refl _))).mono ?_
      rintro e w3 ⟨rfl, f3⟩
      go_wp2
      go_ret
      exact ⟨rfl, F2.trans (hob.fr.trans f3)⟩
end Go.Proofs.YtogpmgjdmoglkaaGreatDoor
/- Walks: the document's tokens, small tokens. -/
set_option linter.unusedVariables false
set_option linter.unusedSimpArgs false
namespace Go.Proofs.YtogpmgjdmoglkaaGreatDoor
open Go.RowKit Pu

set_option maxRecDepth 100000 in
theorem ris_any (l : Bs) (hl : l.length ≤ 1000000000) (w : World) : Calls Tryz.prog 141 #[S l] w fun e w' => e = .returned (.bool (isToken l)) ∧ w = w' := by
  have hix := ba_get l
  have HR : Hid (∀ b, l.all tokenCh = b → isToken l = (!l.isEmpty && b)) := Lib.hid (by rintro b rfl; rfl)
  go_enter Tryz.func141, Tryz.ntmps141
  go_wp2
  go_loopw [6] (fun i wr => ∃ k : Nat, k ≤ l.length ∧ i = .int .i64 k ∧ wr = w ∧ Hid (∀ j, (hj : j < l.length) → j < k → tokenCh l[j] = true)) (fun i _ => l.length - (intOf i).toNat)
  case atStart => exact ⟨0, Nat.zero_le _, rfl, rfl, Lib.hid (fun j hj h => by omega)⟩
  case round =>
    obtain ⟨k, hk, rfl, rfl, HA⟩ := hrel
    by_cases hlt : k < l.length
    · obtain ⟨bL, hbL⟩ : ∃ b, letter (l[k].toNat : Int) = b := ⟨_, rfl⟩
      obtain ⟨bD, hbD⟩ : ∃ b, digit (l[k].toNat : Int) = b := ⟨_, rfl⟩
      obtain ⟨bH, hbH⟩ : ∃ b, tokSigns.contains l[k] = b := ⟨_, rfl⟩
      have HL : Hid (∀ w, Calls Tryz.prog 69 #[.int .u8 (l[k].toNat : Int)] w fun e w' => e = .returned (.bool bL) ∧ w = w') := Lib.hid fun w => hbL ▸ rletter_any _ w
      have HD : Hid (∀ w, Calls Tryz.prog 70 #[.int .u8 (l[k].toNat : Int)] w fun e w' => e = .returned (.bool bD) ∧ w = w') := Lib.hid fun w => hbD ▸ rdigit_any _ w
      have HH : Hid (∀ w, Calls Tryz.prog 74 #[.string ⟨#[33, 35, 36, 37, 38, 39, 42, 43, 45, 46, 94, 95, 96, 124, 126]⟩, .int .u8 (l[k].toNat : Int)] w fun e w' => e = .returned (.bool bH) ∧ w = w') := Lib.hid fun w => hbH ▸ rhas_any tokSigns (by decide) l[k] w
      have HC : Hid (tokenCh l[k] = (bL || bD || bH)) := Lib.hid (by rw [← hbL, ← hbD, ← hbH]; rfl)
      clear hbL hbD hbH
      obtain ⟨tk, htk⟩ : ∃ b, tokenCh l[k] = b := ⟨_, rfl⟩
      cases tk with
      | true =>
        have HA2 : Hid (∀ j, (hj : j < l.length) → j < k + 1 → tokenCh l[j] = true) := Lib.hid (fun j hj hjk => by
          by_cases e : j = k
          · subst e; exact htk
          · exact HA.out j hj (by omega))
        have hor : (bL || bD || bH) = true := HC.out.symm.trans htk
        clear HR HA HC htk
        cases bL <;> cases bD <;> cases bH
        case false.false.false => cases hor
        all_goals
          clear hor
          go_wp2_with (first
            | (go_at_call 69; refine (HL.out _).mono ?_; rintro e w' ⟨rfl, rfl⟩)
            | (go_at_call 70; refine (HD.out _).mono ?_; rintro e w' ⟨rfl, rfl⟩)
            | (go_at_call 74; refine (HH.out _).mono ?_; rintro e w' ⟨rfl, rfl⟩))
          exact ⟨⟨k + 1, by omega, by go_num, by first | rfl | trivial, HA2⟩, by simp [intOf]; omega⟩
      | false =>
        have hor : (bL || bD || bH) = false := HC.out.symm.trans htk
        have HF : Hid (isToken l = false) := Lib.hid (by
          have h1 : l.all tokenCh = false := by
            rw [Bool.eq_false_iff]
            intro h
            rw [List.all_eq_true.1 h l[k] (List.getElem_mem hlt)] at htk
            cases htk
          rw [HR.out _ h1, Bool.and_false])
        clear HR HA HC htk
        obtain ⟨⟨rfl, rfl⟩, rfl⟩ : (bL = false ∧ bD = false) ∧ bH = false := by simpa using hor
        clear hor
        go_wp2_with (first
            | (go_at_call 69; refine (HL.out _).mono ?_; rintro e w' ⟨rfl, rfl⟩)
            | (go_at_call 70; refine (HD.out _).mono ?_; rintro e w' ⟨rfl, rfl⟩)
            | (go_at_call 74; refine (HH.out _).mono ?_; rintro e w' ⟨rfl, rfl⟩))
        go_ret
        exact ⟨ret_b HF.out.symm, rfl⟩
    · obtain rfl : k = l.length := by omega
      have H2 : Hid (isToken l = !l.isEmpty) := Lib.hid (by
        have : l.all tokenCh = true := List.all_eq_true.2 (fun x hx => by
          obtain ⟨j, hj, rfl⟩ := List.getElem_of_mem hx
          exact HA.out j hj hj)
        rw [HR.out _ this, Bool.and_true])
      clear HR HA
      cases hem : l with
      | nil =>
        subst hem
        go_wp2
        go_ret
        exact ⟨ret_b (by rw [H2.out]; rfl), rfl⟩
      | cons c r =>
        subst hem
        go_wp2
        go_ret
        exact ⟨ret_b (by rw [H2.out]; rfl), rfl⟩
set_option maxRecDepth 100000 in
theorem rsmall_any (l : Bs) (hl : l.length ≤ 1000000000) (w : World) : Calls Tryz.prog 154 #[S l] w fun e w' => e = .returned (.bool (small l)) ∧ Fr w w' := by
  have HS : Hid (∀ a b, isToken l = a → lower l = b → small l = (a && b == l)) := Lib.hid (by rintro a b rfl rfl; rfl)
  have HI := Lib.hid (fun w => ris_any l hl w)
  have HL := Lib.hid (fun w => rlower_any l hl w)
  have hll : (lower l).length = l.length := by simp [lower]
  obtain ⟨a, ha⟩ : ∃ a, isToken l = a := ⟨_, rfl⟩
  obtain ⟨b, hb⟩ : ∃ b, lower l = b := ⟨_, rfl⟩
  have HS := Lib.hid (HS.out _ _ ha hb)
  rw [ha] at HI
  rw [hb] at HL
  clear ha hb hll
  go_enter Tryz.func154, Tryz.ntmps154
  cases a
  · go_wp2_with fail
    refine (HI.out _).mono ?_
    rintro e w' ⟨rfl, rfl⟩
    go_wp2
    go_ret
    exact ⟨ret_b (by rw [HS.out]; rfl), Fr.refl _⟩
  · go_wp2_with fail
    refine (HI.out _).mono ?_
    rintro e w' ⟨rfl, rfl⟩
    go_wp2_with fail
    refine (HL.out _).mono ?_
    rintro e w2 ⟨rfl, f2⟩
    go_wp2
    go_ret
    exact ⟨ret_b (by rw [HS.out]; rfl), f2⟩
end Go.Proofs.YtogpmgjdmoglkaaGreatDoor
/- Walks: the document's types: a parameter's value, right ones. -/
set_option linter.unusedVariables false
set_option linter.unusedSimpArgs false
namespace Go.Proofs.YtogpmgjdmoglkaaGreatDoor
open Go.RowKit Pu

theorem row2_take {A : Option Addr} {n cap : Nat} {ps : List (Bs × Bs)} {w : World} (h : Row2 (.slice A n cap) ps w) (k : Nat) (hk : k ≤ ps.length) : Row2 (.slice A k cap) (ps.take k) w := by
  obtain ⟨A', cap', hv, hr⟩ := h
  injection hv with e1 e2 e3
  subst e1 e2 e3
  have hl : (ps.take k).length = k := by rw [List.length_take]; omega
  refine ⟨A, cap, by rw [hl], fun j hj => ?_⟩
  rw [hl] at hj
  obtain ⟨b, off, h1, h2, h3⟩ := hr j (by omega)
  exact ⟨b, off, h1, by rw [List.getElem_take]; exact h2, by rw [List.getElem_take]; exact h3⟩
set_option maxRecDepth 100000 in
set_option maxHeartbeats 4000000 in
theorem rget_any (ps : List (Bs × Bs)) (hn : ps.length ≤ 1000000000) (name : Bs) (v : Value) (w : World) (hr : Row2 v ps w) :
    Calls Tryz.prog 143 #[v, S name] w fun e w' => ∃ x, e = .returned (.tuple #[S x, .bool (ps.any fun q => q.1 == name)]) ∧ Fr w w' := by
  obtain ⟨A, cap, rfl, hr⟩ := hr
  have HR := Lib.hid hr
  clear hr
  go_enter Tryz.func143, Tryz.ntmps143
  go_wp2
  go_loopw [9] (fun i wr => ∃ k : Nat, k ≤ ps.length ∧ i = .int .i64 k ∧ Fr w wr ∧ Hid (∀ j, (hj : j < ps.length) → j < k → (ps[j].1 == name) = false)) (fun i _ => ps.length - (intOf i).toNat)
  case atStart => exact ⟨0, Nat.zero_le _, rfl, Fr.refl _, Lib.hid (fun j hj h => by omega)⟩
  case round =>
    obtain ⟨k, hk, rfl, hf, HA⟩ := hrel
    by_cases hlt : k < ps.length
    · obtain ⟨g, off, rfl, h1, h2⟩ := HR.out k hlt
      have h1 := hf.cell h1
      have h2 := hf.cell h2
      cases hq : ps[k].1 == name with
      | true =>
        have HE : Hid ((ps.any fun q => q.1 == name) = true) := Lib.hid (List.any_eq_true.2 ⟨ps[k], List.getElem_mem hlt, hq⟩)
        generalize ps[k].1 = pn at *
        generalize ps[k].2 = pw at *
        clear HA HR
        go_wp2
        go_ret2
        exact ⟨pw, by rw [HE.out]; rfl, hf⟩
      | false =>
        have HA2 : Hid (∀ j, (hj : j < ps.length) → j < k + 1 → (ps[j].1 == name) = false) := Lib.hid (fun j hj hjk => by
          by_cases e : j = k
          · subst e; exact hq
          · exact HA.out j hj (by omega))
        generalize ps[k].1 = pn at *
        generalize ps[k].2 = pw at *
        clear HA HR
        go_wp2
        exact ⟨⟨k + 1, by omega, by go_num, hf, HA2⟩, by simp [intOf]; omega⟩
    · obtain rfl : k = ps.length := by omega
      have HE : Hid ((ps.any fun q => q.1 == name) = false) := Lib.hid (by
        rw [Bool.eq_false_iff]
        intro h
        obtain ⟨x, hx, hy⟩ := List.any_eq_true.1 h
        obtain ⟨j, hj, rfl⟩ := List.getElem_of_mem hx
        rw [HA.out j hj hj] at hy
        cases hy)
      clear HA HR
      go_wp2
      go_ret2
      exact ⟨[], by rw [HE.out]; rfl, hf⟩
def rparams : List (Bs × Bs) → List (Bs × Bs) → Bool
  | _, [] => true
  | pre, p :: r => !(pre.any fun q => q.1 == p.1) && small p.1 && rquot p.2 && rparams (pre ++ [p]) r
/-- What the document's Right answers. -/
def rright (m : Mime) : Bool := rparams [] m.params && (small m.type && small m.sub)
set_option maxRecDepth 100000 in
set_option maxHeartbeats 8000000 in
theorem rright05_any (m : Mime) (h : ShortM m) (A : Option Addr) (cap : Nat) (hcap : m.params.length ≤ cap) (w : World) (hr : Row2 (.slice A m.params.length cap) m.params w) : Calls Tryz.prog 67 #[mimeV m (.slice A m.params.length cap)] w fun e w' => e = .returned (.bool (rright m)) ∧ Fr w w' := by
  have HR0 := Lib.hid hr
  obtain ⟨A', cap', hv, hr⟩ := hr
  injection hv with e1 e2 e3
  subst e1 e3
  clear e2
  have HR := Lib.hid hr
  clear hr
  obtain ⟨ty, sub, ps⟩ := m
  obtain ⟨ht, hs, hn, hp⟩ := h
  simp only at ht hs hn hp HR HR0 hcap
  have HP := Lib.hid hp
  clear hp
  unfold mimeV
  show Calls Tryz.prog 67 #[.agg #[S ty, S sub, .slice A ps.length cap]] w fun e w' => e = .returned (.bool (rparams [] ps && (small ty && small sub))) ∧ Fr w w'
  have F1 : Fr w (w.alloc (Obj.cells #[S ty, S sub, .slice A ps.length cap] 33)) := (Fr.refl w).alloc _
  have B1 : Blk w.heap.size #[S ty, S sub, .slice A ps.length cap] 33 (w.alloc (Obj.cells #[S ty, S sub, .slice A ps.length cap] 33)) := ⟨heap_alloc_new w _⟩
  have b2 : (w.alloc (Obj.cells #[S ty, S sub, .slice A ps.length cap] 33)).cell? ⟨w.heap.size, 2, none⟩ = some (.slice A ps.length cap) := B1.cell rfl
  go_enter Tryz.func67, Tryz.ntmps67
  go_wp2
  generalize w.alloc _ = w1 at *
  go_loopw [9] (fun i wr => ∃ k : Nat, k ≤ ps.length ∧ i = .int .i64 k ∧ Fr w1 wr ∧ Hid (rparams [] ps = rparams (ps.take k) (ps.drop k))) (fun i _ => ps.length - (intOf i).toNat)
  case atStart => exact ⟨0, by omega, rfl, Fr.refl _, Lib.hid (by simp)⟩
  case round =>
    obtain ⟨k, hk, rfl, hf, HQ⟩ := hrel
    have hf1 := F1.trans hf
    have B2 := B1.fr hf
    clear b2
    by_cases hlt : k < ps.length
    · obtain ⟨g, off, rfl, h1, h2⟩ := HR.out k hlt
      have fd : Fr wr wr.drew := (Fr.refl wr).drew
      have c2 : wr.drew.cell? ⟨w.heap.size, 2, none⟩ = some (.slice (some ⟨g, off, none⟩) ps.length cap) := (B2.fr fd).cell rfl
      have h1d := (hf1.trans fd).cell h1
      have h2d := (hf1.trans fd).cell h2
      obtain ⟨hp1, hp2⟩ := HP.out ps[k] (List.getElem_mem hlt)
      have hdk : ps.drop k = ps[k] :: ps.drop (k + 1) := List.drop_eq_getElem_cons hlt
      have htk : ps.take (k + 1) = ps.take k ++ [ps[k]] := List.take_succ_eq_append_getElem hlt
      have HQ1 : Hid (rparams [] ps = (!((ps.take k).any fun q => q.1 == ps[k].1) && small ps[k].1 && rquot ps[k].2 && rparams (ps.take (k + 1)) (ps.drop (k + 1)))) := Lib.hid (by rw [HQ.out, hdk, htk]; rfl)
      have hlk : (ps.take k).length = k := by rw [List.length_take]; omega
      have HG : Hid (∀ w2, Fr w w2 → Calls Tryz.prog 143 #[.slice (some ⟨g, off, none⟩) k cap, S ps[k].1] w2 fun e w' => ∃ x, e = .returned (.tuple #[S x, .bool ((ps.take k).any fun q => q.1 == ps[k].1)]) ∧ Fr w2 w') := Lib.hid (fun w2 h2 => rget_any (ps.take k) (by omega) ps[k].1 _ w2 (row2_take (HR0.out.fr h2) k hk))
      have HSm : Hid (∀ w, Calls Tryz.prog 154 #[S ps[k].1] w fun e w' => e = .returned (.bool (small ps[k].1)) ∧ Fr w w') := Lib.hid fun w => rsmall_any _ (by omega) w
      have HQt : Hid (∀ w, Calls Tryz.prog 144 #[S ps[k].2] w fun e w' => e = .returned (.bool (rquot ps[k].2)) ∧ Fr w w') := Lib.hid fun w => rquot_any _ (by omega) w
      have hkc : (k : Int) ≤ (cap : Int) := by omega
      have hkc2 : k ≤ cap := by omega
      generalize ps[k].1 = pn at *
      generalize ps[k].2 = pw at *
      generalize (ps.take k).any (fun q => q.1 == pn) = bA at *
      generalize small pn = bS at *
      generalize rquot pw = bQ at *
      clear HQ hdk htk HR HP hlk
      go_upto_region 4 with fail
      go_cut [4, 5] from 12 to 47 (fun a b wx => b = .bool bA ∧ Fr wr wx)
      case first =>
        go_region_law (go_simp; go_at_call 143; refine (HG.out _ (hf1.trans fd)).mono ?_; rintro e w3 ⟨x, rfl, f3⟩)
        all_goals
          go_wp2
          go_meet
          exact ⟨rfl, fd.trans f3⟩
      case rest =>
        obtain ⟨rfl, f4⟩ := hcut
        have fw := hf1.trans f4
        have c2 : wc.cell? ⟨w.heap.size, 2, none⟩ = some (.slice (some ⟨g, off, none⟩) ps.length cap) := (B2.fr f4).cell rfl
        have h1d := fw.cell h1
        clear HG
        cases bA with
        | true =>
          have HE : Hid (rparams [] ps = false) := Lib.hid HQ1.out
          clear HQ1
          go_wp2
          go_ret
          exact ⟨ret_b (by rw [HE.out]; rfl), fw⟩
        | false =>
          go_wp2_with fail
          refine (HSm.out _).mono ?_
          clear HSm
          cases bS with
          | false =>
            have HE : Hid (rparams [] ps = false) := Lib.hid HQ1.out
            clear HQ1
            rintro e w4 ⟨rfl, f5⟩
            go_wp2
            go_ret
            exact ⟨ret_b (by rw [HE.out]; rfl), fw.trans f5⟩
          | true =>
            rintro e w4 ⟨rfl, f5⟩
            have c2 : w4.cell? ⟨w.heap.size, 2, none⟩ = some (.slice (some ⟨g, off, none⟩) ps.length cap) := (B2.fr (f4.trans f5)).cell rfl
            have h2d := (fw.trans f5).cell h2
            go_wp2_with fail
            refine (HQt.out _).mono ?_
            clear HQt
            cases bQ with
            | false =>
              have HE : Hid (rparams [] ps = false) := Lib.hid HQ1.out
              clear HQ1
              rintro e w6 ⟨rfl, f6⟩
              go_wp2
              go_ret
              exact ⟨ret_b (by rw [HE.out]; rfl), (fw.trans f5).trans f6⟩
            | true =>
              have HE : Hid (rparams [] ps = rparams (ps.take (k + 1)) (ps.drop (k + 1))) := Lib.hid HQ1.out
              clear HQ1
              rintro e w6 ⟨rfl, f6⟩
              go_wp2
              exact ⟨⟨k + 1, by omega, by go_num, hf.trans ((f4.trans f5).trans f6), HE⟩, by simp [intOf]; omega⟩
    · obtain rfl : k = ps.length := by omega
      have HE : Hid (rparams [] ps = true) := Lib.hid (by rw [HQ.out, List.take_length, List.drop_length]; rfl)
      have c0 : wr.cell? ⟨w.heap.size, 0, none⟩ = some (S ty) := B2.cell rfl
      have HSt : Hid (∀ w, Calls Tryz.prog 154 #[S ty] w fun e w' => e = .returned (.bool (small ty)) ∧ Fr w w') := Lib.hid fun w => rsmall_any _ (by omega) w
      have HSs : Hid (∀ w, Calls Tryz.prog 154 #[S sub] w fun e w' => e = .returned (.bool (small sub)) ∧ Fr w w') := Lib.hid fun w => rsmall_any _ (by omega) w
      clear HQ HR HP HR0
      go_wp2_with fail
      refine (HSt.out _).mono ?_
      cases hsm : small ty with
      | false =>
        rintro e w4 ⟨rfl, f4⟩
        go_wp2
        go_ret
        exact ⟨ret_b (by rw [HE.out, hsm]; rfl), hf1.trans f4⟩
      | true =>
        rintro e w4 ⟨rfl, f4⟩
        have c1 : w4.cell? ⟨w.heap.size, 1, none⟩ = some (S sub) := (B2.fr f4).cell rfl
        go_wp2_with fail
        refine (HSs.out _).mono ?_
        rintro e w5 ⟨rfl, f5⟩
        go_wp2
        go_ret
        exact ⟨ret_b (by rw [HE.out, hsm]; rfl), (hf1.trans f4).trans f5⟩
end Go.Proofs.YtogpmgjdmoglkaaGreatDoor
/- Walks: the document's Plain. -/
set_option linter.unusedVariables false
set_option linter.unusedSimpArgs false
namespace Go.Proofs.YtogpmgjdmoglkaaGreatDoor
open Go.RowKit Pu

/-- What the document's Plain answers. -/
def rplain (m : Mime) : Bool := rright m && (!((m.type ++ m.sub).contains 35) && m.params.all plainP)
set_option maxRecDepth 100000 in
set_option maxHeartbeats 8000000 in
theorem rplain_any (m : Mime) (h : ShortM m) (A : Option Addr) (cap : Nat) (hcap : m.params.length ≤ cap) (w : World) (hr : Row2 (.slice A m.params.length cap) m.params w) : Calls Tryz.prog 31 #[mimeV m (.slice A m.params.length cap)] w fun e w' => e = .returned (.bool (rplain m)) ∧ Fr w w' := by
  have HRt : Hid (∀ w2, Fr w w2 → Calls Tryz.prog 67 #[mimeV m (.slice A m.params.length cap)] w2 fun e w' => e = .returned (.bool (rright m)) ∧ Fr w2 w') := Lib.hid fun w2 h2 => rright05_any m h A cap hcap w2 (hr.fr h2)
  obtain ⟨A', cap', hv, hr⟩ := hr
  injection hv with e1 e2 e3
  subst e1 e3
  clear e2
  have HR := Lib.hid hr
  clear hr
  have HPl : Hid (rplain m = (rright m && (!((m.type ++ m.sub).contains 35) && m.params.all plainP))) := Lib.hid rfl
  generalize hP : rplain m = PL at *
  clear hP
  generalize rright m = bR at *
  obtain ⟨ty, sub, ps⟩ := m
  obtain ⟨ht, hs, hn, hp⟩ := h
  simp only at ht hs hn hp HR hcap HPl
  have HP := Lib.hid hp
  clear hp
  unfold mimeV at HRt ⊢
  simp only at HRt ⊢
  have F1 : Fr w (w.alloc (Obj.cells #[S ty, S sub, .slice A ps.length cap] 33)) := (Fr.refl w).alloc _
  have B1 : Blk w.heap.size #[S ty, S sub, .slice A ps.length cap] 33 (w.alloc (Obj.cells #[S ty, S sub, .slice A ps.length cap] 33)) := ⟨heap_alloc_new w _⟩
  have c0 : (w.alloc (Obj.cells #[S ty, S sub, .slice A ps.length cap] 33)).cell? ⟨w.heap.size, 0, none⟩ = some (S ty) := B1.cell rfl
  have c1 : (w.alloc (Obj.cells #[S ty, S sub, .slice A ps.length cap] 33)).cell? ⟨w.heap.size, 1, none⟩ = some (S sub) := B1.cell rfl
  have c2 : (w.alloc (Obj.cells #[S ty, S sub, .slice A ps.length cap] 33)).cell? ⟨w.heap.size, 2, none⟩ = some (.slice A ps.length cap) := B1.cell rfl
  have HH : Hid (∀ w, Calls Tryz.prog 74 #[S (ty ++ sub), .int .u8 35] w fun e w' => e = .returned (.bool ((ty ++ sub).contains 35)) ∧ w = w') := Lib.hid fun w => rhas_any (ty ++ sub) (by simp; omega) 35 w
  generalize (ty ++ sub).contains 35 = bH at *
  have hcat := cat2 ty sub
  go_enter Tryz.func31, Tryz.ntmps31
  go_wp2_with fail
  generalize w.alloc _ = w1 at *
  refine (HRt.out _ F1).mono ?_
  clear HRt
  cases bR with
  | false =>
    have HE : Hid (PL = false) := Lib.hid HPl.out
    clear HPl
    rintro e w2 ⟨rfl, f2⟩
    go_wp2
    go_ret
    exact ⟨ret_b HE.out.symm, F1.trans f2⟩
  | true =>
    rintro e w2 ⟨rfl, f2⟩
    have c0 := f2.cell c0
    have c1 := f2.cell c1
    have c2 := f2.cell c2
    replace F1 := F1.trans f2
    replace B1 := B1.fr f2
    go_wp2_with fail
    refine (HH.out _).mono ?_
    clear HH
    cases bH with
    | true =>
      have HE : Hid (PL = false) := Lib.hid HPl.out
      clear HPl
      rintro e w3 ⟨rfl, rfl⟩
      go_wp2
      go_ret
      exact ⟨ret_b HE.out.symm, F1⟩
    | false =>
      have HPl2 : Hid (PL = ps.all plainP) := Lib.hid HPl.out
      clear HPl
      rintro e w3 ⟨rfl, rfl⟩
      go_wp2
      go_loopw [21] (fun i wr => ∃ k : Nat, k ≤ ps.length ∧ i = .int .i64 k ∧ Fr w2 wr ∧ Hid (PL = (ps.drop k).all plainP)) (fun i _ => ps.length - (intOf i).toNat)
      case atStart => exact ⟨0, by omega, rfl, Fr.refl _, Lib.hid (by rw [HPl2.out]; rfl)⟩
      case round =>
        obtain ⟨k, hk, rfl, hf, HQ⟩ := hrel
        have hf1 := F1.trans hf
        have B2 := B1.fr hf
        have c2 : wr.cell? ⟨w.heap.size, 2, none⟩ = some (.slice A ps.length cap) := B2.cell rfl
        by_cases hlt : k < ps.length
        · obtain ⟨g, off, rfl, h1, h2⟩ := HR.out k hlt
          have h1 := hf1.cell h1
          have h2 := hf1.cell h2
          obtain ⟨hp1, hp2⟩ := HP.out ps[k] (List.getElem_mem hlt)
          have hdk : ps.drop k = ps[k] :: ps.drop (k + 1) := List.drop_eq_getElem_cons hlt
          have HQ1 : Hid (PL = ((!(ps[k].1 == word64) && !(ps[k].1.contains 35) && ps[k].2.all plainV) && (ps.drop (k + 1)).all plainP)) := Lib.hid (by rw [HQ.out, hdk]; rfl)
          have HHn : Hid (∀ w, Calls Tryz.prog 74 #[S ps[k].1, .int .u8 35] w fun e w' => e = .returned (.bool (ps[k].1.contains 35)) ∧ w = w') := Lib.hid fun w => rhas_any ps[k].1 (by omega) 35 w
          have P1 : Blk wr.heap.size #[S ps[k].1, S ps[k].2] 82 (wr.alloc (Obj.cells #[S ps[k].1, S ps[k].2] 82)) := ⟨heap_alloc_new wr _⟩
          have fA : Fr wr (wr.alloc (Obj.cells #[S ps[k].1, S ps[k].2] 82)) := (Fr.refl wr).alloc _
          have kz : (wr.alloc (Obj.cells #[S ps[k].1, S ps[k].2] 82)).cell? ⟨wr.heap.size, 0, none⟩ = some (S ps[k].1) := P1.cell rfl
          have kv : (wr.alloc (Obj.cells #[S ps[k].1, S ps[k].2] 82)).cell? ⟨wr.heap.size, 1, none⟩ = some (S ps[k].2) := P1.cell rfl
          generalize (ps[k].1.contains 35) = bC at *
          generalize ps[k].1 = pn at *
          generalize ps[k].2 = pw at *
          clear HQ hdk HR HP
          have hix := ba_get pw
          go_upto_region 7 with fail
          generalize wr.alloc _ = w3 at *
          generalize wr.heap.size = bp at *
          cases h64 : pn == word64 with
          | true =>
            have HE : Hid (PL = false) := Lib.hid (by rw [HQ1.out, h64]; rfl)
            have h64 : (pn == [98, 97, 115, 101, 54, 52]) = true := h64
            clear HQ1
            go_wp2
            go_ret
            exact ⟨ret_b HE.out.symm, hf1.trans fA⟩
          | false =>
            rw [h64] at HQ1
            have h64 : (pn == [98, 97, 115, 101, 54, 52]) = false := h64
            go_wp2_with fail
            refine (HHn.out _).mono ?_
            clear HHn
            cases bC with
            | true =>
              have HE : Hid (PL = false) := Lib.hid HQ1.out
              clear HQ1
              rintro e w4 ⟨rfl, rfl⟩
              go_wp2
              go_ret
              exact ⟨ret_b HE.out.symm, hf1.trans fA⟩
            | false =>
              have HQ2 : Hid (PL = (pw.all plainV && (ps.drop (k + 1)).all plainP)) := Lib.hid HQ1.out
              clear HQ1
              rintro e w4 ⟨rfl, rfl⟩
              go_wp2
              have F3 := hf1.trans fA
              go_loopw [40] (fun i wi => ∃ j : Nat, j ≤ pw.length ∧ i = .int .i64 j ∧ Fr w3 wi ∧ Hid (∀ n, (hn : n < pw.length) → n < j → plainV pw[n] = true)) (fun i _ => pw.length - (intOf i).toNat)
              case atStart => exact ⟨0, by omega, rfl, Fr.refl _, Lib.hid (fun n hn h => by omega)⟩
              case round =>
                obtain ⟨j, hj, rfl, hfi, HA⟩ := hrel
                have kv := hfi.cell kv
                have FX := F3.trans hfi
                by_cases hjl : j < pw.length
                · cases hpv : plainV pw[j] with
                  | true =>
                    have HA2 : Hid (∀ n, (hn : n < pw.length) → n < j + 1 → plainV pw[n] = true) := Lib.hid (fun n hn hnj => by
                      by_cases e : n = j
                      · subst e; exact hpv
                      · exact HA.out n hn (by omega))
                    have hc : (((32 ≤ (pw[j].toNat : Int) ∧ (pw[j].toNat : Int) ≤ 126) ∧ ((pw[j].toNat : Int) == 35) = false) ∧ ((pw[j].toNat : Int) == 44) = false) ∧ ((pw[j].toNat : Int) == 63) = false := by
                      unfold plainV at hpv
                      simp only [Bool.and_eq_true, decide_eq_true_eq, Bool.not_eq_true'] at hpv
                      obtain ⟨⟨⟨⟨a1, a2⟩, a3⟩, a4⟩, a5⟩ := hpv
                      refine ⟨⟨⟨⟨by omega, by omega⟩, u8_ne _ 35 (fun e => by rw [e] at a3; cases a3)⟩, u8_ne _ 44 (fun e => by rw [e] at a4; cases a4)⟩, u8_ne _ 63 (fun e => by rw [e] at a5; cases a5)⟩
                    obtain ⟨⟨⟨⟨a1, a2⟩, a3⟩, a4⟩, a5⟩ := hc
                    clear HA HQ2 hpv
                    go_wp2
                    exact ⟨⟨j + 1, by omega, by go_num, hfi, HA2⟩, by simp [intOf]; omega⟩
                  | false =>
                    have HE : Hid (PL = false) := Lib.hid (by
                      have : pw.all plainV = false := by
                        rw [Bool.eq_false_iff]
                        intro h
                        rw [List.all_eq_true.1 h pw[j] (List.getElem_mem hjl)] at hpv
                        cases hpv
                      rw [HQ2.out, this]; rfl)
                    have hub := u8_lt pw[j]
                    by_cases b1 : (pw[j].toNat : Int) < 32
                    · clear hpv
                      clear HQ2 HA
                      go_wp2
                      go_ret
                      exact ⟨ret_b HE.out.symm, FX⟩
                    · by_cases b2 : 126 < (pw[j].toNat : Int)
                      · clear hpv
                        clear HQ2 HA
                        go_wp2
                        go_ret
                        exact ⟨ret_b HE.out.symm, FX⟩
                      · by_cases b3 : pw[j] = 35
                        · have e3 := u8_eq _ _ b3
                          have e3 : ((pw[j].toNat : Int) == 35) = true := e3
                          clear hpv b3
                          clear HQ2 HA
                          go_wp2
                          go_ret
                          exact ⟨ret_b HE.out.symm, FX⟩
                        · have e3 := u8_ne _ _ b3
                          have e3 : ((pw[j].toNat : Int) == 35) = false := e3
                          by_cases b4 : pw[j] = 44
                          · have e4 := u8_eq _ _ b4
                            have e4 : ((pw[j].toNat : Int) == 44) = true := e4
                            clear hpv b3 b4
                            clear HQ2 HA
                            go_wp2
                            go_ret
                            exact ⟨ret_b HE.out.symm, FX⟩
                          · have e4 := u8_ne _ _ b4
                            have e4 : ((pw[j].toNat : Int) == 44) = false := e4
                            have b5 : pw[j] = 63 := by
                              apply Classical.byContradiction
                              intro b5
                              have : plainV pw[j] = true := by
                                unfold plainV
                                simp only [Bool.and_eq_true, decide_eq_true_eq, Bool.not_eq_true', beq_eq_false_iff_ne]
                                exact ⟨⟨⟨⟨by omega, by omega⟩, b3⟩, b4⟩, b5⟩
                              rw [this] at hpv; cases hpv
                            have e5 := u8_eq _ _ b5
                            have e5 : ((pw[j].toNat : Int) == 63) = true := e5
                            clear hpv b3 b4 b5
                            clear HQ2 HA
                            go_wp2
                            go_ret
                            exact ⟨ret_b HE.out.symm, FX⟩
                · obtain rfl : j = pw.length := by omega
                  have HQ3 : Hid (PL = (ps.drop (k + 1)).all plainP) := Lib.hid (by
                    have : pw.all plainV = true := List.all_eq_true.2 (fun x hx => by
                      obtain ⟨n, hn, rfl⟩ := List.getElem_of_mem hx
                      exact HA.out n hn hn)
                    rw [HQ2.out, this]; rfl)
                  clear HA HQ2
                  have hff := (hf.trans fA).trans hfi
                  go_wp2
                  exact ⟨⟨k + 1, by omega, by go_num, hff, HQ3⟩, by simp [intOf]; omega⟩
        · obtain rfl : k = ps.length := by omega
          have HE : Hid (PL = true) := Lib.hid (by rw [HQ.out, List.drop_length]; rfl)
          clear HQ HR HP
          go_wp2
          go_ret
          exact ⟨ret_b HE.out.symm, hf1⟩
end Go.Proofs.YtogpmgjdmoglkaaGreatDoor
