/- THE LAW DataOthers, walked. -/
import Derived.Test.YtogpmgjdmoglkaaGreatDoorHYj
import Derived.Test.YtogpmgjdmoglkaaGreatDoorHVr
set_option linter.unusedVariables false
set_option linter.unusedSimpArgs false
namespace Go.Proofs.YtogpmgjdmoglkaaGreatDoor
open Go.RowKit Pu

theorem bare_few {u : Url} (h : fewU u = true) (h0 : -9223372036854775808 ≤ u.port) (h1 : u.port ≤ 9223372036854775807) : (urlBare u).length ≤ 10000 := by
  unfold fewU len7 at h
  simp only [decide_eq_true_eq] at h
  have e1 := segText_sum u.path
  have e2 := itoa_le u.port h0 h1
  have e3 : (urlPath u).length ≤ 1050 := by unfold urlPath; split <;> omega
  have e4 : (urlDot u).length ≤ 2 := by unfold urlDot; split <;> simp
  have e5 : (if u.hasQuery then 63 :: u.query else [] : Bs).length ≤ 1001 := by split <;> simp <;> omega
  have e6 : (urlAuth u).length ≤ 4000 := by
    unfold urlAuth
    have a1 : (if u.pass = [] then [] else 58 :: u.pass : Bs).length ≤ 1001 := by split <;> simp <;> omega
    have a2 : (if u.user = [] ∧ u.pass = [] then [] else [64] : Bs).length ≤ 1 := by split <;> simp
    have a3 : (if u.port = -1 then [] else 58 :: Lib.itoa u.port : Bs).length ≤ 31 := by split <;> simp <;> omega
    split
    · simp only [List.length_append]
      simp only [List.length_cons, List.length_nil]
      omega
    · simp
  unfold urlBare
  simp only [List.length_append, List.length_cons]
  omega
theorem proc_scheme {u : Url} (h : u.scheme ≠ sData) : procOf u = (1, {}, []) := by unfold procOf; rw [if_neg h]
theorem proc_two {u : Url} (h : u.scheme = sData) : (procOf u).1 = 0 ∨ (procOf u).1 = 2 := by
  unfold procOf
  rw [if_pos h]
  cases process u <;> simp
theorem proc_nocomma {u : Url} (h : u.scheme = sData) (hc : ∀ x ∈ urlBare u, x ≠ 44) : procOf u = (2, {}, []) := by
  unfold procOf
  rw [if_pos h]
  have : process u = none := by
    unfold process dataOf
    rw [cutB_not 44 _ (fun x hx => hc x (List.mem_of_mem_drop hx))]
    rfl
  rw [this]
set_option maxRecDepth 100000 in
set_option maxHeartbeats 4000000 in
theorem others_any (u : Url) (hu : LongU u) (pv : Value) (w : World) (hE : Env w) (hp : Row1 pv (Ss u.path) w) : Calls Tryz.prog 7 #[urlV u pv] w fun e w' => e = .returned (.bool true) ∧ Fr w w' := by
  have HA : Hid (∀ w, Env w → Calls Tryz.prog 13 #[] w fun e w' => e = .returned (.bool true) ∧ Fr w w') := Lib.hid fun w hE => awake17_any w hE
  have HF : Hid (∀ w2, Fr w w2 → Calls Tryz.prog 21 #[urlV u pv] w2 fun e w' => e = .returned (.bool (fewU u)) ∧ Fr w2 w') := Lib.hid fun w2 h2 => rfew11_any u hu pv w2 (hp.fr h2)
  cases hfw : fewU u with
  | false =>
    rw [hfw] at HF
    have F1 : Fr w (w.alloc (Obj.cells #[S u.scheme, S u.user, S u.pass, S u.host, .bool u.hasHost, .int .i64 u.port, .bool u.opq, S u.text, pv, .bool u.hasQuery, .bool u.hasFrag, S u.query, S u.frag] 25)) := (Fr.refl w).alloc _
    have B1 : Blk w.heap.size #[S u.scheme, S u.user, S u.pass, S u.host, .bool u.hasHost, .int .i64 u.port, .bool u.opq, S u.text, pv, .bool u.hasQuery, .bool u.hasFrag, S u.query, S u.frag] 25 (w.alloc (Obj.cells #[S u.scheme, S u.user, S u.pass, S u.host, .bool u.hasHost, .int .i64 u.port, .bool u.opq, S u.text, pv, .bool u.hasQuery, .bool u.hasFrag, S u.query, S u.frag] 25)) := ⟨heap_alloc_new w _⟩
    unfold urlV at HF ⊢
    go_enter Tryz.func7, Tryz.ntmps7
    go_wp2_with fail
    refine (HA.out _ (hE.fr F1)).mono ?_
    rintro e w2 ⟨rfl, f2⟩
    have k0 : w2.cell? ⟨w.heap.size, 0, none⟩ = some (S u.scheme) := (B1.fr f2).cell rfl
    have k1 : w2.cell? ⟨w.heap.size, 1, none⟩ = some (S u.user) := (B1.fr f2).cell rfl
    have k2 : w2.cell? ⟨w.heap.size, 2, none⟩ = some (S u.pass) := (B1.fr f2).cell rfl
    have k3 : w2.cell? ⟨w.heap.size, 3, none⟩ = some (S u.host) := (B1.fr f2).cell rfl
    have k4 : w2.cell? ⟨w.heap.size, 4, none⟩ = some (.bool u.hasHost) := (B1.fr f2).cell rfl
    have k5 : w2.cell? ⟨w.heap.size, 5, none⟩ = some (.int .i64 u.port) := (B1.fr f2).cell rfl
    have k6 : w2.cell? ⟨w.heap.size, 6, none⟩ = some (.bool u.opq) := (B1.fr f2).cell rfl
    have k7 : w2.cell? ⟨w.heap.size, 7, none⟩ = some (S u.text) := (B1.fr f2).cell rfl
    have k8 : w2.cell? ⟨w.heap.size, 8, none⟩ = some (pv) := (B1.fr f2).cell rfl
    have k9 : w2.cell? ⟨w.heap.size, 9, none⟩ = some (.bool u.hasQuery) := (B1.fr f2).cell rfl
    have k10 : w2.cell? ⟨w.heap.size, 10, none⟩ = some (.bool u.hasFrag) := (B1.fr f2).cell rfl
    have k11 : w2.cell? ⟨w.heap.size, 11, none⟩ = some (S u.query) := (B1.fr f2).cell rfl
    have k12 : w2.cell? ⟨w.heap.size, 12, none⟩ = some (S u.frag) := (B1.fr f2).cell rfl
    go_wp2_with fail
    refine (HF.out _ (F1.trans f2)).mono ?_
    rintro e w3 ⟨rfl, f3⟩
    go_wp2_with fail
    refine (HA.out _ (hE.fr ((F1.trans f2).trans f3))).mono ?_
    rintro e w4 ⟨rfl, f4⟩
    go_wp2
    go_ret
    exact ⟨rfl, ((F1.trans f2).trans f3).trans f4⟩
  | true =>
    rw [hfw] at HF
    have hsu := few_shortU hfw hu
    have hbl := bare_few hfw hu.p0 hu.p1
    have HP : Hid (∀ w2, Fr w w2 → Calls Tryz.prog 16 #[urlV u pv] w2 (ProcPost u w2)) := Lib.hid fun w2 h2 => process_any u hsu (by omega) pv w2 (hE.fr h2) (hp.fr h2)
    have HQ : Hid (∀ w2, Fr w w2 → Calls Tryz.prog 25 #[urlV u pv, .bool false] w2 fun e w' => e = .returned (S (urlBare u)) ∧ Fr w2 w') := Lib.hid fun w2 h2 => rprint_any u hsu pv w2 (hp.fr h2)
    have F1 : Fr w (w.alloc (Obj.cells #[S u.scheme, S u.user, S u.pass, S u.host, .bool u.hasHost, .int .i64 u.port, .bool u.opq, S u.text, pv, .bool u.hasQuery, .bool u.hasFrag, S u.query, S u.frag] 25)) := (Fr.refl w).alloc _
    have B1 : Blk w.heap.size #[S u.scheme, S u.user, S u.pass, S u.host, .bool u.hasHost, .int .i64 u.port, .bool u.opq, S u.text, pv, .bool u.hasQuery, .bool u.hasFrag, S u.query, S u.frag] 25 (w.alloc (Obj.cells #[S u.scheme, S u.user, S u.pass, S u.host, .bool u.hasHost, .int .i64 u.port, .bool u.opq, S u.text, pv, .bool u.hasQuery, .bool u.hasFrag, S u.query, S u.frag] 25)) := ⟨heap_alloc_new w _⟩
    have HX : Hid (∀ w e w', ProcPost u w e w' → ∃ v x, e = .returned (.tuple #[.agg #[S (procOf u).2.1.type, S (procOf u).2.1.sub, v], x, .int .i64 (procOf u).1]) ∧ OwnM w v (procOf u).2.1.params w' ∧ OwnS w x (procOf u).2.2 w') := Lib.hid fun w e w' h => h
    have HSame : Hid (∀ v w2, Row2 v [] w2 → Calls Tryz.prog 23 #[.agg #[S [], S [], v], .agg #[S [], S [], .slice none 0 0]] w2 fun e w' => e = .returned (.bool true) ∧ Fr w2 w') := Lib.hid fun v w2 h1 => by
      have := same_any {} {} (by decide) (by decide) v (.slice none 0 0) w2 h1 (Row2.nil w2)
      rw [decide_eq_true rfl] at this
      exact this
    have HN := Lib.hid (@proc_nocomma u)
    have HT := Lib.hid (@proc_two u)
    have HM := Lib.hid (@proc_scheme u)
    generalize procOf u = R at *
    generalize urlBare u = ub at *
    unfold urlV at HF HP HQ ⊢
    go_enter Tryz.func7, Tryz.ntmps7
    go_wp2_with fail
    refine (HA.out _ (hE.fr F1)).mono ?_
    rintro e w2 ⟨rfl, f2⟩
    have k0 : w2.cell? ⟨w.heap.size, 0, none⟩ = some (S u.scheme) := (B1.fr f2).cell rfl
    have k1 : w2.cell? ⟨w.heap.size, 1, none⟩ = some (S u.user) := (B1.fr f2).cell rfl
    have k2 : w2.cell? ⟨w.heap.size, 2, none⟩ = some (S u.pass) := (B1.fr f2).cell rfl
    have k3 : w2.cell? ⟨w.heap.size, 3, none⟩ = some (S u.host) := (B1.fr f2).cell rfl
    have k4 : w2.cell? ⟨w.heap.size, 4, none⟩ = some (.bool u.hasHost) := (B1.fr f2).cell rfl
    have k5 : w2.cell? ⟨w.heap.size, 5, none⟩ = some (.int .i64 u.port) := (B1.fr f2).cell rfl
    have k6 : w2.cell? ⟨w.heap.size, 6, none⟩ = some (.bool u.opq) := (B1.fr f2).cell rfl
    have k7 : w2.cell? ⟨w.heap.size, 7, none⟩ = some (S u.text) := (B1.fr f2).cell rfl
    have k8 : w2.cell? ⟨w.heap.size, 8, none⟩ = some (pv) := (B1.fr f2).cell rfl
    have k9 : w2.cell? ⟨w.heap.size, 9, none⟩ = some (.bool u.hasQuery) := (B1.fr f2).cell rfl
    have k10 : w2.cell? ⟨w.heap.size, 10, none⟩ = some (.bool u.hasFrag) := (B1.fr f2).cell rfl
    have k11 : w2.cell? ⟨w.heap.size, 11, none⟩ = some (S u.query) := (B1.fr f2).cell rfl
    have k12 : w2.cell? ⟨w.heap.size, 12, none⟩ = some (S u.frag) := (B1.fr f2).cell rfl
    go_wp2_with fail
    refine (HF.out _ (F1.trans f2)).mono ?_
    rintro e w3 ⟨rfl, f3⟩
    replace F1 := (F1.trans f2).trans f3
    replace B1 := (B1.fr f2).fr f3
    clear f2 f3
    clear k0 k1 k2 k3 k4 k5 k6 k7 k8 k9 k10 k11 k12
    have k0 : w3.cell? ⟨w.heap.size, 0, none⟩ = some (S u.scheme) := (B1).cell rfl
    have k1 : w3.cell? ⟨w.heap.size, 1, none⟩ = some (S u.user) := (B1).cell rfl
    have k2 : w3.cell? ⟨w.heap.size, 2, none⟩ = some (S u.pass) := (B1).cell rfl
    have k3 : w3.cell? ⟨w.heap.size, 3, none⟩ = some (S u.host) := (B1).cell rfl
    have k4 : w3.cell? ⟨w.heap.size, 4, none⟩ = some (.bool u.hasHost) := (B1).cell rfl
    have k5 : w3.cell? ⟨w.heap.size, 5, none⟩ = some (.int .i64 u.port) := (B1).cell rfl
    have k6 : w3.cell? ⟨w.heap.size, 6, none⟩ = some (.bool u.opq) := (B1).cell rfl
    have k7 : w3.cell? ⟨w.heap.size, 7, none⟩ = some (S u.text) := (B1).cell rfl
    have k8 : w3.cell? ⟨w.heap.size, 8, none⟩ = some (pv) := (B1).cell rfl
    have k9 : w3.cell? ⟨w.heap.size, 9, none⟩ = some (.bool u.hasQuery) := (B1).cell rfl
    have k10 : w3.cell? ⟨w.heap.size, 10, none⟩ = some (.bool u.hasFrag) := (B1).cell rfl
    have k11 : w3.cell? ⟨w.heap.size, 11, none⟩ = some (S u.query) := (B1).cell rfl
    have k12 : w3.cell? ⟨w.heap.size, 12, none⟩ = some (S u.frag) := (B1).cell rfl
    go_wp2_with fail
    refine (HP.out _ F1).mono ?_
    rintro e w4 hpost
    obtain ⟨v, x, rfl, ov, ox⟩ := HX.out _ _ _ hpost
    clear hpost HX HP HF HA
    replace F1 := F1.trans ov.fr
    replace B1 := B1.fr ov.fr
    have hrow := ov.row
    obtain ⟨A1, cap1, rfl⟩ := ov.slice
    obtain ⟨A2, cap2, rfl⟩ := ox.slice
    clear ox
    clear k0 k1 k2 k3 k4 k5 k6 k7 k8 k9 k10 k11 k12
    by_cases hsc : u.scheme = sData
    · have hne : (u.scheme == [100, 97, 116, 97]) = true := by rw [hsc]; rfl
      replace HN := Lib.hid (HN.out hsc)
      replace HT := Lib.hid (HT.out hsc)
      clear HM hsc
      obtain ⟨n, ⟨mt, ms, mp⟩, bs⟩ := R
      simp only at hrow HT ⊢
      have F5 : Fr w4 (w4.alloc (Obj.cells #[S mt, S ms, .slice A1 mp.length cap1] 33)) := (Fr.refl w4).alloc _
      have bM : Blk w4.heap.size #[S mt, S ms, .slice A1 mp.length cap1] 33 (w4.alloc (Obj.cells #[S mt, S ms, .slice A1 mp.length cap1] 33)) := ⟨heap_alloc_new w4 _⟩
      replace F1 := F1.trans F5
      replace B1 := B1.fr F5
      replace hrow := hrow.fr F5
      clear F5
      have HBm := Lib.hid bM
      clear bM
      generalize hW5 : w4.alloc (Obj.cells #[S mt, S ms, .slice A1 mp.length cap1] 33) = W5 at *
      have k0 : W5.cell? ⟨w.heap.size, 0, none⟩ = some (S u.scheme) := (B1).cell rfl
      have k1 : W5.cell? ⟨w.heap.size, 1, none⟩ = some (S u.user) := (B1).cell rfl
      have k2 : W5.cell? ⟨w.heap.size, 2, none⟩ = some (S u.pass) := (B1).cell rfl
      have k3 : W5.cell? ⟨w.heap.size, 3, none⟩ = some (S u.host) := (B1).cell rfl
      have k4 : W5.cell? ⟨w.heap.size, 4, none⟩ = some (.bool u.hasHost) := (B1).cell rfl
      have k5 : W5.cell? ⟨w.heap.size, 5, none⟩ = some (.int .i64 u.port) := (B1).cell rfl
      have k6 : W5.cell? ⟨w.heap.size, 6, none⟩ = some (.bool u.opq) := (B1).cell rfl
      have k7 : W5.cell? ⟨w.heap.size, 7, none⟩ = some (S u.text) := (B1).cell rfl
      have k8 : W5.cell? ⟨w.heap.size, 8, none⟩ = some (pv) := (B1).cell rfl
      have k9 : W5.cell? ⟨w.heap.size, 9, none⟩ = some (.bool u.hasQuery) := (B1).cell rfl
      have k10 : W5.cell? ⟨w.heap.size, 10, none⟩ = some (.bool u.hasFrag) := (B1).cell rfl
      have k11 : W5.cell? ⟨w.heap.size, 11, none⟩ = some (S u.query) := (B1).cell rfl
      have k12 : W5.cell? ⟨w.heap.size, 12, none⟩ = some (S u.frag) := (B1).cell rfl
      go_wp2_with fail
      refine (HQ.out _ F1).mono ?_
      rintro e w5 ⟨rfl, f5⟩
      clear k0 k1 k2 k3 k4 k5 k6 k7 k8 k9 k10 k11 k12
      replace F1 := F1.trans f5
      replace hrow := hrow.fr f5
      clear HQ B1 hne
      go_wp2_with fail
      have hlu : ub.length ≤ 10000 := hbl
      go_loopw [41] (fun i wr => ∃ k : Nat, k ≤ ub.length ∧ i = .int .i64 k ∧ Hid (∀ x ∈ ub.take k, x ≠ 44) ∧ Fr w5 wr) (fun i _ => ub.length - (intOf i).toNat)
      case atStart => exact ⟨0, by omega, rfl, Lib.hid (fun x hx => by simp at hx), Fr.refl _⟩
      case round =>
        obtain ⟨k, hk, rfl, HC, hf⟩ := hrel
        have F2 := F1.trans hf
        by_cases hlt : k < ub.length
        · by_cases h44 : ub[k] = 44
          · have hz : (((({ data := List.toArray ub } : ByteArray)[k]'(show k < (⟨ub.toArray⟩ : ByteArray).size from by show k < ub.toArray.size; simpa using hlt)).toNat : Int) == 44) = true := by
              show ((ub[k].toNat : Int) == 44) = true
              rw [h44]; rfl
            clear h44
            rcases HT.out with rfl | rfl
            · clear HT HN
              go_wp2
              go_ret
              exact ⟨rfl, F2⟩
            · clear HT HN
              go_wp2
              go_ret
              exact ⟨rfl, F2⟩
          · have hz : (((({ data := List.toArray ub } : ByteArray)[k]'(show k < (⟨ub.toArray⟩ : ByteArray).size from by show k < ub.toArray.size; simpa using hlt)).toNat : Int) == 44) = false := by
              show ((ub[k].toNat : Int) == 44) = false
              rw [beq_eq_false_iff_ne]
              intro h
              exact h44 (UInt8.toNat_inj.1 (by have : (44 : UInt8).toNat = 44 := rfl; omega))
            have HC2 : Hid (∀ x ∈ ub.take (k + 1), x ≠ 44) := Lib.hid (fun x hx => by
              rw [List.take_succ_eq_append_getElem hlt, List.mem_append, List.mem_singleton] at hx
              rcases hx with h | rfl
              · exact HC.out x h
              · exact h44)
            clear h44 HN HT HC
            go_wp2
            exact ⟨⟨k + 1, by omega, by go_num, HC2, hf⟩, by simp [intOf]; omega⟩
        · obtain rfl : k = ub.length := by omega
          have hnone : ∀ x ∈ ub, x ≠ 44 := fun x hx => HC.out x (by rw [List.take_length]; exact hx)
          have hR := HN.out hnone
          clear HN HT HC hnone
          simp only [Prod.mk.injEq, Mime.mk.injEq] at hR
          obtain ⟨rfl, ⟨rfl, rfl, rfl⟩, rfl⟩ := hR
          have hrow2 := hrow.fr hf
          have bM2 := (HBm.out.fr f5).fr hf
          have m0 : wr.cell? ⟨w4.heap.size, 0, none⟩ = some (S []) := bM2.cell rfl
          have m1 : wr.cell? ⟨w4.heap.size, 1, none⟩ = some (S []) := bM2.cell rfl
          have m2 : wr.cell? ⟨w4.heap.size, 2, none⟩ = some (.slice A1 0 cap1) := bM2.cell rfl
          clear bM2 HBm
          go_wp2_with fail
          refine (HSame.out _ _ hrow2).mono ?_
          rintro e w6 ⟨rfl, f6⟩
          go_wp2
          go_ret
          exact ⟨rfl, F2.trans f6⟩
    · have hne : (u.scheme == [100, 97, 116, 97]) = false := by rw [beq_eq_false_iff_ne]; exact hsc
      obtain rfl := HM.out hsc
      clear HM HN HT hsc HQ
      simp only [List.length_nil] at hrow ⊢
      have F5 : Fr w4 (w4.alloc (Obj.cells #[S [], S [], .slice A1 0 cap1] 33)) := (Fr.refl w4).alloc _
      have bM : Blk w4.heap.size #[S [], S [], .slice A1 0 cap1] 33 (w4.alloc (Obj.cells #[S [], S [], .slice A1 0 cap1] 33)) := ⟨heap_alloc_new w4 _⟩
      replace F1 := F1.trans F5
      replace B1 := B1.fr F5
      replace hrow := hrow.fr F5
      clear F5
      generalize hW5 : w4.alloc (Obj.cells #[S [], S [], .slice A1 0 cap1] 33) = W5 at *
      have k0 : W5.cell? ⟨w.heap.size, 0, none⟩ = some (S u.scheme) := B1.cell rfl
      have m0 : W5.cell? ⟨w4.heap.size, 0, none⟩ = some (S []) := bM.cell rfl
      have m1 : W5.cell? ⟨w4.heap.size, 1, none⟩ = some (S []) := bM.cell rfl
      have m2 : W5.cell? ⟨w4.heap.size, 2, none⟩ = some (.slice A1 0 cap1) := bM.cell rfl
      clear bM B1
      go_wp2_with fail
      refine (HSame.out _ _ hrow).mono ?_
      rintro e w5 ⟨rfl, f5⟩
      go_wp2
      go_ret
      exact ⟨rfl, F1.trans f5⟩
end Go.Proofs.YtogpmgjdmoglkaaGreatDoor
