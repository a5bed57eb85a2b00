/- The law BuildPlain: the walk. -/
import Derived.Test.YtogpmgjdmoglkaaGreatDoorHZc
import Derived.Test.YtogpmgjdmoglkaaGreatDoorHVt
set_option linter.unusedVariables false
set_option linter.unusedSimpArgs false
namespace Go.Proofs.YtogpmgjdmoglkaaGreatDoor
open Go.RowKit Pu

theorem quot_plain : ∀ (n : Nat) (s : Bs), s.length ≤ n → s.all plainV = true → quotable s = true := by
  intro n
  induction n with
  | zero =>
    intro s hs _
    have : s = [] := List.eq_nil_of_length_eq_zero (by omega)
    subst this; rfl
  | succ n ih =>
    intro s hs h
    match s, hs, h with
    | [], _, _ => rfl
    | [c], _, h =>
      simp only [List.all_cons, List.all_nil, Bool.and_true] at h
      unfold plainV at h
      simp only [Bool.and_eq_true, decide_eq_true_eq] at h
      show (c == 9 || decide (32 ≤ c.toNat ∧ c.toNat ≤ 126)) = true
      rw [decide_eq_true ⟨h.1.1.1.1, h.1.1.1.2⟩, Bool.or_true]
    | c :: d :: r, hs, h =>
      rw [List.all_cons, Bool.and_eq_true] at h
      obtain ⟨h1, h2⟩ := h
      unfold plainV at h1
      simp only [Bool.and_eq_true, decide_eq_true_eq] at h1
      rw [quotable, decide_eq_true ⟨h1.1.1.1.1, h1.1.1.1.2⟩, Bool.or_true, if_pos rfl]
      exact ih (d :: r) (by simp at hs ⊢; omega) h2
theorem params_plain : ∀ (ps pre : List (Bs × Bs)), rparams pre ps = true → ps.all plainP = true → paramsOk pre ps = true := by
  intro ps
  induction ps with
  | nil => intro pre _ _; rfl
  | cons p r ih =>
    intro pre h1 h2
    rw [rparams] at h1
    rw [List.all_cons, Bool.and_eq_true] at h2
    simp only [Bool.and_eq_true] at h1
    obtain ⟨⟨⟨a1, a2⟩, _⟩, a3⟩ := h1
    obtain ⟨b1, b2⟩ := h2
    have b3 : p.2.all plainV = true := by unfold plainP at b1; simp only [Bool.and_eq_true] at b1; exact b1.2
    rw [paramsOk, a1, a2, quot_plain _ p.2 (Nat.le_refl _) b3, ih _ a3 b2]
    rfl
theorem plain_of {m : Mime} (h : rplain m = true) : plainM m = true := by
  unfold rplain rright at h
  simp only [Bool.and_eq_true] at h
  obtain ⟨⟨h1, h2⟩, h3, h4⟩ := h
  unfold plainM mright
  simp only [Bool.and_eq_true]
  exact ⟨⟨⟨params_plain _ _ h1 h4, h2⟩, h3⟩, h4⟩
theorem pprint_few (ps : List (Bs × Bs)) (h : ∀ p ∈ ps, p.1.length + p.2.length ≤ 200) : (ps.flatMap pprint).length ≤ 404 * ps.length := by
  induction ps with
  | nil => simp
  | cons p r ih =>
    have h1 := h p (by simp)
    have h2 := ih fun q hq => h q (by simp [hq])
    have h3 := pvalue_le p.2
    simp [pprint] at h2 ⊢; omega
theorem text_few {m : Mime} (h : fewM m = true) (b : Bs) (hb : b.length ≤ 500) (letters : Bool) : (dataText m b letters).length ≤ 65536 := by
  unfold fewM at h
  simp only [Bool.and_eq_true, decide_eq_true_eq, List.all_eq_true] at h
  obtain ⟨h1, h2, h3⟩ := h
  have hp := pprint_few m.params (fun p hp => by have := h1 p hp; unfold fewP at this; simpa using this)
  have he := escaped_le b
  have hl := enc64_length b
  have hm : (mprint m).length ≤ 9000 := by
    unfold mprint essence
    simp only [List.length_append, List.length_cons]
    omega
  unfold dataText dataTail
  have h5 : (sData : Bs).length = 4 := rfl
  have h6 : (sB64 : Bs).length = 8 := rfl
  cases letters
  · simp only [List.length_append, List.length_cons, Bool.false_eq_true, if_false]
    omega
  · simp only [List.length_append, List.length_cons, if_true]
    omega
theorem build_ok {m : Mime} (h : rplain m = true) (hf : fewM m = true) (b : Bs) (hb : b.length ≤ 500) (letters : Bool) : (buildD m b letters).2 = 0 := by
  have h1 := (build_plain (fun _ _ => none) m b letters (plain_of h) (text_few hf b hb letters)).1
  rw [buildD_eq] at h1
  have := (Prod.mk.inj h1).2
  omega
set_option maxRecDepth 100000 in
set_option maxHeartbeats 40000000 in
theorem plain_any (m : Mime) (hm : LongM m) (b : Bs) (A : Option Addr) (cap : Nat) (hcap : m.params.length ≤ cap) (vb : Value) (w : World) (hE : Env w) (hr : Row2 (.slice A m.params.length cap) m.params w) (hv : RowB vb b w) :
    Calls Tryz.prog 9 #[mimeV m (.slice A m.params.length cap), vb] w fun e w' => e = .returned (.bool true) ∧ Fr w w' := by
  have HA : Hid (∀ w, Env w → Calls Tryz.prog 26 #[] w fun e w' => e = .returned (.bool true) ∧ Fr w w') := Lib.hid awake18_any
  have HF : Hid (∀ w2, Fr w w2 → Calls Tryz.prog 27 #[mimeV m (.slice A m.params.length cap)] w2 fun e w' => e = .returned (.bool (fewM m)) ∧ Fr w2 w') := Lib.hid fun w2 h2 => rfew5_any m hm _ w2 (hr.fr h2)
  unfold mimeV at HF ⊢
  have F1 : Fr w (w.alloc (Obj.cells #[S m.type, S m.sub, .slice A m.params.length cap] 33)) := (Fr.refl w).alloc _
  have B1 : Blk w.heap.size #[S m.type, S m.sub, .slice A m.params.length cap] 33 (w.alloc (Obj.cells #[S m.type, S m.sub, .slice A m.params.length cap] 33)) := ⟨heap_alloc_new w _⟩
  obtain ⟨Ab, capb, hvb, _⟩ := id hv
  cases hfw : fewM m with
  | false =>
    rw [hfw] at HF
    subst hvb
    clear hr hv
    go_enter Tryz.func9, Tryz.ntmps9
    go_wp2_with fail
    refine (HA.out _ (hE.fr F1)).mono ?_
    rintro e w2 ⟨rfl, f2⟩
    have k0 : w2.cell? ⟨w.heap.size, 0, none⟩ = some (S m.type) := (B1.fr f2).cell rfl
    have k1 : w2.cell? ⟨w.heap.size, 1, none⟩ = some (S m.sub) := (B1.fr f2).cell rfl
    have k2 : w2.cell? ⟨w.heap.size, 2, none⟩ = some (.slice A m.params.length cap) := (B1.fr f2).cell rfl
    go_wp2_with fail
    refine (HF.out _ (F1.trans f2)).mono ?_
    rintro e w3 ⟨rfl, f3⟩
    go_wp2_with fail
    refine (HA.out _ (hE.fr ((F1.trans f2).trans f3))).mono ?_
    rintro e w4 ⟨rfl, f4⟩
    go_wp2
    go_ret
    exact ⟨rfl, ((F1.trans f2).trans f3).trans f4⟩
  | true =>
    rw [hfw] at HF
    have hms := few_short hfw
    by_cases h5 : b.length ≤ 500
    · have h5z : decide ((500 : Int) < (b.length : Int)) = false := decide_eq_false (by omega)
      have HPl : Hid (∀ w2, Fr w w2 → Calls Tryz.prog 31 #[.agg #[S m.type, S m.sub, .slice A m.params.length cap]] w2 fun e w' => e = .returned (.bool (rplain m)) ∧ Fr w2 w') := Lib.hid fun w2 h2 => rplain_any m hms A cap hcap w2 (hr.fr h2)
      cases hpl : rplain m with
      | false =>
        rw [hpl] at HPl
        subst hvb
        clear hr hv
        go_enter Tryz.func9, Tryz.ntmps9
        go_wp2_with fail
        refine (HA.out _ (hE.fr F1)).mono ?_
        rintro e w2 ⟨rfl, f2⟩
        have k0 : w2.cell? ⟨w.heap.size, 0, none⟩ = some (S m.type) := (B1.fr f2).cell rfl
        have k1 : w2.cell? ⟨w.heap.size, 1, none⟩ = some (S m.sub) := (B1.fr f2).cell rfl
        have k2 : w2.cell? ⟨w.heap.size, 2, none⟩ = some (.slice A m.params.length cap) := (B1.fr f2).cell rfl
        go_wp2_with fail
        refine (HF.out _ (F1.trans f2)).mono ?_
        rintro e w3 ⟨rfl, f3⟩
        have k0 := f3.cell k0
        have k1 := f3.cell k1
        have k2 := f3.cell k2
        go_wp2_with fail
        refine (HPl.out _ ((F1.trans f2).trans f3)).mono ?_
        rintro e w4 ⟨rfl, f4⟩
        go_wp2_with fail
        refine (HA.out _ (hE.fr (((F1.trans f2).trans f3).trans f4))).mono ?_
        rintro e w5 ⟨rfl, f5⟩
        go_wp2
        go_ret
        exact ⟨rfl, (((F1.trans f2).trans f3).trans f4).trans f5⟩
      | true =>
        rw [hpl] at HPl
        have HB : Hid (∀ (letters : Bool) (w2 : World), Fr w w2 → Calls Tryz.prog 28 #[.agg #[S m.type, S m.sub, .slice A m.params.length cap], vb, .bool letters] w2 fun e w' => e = .returned (.tuple #[S (buildD m b letters).1, .int .i64 0]) ∧ Fr w2 w') := Lib.hid fun letters w2 h2 => by
          have := bbuild_any m hms b (by omega) letters A cap hcap vb w2 (hE.fr h2) (hr.fr h2) (hv.fr h2)
          rw [build_ok hpl hfw b h5 letters] at this
          exact this
        have HP := Lib.hid (fun letters => @back_parse m b letters (build_ok hpl hfw b h5 letters))
        have HQ := Lib.hid (fun letters => @back_proc m b letters (build_ok hpl hfw b h5 letters))
        have HSame : Hid (∀ v u w2, Row2 v m.params w2 → Row2 u m.params w2 → Calls Tryz.prog 23 #[.agg #[S m.type, S m.sub, v], .agg #[S m.type, S m.sub, u]] w2 fun e w' => e = .returned (.bool true) ∧ Fr w2 w') := Lib.hid fun v u w2 h1 h2 => by
          have := same_any m m (by have := hms.n; omega) (by have := hms.n; omega) v u w2 h1 h2
          rw [decide_eq_true rfl] at this
          exact this
        have HRow := Lib.hid hr
        have HVb : Hid (∀ w2, Fr w w2 → (convert 34 9 vb).run Tryz.prog w2 = .ok (S b) w2) := Lib.hid fun w2 hf => (hv.fr hf).str
        rw [hvb] at HVb HB
        subst hvb
        clear hr hv
        unfold urlV at HP HQ
        unfold mimeV at HQ
        go_enter Tryz.func9, Tryz.ntmps9
        go_wp2_with fail
        refine (HA.out _ (hE.fr F1)).mono ?_
        rintro e w2 ⟨rfl, f2⟩
        have k0 : w2.cell? ⟨w.heap.size, 0, none⟩ = some (S m.type) := (B1.fr f2).cell rfl
        have k1 : w2.cell? ⟨w.heap.size, 1, none⟩ = some (S m.sub) := (B1.fr f2).cell rfl
        have k2 : w2.cell? ⟨w.heap.size, 2, none⟩ = some (.slice A m.params.length cap) := (B1.fr f2).cell rfl
        go_wp2_with fail
        refine (HF.out _ (F1.trans f2)).mono ?_
        rintro e w3 ⟨rfl, f3⟩
        have k0 := f3.cell k0
        have k1 := f3.cell k1
        have k2 := f3.cell k2
        go_wp2_with fail
        refine (HPl.out _ ((F1.trans f2).trans f3)).mono ?_
        rintro e w4 ⟨rfl, f4⟩
        replace F1 := ((F1.trans f2).trans f3).trans f4
        replace B1 := ((B1.fr f2).fr f3).fr f4
        clear k0 k1 k2 f2 f3 f4 HF HPl HA
        have fa : Fr w4 (w4.alloc (Obj.cells #[.bool false, .bool true] 4)) := (Fr.refl w4).alloc _
        have D : Blk w4.heap.size #[.bool false, .bool true] 4 (w4.alloc (Obj.cells #[.bool false, .bool true] 4)) := ⟨heap_alloc_new w4 _⟩
        replace F1 := F1.trans fa
        replace B1 := B1.fr fa
        clear fa
        go_wp2
        generalize w4.alloc (Obj.cells #[.bool false, .bool true] 4) = w5 at *
        generalize w4.heap.size = gb at *
        go_loopw [34] (fun i wr => ∃ k : Nat, k ≤ 2 ∧ i = .int .i64 k ∧ Fr w5 wr) (fun i _ => 2 - (intOf i).toNat)
        case atStart => exact ⟨0, by omega, rfl, Fr.refl _⟩
        case round =>
          obtain ⟨k, hk, rfl, hf⟩ := hrel
          have G1 := F1.trans hf
          have B2 := B1.fr hf
          have D2 := D.fr hf
          by_cases hlt : k < 2
          · have hltz : (k : Int) < 2 := by omega
            have hcell : ∃ L : Bool, wr.cell? ⟨gb, k, none⟩ = some (.bool L) := by
              have : k = 0 ∨ k = 1 := by omega
              rcases this with rfl | rfl
              · exact ⟨false, D2.cell rfl⟩
              · exact ⟨true, D2.cell rfl⟩
            obtain ⟨L, hcell⟩ := hcell
            have k0 : wr.cell? ⟨w.heap.size, 0, none⟩ = some (S m.type) := B2.cell rfl
            have k1 : wr.cell? ⟨w.heap.size, 1, none⟩ = some (S m.sub) := B2.cell rfl
            have k2 : wr.cell? ⟨w.heap.size, 2, none⟩ = some (.slice A m.params.length cap) := B2.cell rfl
            replace HP := Lib.hid (HP.out L)
            replace HQ := Lib.hid (HQ.out L)
            replace HB := Lib.hid (HB.out L)
            generalize (buildD m b L).1 = t at *
            generalize backU m b L = U at *
            go_wp2_with fail
            refine (HB.out _ G1).mono ?_
            rintro e w6 ⟨rfl, f6⟩
            replace G1 := G1.trans f6
            clear HB hcell k0 k1 k2 D2 D
            go_wp2_with fail
            refine (HP.out _ (hE.fr G1)).mono ?_
            rintro e w7 ⟨rfl, f7⟩
            replace G1 := G1.trans f7
            clear HP
            go_wp2_with fail
            generalize hW8 : w7.alloc _ = w8
            have fa : Fr w7 w8 := hW8 ▸ (Fr.refl w7).alloc _
            clear hW8
            replace G1 := G1.trans fa
            refine (HQ.out _ (hE.fr G1)).mono ?_
            rintro e w9 ⟨v, x, rfl, om, ox⟩
            clear HQ
            obtain ⟨A1, cap1, rfl⟩ := om.slice
            obtain ⟨A2, cap2, rfl⟩ := ox.slice
            have fb : Fr w9 (w9.alloc (Obj.cells #[S m.type, S m.sub, .slice A1 m.params.length cap1] 33)) := (Fr.refl w9).alloc _
            have M1 : Blk w9.heap.size #[S m.type, S m.sub, .slice A1 m.params.length cap1] 33 (w9.alloc (Obj.cells #[S m.type, S m.sub, .slice A1 m.params.length cap1] 33)) := ⟨heap_alloc_new w9 _⟩
            have r1 := om.row.fr fb
            have ox2 := ox.step fb
            have G2 := (G1.trans om.fr).trans fb
            have B3 := B2.fr ((((f6.trans f7).trans fa).trans om.fr).trans fb)
            have q1 := HRow.out.fr G2
            generalize hw10 : w9.alloc (Obj.cells #[S m.type, S m.sub, .slice A1 m.params.length cap1] 33) = w10 at *
            have m0 : w10.cell? ⟨w9.heap.size, 0, none⟩ = some (S m.type) := M1.cell rfl
            have m1 : w10.cell? ⟨w9.heap.size, 1, none⟩ = some (S m.sub) := M1.cell rfl
            have m2 : w10.cell? ⟨w9.heap.size, 2, none⟩ = some (.slice A1 m.params.length cap1) := M1.cell rfl
            have k0 : w10.cell? ⟨w.heap.size, 0, none⟩ = some (S m.type) := B3.cell rfl
            have k1 : w10.cell? ⟨w.heap.size, 1, none⟩ = some (S m.sub) := B3.cell rfl
            have k2 : w10.cell? ⟨w.heap.size, 2, none⟩ = some (.slice A m.params.length cap) := B3.cell rfl
            go_wp2_with fail
            refine (HSame.out _ _ _ r1 q1).mono ?_
            rintro e w11 ⟨rfl, f11⟩
            have hs2 := (ox2.step f11).str
            have hs1 := HVb.out w11 (G2.trans f11)
            have hff := hf.trans (((((f6.trans f7).trans fa).trans om.fr).trans fb).trans f11)
            go_wp2
            exact ⟨⟨k + 1, by omega, by go_num, hff⟩, by simp [intOf]; omega⟩
          · obtain rfl : k = 2 := by omega
            go_wp2
            go_ret
            exact ⟨rfl, G1⟩
    · have h5z : (500 : Int) < (b.length : Int) := by omega
      subst hvb
      clear hr hv
      go_enter Tryz.func9, Tryz.ntmps9
      go_wp2_with fail
      refine (HA.out _ (hE.fr F1)).mono ?_
      rintro e w2 ⟨rfl, f2⟩
      have k0 : w2.cell? ⟨w.heap.size, 0, none⟩ = some (S m.type) := (B1.fr f2).cell rfl
      have k1 : w2.cell? ⟨w.heap.size, 1, none⟩ = some (S m.sub) := (B1.fr f2).cell rfl
      have k2 : w2.cell? ⟨w.heap.size, 2, none⟩ = some (.slice A m.params.length cap) := (B1.fr f2).cell rfl
      go_wp2_with fail
      refine (HF.out _ (F1.trans f2)).mono ?_
      rintro e w3 ⟨rfl, f3⟩
      go_wp2_with fail
      refine (HA.out _ (hE.fr ((F1.trans f2).trans f3))).mono ?_
      rintro e w4 ⟨rfl, f4⟩
      go_wp2
      go_ret
      exact ⟨rfl, ((F1.trans f2).trans f3).trans f4⟩
end Go.Proofs.YtogpmgjdmoglkaaGreatDoor
