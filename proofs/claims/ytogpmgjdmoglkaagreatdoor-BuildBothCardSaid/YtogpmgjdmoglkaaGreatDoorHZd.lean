/- The law BuildBoth: the walk. -/
import Derived.Test.YtogpmgjdmoglkaaGreatDoorHZc
set_option linter.unusedVariables false
set_option linter.unusedSimpArgs false
namespace Go.Proofs.YtogpmgjdmoglkaaGreatDoor
open Go.RowKit Pu

set_option maxRecDepth 100000 in
set_option maxHeartbeats 40000000 in
theorem both_any (m : Mime) (hm : LongM m) (b : Bs) (A : Option Addr) (cap : Nat) (hcap : m.params.length ≤ cap) (vb : Value) (w : World) (hE : Env w) (hr : Row2 (.slice A m.params.length cap) m.params w) (hv : RowB vb b w) :
    Calls Tryz.prog 12 #[mimeV m (.slice A m.params.length cap), vb] w fun e w' => e = .returned (.bool true) ∧ Fr w w' := by
  have HA : Hid (∀ w, Env w → Calls Tryz.prog 26 #[] w fun e w' => e = .returned (.bool true) ∧ Fr w w') := Lib.hid awake18_any
  have HF : Hid (∀ w2, Fr w w2 → Calls Tryz.prog 27 #[mimeV m (.slice A m.params.length cap)] w2 fun e w' => e = .returned (.bool (fewM m)) ∧ Fr w2 w') := Lib.hid fun w2 h2 => rfew5_any m hm _ w2 (hr.fr h2)
  unfold mimeV at HF ⊢
  have F1 : Fr w (w.alloc (Obj.cells #[S m.type, S m.sub, .slice A m.params.length cap] 33)) := (Fr.refl w).alloc _
  have B1 : Blk w.heap.size #[S m.type, S m.sub, .slice A m.params.length cap] 33 (w.alloc (Obj.cells #[S m.type, S m.sub, .slice A m.params.length cap] 33)) := ⟨heap_alloc_new w _⟩
  obtain ⟨Ab, capb, hvb, _⟩ := id hv
  cases hfw : fewM m with
  | false =>
    rw [hfw] at HF
    subst hvb
    clear hr hv
    go_enter Tryz.func12, Tryz.ntmps12
    go_wp2_with fail
    refine (HA.out _ (hE.fr F1)).mono ?_
    rintro e w2 ⟨rfl, f2⟩
    have k0 : w2.cell? ⟨w.heap.size, 0, none⟩ = some (S m.type) := (B1.fr f2).cell rfl
    have k1 : w2.cell? ⟨w.heap.size, 1, none⟩ = some (S m.sub) := (B1.fr f2).cell rfl
    have k2 : w2.cell? ⟨w.heap.size, 2, none⟩ = some (.slice A m.params.length cap) := (B1.fr f2).cell rfl
    go_wp2_with fail
    refine (HF.out _ (F1.trans f2)).mono ?_
    rintro e w3 ⟨rfl, f3⟩
    go_wp2_with fail
    refine (HA.out _ (hE.fr ((F1.trans f2).trans f3))).mono ?_
    rintro e w4 ⟨rfl, f4⟩
    go_wp2
    go_ret
    exact ⟨rfl, ((F1.trans f2).trans f3).trans f4⟩
  | true =>
    rw [hfw] at HF
    have hms := few_short hfw
    by_cases h5 : b.length ≤ 500
    · have h5z : decide ((500 : Int) < (b.length : Int)) = false := decide_eq_false (by omega)
      have HB : Hid (∀ (letters : Bool) (w2 : World), Fr w w2 → Calls Tryz.prog 28 #[.agg #[S m.type, S m.sub, .slice A m.params.length cap], vb, .bool letters] w2 fun e w' => e = .returned (.tuple #[S (buildD m b letters).1, .int .i64 ((buildD m b letters).2 : Int)]) ∧ Fr w2 w') := Lib.hid fun letters w2 h2 => bbuild_any m hms b (by omega) letters A cap hcap vb w2 (hE.fr h2) (hr.fr h2) (hv.fr h2)
      have HSame : Hid (∀ v u w2, Row2 v m.params w2 → Row2 u m.params w2 → Calls Tryz.prog 23 #[.agg #[S m.type, S m.sub, v], .agg #[S m.type, S m.sub, u]] w2 fun e w' => e = .returned (.bool true) ∧ Fr w2 w') := Lib.hid fun v u w2 h1 h2 => by
        have := same_any m m (by have := hms.n; omega) (by have := hms.n; omega) v u w2 h1 h2
        rw [decide_eq_true rfl] at this
        exact this
      subst hvb
      clear hr hv
      have hbad1 := @buildD_bad m b true
      have hbad2 := @buildD_bad m b false
      have HP1 := Lib.hid (@back_parse m b true)
      have HP2 := Lib.hid (@back_parse m b false)
      have HQ1 := Lib.hid (@back_proc m b true)
      have HQ2 := Lib.hid (@back_proc m b false)
      generalize backU m b true = U1 at *
      generalize backU m b false = U2 at *
      have HB1 := Lib.hid (HB.out true)
      have HB2 := Lib.hid (HB.out false)
      clear HB
      generalize buildD m b true = R1 at *
      generalize buildD m b false = R2 at *
      obtain ⟨t1, n1⟩ := R1
      obtain ⟨t2, n2⟩ := R2
      simp only at hbad1 hbad2 HP1 HP2 HQ1 HQ2 HB1 HB2
      unfold urlV at HP1 HP2 HQ1 HQ2
      unfold mimeV at HQ1 HQ2
      by_cases hn1 : n1 = 0
      · subst hn1
        by_cases hn2 : n2 = 0
        · subst hn2
          clear hbad1 hbad2
          have HPa := Lib.hid (HP1.out rfl)
          have HPb := Lib.hid (HP2.out rfl)
          have HQa := Lib.hid (HQ1.out rfl)
          have HQb := Lib.hid (HQ2.out rfl)
          clear HP1 HP2 HQ1 HQ2
          go_enter Tryz.func12, Tryz.ntmps12
          go_wp2_with fail
          refine (HA.out _ (hE.fr F1)).mono ?_
          rintro e w2 ⟨rfl, f2⟩
          have k0 : w2.cell? ⟨w.heap.size, 0, none⟩ = some (S m.type) := (B1.fr f2).cell rfl
          have k1 : w2.cell? ⟨w.heap.size, 1, none⟩ = some (S m.sub) := (B1.fr f2).cell rfl
          have k2 : w2.cell? ⟨w.heap.size, 2, none⟩ = some (.slice A m.params.length cap) := (B1.fr f2).cell rfl
          go_wp2_with fail
          refine (HF.out _ (F1.trans f2)).mono ?_
          rintro e w3 ⟨rfl, f3⟩
          replace F1 := (F1.trans f2).trans f3
          replace B1 := (B1.fr f2).fr f3
          clear k0 k1 k2 f2 f3
          have k0 : w3.cell? ⟨w.heap.size, 0, none⟩ = some (S m.type) := B1.cell rfl
          have k1 : w3.cell? ⟨w.heap.size, 1, none⟩ = some (S m.sub) := B1.cell rfl
          have k2 : w3.cell? ⟨w.heap.size, 2, none⟩ = some (.slice A m.params.length cap) := B1.cell rfl
          go_wp2_with fail
          refine (HB1.out _ F1).mono ?_
          rintro e w4 ⟨rfl, f4⟩
          replace F1 := F1.trans f4
          have k0 := f4.cell k0
          have k1 := f4.cell k1
          have k2 := f4.cell k2
          go_wp2_with fail
          refine (HB2.out _ F1).mono ?_
          rintro e w5 ⟨rfl, f5⟩
          replace F1 := F1.trans f5
          clear B1 k0 k1 k2 f4 f5 HB1 HB2 HF HA
          go_wp2_with fail
          refine (HPa.out _ (hE.fr F1)).mono ?_
          rintro e w6 ⟨rfl, f6⟩
          replace F1 := F1.trans f6
          clear f6
          go_wp2_with fail
          have fa : Fr w6 (w6.alloc (Obj.cells #[S U1.scheme, S U1.user, S U1.pass, S U1.host, .bool U1.hasHost, .int .i64 U1.port, .bool U1.opq, S U1.text, .slice none 0 0, .bool U1.hasQuery, .bool U1.hasFrag, S U1.query, S U1.frag] 25)) := (Fr.refl w6).alloc _
          have D1 : Blk w6.heap.size #[S U1.scheme, S U1.user, S U1.pass, S U1.host, .bool U1.hasHost, .int .i64 U1.port, .bool U1.opq, S U1.text, .slice none 0 0, .bool U1.hasQuery, .bool U1.hasFrag, S U1.query, S U1.frag] 25 (w6.alloc (Obj.cells #[S U1.scheme, S U1.user, S U1.pass, S U1.host, .bool U1.hasHost, .int .i64 U1.port, .bool U1.opq, S U1.text, .slice none 0 0, .bool U1.hasQuery, .bool U1.hasFrag, S U1.query, S U1.frag] 25)) := ⟨heap_alloc_new w6 _⟩
          replace F1 := F1.trans fa
          clear fa
          generalize w6.alloc (Obj.cells #[S U1.scheme, S U1.user, S U1.pass, S U1.host, .bool U1.hasHost, .int .i64 U1.port, .bool U1.opq, S U1.text, .slice none 0 0, .bool U1.hasQuery, .bool U1.hasFrag, S U1.query, S U1.frag] 25) = w6b at *
          generalize w6.heap.size = d1 at *
          refine (HPb.out _ (hE.fr F1)).mono ?_
          rintro e w7 ⟨rfl, f7⟩
          replace F1 := F1.trans f7
          have fa : Fr w7 (w7.alloc (Obj.cells #[S U2.scheme, S U2.user, S U2.pass, S U2.host, .bool U2.hasHost, .int .i64 U2.port, .bool U2.opq, S U2.text, .slice none 0 0, .bool U2.hasQuery, .bool U2.hasFrag, S U2.query, S U2.frag] 25)) := (Fr.refl w7).alloc _
          have D2 : Blk w7.heap.size #[S U2.scheme, S U2.user, S U2.pass, S U2.host, .bool U2.hasHost, .int .i64 U2.port, .bool U2.opq, S U2.text, .slice none 0 0, .bool U2.hasQuery, .bool U2.hasFrag, S U2.query, S U2.frag] 25 (w7.alloc (Obj.cells #[S U2.scheme, S U2.user, S U2.pass, S U2.host, .bool U2.hasHost, .int .i64 U2.port, .bool U2.opq, S U2.text, .slice none 0 0, .bool U2.hasQuery, .bool U2.hasFrag, S U2.query, S U2.frag] 25)) := ⟨heap_alloc_new w7 _⟩
          replace D1 := (D1.fr f7).fr fa
          replace F1 := F1.trans fa
          have j0 : (w7.alloc (Obj.cells #[S U2.scheme, S U2.user, S U2.pass, S U2.host, .bool U2.hasHost, .int .i64 U2.port, .bool U2.opq, S U2.text, .slice none 0 0, .bool U2.hasQuery, .bool U2.hasFrag, S U2.query, S U2.frag] 25)).cell? ⟨d1, 0, none⟩ = some (S U1.scheme) := D1.cell rfl
          have j1 : (w7.alloc (Obj.cells #[S U2.scheme, S U2.user, S U2.pass, S U2.host, .bool U2.hasHost, .int .i64 U2.port, .bool U2.opq, S U2.text, .slice none 0 0, .bool U2.hasQuery, .bool U2.hasFrag, S U2.query, S U2.frag] 25)).cell? ⟨d1, 1, none⟩ = some (S U1.user) := D1.cell rfl
          have j2 : (w7.alloc (Obj.cells #[S U2.scheme, S U2.user, S U2.pass, S U2.host, .bool U2.hasHost, .int .i64 U2.port, .bool U2.opq, S U2.text, .slice none 0 0, .bool U2.hasQuery, .bool U2.hasFrag, S U2.query, S U2.frag] 25)).cell? ⟨d1, 2, none⟩ = some (S U1.pass) := D1.cell rfl
          have j3 : (w7.alloc (Obj.cells #[S U2.scheme, S U2.user, S U2.pass, S U2.host, .bool U2.hasHost, .int .i64 U2.port, .bool U2.opq, S U2.text, .slice none 0 0, .bool U2.hasQuery, .bool U2.hasFrag, S U2.query, S U2.frag] 25)).cell? ⟨d1, 3, none⟩ = some (S U1.host) := D1.cell rfl
          have j4 : (w7.alloc (Obj.cells #[S U2.scheme, S U2.user, S U2.pass, S U2.host, .bool U2.hasHost, .int .i64 U2.port, .bool U2.opq, S U2.text, .slice none 0 0, .bool U2.hasQuery, .bool U2.hasFrag, S U2.query, S U2.frag] 25)).cell? ⟨d1, 4, none⟩ = some (.bool U1.hasHost) := D1.cell rfl
          have j5 : (w7.alloc (Obj.cells #[S U2.scheme, S U2.user, S U2.pass, S U2.host, .bool U2.hasHost, .int .i64 U2.port, .bool U2.opq, S U2.text, .slice none 0 0, .bool U2.hasQuery, .bool U2.hasFrag, S U2.query, S U2.frag] 25)).cell? ⟨d1, 5, none⟩ = some (.int .i64 U1.port) := D1.cell rfl
          have j6 : (w7.alloc (Obj.cells #[S U2.scheme, S U2.user, S U2.pass, S U2.host, .bool U2.hasHost, .int .i64 U2.port, .bool U2.opq, S U2.text, .slice none 0 0, .bool U2.hasQuery, .bool U2.hasFrag, S U2.query, S U2.frag] 25)).cell? ⟨d1, 6, none⟩ = some (.bool U1.opq) := D1.cell rfl
          have j7 : (w7.alloc (Obj.cells #[S U2.scheme, S U2.user, S U2.pass, S U2.host, .bool U2.hasHost, .int .i64 U2.port, .bool U2.opq, S U2.text, .slice none 0 0, .bool U2.hasQuery, .bool U2.hasFrag, S U2.query, S U2.frag] 25)).cell? ⟨d1, 7, none⟩ = some (S U1.text) := D1.cell rfl
          have j8 : (w7.alloc (Obj.cells #[S U2.scheme, S U2.user, S U2.pass, S U2.host, .bool U2.hasHost, .int .i64 U2.port, .bool U2.opq, S U2.text, .slice none 0 0, .bool U2.hasQuery, .bool U2.hasFrag, S U2.query, S U2.frag] 25)).cell? ⟨d1, 8, none⟩ = some (.slice none 0 0) := D1.cell rfl
          have j9 : (w7.alloc (Obj.cells #[S U2.scheme, S U2.user, S U2.pass, S U2.host, .bool U2.hasHost, .int .i64 U2.port, .bool U2.opq, S U2.text, .slice none 0 0, .bool U2.hasQuery, .bool U2.hasFrag, S U2.query, S U2.frag] 25)).cell? ⟨d1, 9, none⟩ = some (.bool U1.hasQuery) := D1.cell rfl
          have j10 : (w7.alloc (Obj.cells #[S U2.scheme, S U2.user, S U2.pass, S U2.host, .bool U2.hasHost, .int .i64 U2.port, .bool U2.opq, S U2.text, .slice none 0 0, .bool U2.hasQuery, .bool U2.hasFrag, S U2.query, S U2.frag] 25)).cell? ⟨d1, 10, none⟩ = some (.bool U1.hasFrag) := D1.cell rfl
          have j11 : (w7.alloc (Obj.cells #[S U2.scheme, S U2.user, S U2.pass, S U2.host, .bool U2.hasHost, .int .i64 U2.port, .bool U2.opq, S U2.text, .slice none 0 0, .bool U2.hasQuery, .bool U2.hasFrag, S U2.query, S U2.frag] 25)).cell? ⟨d1, 11, none⟩ = some (S U1.query) := D1.cell rfl
          have j12 : (w7.alloc (Obj.cells #[S U2.scheme, S U2.user, S U2.pass, S U2.host, .bool U2.hasHost, .int .i64 U2.port, .bool U2.opq, S U2.text, .slice none 0 0, .bool U2.hasQuery, .bool U2.hasFrag, S U2.query, S U2.frag] 25)).cell? ⟨d1, 12, none⟩ = some (S U1.frag) := D1.cell rfl
          go_wp2_with fail
          clear j0 j1 j2 j3 j4 j5 j6 j7 j8 j9 j10 j11 j12
          clear fa f7
          generalize w7.alloc (Obj.cells #[S U2.scheme, S U2.user, S U2.pass, S U2.host, .bool U2.hasHost, .int .i64 U2.port, .bool U2.opq, S U2.text, .slice none 0 0, .bool U2.hasQuery, .bool U2.hasFrag, S U2.query, S U2.frag] 25) = w7b at *
          generalize w7.heap.size = d2 at *
          refine (HQa.out _ (hE.fr F1)).mono ?_
          rintro e w8 ⟨v1, x1, rfl, om1, ox1⟩
          obtain ⟨A1, cap1, rfl⟩ := om1.slice
          obtain ⟨A2, cap2, rfl⟩ := ox1.slice
          have fa : Fr w8 (w8.alloc (Obj.cells #[S m.type, S m.sub, .slice A1 m.params.length cap1] 33)) := (Fr.refl w8).alloc _
          have M1 : Blk w8.heap.size #[S m.type, S m.sub, .slice A1 m.params.length cap1] 33 (w8.alloc (Obj.cells #[S m.type, S m.sub, .slice A1 m.params.length cap1] 33)) := ⟨heap_alloc_new w8 _⟩
          have r1 := om1.row.fr fa
          have o1 := ox1.step fa
          replace D2 := (D2.fr om1.fr).fr fa
          replace F1 := (F1.trans om1.fr).trans fa
          have j0 : (w8.alloc (Obj.cells #[S m.type, S m.sub, .slice A1 m.params.length cap1] 33)).cell? ⟨d2, 0, none⟩ = some (S U2.scheme) := D2.cell rfl
          have j1 : (w8.alloc (Obj.cells #[S m.type, S m.sub, .slice A1 m.params.length cap1] 33)).cell? ⟨d2, 1, none⟩ = some (S U2.user) := D2.cell rfl
          have j2 : (w8.alloc (Obj.cells #[S m.type, S m.sub, .slice A1 m.params.length cap1] 33)).cell? ⟨d2, 2, none⟩ = some (S U2.pass) := D2.cell rfl
          have j3 : (w8.alloc (Obj.cells #[S m.type, S m.sub, .slice A1 m.params.length cap1] 33)).cell? ⟨d2, 3, none⟩ = some (S U2.host) := D2.cell rfl
          have j4 : (w8.alloc (Obj.cells #[S m.type, S m.sub, .slice A1 m.params.length cap1] 33)).cell? ⟨d2, 4, none⟩ = some (.bool U2.hasHost) := D2.cell rfl
          have j5 : (w8.alloc (Obj.cells #[S m.type, S m.sub, .slice A1 m.params.length cap1] 33)).cell? ⟨d2, 5, none⟩ = some (.int .i64 U2.port) := D2.cell rfl
          have j6 : (w8.alloc (Obj.cells #[S m.type, S m.sub, .slice A1 m.params.length cap1] 33)).cell? ⟨d2, 6, none⟩ = some (.bool U2.opq) := D2.cell rfl
          have j7 : (w8.alloc (Obj.cells #[S m.type, S m.sub, .slice A1 m.params.length cap1] 33)).cell? ⟨d2, 7, none⟩ = some (S U2.text) := D2.cell rfl
          have j8 : (w8.alloc (Obj.cells #[S m.type, S m.sub, .slice A1 m.params.length cap1] 33)).cell? ⟨d2, 8, none⟩ = some (.slice none 0 0) := D2.cell rfl
          have j9 : (w8.alloc (Obj.cells #[S m.type, S m.sub, .slice A1 m.params.length cap1] 33)).cell? ⟨d2, 9, none⟩ = some (.bool U2.hasQuery) := D2.cell rfl
          have j10 : (w8.alloc (Obj.cells #[S m.type, S m.sub, .slice A1 m.params.length cap1] 33)).cell? ⟨d2, 10, none⟩ = some (.bool U2.hasFrag) := D2.cell rfl
          have j11 : (w8.alloc (Obj.cells #[S m.type, S m.sub, .slice A1 m.params.length cap1] 33)).cell? ⟨d2, 11, none⟩ = some (S U2.query) := D2.cell rfl
          have j12 : (w8.alloc (Obj.cells #[S m.type, S m.sub, .slice A1 m.params.length cap1] 33)).cell? ⟨d2, 12, none⟩ = some (S U2.frag) := D2.cell rfl
          go_wp2_with fail
          clear j0 j1 j2 j3 j4 j5 j6 j7 j8 j9 j10 j11 j12
          clear fa om1 ox1
          generalize w8.alloc (Obj.cells #[S m.type, S m.sub, .slice A1 m.params.length cap1] 33) = w8b at *
          generalize w8.heap.size = d3 at *
          refine (HQb.out _ (hE.fr F1)).mono ?_
          rintro e w9 ⟨v2, x2, rfl, om2, ox2⟩
          obtain ⟨A3, cap3, rfl⟩ := om2.slice
          obtain ⟨A4, cap4, rfl⟩ := ox2.slice
          have fa : Fr w9 (w9.alloc (Obj.cells #[S m.type, S m.sub, .slice A3 m.params.length cap3] 33)) := (Fr.refl w9).alloc _
          have r2 := om2.row.fr fa
          replace r1 := (r1.fr om2.fr).fr fa
          replace M1 := (M1.fr om2.fr).fr fa
          replace F1 := (F1.trans om2.fr).trans fa
          have k0 : (w9.alloc (Obj.cells #[S m.type, S m.sub, .slice A3 m.params.length cap3] 33)).cell? ⟨d3, 0, none⟩ = some (S m.type) := M1.cell rfl
          have k1 : (w9.alloc (Obj.cells #[S m.type, S m.sub, .slice A3 m.params.length cap3] 33)).cell? ⟨d3, 1, none⟩ = some (S m.sub) := M1.cell rfl
          have k2 : (w9.alloc (Obj.cells #[S m.type, S m.sub, .slice A3 m.params.length cap3] 33)).cell? ⟨d3, 2, none⟩ = some (.slice A1 m.params.length cap1) := M1.cell rfl
          go_wp2_with fail
          refine (HSame.out _ _ _ r1 r2).mono ?_
          rintro e w10 ⟨rfl, f10⟩
          have s1 := (o1.step ((om2.fr.trans fa).trans f10)).str
          have s2 := (ox2.step (fa.trans f10)).str
          go_wp2
          go_ret
          exact ⟨rfl, F1.trans f10⟩
        · obtain ⟨rfl, hl2, hu2⟩ := hbad2 hn2
          clear hbad1 hbad2 HP1 HP2 HQ1 HQ2 HSame
          have hnz : ((n2 : Int) != 0) = true := by rw [bne_iff_ne]; omega
          have hn0 : ((n2 : Int) == 0) = false := by rw [beq_eq_false_iff_ne]; omega
          go_enter Tryz.func12, Tryz.ntmps12
          go_wp2_with fail
          refine (HA.out _ (hE.fr F1)).mono ?_
          rintro e w2 ⟨rfl, f2⟩
          have k0 : w2.cell? ⟨w.heap.size, 0, none⟩ = some (S m.type) := (B1.fr f2).cell rfl
          have k1 : w2.cell? ⟨w.heap.size, 1, none⟩ = some (S m.sub) := (B1.fr f2).cell rfl
          have k2 : w2.cell? ⟨w.heap.size, 2, none⟩ = some (.slice A m.params.length cap) := (B1.fr f2).cell rfl
          go_wp2_with fail
          refine (HF.out _ (F1.trans f2)).mono ?_
          rintro e w3 ⟨rfl, f3⟩
          replace F1 := (F1.trans f2).trans f3
          replace B1 := (B1.fr f2).fr f3
          clear k0 k1 k2 f2 f3
          have k0 : w3.cell? ⟨w.heap.size, 0, none⟩ = some (S m.type) := B1.cell rfl
          have k1 : w3.cell? ⟨w.heap.size, 1, none⟩ = some (S m.sub) := B1.cell rfl
          have k2 : w3.cell? ⟨w.heap.size, 2, none⟩ = some (.slice A m.params.length cap) := B1.cell rfl
          go_wp2_with fail
          refine (HB1.out _ F1).mono ?_
          rintro e w4 ⟨rfl, f4⟩
          replace F1 := F1.trans f4
          have k0 := f4.cell k0
          have k1 := f4.cell k1
          have k2 := f4.cell k2
          go_wp2_with fail
          refine (HB2.out _ F1).mono ?_
          rintro e w5 ⟨rfl, f5⟩
          go_wp2
          go_ret
          exact ⟨rfl, F1.trans f5⟩
      · obtain ⟨rfl, hl1, hu1⟩ := hbad1 hn1
        clear hbad1 HP1 HP2 HQ1 HQ2 HSame
        have hnz1 : ((n1 : Int) != 0) = true := by rw [bne_iff_ne]; omega
        have hn10 : ((n1 : Int) == 0) = false := by rw [beq_eq_false_iff_ne]; omega
        by_cases hn2 : n2 = 0
        · subst hn2
          clear hbad2
          go_enter Tryz.func12, Tryz.ntmps12
          go_wp2_with fail
          refine (HA.out _ (hE.fr F1)).mono ?_
          rintro e w2 ⟨rfl, f2⟩
          have k0 : w2.cell? ⟨w.heap.size, 0, none⟩ = some (S m.type) := (B1.fr f2).cell rfl
          have k1 : w2.cell? ⟨w.heap.size, 1, none⟩ = some (S m.sub) := (B1.fr f2).cell rfl
          have k2 : w2.cell? ⟨w.heap.size, 2, none⟩ = some (.slice A m.params.length cap) := (B1.fr f2).cell rfl
          go_wp2_with fail
          refine (HF.out _ (F1.trans f2)).mono ?_
          rintro e w3 ⟨rfl, f3⟩
          replace F1 := (F1.trans f2).trans f3
          replace B1 := (B1.fr f2).fr f3
          clear k0 k1 k2 f2 f3
          have k0 : w3.cell? ⟨w.heap.size, 0, none⟩ = some (S m.type) := B1.cell rfl
          have k1 : w3.cell? ⟨w.heap.size, 1, none⟩ = some (S m.sub) := B1.cell rfl
          have k2 : w3.cell? ⟨w.heap.size, 2, none⟩ = some (.slice A m.params.length cap) := B1.cell rfl
          go_wp2_with fail
          refine (HB1.out _ F1).mono ?_
          rintro e w4 ⟨rfl, f4⟩
          replace F1 := F1.trans f4
          have k0 := f4.cell k0
          have k1 := f4.cell k1
          have k2 := f4.cell k2
          go_wp2_with fail
          refine (HB2.out _ F1).mono ?_
          rintro e w5 ⟨rfl, f5⟩
          go_wp2
          go_ret
          exact ⟨rfl, F1.trans f5⟩
        · obtain ⟨rfl, hl2, hu2⟩ := hbad2 hn2
          have hnz : ((n2 : Int) != 0) = true := by rw [bne_iff_ne]; omega
          have hn0 : ((n2 : Int) == 0) = false := by rw [beq_eq_false_iff_ne]; omega
          go_enter Tryz.func12, Tryz.ntmps12
          go_wp2_with fail
          refine (HA.out _ (hE.fr F1)).mono ?_
          rintro e w2 ⟨rfl, f2⟩
          have k0 : w2.cell? ⟨w.heap.size, 0, none⟩ = some (S m.type) := (B1.fr f2).cell rfl
          have k1 : w2.cell? ⟨w.heap.size, 1, none⟩ = some (S m.sub) := (B1.fr f2).cell rfl
          have k2 : w2.cell? ⟨w.heap.size, 2, none⟩ = some (.slice A m.params.length cap) := (B1.fr f2).cell rfl
          go_wp2_with fail
          refine (HF.out _ (F1.trans f2)).mono ?_
          rintro e w3 ⟨rfl, f3⟩
          replace F1 := (F1.trans f2).trans f3
          replace B1 := (B1.fr f2).fr f3
          clear k0 k1 k2 f2 f3
          have k0 : w3.cell? ⟨w.heap.size, 0, none⟩ = some (S m.type) := B1.cell rfl
          have k1 : w3.cell? ⟨w.heap.size, 1, none⟩ = some (S m.sub) := B1.cell rfl
          have k2 : w3.cell? ⟨w.heap.size, 2, none⟩ = some (.slice A m.params.length cap) := B1.cell rfl
          go_wp2_with fail
          refine (HB1.out _ F1).mono ?_
          rintro e w4 ⟨rfl, f4⟩
          replace F1 := F1.trans f4
          have k0 := f4.cell k0
          have k1 := f4.cell k1
          have k2 := f4.cell k2
          go_wp2_with fail
          refine (HB2.out _ F1).mono ?_
          rintro e w5 ⟨rfl, f5⟩
          go_wp2
          go_ret
          exact ⟨rfl, F1.trans f5⟩
    · have h5z : (500 : Int) < (b.length : Int) := by omega
      subst hvb
      clear hr hv
      go_enter Tryz.func12, Tryz.ntmps12
      go_wp2_with fail
      refine (HA.out _ (hE.fr F1)).mono ?_
      rintro e w2 ⟨rfl, f2⟩
      have k0 : w2.cell? ⟨w.heap.size, 0, none⟩ = some (S m.type) := (B1.fr f2).cell rfl
      have k1 : w2.cell? ⟨w.heap.size, 1, none⟩ = some (S m.sub) := (B1.fr f2).cell rfl
      have k2 : w2.cell? ⟨w.heap.size, 2, none⟩ = some (.slice A m.params.length cap) := (B1.fr f2).cell rfl
      go_wp2_with fail
      refine (HF.out _ (F1.trans f2)).mono ?_
      rintro e w3 ⟨rfl, f3⟩
      go_wp2_with fail
      refine (HA.out _ (hE.fr ((F1.trans f2).trans f3))).mono ?_
      rintro e w4 ⟨rfl, f4⟩
      go_wp2
      go_ret
      exact ⟨rfl, ((F1.trans f2).trans f3).trans f4⟩
end Go.Proofs.YtogpmgjdmoglkaaGreatDoor
