/- Walks: layer 18: build.Build. -/
import Derived.Test.YtogpmgjdmoglkaaGreatDoorHXb
import Derived.Test.YtogpmgjdmoglkaaGreatDoorHXc
import Derived.Test.YtogpmgjdmoglkaaGreatDoorHXe
import Derived.Test.YtogpmgjdmoglkaaGreatDoorHPu22
set_option linter.unusedVariables false
set_option linter.unusedSimpArgs false
namespace Go.Proofs.YtogpmgjdmoglkaaGreatDoor
open Go.RowKit Pu

theorem mprint_le (m : Mime) (h : ShortM m) : (mprint m).length ≤ 90000000000 := by
  have h1 := h.type; have h2 := h.sub; have h3 := h.n
  have h4 := pprint_le m.params h.par
  unfold mprint essence
  simp at h4 ⊢; omega
/-- What is behind data: in a data URL that was built, cleaned. -/
def tailOf (m : Mime) (b : Bs) (letters : Bool) : Bs := (cleanL (dataText m b letters)).drop 5
theorem tail_of (m : Mime) (b : Bs) (letters : Bool) (hr : mright m = true) : cleanL (dataText m b letters) = sData ++ 58 :: tailOf m b letters ∧ (tailOf m b letters).head? ≠ some 47 := by
  obtain ⟨r, h1, h2⟩ := text_head m b letters hr
  have : tailOf m b letters = r := by unfold tailOf; rw [h1]; rfl
  rw [this]; exact ⟨h1, h2⟩
theorem tail_len (m : Mime) (b : Bs) (letters : Bool) : (tailOf m b letters).length ≤ 4 * (dataText m b letters).length := by
  have := cleanL_len (dataText m b letters)
  unfold tailOf
  simp; omega
/-- What is built, without a parser. -/
def buildD (m : Mime) (b : Bs) (letters : Bool) : Bs × Nat :=
  if mright m = false then ([], 1)
  else if 65536 < (dataText m b letters).length then ([], 3)
  else if process (dataUrl (tailOf m b letters)) = some (m, b) then (dataText m b letters, 0) else ([], 2)
theorem buildD_eq (H : Bs → Bool → Option Bs) (m : Mime) (b : Bs) (letters : Bool) : buildOf H m b letters = ((buildD m b letters).1, ((buildD m b letters).2 : Int)) := by
  unfold buildOf buildD
  cases hr : mright m with
  | false => simp
  | true =>
    obtain ⟨h1, h2⟩ := tail_of m b letters hr
    rw [h1, parse_dataUrl H _ h2]
    simp only [Bool.true_eq_false, if_false]
    split
    · rfl
    · split <;> rfl
theorem procOf_data (r : Bs) : procOf (dataUrl r) = match process (dataUrl r) with | some (m, b) => (0, m, b) | none => (2, {}, []) := by
  unfold procOf
  rw [if_pos (show (dataUrl r).scheme = sData from rfl)]
  rfl
set_option maxRecDepth 100000 in
set_option maxHeartbeats 40000000 in
theorem bbuild_any (m : Mime) (hm : ShortM m) (b : Bs) (hb : b.length ≤ 1000000) (letters : Bool) (A : Option Addr) (cap : Nat) (hcap : m.params.length ≤ cap) (vb : Value) (w : World) (hE : Env w) (hr : Row2 (.slice A m.params.length cap) m.params w) (hv : RowB vb b w) :
    Calls Tryz.prog 28 #[mimeV m (.slice A m.params.length cap), vb, .bool letters] w fun e w' => e = .returned (.tuple #[S (buildD m b letters).1, .int .i64 ((buildD m b letters).2 : Int)]) ∧ Fr w w' := by
  have HRt : Hid (∀ w2, Fr w w2 → Calls Tryz.prog 62 #[mimeV m (.slice A m.params.length cap)] w2 fun e w' => e = .returned (.bool (mright m)) ∧ Fr w2 w') := Lib.hid fun w2 h2 => mright_any m hm A cap hcap w2 (hE.fr h2) (hr.fr h2)
  have HPr : Hid (∀ w2, Fr w w2 → Calls Tryz.prog 63 #[mimeV m (.slice A m.params.length cap)] w2 fun e w' => e = .returned (S (mprint m)) ∧ Fr w2 w') := Lib.hid fun w2 h2 => mprint_any m hm _ w2 (hr.fr h2)
  have HEn : Hid (∀ w2, Fr w w2 → Calls Tryz.prog 64 #[vb] w2 fun e w' => e = .returned (S (enc64 b)) ∧ Fr w2 w') := Lib.hid fun w2 h2 => benc_any b (by omega) vb w2 (hv.fr h2)
  have HEs : Hid (∀ w2, Fr w w2 → Calls Tryz.prog 65 #[vb] w2 fun e w' => e = .returned (S (escaped b)) ∧ Fr w2 w') := Lib.hid fun w2 h2 => escaped_any b (by omega) vb w2 (hv.fr h2)
  have hpl := mprint_le m hm
  have hel : (enc64 b).length ≤ 2000000 := by rw [enc64_length]; omega
  have hsl : (escaped b).length ≤ 3000000 := by have := escaped_le b; omega
  unfold mimeV at HRt HPr ⊢
  have F1 : Fr w (w.alloc (Obj.cells #[S m.type, S m.sub, .slice A m.params.length cap] 33)) := (Fr.refl w).alloc _
  have B1 : Blk w.heap.size #[S m.type, S m.sub, .slice A m.params.length cap] 33 (w.alloc (Obj.cells #[S m.type, S m.sub, .slice A m.params.length cap] 33)) := ⟨heap_alloc_new w _⟩
  cases hmr : mright m with
  | false =>
    have HB : Hid (buildD m b letters = ([], 1)) := Lib.hid (by unfold buildD; rw [if_pos hmr])
    rw [HB.out]
    rw [hmr] at HRt
    go_enter Tryz.func28, Tryz.ntmps28
    go_wp2_with fail
    refine (HRt.out _ F1).mono ?_
    rintro e w2 ⟨rfl, f2⟩
    go_wp2
    go_ret2
    exact ⟨rfl, F1.trans f2⟩
  | true =>
    rw [hmr] at HRt
    obtain ⟨hcl, hhd⟩ := tail_of m b letters hmr
    have htl := tail_len m b letters
    have HB : Hid (buildD m b letters = if 65536 < (dataText m b letters).length then ([], 3) else if process (dataUrl (tailOf m b letters)) = some (m, b) then (dataText m b letters, 0) else ([], 2)) := Lib.hid (by unfold buildD; rw [if_neg (by simp [hmr])])
    have HT : Hid (dataText m b letters = [100, 97, 116, 97, 58] ++ mprint m ++ (if letters then [59, 98, 97, 115, 101, 54, 52, 44] ++ enc64 b else 44 :: escaped b)) := Lib.hid (by unfold dataText dataTail sB64; simp [sData])
    have HPa : Hid ((dataText m b letters).length ≤ 65536 → ∀ w, Env w → Calls Tryz.prog 14 #[S (dataText m b letters), .pointer none] w fun e w' => e = .returned (.tuple #[urlV (dataUrl (tailOf m b letters)) (.slice none 0 0), .int .i64 0]) ∧ Fr w w') := Lib.hid fun hl w hE => parse_data _ _ hl hcl hhd w hE
    have HPo : Hid ((dataText m b letters).length ≤ 65536 → ∀ w, Env w → Calls Tryz.prog 16 #[urlV (dataUrl (tailOf m b letters)) (.slice none 0 0)] w (ProcPost (dataUrl (tailOf m b letters)) w)) := Lib.hid fun hl w hE => process_any _ (dataUrl_short _ (by omega)) (dataUrl_bare _ (by omega)) _ w hE (Row1.nil w)
    have HX := Lib.hid (procOf_data (tailOf m b letters))
    have HNl : Hid ((dataText m b letters).length ≤ 65536 → ∀ n c, process (dataUrl (tailOf m b letters)) = some (n, c) → n.params.length ≤ 1000000000) := Lib.hid fun hl n c h => by
      have h1 := process_len _ n c h
      have h2 := dataUrl_bare (tailOf m b letters) (by omega)
      omega
    clear hcl hhd htl
    generalize buildD m b letters = R at *
    generalize dataText m b letters = T at *
    generalize dataUrl (tailOf m b letters) = U at *
    unfold urlV at HPa HPo
    have HSame : Hid (∀ n v w2, Fr w w2 → Row2 v (n : Mime).params w2 → n.params.length ≤ 1000000000 → Calls Tryz.prog 23 #[.agg #[S n.type, S n.sub, v], .agg #[S m.type, S m.sub, .slice A m.params.length cap]] w2 fun e w' => e = .returned (.bool (decide (n = m))) ∧ Fr w2 w') := Lib.hid fun n v w2 h2 hrow hl => same_any n m hl (by have := hm.n; omega) v _ w2 hrow (hr.fr h2)
    have HVb : Hid (∀ w2, Fr w w2 → (convert 34 9 vb).run Tryz.prog w2 = .ok (S b) w2) := Lib.hid fun w2 h2 => (hv.fr h2).str
    have hL := hm.n
    clear hr hv
    cases letters with
    | false =>
      have HT2 : Hid (T = 100 :: 97 :: 116 :: 97 :: 58 :: (mprint m ++ 44 :: escaped b)) := Lib.hid (by rw [HT.out]; simp)
      clear HT HEn
      generalize mprint m = Pm at *
      generalize escaped b = Eb at *
      have e1 := cat2 [100, 97, 116, 97, 58] Pm
      have e2 := cat2 [44] Eb
      have e3 : (⟨(100 :: 97 :: 116 :: 97 :: 58 :: Pm).toArray⟩ : ByteArray) ++ ⟨(44 :: Eb).toArray⟩ = ⟨T.toArray⟩ := by rw [cat2, HT2.out]; simp
      go_enter Tryz.func28, Tryz.ntmps28
      go_wp2_with fail
      refine (HRt.out _ F1).mono ?_
      rintro e w2 ⟨rfl, f2⟩
      have k0 : w2.cell? ⟨w.heap.size, 0, none⟩ = some (S m.type) := (B1.fr f2).cell rfl
      have k1 : w2.cell? ⟨w.heap.size, 1, none⟩ = some (S m.sub) := (B1.fr f2).cell rfl
      have k2 : w2.cell? ⟨w.heap.size, 2, none⟩ = some (.slice A m.params.length cap) := (B1.fr f2).cell rfl
      go_wp2_with fail
      refine (HPr.out _ (F1.trans f2)).mono ?_
      rintro e w3 ⟨rfl, f3⟩
      replace B1 := (B1.fr f2).fr f3
      replace F1 := (F1.trans f2).trans f3
      clear k0 k1 k2 f2 f3 HRt HPr
      go_wp2_with fail
      refine (HEs.out _ F1).mono ?_
      rintro e w4 ⟨rfl, f4⟩
      replace B1 := B1.fr f4
      replace F1 := F1.trans f4
      clear f4 HEs
      have HT3 := HT2
      clear HT2
      by_cases hlong : 65536 < T.length
      · have hl2 : (65536 : Int) < (T.length : Int) := by omega
        have HR : Hid (R = ([], 3)) := Lib.hid (by rw [HB.out, if_pos hlong])
        clear HB HPa HPo
        go_wp2
        go_ret2
        exact ⟨by rw [HR.out]; rfl, F1⟩
      · have hl2 : decide ((65536 : Int) < (T.length : Int)) = false := decide_eq_false (by omega)
        have hl3 : T.length ≤ 65536 := by omega
        have HR : Hid (R = if process U = some (m, b) then (T, 0) else ([], 2)) := Lib.hid (by rw [HB.out, if_neg hlong])
        have HPa2 := Lib.hid (HPa.out hl3)
        have HPo2 := Lib.hid (HPo.out hl3)
        clear HB HPa HPo hlong HT3
        go_wp2_with fail
        refine (HPa2.out _ (hE.fr F1)).mono ?_
        rintro e w5 ⟨rfl, f5⟩
        replace B1 := B1.fr f5
        replace F1 := F1.trans f5
        clear f5 HPa2
        go_wp2_with fail
        have f6 : Fr w5 (w5.alloc (Obj.cells #[S U.scheme, S U.user, S U.pass, S U.host, .bool U.hasHost, .int .i64 U.port, .bool U.opq, S U.text, .slice none 0 0, .bool U.hasQuery, .bool U.hasFrag, S U.query, S U.frag] 25)) := (Fr.refl w5).alloc _
        replace B1 := B1.fr f6
        replace F1 := F1.trans f6
        refine (HPo2.out _ (hE.fr F1)).mono ?_
        clear HPo2
        intro e w6 hpost
        unfold ProcPost at hpost
        rw [HX.out] at hpost
        clear f6
        generalize w5.alloc (Obj.cells #[S U.scheme, S U.user, S U.pass, S U.host, .bool U.hasHost, .int .i64 U.port, .bool U.opq, S U.text, .slice none 0 0, .bool U.hasQuery, .bool U.hasFrag, S U.query, S U.frag] 25) = w5b at *
        cases hproc : process U with
        | none =>
          rw [hproc] at hpost
          obtain ⟨v1, x1, rfl, om, ox⟩ := hpost
          obtain ⟨A1, cap1, rfl⟩ := om.slice
          obtain ⟨A2, cap2, rfl⟩ := ox.slice
          have HR2 : Hid (R = ([], 2)) := Lib.hid (by rw [HR.out, hproc]; rfl)
          have F2 := F1.trans om.fr
          clear HR hproc om ox
          unfold mimeV
          go_wp2
          go_ret2
          exact ⟨by rw [HR2.out]; rfl, F2.alloc _⟩
        | some q =>
          obtain ⟨n, c⟩ := q
          rw [hproc] at hpost
          have hpost : ∃ v x, e = .returned (.tuple #[mimeV n v, x, .int .i64 0]) ∧ OwnM w5b v n.params w6 ∧ OwnS w5b x c w6 := hpost
          obtain ⟨v1, x1, rfl, om, ox⟩ := hpost
          obtain ⟨A1, cap1, rfl⟩ := om.slice
          obtain ⟨A2, cap2, rfl⟩ := ox.slice
          have F2 := F1.trans om.fr
          have hNl := HNl.out hl3 n c hproc
          have HR2 : Hid (R = if (n = m ∧ c = b) then (T, 0) else ([], 2)) := Lib.hid (by rw [HR.out, hproc]; simp)
          have f7 : Fr w6 (w6.alloc (Obj.cells #[S n.type, S n.sub, .slice A1 n.params.length cap1] 33)) := (Fr.refl w6).alloc _
          have r1 := om.row.fr f7
          have B2 := (B1.fr om.fr).fr f7
          have ox2 := ox.step f7
          have F3 := F2.trans f7
          have k0 : (w6.alloc (Obj.cells #[S n.type, S n.sub, .slice A1 n.params.length cap1] 33)).cell? ⟨w.heap.size, 0, none⟩ = some (S m.type) := B2.cell rfl
          have k1 : (w6.alloc (Obj.cells #[S n.type, S n.sub, .slice A1 n.params.length cap1] 33)).cell? ⟨w.heap.size, 1, none⟩ = some (S m.sub) := B2.cell rfl
          have k2 : (w6.alloc (Obj.cells #[S n.type, S n.sub, .slice A1 n.params.length cap1] 33)).cell? ⟨w.heap.size, 2, none⟩ = some (.slice A m.params.length cap) := B2.cell rfl
          clear HX HR hproc B1 om ox F1 F2 HNl
          unfold mimeV
          go_wp2_with fail
          refine (HSame.out n _ _ F3 r1 hNl).mono ?_
          by_cases hnm : n = m
          · rw [decide_eq_true hnm]
            rintro e w8 ⟨rfl, f8⟩
            clear HSame k0 k1 k2
            go_wp2_with fail
            refine (bequal_any c b _ _ _ (ox2.step f8).str (HVb.out _ (F3.trans f8))).mono ?_
            by_cases hcb : c = b
            · have HR3 : Hid (R = (T, 0)) := Lib.hid (by rw [HR2.out, if_pos ⟨hnm, hcb⟩])
              rw [show (c == b) = true from by simp [hcb]]
              rintro e w9 ⟨rfl, f9⟩
              clear hcb hnm HR2
              go_wp2
              go_ret2
              exact ⟨by rw [HR3.out]; rfl, (F3.trans f8).trans f9⟩
            · have HR3 : Hid (R = ([], 2)) := Lib.hid (by rw [HR2.out, if_neg (fun h => hcb h.2)])
              rw [show (c == b) = false from by simp [hcb]]
              rintro e w9 ⟨rfl, f9⟩
              clear hcb hnm HR2
              go_wp2
              go_ret2
              exact ⟨by rw [HR3.out]; rfl, (F3.trans f8).trans f9⟩
          · have HR3 : Hid (R = ([], 2)) := Lib.hid (by rw [HR2.out, if_neg (fun h => hnm h.1)])
            rw [decide_eq_false hnm]
            rintro e w8 ⟨rfl, f8⟩
            clear hnm HR2
            go_wp2
            go_ret2
            exact ⟨by rw [HR3.out]; rfl, F3.trans f8⟩
    | true =>
      have HT2 : Hid (T = 100 :: 97 :: 116 :: 97 :: 58 :: (mprint m ++ 59 :: 98 :: 97 :: 115 :: 101 :: 54 :: 52 :: 44 :: enc64 b)) := Lib.hid (by rw [HT.out]; simp)
      clear HT HEs
      generalize mprint m = Pm at *
      generalize enc64 b = Eb at *
      have e1 := cat2 [100, 97, 116, 97, 58] Pm
      have e2 := cat2 [59, 98, 97, 115, 101, 54, 52, 44] Eb
      have e3 : (⟨(100 :: 97 :: 116 :: 97 :: 58 :: Pm).toArray⟩ : ByteArray) ++ ⟨(59 :: 98 :: 97 :: 115 :: 101 :: 54 :: 52 :: 44 :: Eb).toArray⟩ = ⟨T.toArray⟩ := by rw [cat2, HT2.out]; simp
      go_enter Tryz.func28, Tryz.ntmps28
      go_wp2_with fail
      refine (HRt.out _ F1).mono ?_
      rintro e w2 ⟨rfl, f2⟩
      have k0 : w2.cell? ⟨w.heap.size, 0, none⟩ = some (S m.type) := (B1.fr f2).cell rfl
      have k1 : w2.cell? ⟨w.heap.size, 1, none⟩ = some (S m.sub) := (B1.fr f2).cell rfl
      have k2 : w2.cell? ⟨w.heap.size, 2, none⟩ = some (.slice A m.params.length cap) := (B1.fr f2).cell rfl
      go_wp2_with fail
      refine (HPr.out _ (F1.trans f2)).mono ?_
      rintro e w3 ⟨rfl, f3⟩
      replace B1 := (B1.fr f2).fr f3
      replace F1 := (F1.trans f2).trans f3
      clear k0 k1 k2 f2 f3 HRt HPr
      go_wp2_with fail
      refine (HEn.out _ F1).mono ?_
      rintro e w4 ⟨rfl, f4⟩
      replace B1 := B1.fr f4
      replace F1 := F1.trans f4
      clear f4 HEn
      have HT3 := HT2
      clear HT2
      by_cases hlong : 65536 < T.length
      · have hl2 : (65536 : Int) < (T.length : Int) := by omega
        have HR : Hid (R = ([], 3)) := Lib.hid (by rw [HB.out, if_pos hlong])
        clear HB HPa HPo
        go_wp2
        go_ret2
        exact ⟨by rw [HR.out]; rfl, F1⟩
      · have hl2 : decide ((65536 : Int) < (T.length : Int)) = false := decide_eq_false (by omega)
        have hl3 : T.length ≤ 65536 := by omega
        have HR : Hid (R = if process U = some (m, b) then (T, 0) else ([], 2)) := Lib.hid (by rw [HB.out, if_neg hlong])
        have HPa2 := Lib.hid (HPa.out hl3)
        have HPo2 := Lib.hid (HPo.out hl3)
        clear HB HPa HPo hlong HT3
        go_wp2_with fail
        refine (HPa2.out _ (hE.fr F1)).mono ?_
        rintro e w5 ⟨rfl, f5⟩
        replace B1 := B1.fr f5
        replace F1 := F1.trans f5
        clear f5 HPa2
        go_wp2_with fail
        have f6 : Fr w5 (w5.alloc (Obj.cells #[S U.scheme, S U.user, S U.pass, S U.host, .bool U.hasHost, .int .i64 U.port, .bool U.opq, S U.text, .slice none 0 0, .bool U.hasQuery, .bool U.hasFrag, S U.query, S U.frag] 25)) := (Fr.refl w5).alloc _
        replace B1 := B1.fr f6
        replace F1 := F1.trans f6
        refine (HPo2.out _ (hE.fr F1)).mono ?_
        clear HPo2
        intro e w6 hpost
        unfold ProcPost at hpost
        rw [HX.out] at hpost
        clear f6
        generalize w5.alloc (Obj.cells #[S U.scheme, S U.user, S U.pass, S U.host, .bool U.hasHost, .int .i64 U.port, .bool U.opq, S U.text, .slice none 0 0, .bool U.hasQuery, .bool U.hasFrag, S U.query, S U.frag] 25) = w5b at *
        cases hproc : process U with
        | none =>
          rw [hproc] at hpost
          obtain ⟨v1, x1, rfl, om, ox⟩ := hpost
          obtain ⟨A1, cap1, rfl⟩ := om.slice
          obtain ⟨A2, cap2, rfl⟩ := ox.slice
          have HR2 : Hid (R = ([], 2)) := Lib.hid (by rw [HR.out, hproc]; rfl)
          have F2 := F1.trans om.fr
          clear HR hproc om ox
          unfold mimeV
          go_wp2
          go_ret2
          exact ⟨by rw [HR2.out]; rfl, F2.alloc _⟩
        | some q =>
          obtain ⟨n, c⟩ := q
          rw [hproc] at hpost
          have hpost : ∃ v x, e = .returned (.tuple #[mimeV n v, x, .int .i64 0]) ∧ OwnM w5b v n.params w6 ∧ OwnS w5b x c w6 := hpost
          obtain ⟨v1, x1, rfl, om, ox⟩ := hpost
          obtain ⟨A1, cap1, rfl⟩ := om.slice
          obtain ⟨A2, cap2, rfl⟩ := ox.slice
          have F2 := F1.trans om.fr
          have hNl := HNl.out hl3 n c hproc
          have HR2 : Hid (R = if (n = m ∧ c = b) then (T, 0) else ([], 2)) := Lib.hid (by rw [HR.out, hproc]; simp)
          have f7 : Fr w6 (w6.alloc (Obj.cells #[S n.type, S n.sub, .slice A1 n.params.length cap1] 33)) := (Fr.refl w6).alloc _
          have r1 := om.row.fr f7
          have B2 := (B1.fr om.fr).fr f7
          have ox2 := ox.step f7
          have F3 := F2.trans f7
          have k0 : (w6.alloc (Obj.cells #[S n.type, S n.sub, .slice A1 n.params.length cap1] 33)).cell? ⟨w.heap.size, 0, none⟩ = some (S m.type) := B2.cell rfl
          have k1 : (w6.alloc (Obj.cells #[S n.type, S n.sub, .slice A1 n.params.length cap1] 33)).cell? ⟨w.heap.size, 1, none⟩ = some (S m.sub) := B2.cell rfl
          have k2 : (w6.alloc (Obj.cells #[S n.type, S n.sub, .slice A1 n.params.length cap1] 33)).cell? ⟨w.heap.size, 2, none⟩ = some (.slice A m.params.length cap) := B2.cell rfl
          clear HX HR hproc B1 om ox F1 F2 HNl
          unfold mimeV
          go_wp2_with fail
          refine (HSame.out n _ _ F3 r1 hNl).mono ?_
          by_cases hnm : n = m
          · rw [decide_eq_true hnm]
            rintro e w8 ⟨rfl, f8⟩
            clear HSame k0 k1 k2
            go_wp2_with fail
            refine (bequal_any c b _ _ _ (ox2.step f8).str (HVb.out _ (F3.trans f8))).mono ?_
            by_cases hcb : c = b
            · have HR3 : Hid (R = (T, 0)) := Lib.hid (by rw [HR2.out, if_pos ⟨hnm, hcb⟩])
              rw [show (c == b) = true from by simp [hcb]]
              rintro e w9 ⟨rfl, f9⟩
              clear hcb hnm HR2
              go_wp2
              go_ret2
              exact ⟨by rw [HR3.out]; rfl, (F3.trans f8).trans f9⟩
            · have HR3 : Hid (R = ([], 2)) := Lib.hid (by rw [HR2.out, if_neg (fun h => hcb h.2)])
              rw [show (c == b) = false from by simp [hcb]]
              rintro e w9 ⟨rfl, f9⟩
              clear hcb hnm HR2
              go_wp2
              go_ret2
              exact ⟨by rw [HR3.out]; rfl, (F3.trans f8).trans f9⟩
          · have HR3 : Hid (R = ([], 2)) := Lib.hid (by rw [HR2.out, if_neg (fun h => hnm h.1)])
            rw [decide_eq_false hnm]
            rintro e w8 ⟨rfl, f8⟩
            clear hnm HR2
            go_wp2
            go_ret2
            exact ⟨by rw [HR3.out]; rfl, F3.trans f8⟩
end Go.Proofs.YtogpmgjdmoglkaaGreatDoor
