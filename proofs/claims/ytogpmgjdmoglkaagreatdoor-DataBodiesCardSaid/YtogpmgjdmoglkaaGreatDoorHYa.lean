/- The law DataBodies: the walk. -/
import Derived.Test.YtogpmgjdmoglkaaGreatDoorHXd
import Derived.Test.YtogpmgjdmoglkaaGreatDoorHXe
set_option linter.unusedVariables false
set_option linter.unusedSimpArgs false
namespace Go.Proofs.YtogpmgjdmoglkaaGreatDoor
open Go.RowKit Pu

set_option maxRecDepth 100000 in
set_option maxHeartbeats 40000000 in
theorem bodies_any (l : Bs) (v : Value) (w : World) (hv : RowB v l w) (hE : Env w) : Calls Tryz.prog 6 #[v] w fun e w' => e = .returned (.bool true) ∧ Fr w w' := by
  have HA : Hid (∀ w, Env w → Calls Tryz.prog 13 #[] w fun e w' => e = .returned (.bool true) ∧ Fr w w') := Lib.hid awake17_any
  have HV := Lib.hid hv
  obtain ⟨A, cap, rfl, hcap, hc⟩ := hv
  by_cases h3 : l.length ≤ 300
  · have h3z : decide (300 < (l.length : Int)) = false := decide_eq_false (by omega)
    have HR := Lib.hid hc
    clear hc
    go_enter Tryz.func6, Tryz.ntmps6
    go_wp2_with fail
    refine (HA.out _ hE).mono ?_
    rintro e w1 ⟨rfl, f1⟩
    go_wp2
    go_loopw [3, 26] (fun s i wr => ∃ k : Nat, k ≤ l.length ∧ i = .int .i64 k ∧ s = S ([100, 97, 116, 97, 58, 44] ++ escl (l.take k)) ∧ Fr w wr) (fun _ i _ => l.length - (intOf i).toNat)
    case atStart => exact ⟨0, by omega, rfl, rfl, f1⟩
    case round =>
      obtain ⟨k, hk, rfl, rfl, hf⟩ := hrel
      by_cases hlt : k < l.length
      · obtain ⟨g, off, rfl, hc0⟩ := HR.out k hlt
        have hcell := hf.cell hc0
        have HT := Lib.hid (escl_take l k hlt)
        have hlen := escl_len (l.take k)
        have hlen2 : (l.take k).length = k := by simp; omega
        rw [hlen2] at hlen
        have hu := u8_lt l[k]
        clear hc0 hlen2
        generalize hX : [100, 97, 116, 97, 58, 44] ++ escl (l.take k) = X at *
        have hXl : X.length ≤ 1000 := by rw [← hX]; simp; omega
        have HX := Lib.hid hX
        clear hX hlen
        obtain ⟨y1, hy1⟩ : ∃ y, y = hexL (l[k].toNat / 16) := ⟨_, rfl⟩
        obtain ⟨y2, hy2⟩ : ∃ y, y = hexL (l[k].toNat % 16) := ⟨_, rfl⟩
        have HS : Hid (S (X ++ [37] ++ [y1] ++ [y2]) = S ([100, 97, 116, 97, 58, 44] ++ escl (l.take (k + 1)))) := Lib.hid (by rw [HT.out, ← HX.out, hy1, hy2]; simp [pctl])
        have q1 : IntKind.u8.wrap ((l[k].toNat : Int) / 16 + 1) = (l[k].toNat : Int) / 16 + 1 := u8_wrap _ (by omega) (by omega)
        have q2 : (l[k].toNat : Int) / 16 + 1 ≤ 16 := by omega
        have q3 : 0 ≤ (l[k].toNat : Int) / 16 := by omega
        have q4 : (l[k].toNat : Int) / 16 ≤ (l[k].toNat : Int) / 16 + 1 := by omega
        have q5 : (⟨#[48, 49, 50, 51, 52, 53, 54, 55, 56, 57, 97, 98, 99, 100, 101, 102]⟩ : ByteArray).extract ((l[k].toNat : Int) / 16).toNat ((l[k].toNat : Int) / 16 + 1).toNat = ⟨[y1].toArray⟩ := by
          rw [digitsL_at _ q3 (by omega), hy1]
          rw [show ((l[k].toNat : Int) / 16).toNat = l[k].toNat / 16 by omega]
        have q6 := and15 l[k]
        have q7 : IntKind.u8.wrap ((l[k].toNat : Int) % 16 + 1) = (l[k].toNat : Int) % 16 + 1 := u8_wrap _ (by omega) (by omega)
        have q8 : (l[k].toNat : Int) % 16 + 1 ≤ 16 := by omega
        have q9 : 0 ≤ (l[k].toNat : Int) % 16 := by omega
        have q10 : (l[k].toNat : Int) % 16 ≤ (l[k].toNat : Int) % 16 + 1 := by omega
        have q11 : (⟨#[48, 49, 50, 51, 52, 53, 54, 55, 56, 57, 97, 98, 99, 100, 101, 102]⟩ : ByteArray).extract ((l[k].toNat : Int) % 16).toNat ((l[k].toNat : Int) % 16 + 1).toNat = ⟨[y2].toArray⟩ := by
          rw [digitsL_at _ q9 (by omega), hy2]
          rw [show ((l[k].toNat : Int) % 16).toNat = l[k].toNat % 16 by omega]
        have e1 := cat2 X [37]
        have e2 := cat2 (X ++ [37]) [y1]
        have e3 := cat2 (X ++ [37] ++ [y1]) [y2]
        have n1 : ¬ 9223372036854775807 < X.length + 1 := by omega
        have n2 : ¬ 9223372036854775807 < X.length + 1 + 1 := by omega
        have n3 : ¬ 9223372036854775807 < X.length + 1 + 1 + 1 := by omega
        clear HT HX hy1 hy2 HV HR
        generalize l[k] = c at *
        go_wp2
        go_quiet (fail)
        go_wp2
        exact ⟨⟨k + 1, by omega, by go_num, (congrArg Value.string (cat2 (X ++ [37, y1]) [y2])).trans (by rw [← HS.out]; simp), hf.drewN nq⟩, by simp [intOf]; omega⟩
      · obtain rfl : k = l.length := by omega
        rw [List.take_length]
        have HE1 : Hid (∀ w, Env w → Calls Tryz.prog 14 #[S ([100, 97, 116, 97, 58, 44] ++ escl l), .pointer none] w fun e w' => e = .returned (.tuple #[urlV (plainU (bodyE l)) (.slice none 0 0), .int .i64 0]) ∧ Fr w w') := Lib.hid fun w hE => parse_plain (bodyE l) (by simp [bodyE, escl_len]; omega) (bodyE_all l) (by simp [bodyE]) w hE
        have HL1 : Hid (∀ w, Env w → Calls Tryz.prog 14 #[S ([100, 97, 116, 97, 58, 59, 98, 97, 115, 101, 54, 52, 44] ++ enc64 l), .pointer none] w fun e w' => e = .returned (.tuple #[urlV (plainU (bodyL l)) (.slice none 0 0), .int .i64 0]) ∧ Fr w w') := Lib.hid fun w hE => parse_plain (bodyL l) (by simp [bodyL, enc64_length]; omega) (bodyL_all l) (by simp [bodyL]) w hE
        have HE2 : Hid (∀ w, Env w → Calls Tryz.prog 16 #[urlV (plainU (bodyE l)) (.slice none 0 0)] w fun e w' => ∃ v x, e = .returned (.tuple #[mimeV fallback v, x, .int .i64 0]) ∧ OwnM w v fallback.params w' ∧ OwnS w x l w') := Lib.hid fun w hE => proc_plain (bodyE l) fallback l (by simp [bodyE, escl_len]; omega) (dataOf_E l) w hE
        have HL2 : Hid (∀ w, Env w → Calls Tryz.prog 16 #[urlV (plainU (bodyL l)) (.slice none 0 0)] w fun e w' => ∃ v x, e = .returned (.tuple #[mimeV fallback v, x, .int .i64 0]) ∧ OwnM w v fallback.params w' ∧ OwnS w x l w') := Lib.hid fun w hE => proc_plain (bodyL l) fallback l (by simp [bodyL, enc64_length]; omega) (dataOf_L l) w hE
        have HB : Hid (∀ w2, Fr w w2 → Calls Tryz.prog 24 #[.slice A l.length cap] w2 fun e w' => e = .returned (S (enc64 l)) ∧ Fr w2 w') := Lib.hid fun w2 h2 => rencode_any l (by omega) _ w2 (HV.out.fr h2)
        have HSt : Hid (∀ w2, Fr w w2 → (convert 34 9 (.slice A l.length cap)).run Tryz.prog w2 = .ok (S l) w2) := Lib.hid fun w2 h2 => (HV.out.fr h2).str
        have hel : (enc64 l).length ≤ 1000 := by rw [enc64_length]; omega
        have HSame : Hid (∀ v u w, Row2 v fallback.params w → Row2 u fallback.params w → Calls Tryz.prog 23 #[mimeV fallback v, mimeV fallback u] w fun e w' => e = .returned (.bool true) ∧ Fr w w') := Lib.hid fun v u w h1 h2 => by
          have := same_any fallback fallback (by decide) (by decide) v u w h1 h2
          simpa using this
        have HF := Lib.hid fallback_any
        have hfl : fallback.params.length = 1 := rfl
        generalize plainU (bodyE l) = U1 at *
        generalize plainU (bodyL l) = U2 at *
        generalize fallback = fb at *
        unfold urlV at HE1 HL1 HE2 HL2
        unfold mimeV at HE2 HL2 HF HSame
        generalize [100, 97, 116, 97, 58, 44] ++ escl l = T1 at *
        have hcat := cat2 [100, 97, 116, 97, 58, 59, 98, 97, 115, 101, 54, 52, 44] (enc64 l)
        generalize hT2 : [100, 97, 116, 97, 58, 59, 98, 97, 115, 101, 54, 52, 44] ++ enc64 l = T2 at *
        clear hT2
        generalize enc64 l = El at *
        clear HR HV
        go_wp2_with fail
        refine (HE1.out _ (hE.fr hf)).mono ?_
        rintro e w2 ⟨rfl, f2⟩
        replace f2 := hf.trans f2
        clear HE1 hf f1
        go_wp2_with fail
        have f3 := f2.alloc (Obj.cells #[S U1.scheme, S U1.user, S U1.pass, S U1.host, .bool U1.hasHost, .int .i64 U1.port, .bool U1.opq, S U1.text, .slice none 0 0, .bool U1.hasQuery, .bool U1.hasFrag, S U1.query, S U1.frag] 25)
        have B1 : Blk w2.heap.size #[S U1.scheme, S U1.user, S U1.pass, S U1.host, .bool U1.hasHost, .int .i64 U1.port, .bool U1.opq, S U1.text, .slice none 0 0, .bool U1.hasQuery, .bool U1.hasFrag, S U1.query, S U1.frag] 25 (w2.alloc (Obj.cells #[S U1.scheme, S U1.user, S U1.pass, S U1.host, .bool U1.hasHost, .int .i64 U1.port, .bool U1.opq, S U1.text, .slice none 0 0, .bool U1.hasQuery, .bool U1.hasFrag, S U1.query, S U1.frag] 25)) := ⟨heap_alloc_new w2 _⟩
        generalize w2.alloc _ = w3 at *
        generalize w2.heap.size = b1 at *
        clear f2
        refine (HB.out _ f3).mono ?_
        rintro e w4 ⟨rfl, f4⟩
        replace B1 := B1.fr f4
        replace f4 := f3.trans f4
        clear f3
        go_wp2_with fail
        refine (HL1.out _ (hE.fr f4)).mono ?_
        rintro e w5 ⟨rfl, f5⟩
        replace B1 := B1.fr f5
        replace f5 := f4.trans f5
        clear HL1 HB f4
        have f6 := f5.alloc (Obj.cells #[S U2.scheme, S U2.user, S U2.pass, S U2.host, .bool U2.hasHost, .int .i64 U2.port, .bool U2.opq, S U2.text, .slice none 0 0, .bool U2.hasQuery, .bool U2.hasFrag, S U2.query, S U2.frag] 25)
        have B2 : Blk w5.heap.size #[S U2.scheme, S U2.user, S U2.pass, S U2.host, .bool U2.hasHost, .int .i64 U2.port, .bool U2.opq, S U2.text, .slice none 0 0, .bool U2.hasQuery, .bool U2.hasFrag, S U2.query, S U2.frag] 25 (w5.alloc (Obj.cells #[S U2.scheme, S U2.user, S U2.pass, S U2.host, .bool U2.hasHost, .int .i64 U2.port, .bool U2.opq, S U2.text, .slice none 0 0, .bool U2.hasQuery, .bool U2.hasFrag, S U2.query, S U2.frag] 25)) := ⟨heap_alloc_new w5 _⟩
        replace B1 := B1.fr ((Fr.refl w5).alloc (Obj.cells #[S U2.scheme, S U2.user, S U2.pass, S U2.host, .bool U2.hasHost, .int .i64 U2.port, .bool U2.opq, S U2.text, .slice none 0 0, .bool U2.hasQuery, .bool U2.hasFrag, S U2.query, S U2.frag] 25))
        have k0 : (w5.alloc (Obj.cells #[S U2.scheme, S U2.user, S U2.pass, S U2.host, .bool U2.hasHost, .int .i64 U2.port, .bool U2.opq, S U2.text, .slice none 0 0, .bool U2.hasQuery, .bool U2.hasFrag, S U2.query, S U2.frag] 25)).cell? ⟨b1, 0, none⟩ = some (S U1.scheme) := B1.cell rfl
        have k1 : (w5.alloc (Obj.cells #[S U2.scheme, S U2.user, S U2.pass, S U2.host, .bool U2.hasHost, .int .i64 U2.port, .bool U2.opq, S U2.text, .slice none 0 0, .bool U2.hasQuery, .bool U2.hasFrag, S U2.query, S U2.frag] 25)).cell? ⟨b1, 1, none⟩ = some (S U1.user) := B1.cell rfl
        have k2 : (w5.alloc (Obj.cells #[S U2.scheme, S U2.user, S U2.pass, S U2.host, .bool U2.hasHost, .int .i64 U2.port, .bool U2.opq, S U2.text, .slice none 0 0, .bool U2.hasQuery, .bool U2.hasFrag, S U2.query, S U2.frag] 25)).cell? ⟨b1, 2, none⟩ = some (S U1.pass) := B1.cell rfl
        have k3 : (w5.alloc (Obj.cells #[S U2.scheme, S U2.user, S U2.pass, S U2.host, .bool U2.hasHost, .int .i64 U2.port, .bool U2.opq, S U2.text, .slice none 0 0, .bool U2.hasQuery, .bool U2.hasFrag, S U2.query, S U2.frag] 25)).cell? ⟨b1, 3, none⟩ = some (S U1.host) := B1.cell rfl
        have k4 : (w5.alloc (Obj.cells #[S U2.scheme, S U2.user, S U2.pass, S U2.host, .bool U2.hasHost, .int .i64 U2.port, .bool U2.opq, S U2.text, .slice none 0 0, .bool U2.hasQuery, .bool U2.hasFrag, S U2.query, S U2.frag] 25)).cell? ⟨b1, 4, none⟩ = some (.bool U1.hasHost) := B1.cell rfl
        have k5 : (w5.alloc (Obj.cells #[S U2.scheme, S U2.user, S U2.pass, S U2.host, .bool U2.hasHost, .int .i64 U2.port, .bool U2.opq, S U2.text, .slice none 0 0, .bool U2.hasQuery, .bool U2.hasFrag, S U2.query, S U2.frag] 25)).cell? ⟨b1, 5, none⟩ = some (.int .i64 U1.port) := B1.cell rfl
        have k6 : (w5.alloc (Obj.cells #[S U2.scheme, S U2.user, S U2.pass, S U2.host, .bool U2.hasHost, .int .i64 U2.port, .bool U2.opq, S U2.text, .slice none 0 0, .bool U2.hasQuery, .bool U2.hasFrag, S U2.query, S U2.frag] 25)).cell? ⟨b1, 6, none⟩ = some (.bool U1.opq) := B1.cell rfl
        have k7 : (w5.alloc (Obj.cells #[S U2.scheme, S U2.user, S U2.pass, S U2.host, .bool U2.hasHost, .int .i64 U2.port, .bool U2.opq, S U2.text, .slice none 0 0, .bool U2.hasQuery, .bool U2.hasFrag, S U2.query, S U2.frag] 25)).cell? ⟨b1, 7, none⟩ = some (S U1.text) := B1.cell rfl
        have k8 : (w5.alloc (Obj.cells #[S U2.scheme, S U2.user, S U2.pass, S U2.host, .bool U2.hasHost, .int .i64 U2.port, .bool U2.opq, S U2.text, .slice none 0 0, .bool U2.hasQuery, .bool U2.hasFrag, S U2.query, S U2.frag] 25)).cell? ⟨b1, 8, none⟩ = some (.slice none 0 0) := B1.cell rfl
        have k9 : (w5.alloc (Obj.cells #[S U2.scheme, S U2.user, S U2.pass, S U2.host, .bool U2.hasHost, .int .i64 U2.port, .bool U2.opq, S U2.text, .slice none 0 0, .bool U2.hasQuery, .bool U2.hasFrag, S U2.query, S U2.frag] 25)).cell? ⟨b1, 9, none⟩ = some (.bool U1.hasQuery) := B1.cell rfl
        have k10 : (w5.alloc (Obj.cells #[S U2.scheme, S U2.user, S U2.pass, S U2.host, .bool U2.hasHost, .int .i64 U2.port, .bool U2.opq, S U2.text, .slice none 0 0, .bool U2.hasQuery, .bool U2.hasFrag, S U2.query, S U2.frag] 25)).cell? ⟨b1, 10, none⟩ = some (.bool U1.hasFrag) := B1.cell rfl
        have k11 : (w5.alloc (Obj.cells #[S U2.scheme, S U2.user, S U2.pass, S U2.host, .bool U2.hasHost, .int .i64 U2.port, .bool U2.opq, S U2.text, .slice none 0 0, .bool U2.hasQuery, .bool U2.hasFrag, S U2.query, S U2.frag] 25)).cell? ⟨b1, 11, none⟩ = some (S U1.query) := B1.cell rfl
        have k12 : (w5.alloc (Obj.cells #[S U2.scheme, S U2.user, S U2.pass, S U2.host, .bool U2.hasHost, .int .i64 U2.port, .bool U2.opq, S U2.text, .slice none 0 0, .bool U2.hasQuery, .bool U2.hasFrag, S U2.query, S U2.frag] 25)).cell? ⟨b1, 12, none⟩ = some (S U1.frag) := B1.cell rfl
        go_wp2_with fail
        clear k0 k1 k2 k3 k4 k5 k6 k7 k8 k9 k10 k11 k12 B1
        generalize w5.alloc _ = w6 at *
        generalize w5.heap.size = b2 at *
        clear f5
        refine (HE2.out _ (hE.fr f6)).mono ?_
        rintro e w7 ⟨v1, x1, rfl, om1, ox1⟩
        replace B2 := B2.fr om1.fr
        have f7 := f6.trans om1.fr
        clear HE2 f6
        obtain ⟨A1, cap1, rfl⟩ := om1.slice
        obtain ⟨A2, cap2, rfl⟩ := ox1.slice
        have r1 := om1.row
        rw [hfl] at r1 ⊢
        have hm1 := (Fr.refl w7).alloc (Obj.cells #[S fb.type, S fb.sub, .slice A1 1 cap1] 33)
        have M1 : Blk w7.heap.size #[S fb.type, S fb.sub, .slice A1 1 cap1] 33 (w7.alloc (Obj.cells #[S fb.type, S fb.sub, .slice A1 1 cap1] 33)) := ⟨heap_alloc_new w7 _⟩
        replace B2 := B2.fr hm1
        have k0 : (w7.alloc (Obj.cells #[S fb.type, S fb.sub, .slice A1 1 cap1] 33)).cell? ⟨b2, 0, none⟩ = some (S U2.scheme) := B2.cell rfl
        have k1 : (w7.alloc (Obj.cells #[S fb.type, S fb.sub, .slice A1 1 cap1] 33)).cell? ⟨b2, 1, none⟩ = some (S U2.user) := B2.cell rfl
        have k2 : (w7.alloc (Obj.cells #[S fb.type, S fb.sub, .slice A1 1 cap1] 33)).cell? ⟨b2, 2, none⟩ = some (S U2.pass) := B2.cell rfl
        have k3 : (w7.alloc (Obj.cells #[S fb.type, S fb.sub, .slice A1 1 cap1] 33)).cell? ⟨b2, 3, none⟩ = some (S U2.host) := B2.cell rfl
        have k4 : (w7.alloc (Obj.cells #[S fb.type, S fb.sub, .slice A1 1 cap1] 33)).cell? ⟨b2, 4, none⟩ = some (.bool U2.hasHost) := B2.cell rfl
        have k5 : (w7.alloc (Obj.cells #[S fb.type, S fb.sub, .slice A1 1 cap1] 33)).cell? ⟨b2, 5, none⟩ = some (.int .i64 U2.port) := B2.cell rfl
        have k6 : (w7.alloc (Obj.cells #[S fb.type, S fb.sub, .slice A1 1 cap1] 33)).cell? ⟨b2, 6, none⟩ = some (.bool U2.opq) := B2.cell rfl
        have k7 : (w7.alloc (Obj.cells #[S fb.type, S fb.sub, .slice A1 1 cap1] 33)).cell? ⟨b2, 7, none⟩ = some (S U2.text) := B2.cell rfl
        have k8 : (w7.alloc (Obj.cells #[S fb.type, S fb.sub, .slice A1 1 cap1] 33)).cell? ⟨b2, 8, none⟩ = some (.slice none 0 0) := B2.cell rfl
        have k9 : (w7.alloc (Obj.cells #[S fb.type, S fb.sub, .slice A1 1 cap1] 33)).cell? ⟨b2, 9, none⟩ = some (.bool U2.hasQuery) := B2.cell rfl
        have k10 : (w7.alloc (Obj.cells #[S fb.type, S fb.sub, .slice A1 1 cap1] 33)).cell? ⟨b2, 10, none⟩ = some (.bool U2.hasFrag) := B2.cell rfl
        have k11 : (w7.alloc (Obj.cells #[S fb.type, S fb.sub, .slice A1 1 cap1] 33)).cell? ⟨b2, 11, none⟩ = some (S U2.query) := B2.cell rfl
        have k12 : (w7.alloc (Obj.cells #[S fb.type, S fb.sub, .slice A1 1 cap1] 33)).cell? ⟨b2, 12, none⟩ = some (S U2.frag) := B2.cell rfl
        go_wp2_with fail
        clear k0 k1 k2 k3 k4 k5 k6 k7 k8 k9 k10 k11 k12 B2
        replace r1 := r1.fr hm1
        have o1 := ox1.step hm1
        have f8 := f7.trans hm1
        clear om1 ox1 f7 hm1
        generalize w7.alloc _ = w8 at *
        generalize w7.heap.size = b3 at *
        refine (HL2.out _ (hE.fr f8)).mono ?_
        rintro e w9 ⟨v2, x2, rfl, om2, ox2⟩
        clear HL2
        obtain ⟨A3, cap3, rfl⟩ := om2.slice
        obtain ⟨A4, cap4, rfl⟩ := ox2.slice
        have r2 := om2.row
        rw [hfl] at r2 ⊢
        have f9 := f8.trans om2.fr
        replace M1 := M1.fr om2.fr
        replace r1 := r1.fr om2.fr
        have hm2 := (Fr.refl w9).alloc (Obj.cells #[S fb.type, S fb.sub, .slice A3 1 cap3] 33)
        have M2 : Blk w9.heap.size #[S fb.type, S fb.sub, .slice A3 1 cap3] 33 (w9.alloc (Obj.cells #[S fb.type, S fb.sub, .slice A3 1 cap3] 33)) := ⟨heap_alloc_new w9 _⟩
        have s1 := (o1.step (om2.fr.trans hm2.drew)).str
        have s2 := (ox2.step hm2.drew).str
        have s0 := HSt.out _ (f9.trans hm2.drew)
        replace M1 := M1.fr hm2
        replace r1 := r1.fr hm2
        replace r2 := r2.fr hm2
        replace f9 := f9.trans hm2
        clear om2 ox2 o1 hm2 f8 HSt
        go_wp2
        generalize w9.alloc _ = W at *
        generalize w9.heap.size = b4 at *
        have k0 : W.drew.cell? ⟨b3, 0, none⟩ = some (S fb.type) := M1.cell rfl
        have k1 : W.drew.cell? ⟨b3, 1, none⟩ = some (S fb.sub) := M1.cell rfl
        have k2 : W.drew.cell? ⟨b3, 2, none⟩ = some (.slice A1 1 cap1) := M1.cell rfl
        have k3 : W.drew.cell? ⟨b4, 0, none⟩ = some (S fb.type) := M2.cell rfl
        have k4 : W.drew.cell? ⟨b4, 1, none⟩ = some (S fb.sub) := M2.cell rfl
        have k5 : W.drew.cell? ⟨b4, 2, none⟩ = some (.slice A3 1 cap3) := M2.cell rfl
        clear M1 M2
        go_region_law (first
          | (go_simp; go_at_call 19; refine (HF.out _).mono ?_; rintro e w10 ⟨v10, rfl, o10⟩; have g10 := o10.fr; obtain ⟨A10, cap10, rfl⟩ := o10.slice; have q10 := o10.row; rw [hfl] at q10 ⊢; have k0 := g10.cell k0; have k1 := g10.cell k1; have k2 := g10.cell k2; have k3 := g10.cell k3; have k4 := g10.cell k4; have k5 := g10.cell k5)
          | (go_simp; go_at_call 23; refine (HSame.out _ _ _ (by first | exact r1.fr (by repeat (first | exact Fr.refl _ | assumption | refine Fr.drew ?_ | refine Fr.drewN ?_ _ | refine Fr.alloc ?_ _ | refine Fr.trans ?_ (by assumption))) | exact r2.fr (by repeat (first | exact Fr.refl _ | assumption | refine Fr.drew ?_ | refine Fr.drewN ?_ _ | refine Fr.alloc ?_ _ | refine Fr.trans ?_ (by assumption)))) (by exact q10.fr (by repeat (first | exact Fr.refl _ | assumption | refine Fr.drew ?_ | refine Fr.drewN ?_ _ | refine Fr.alloc ?_ _ | refine Fr.trans ?_ (by assumption))))).mono ?_; rintro e w11 ⟨rfl, g11⟩; have k0 := g11.cell k0; have k1 := g11.cell k1; have k2 := g11.cell k2; have k3 := g11.cell k3; have k4 := g11.cell k4; have k5 := g11.cell k5))
        all_goals
          go_wp2
          go_ret
          exact ⟨rfl, (by repeat (first | exact Fr.refl _ | assumption | refine Fr.drew ?_ | refine Fr.drewN ?_ _ | refine Fr.alloc ?_ _ | refine Fr.trans ?_ (by assumption)))⟩
  · have h3z : (300 : Int) < (l.length : Int) := by omega
    clear hc
    go_enter Tryz.func6, Tryz.ntmps6
    go_wp2_with fail
    refine (HA.out _ hE).mono ?_
    rintro e w1 ⟨rfl, f1⟩
    go_wp2_with fail
    refine (HA.out _ (hE.fr f1)).mono ?_
    rintro e w2 ⟨rfl, f2⟩
    go_wp2
    go_ret
    exact ⟨rfl, f1.trans f2⟩
end Go.Proofs.YtogpmgjdmoglkaaGreatDoor
