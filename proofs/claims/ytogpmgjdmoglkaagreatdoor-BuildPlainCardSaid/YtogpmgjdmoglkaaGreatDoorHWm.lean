/- Walks: strings.Cut at one byte; parse.scheme. -/
import Derived.Test.YtogpmgjdmoglkaaGreatDoorHWl
import Derived.Test.YtogpmgjdmoglkaaGreatDoorHPu
set_option linter.unusedVariables false
set_option linter.unusedSimpArgs false
namespace Go.Proofs.YtogpmgjdmoglkaaGreatDoor
open Go.RowKit Pu

theorem cut_eq (c : UInt8) (s : Bs) : Lib.cut s [c] = cutB c s := by
  induction s with
  | nil => simp [Lib.cut, Lib.index, cutB]
  | cons x r ih =>
    have hge := Lib.index_ge r [c]
    by_cases h : c = x
    · subst h
      simp [Lib.cut, Lib.index, cutB]
    · have h1 : [c].isPrefixOf (x :: r) = false := by
        show (c == x && List.isPrefixOf [] r) = false
        simp [h]
      have h2 : ¬ x = c := fun e => h e.symm
      rw [cutB, if_neg h2, ← ih]
      have hidx : Lib.index (x :: r) [c] = if Lib.index r [c] == -1 then -1 else Lib.index r [c] + 1 := by rw [Lib.index, h1]; simp
      unfold Lib.cut
      rw [hidx]
      by_cases h3 : Lib.index r [c] = -1
      · simp [h3]
      · have h4 : (Lib.index r [c] == -1) = false := by simpa using h3
        have h5 : 0 ≤ Lib.index r [c] := by omega
        have h6 : 0 ≤ Lib.index r [c] + 1 := by omega
        have h7 : (Lib.index r [c] + 1).toNat = (Lib.index r [c]).toNat + 1 := by omega
        simp [h4, h5, h6, h7]
theorem cut_any (c : UInt8) (s : Bs) (hl : s.length < 4000000000) (w : World) (hE : Env w) :
    Calls Tryz.prog 34 #[S s, S [c]] w fun e w' => e = .returned (.tuple #[S (cutB c s).1, S (cutB c s).2.1, .bool (cutB c s).2.2]) ∧ Fr w w' := by
  obtain ⟨m, hm⟩ := hE.maxLen
  have := Tryz.strings_Cut ⟨s.toArray⟩ ⟨[c].toArray⟩ m w (by show s.toArray.size < _; simp; omega) hm
  refine this.mono ?_
  rintro e w' ⟨rfl, n, rfl⟩
  have h1 : (⟨s.toArray⟩ : ByteArray).data.toList = s := by simp
  have h2 : (⟨[c].toArray⟩ : ByteArray).data.toList = [c] := by simp
  rw [h1, h2, cut_eq]
  exact ⟨rfl, (Fr.refl _).drewN n⟩

/-- What parse.scheme answers. -/
def schemeP (s : Bs) : Bs × Bs × Bool := match schemeOf s with
  | some (n, r) => (n, r, true)
  | none => ([], s, false)
theorem cutB_len (c : UInt8) (s : Bs) : (cutB c s).1.length ≤ s.length ∧ (cutB c s).2.1.length ≤ s.length := by
  induction s with
  | nil => simp [cutB]
  | cons x r ih =>
    rw [cutB]
    split
    · simp
    · simp; omega
theorem all_take {l : Bs} {p : UInt8 → Bool} (h : ∀ k, (hk : k < l.length) → p l[k] = true) : l.all p = true := by
  rw [List.all_eq_true]
  intro x hx
  obtain ⟨k, hk, rfl⟩ := List.getElem_of_mem hx
  exact h k hk

set_option maxRecDepth 100000 in
set_option maxHeartbeats 2000000 in
theorem scheme_any (s : Bs) (hl : s.length ≤ 1000000) (w : World) (hE : Env w) :
    Calls Tryz.prog 35 #[S s] w fun e w' => e = .returned (.tuple #[S (schemeP s).1, S (schemeP s).2.1, .bool (schemeP s).2.2]) ∧ Fr w w' := by
  have hcut := cut_any 58 s (by omega) w hE
  have hlen := cutB_len 58 s
  have hno : schemeOk (cutB 58 s).1 (cutB 58 s).2.2 = false → Hid (schemeP s = ([], s, false)) := fun h => Lib.hid (by simp [schemeP, schemeOf, h])
  have hyes : schemeOk (cutB 58 s).1 (cutB 58 s).2.2 = true → Hid (schemeP s = (lower (cutB 58 s).1, (cutB 58 s).2.1, true)) := fun h => Lib.hid (by simp [schemeP, schemeOf, h])
  generalize cutB 58 s = cb at *
  obtain ⟨name, rest, ok⟩ := cb
  simp only at hcut hlen hno hyes
  cases ok with
  | false =>
    have H := hno (by simp [schemeOk])
    clear hno hyes
    go_enter Tryz.func35, Tryz.ntmps35
    go_wp2_with (go_at_call 34; refine hcut.mono ?_; rintro e w1 ⟨rfl, hf⟩)
    go_ret3
    rw [H.out]
    exact ⟨rfl, hf⟩
  | true =>
    cases name with
    | nil =>
      have H := hno (by simp [schemeOk])
      clear hno hyes
      go_enter Tryz.func35, Tryz.ntmps35
      go_wp2_with (go_at_call 34; refine hcut.mono ?_; rintro e w1 ⟨rfl, hf⟩)
      go_ret3
      rw [H.out]
      exact ⟨rfl, hf⟩
    | cons c t =>
      have hix := ba_get (c :: t)
      cases hlet : letter (bI c) with
      | false =>
        have H := hno (by simp [schemeOk, hlet])
        clear hno hyes
        simp only [bI] at hlet
        go_enter Tryz.func35, Tryz.ntmps35
        go_wp2_with (first
          | (go_at_call 34; refine hcut.mono ?_; rintro e w1 ⟨rfl, hf⟩)
          | (go_at_call 82; refine (letter_any _ _).mono ?_; rintro e w2 ⟨rfl, rfl⟩; rw [hlet]))
        go_ret3
        rw [H.out]
        exact ⟨rfl, hf⟩
      | true =>
        have HN := Lib.hid hno
        have HY := Lib.hid hyes
        have HL := Lib.hid hlet
        simp only [bI] at hlet
        clear hno hyes
        have HCut := Lib.hid hcut
        go_enter Tryz.func35, Tryz.ntmps35
        go_wp2_with (first
          | (go_at_call 34; refine hcut.mono ?_; rintro e w1 ⟨rfl, hf⟩)
          | (go_at_call 82; refine (letter_any _ _).mono ?_; rintro e w2 ⟨rfl, rfl⟩; rw [hlet]))
        clear hcut hix
        generalize hnm : (c :: t) = name at *
        have hlen2 : name.length = t.length + 1 := by rw [← hnm]; rfl
        go_loopw [31] (fun i wr => ∃ k : Nat, k ≤ name.length ∧ i = .int .i64 k ∧ wr = w1 ∧ Hid (∀ j, (hj : j < name.length) → j < k → schemeCh name[j] = true)) (fun i _ => name.length - (intOf i).toNat)
        case atStart => exact ⟨0, Nat.zero_le _, rfl, rfl, Lib.hid (fun j hj h => by omega)⟩
        case round =>
          obtain ⟨k, hk, rfl, rfl, HA⟩ := hrel
          by_cases hlt : k < name.length
          · have hix := ba_get name
            have hib := indexByte_has [43, 45, 46] name[k]
            have hu := u8_lt name[k]
            have hok : schemeCh name[k] = true → Hid (∀ j, (hj : j < name.length) → j < k + 1 → schemeCh name[j] = true) := fun h => Lib.hid (fun j hj hjk => by
              by_cases e : j = k
              · subst e; exact h
              · exact HA.out j hj (by omega))
            cases h1 : letter (name[k].toNat : Int) with
            | true =>
              have H2 := hok (by simp [schemeCh, bI, h1])
              clear hok hib
              go_wp2_with (first
                | (go_at_call 82; refine (letter_any _ _).mono ?_; rintro e w2 ⟨rfl, rfl⟩; rw [h1]))
              exact ⟨⟨k + 1, by omega, by go_num, by first | rfl | trivial, H2⟩, by simp [intOf]; omega⟩
            | false =>
              cases h2 : digit (name[k].toNat : Int) with
              | true =>
                have H2 := hok (by simp [schemeCh, bI, h2])
                clear hok hib
                go_wp2_with (first
                  | (go_at_call 82; refine (letter_any _ _).mono ?_; rintro e w2 ⟨rfl, rfl⟩; rw [h1])
                  | (go_at_call 83; refine (digit_any _ _).mono ?_; rintro e w2 ⟨rfl, rfl⟩; rw [h2]))
                exact ⟨⟨k + 1, by omega, by go_num, by first | rfl | trivial, H2⟩, by simp [intOf]; omega⟩
              | false =>
                have hch : schemeCh name[k] = [43, 45, 46].contains name[k] := by
                  simp [schemeCh, bI, h1, h2, Bool.or_assoc]
                  rfl
                rw [← hch] at hib
                cases h3 : schemeCh name[k] with
                | true =>
                  have H2 := hok h3
                  rw [h3] at hib
                  have h4 : 0 ≤ Lib.indexByte [43, 45, 46] name[k] := of_decide_eq_true hib
                  have h5 : decide (Lib.indexByte [43, 45, 46] name[k] < 0) = false := decide_eq_false (by omega)
                  clear hok hib hch
                  go_wp2_with (first
                    | (go_at_call 82; refine (letter_any _ _).mono ?_; rintro e w2 ⟨rfl, rfl⟩; rw [h1])
                    | (go_at_call 83; refine (digit_any _ _).mono ?_; rintro e w2 ⟨rfl, rfl⟩; rw [h2])
                    | (go_at_call 84; refine (Tryz.strings_IndexByte _ _ _).mono ?_; rintro e w' ⟨rfl, rfl⟩))
                  exact ⟨⟨k + 1, by omega, by go_num, by first | rfl | trivial, H2⟩, by simp [intOf]; omega⟩
                | false =>
                  rw [h3] at hib
                  have h4 : Lib.indexByte [43, 45, 46] name[k] < 0 := by have := of_decide_eq_false hib; omega
                  have H3 := HN.out (by
                    have : name.all schemeCh = false := by
                      rw [List.all_eq_false]; exact ⟨name[k], List.getElem_mem hlt, by rw [h3]; simp⟩
                    simp [schemeOk, this])
                  clear hok hib hch
                  go_wp2_with (first
                    | (go_at_call 82; refine (letter_any _ _).mono ?_; rintro e w2 ⟨rfl, rfl⟩; rw [h1])
                    | (go_at_call 83; refine (digit_any _ _).mono ?_; rintro e w2 ⟨rfl, rfl⟩; rw [h2])
                    | (go_at_call 84; refine (Tryz.strings_IndexByte _ _ _).mono ?_; rintro e w' ⟨rfl, rfl⟩))
                  go_ret3
                  rw [H3.out]
                  exact ⟨rfl, hf⟩
          · obtain rfl : k = name.length := by omega
            have H3 := HY.out (by
              have h1 : name.all schemeCh = true := all_take fun j hj => HA.out j hj hj
              clear HA HY HN HCut hlen hlen2 hk hlt
              subst hnm
              unfold schemeOk
              rw [h1, Bool.and_true, Bool.true_and]
              exact HL.out)
            go_wp2_with (go_at_call 85; refine (lower_any name (by omega) _).mono ?_; rintro e w2 ⟨rfl, hf2⟩)
            go_ret3
            rw [H3.out]
            exact ⟨rfl, hf.trans hf2⟩
end Go.Proofs.YtogpmgjdmoglkaaGreatDoor
/- Walks: parser.opaque, finish. -/
set_option linter.unusedVariables false
set_option linter.unusedSimpArgs false
namespace Go.Proofs.YtogpmgjdmoglkaaGreatDoor
open Go.RowKit Pu

theorem esc_call (set : Int) (l : Bs) (hl : l.length ≤ 1000000000) (w0 w : World) (h : w = Lib.bytesWorld w0 5 ⟨l.toArray⟩) (n : Nat) (hn : n = l.length) (cap : Nat) :
    Calls Tryz.prog 95 #[.int .i64 set, .slice (some ⟨w0.heap.size, 0, none⟩) n cap] w fun e w' => e = .returned (S (esc set l)) ∧ Fr w0 w' := by
  subst h; subst hn
  have hb := OwnB.conv w0 l
  refine (esc_any set l hl w0.heap.size cap _ hb.cell).mono ?_
  rintro e w' ⟨rfl, hf⟩
  exact ⟨rfl, hb.fr.trans hf⟩

theorem cat_nil (l : Bs) : (⟨l.toArray⟩ : ByteArray) ++ ⟨#[]⟩ = ⟨l.toArray⟩ := by
  have := cat2 l []
  rw [List.append_nil] at this
  exact this
theorem suffix_any (s p : Bs) (hl : s.length ≤ 1000000) (w : World) : Calls Tryz.prog 178 #[S s, S p] w fun e w' => e = .returned (.bool (Lib.hasSuffix s p)) ∧ w = w' := by
  have := Tryz.strings_HasSuffix ⟨s.toArray⟩ ⟨p.toArray⟩ w (by show s.toArray.size ≤ _; simp; omega)
  refine this.mono ?_
  rintro e w' ⟨rfl, rfl⟩
  exact ⟨by simp, rfl⟩
theorem prefix_any (s p : Bs) (w : World) : Calls Tryz.prog 48 #[S s, S p] w fun e w' => e = .returned (.bool (Lib.hasPrefix s p)) ∧ w = w' := by
  refine (Tryz.strings_HasPrefix ⟨s.toArray⟩ ⟨p.toArray⟩ w).mono ?_
  rintro e w' ⟨rfl, rfl⟩
  exact ⟨by simp, rfl⟩
theorem suffix_one (s : Bs) (c : UInt8) : Lib.hasSuffix s [c] = (s.getLast? == some c) := by
  rcases List.eq_nil_or_concat s with rfl | ⟨i, x, rfl⟩
  · rfl
  · have h1 : Lib.hasSuffix (i ++ [x]) [c] = (c == x) := by
      show List.isPrefixOf [c].reverse (i ++ [x]).reverse = _
      rw [List.reverse_append]
      show (c == x && true) = _
      rw [Bool.and_true]
    have h2 : (i ++ [x]).getLast? = some x := by simp
    rw [List.concat_eq_append, h1, h2]
    by_cases h : c = x
    · subst h; simp
    · have h3 : ¬ x = c := fun e => h e.symm
      rw [show (c == x) = false from beq_eq_false_iff_ne.2 h]
      symm
      rw [beq_eq_false_iff_ne]
      intro e; injection e with e; exact h3 e
theorem take_S (s : Bs) (n : Nat) : (⟨s.toArray⟩ : ByteArray).extract 0 n = ⟨(s.take n).toArray⟩ := by
  apply ByteArray.ext
  simp

set_option maxRecDepth 100000 in
set_option maxHeartbeats 2000000 in
theorem opaque_any (P : Nat) (s : Bs) (hl : s.length ≤ 1000000) (q f : Bool) (w : World) (h14 : w.cell? ⟨P, 14, none⟩ = some (S s)) (h9 : w.cell? ⟨P, 9, none⟩ = some (.bool q)) (h10 : w.cell? ⟨P, 10, none⟩ = some (.bool f))
    (x6 x7 : Value) (h6 : w.cell? ⟨P, 6, none⟩ = some x6) (h7 : w.cell? ⟨P, 7, none⟩ = some x7) (hz : ∀ j, w.frozen? ⟨P, j, none⟩ = false) :
    Calls Tryz.prog 94 #[.pointer (some ⟨P, 0, none⟩)] w fun e w' => e = .returned (.tuple #[]) ∧ ∃ wb, Fr w wb ∧ w' = (wb.setCell ⟨P, 6, none⟩ (.bool true)).setCell ⟨P, 7, none⟩ (S (opaqueOf s (q || f))) := by
  have kc := fun (w : World) (s : ByteArray) => Lib.run_convert_string_bytes (P := Tryz.prog) w 9 34 5 s Tryz.underlying9 Tryz.underlying34 Tryz.underlying5
  have hP := World.block_lt_of_cell? w _ h14
  simp only at hP
  cases hm : (q || f) with
  | false =>
    obtain ⟨rfl, rfl⟩ : q = false ∧ f = false := by simpa using hm
    have ho : Hid (opaqueOf s false = esc 0 s) := Lib.hid (by simp [opaqueOf])
    have hel := esc_le 0 s
    go_enter Tryz.func94, Tryz.ntmps94
    go_wp2_with fail
    go_quiet (fail)
    go_wp2_with (go_at_call 95; refine (esc_call 0 s (by omega) (w.drewN nq) _ rfl _ rfl _).mono ?_; rintro e wb ⟨rfl, hf⟩; have hf0 : Fr w wb := ((Fr.refl w).drewN nq).trans hf; have c6 := hf0.cell h6; have c7 := hf0.cell h7; have z6 : wb.frozen? ⟨P, 6, none⟩ = false := (World.frozen?_of_block (w := w) (hf0.out.block P hP)).trans (hz 6); have z7 : wb.frozen? ⟨P, 7, none⟩ = false := (World.frozen?_of_block (w := w) (hf0.out.block P hP)).trans (hz 7))
    go_end0
    refine ⟨rfl, wb, hf0, ?_⟩
    rw [ho.out, cat_nil]
  | true =>
    have hix := suffix_one s 32
    cases hsf : Lib.hasSuffix s [32] with
    | true =>
      rw [hsf] at hix
      have hne : s ≠ [] := by rintro rfl; simp at hix
      have hpos : 0 < s.length := List.length_pos_iff.2 hne
      have ho : Hid (opaqueOf s true = esc 0 (s.take (s.length - 1)) ++ [37, 50, 48]) := Lib.hid (by simp [opaqueOf, ← hix, List.dropLast_eq_take])
      have hel := esc_le 0 (s.take (s.length - 1))
      have htl : (s.take (s.length - 1)).length ≤ s.length := by rw [List.length_take]; omega
      have htk := take_S s (s.length - 1)
      have hn1 : ((s.length : Int) - 1).toNat = s.length - 1 := by omega
      have hn2 : (0 : Int) ≤ (s.length : Int) - 1 := by omega
      have hn3 : (s.length : Int) - 1 ≤ s.length := by omega
      clear hix
      have hct := cat2 (esc 0 (s.take (s.length - 1))) [37, 50, 48]
      cases q with
      | true =>
        go_enter Tryz.func94, Tryz.ntmps94
        go_wp2_with fail
        go_quiet (fail)
        go_wp2_with (first
          | (go_at_call 178; refine (suffix_any s [32] hl _).mono ?_; rintro e w2 ⟨rfl, rfl⟩; rw [hsf])
          | (go_at_call 95; refine (esc_call 0 (s.take (s.length - 1)) (by omega) (w.drewN nq) _ rfl _ (by rw [List.length_take]; omega) _).mono ?_; rintro e wb ⟨rfl, hf⟩; have hf0 : Fr w wb := ((Fr.refl w).drewN nq).trans hf; have c6 := hf0.cell h6; have c7 := hf0.cell h7; have z6 : wb.frozen? ⟨P, 6, none⟩ = false := (World.frozen?_of_block (w := w) (hf0.out.block P hP)).trans (hz 6); have z7 : wb.frozen? ⟨P, 7, none⟩ = false := (World.frozen?_of_block (w := w) (hf0.out.block P hP)).trans (hz 7)))
        go_end0
        refine ⟨rfl, wb, hf0, ?_⟩
        rw [ho.out]
      | false =>
        obtain rfl : f = true := by simpa using hm
        go_enter Tryz.func94, Tryz.ntmps94
        go_wp2_with fail
        go_quiet (fail)
        go_wp2_with (first
          | (go_at_call 178; refine (suffix_any s [32] hl _).mono ?_; rintro e w2 ⟨rfl, rfl⟩; rw [hsf])
          | (go_at_call 95; refine (esc_call 0 (s.take (s.length - 1)) (by omega) (w.drewN nq) _ rfl _ (by rw [List.length_take]; omega) _).mono ?_; rintro e wb ⟨rfl, hf⟩; have hf0 : Fr w wb := ((Fr.refl w).drewN nq).trans hf; have c6 := hf0.cell h6; have c7 := hf0.cell h7; have z6 : wb.frozen? ⟨P, 6, none⟩ = false := (World.frozen?_of_block (w := w) (hf0.out.block P hP)).trans (hz 6); have z7 : wb.frozen? ⟨P, 7, none⟩ = false := (World.frozen?_of_block (w := w) (hf0.out.block P hP)).trans (hz 7)))
        go_end0
        refine ⟨rfl, wb, hf0, ?_⟩
        rw [ho.out]
    | false =>
      rw [hsf] at hix
      have ho : Hid (opaqueOf s true = esc 0 s) := Lib.hid (by simp [opaqueOf, ← hix])
      have hel := esc_le 0 s
      clear hix
      cases q with
      | true =>
        go_enter Tryz.func94, Tryz.ntmps94
        go_wp2_with fail
        go_quiet (fail)
        go_wp2_with (first
          | (go_at_call 178; refine (suffix_any s [32] hl _).mono ?_; rintro e w2 ⟨rfl, rfl⟩; rw [hsf])
          | (go_at_call 95; refine (esc_call 0 s (by omega) (w.drewN nq) _ rfl _ (by omega) _).mono ?_; rintro e wb ⟨rfl, hf⟩; have hf0 : Fr w wb := ((Fr.refl w).drewN nq).trans hf; have c6 := hf0.cell h6; have c7 := hf0.cell h7; have z6 : wb.frozen? ⟨P, 6, none⟩ = false := (World.frozen?_of_block (w := w) (hf0.out.block P hP)).trans (hz 6); have z7 : wb.frozen? ⟨P, 7, none⟩ = false := (World.frozen?_of_block (w := w) (hf0.out.block P hP)).trans (hz 7)))
        go_end0
        refine ⟨rfl, wb, hf0, ?_⟩
        rw [ho.out, cat_nil]
      | false =>
        obtain rfl : f = true := by simpa using hm
        go_enter Tryz.func94, Tryz.ntmps94
        go_wp2_with fail
        go_quiet (fail)
        go_wp2_with (first
          | (go_at_call 178; refine (suffix_any s [32] hl _).mono ?_; rintro e w2 ⟨rfl, rfl⟩; rw [hsf])
          | (go_at_call 95; refine (esc_call 0 s (by omega) (w.drewN nq) _ rfl _ (by omega) _).mono ?_; rintro e wb ⟨rfl, hf⟩; have hf0 : Fr w wb := ((Fr.refl w).drewN nq).trans hf; have c6 := hf0.cell h6; have c7 := hf0.cell h7; have z6 : wb.frozen? ⟨P, 6, none⟩ = false := (World.frozen?_of_block (w := w) (hf0.out.block P hP)).trans (hz 6); have z7 : wb.frozen? ⟨P, 7, none⟩ = false := (World.frozen?_of_block (w := w) (hf0.out.block P hP)).trans (hz 7)))
        go_end0
        refine ⟨rfl, wb, hf0, ?_⟩
        rw [ho.out, cat_nil]
end Go.Proofs.YtogpmgjdmoglkaaGreatDoor
/- Walks: parser.finish, schemed on the opaque way. -/
set_option linter.unusedVariables false
set_option linter.unusedSimpArgs false
namespace Go.Proofs.YtogpmgjdmoglkaaGreatDoor
open Go.RowKit Pu

set_option maxRecDepth 100000 in
set_option maxHeartbeats 2000000 in
theorem schemed_opaque (P : Nat) (sch s : Bs) (hl : s.length ≤ 1000000) (hl2 : sch.length ≤ 1000000) (hsp : special sch = false) (hpre : Lib.hasPrefix s [47] = false) (q f : Bool) (w : World) (h0 : w.cell? ⟨P, 0, none⟩ = some (S sch)) (h14 : w.cell? ⟨P, 14, none⟩ = some (S s)) (h9 : w.cell? ⟨P, 9, none⟩ = some (.bool q)) (h10 : w.cell? ⟨P, 10, none⟩ = some (.bool f))
    (x6 x7 : Value) (h6 : w.cell? ⟨P, 6, none⟩ = some x6) (h7 : w.cell? ⟨P, 7, none⟩ = some x7) (hz : ∀ j, w.frozen? ⟨P, j, none⟩ = false) :
    Calls Tryz.prog 36 #[.pointer (some ⟨P, 0, none⟩)] w fun e w' => e = .returned (.tuple #[]) ∧ ∃ wb, Fr w wb ∧ w' = (wb.setCell ⟨P, 6, none⟩ (.bool true)).setCell ⟨P, 7, none⟩ (S (opaqueOf s (q || f))) := by
  have hP := World.block_lt_of_cell? w _ h0
  simp only at hP
  have hpre2 : Lib.hasPrefix s [47, 47] = false := by
    cases s with
    | nil => rfl
    | cons a r => 
      have : (47 == a) = false := by simpa [Lib.hasPrefix, List.isPrefixOf] using hpre
      simp [Lib.hasPrefix, List.isPrefixOf, this]
  have hfile : (sch == [102, 105, 108, 101]) = false := by
    have h := hsp
    simp only [special, Bool.or_eq_false_iff] at h
    exact h.1.1.1.1.2
  have hf0 := Fr.refl w
  go_enter Tryz.func36, Tryz.ntmps36
  go_wp2_with (first
    | (go_at_call 88; refine (special_any sch (by omega) _).mono ?_; rintro e w1 ⟨rfl, hf⟩; rw [hsp]; have h0 := hf.cell h0; have h14 := hf.cell h14; have hf0 := hf0.trans hf)
    | (go_at_call 48; refine (prefix_any s _ _).mono ?_; rintro e w2 ⟨rfl, rfl⟩; first | rw [hpre2] | rw [hpre])
    | (go_at_call 94; refine (opaque_any P s hl q f _ h14 (hf0.cell h9) (hf0.cell h10) x6 x7 (hf0.cell h6) (hf0.cell h7) (fun j => (World.frozen?_of_block (w := w) (hf0.out.block P hP)).trans (hz j))).mono ?_; rintro e w3 ⟨rfl, wb, hf4, rfl⟩))
  go_end0
  exact ⟨rfl, wb, hf0.trans hf4, rfl⟩
end Go.Proofs.YtogpmgjdmoglkaaGreatDoor
/- Walks: parser.finish where the scheme is not special. -/
set_option linter.unusedVariables false
set_option linter.unusedSimpArgs false
namespace Go.Proofs.YtogpmgjdmoglkaaGreatDoor
open Go.RowKit Pu

theorem esc_call2 (set : Int) (l : Bs) (hl : l.length ≤ 1000000000) (w0 : World) (b n : Nat) (hb : b = w0.heap.size) (hn : n = l.length) (cap : Nat) :
    Calls Tryz.prog 95 #[.int .i64 set, .slice (some ⟨b, 0, none⟩) n cap] (Lib.bytesWorld w0 5 ⟨l.toArray⟩) fun e w' => e = .returned (S (esc set l)) ∧ Fr w0 w' := by
  subst hb
  exact esc_call set l hl w0 _ rfl n hn cap
set_option maxRecDepth 100000 in
set_option maxHeartbeats 1000000 in
theorem finish_nil (P : Nat) (sch fs : Bs) (hl2 : sch.length ≤ 1000000) (hfl : fs.length ≤ 1000000) (hsp : special sch = false) (w : World) (h0 : w.cell? ⟨P, 0, none⟩ = some (S sch)) (h15 : w.cell? ⟨P, 15, none⟩ = some (S [])) (h16 : w.cell? ⟨P, 16, none⟩ = some (S fs))
    (x12 : Value) (h12 : w.cell? ⟨P, 12, none⟩ = some x12) (hz : ∀ j, w.frozen? ⟨P, j, none⟩ = false) :
    Calls Tryz.prog 38 #[.pointer (some ⟨P, 0, none⟩)] w fun e w' => e = .returned (.tuple #[]) ∧ ∃ wb, Fr w wb ∧ w' = wb.setCell ⟨P, 12, none⟩ (S (esc 1 fs)) := by
  have kc := fun (w : World) (s : ByteArray) => Lib.run_convert_string_bytes (P := Tryz.prog) w 9 34 5 s Tryz.underlying9 Tryz.underlying34 Tryz.underlying5
  have hP := World.block_lt_of_cell? w _ h0
  simp only at hP
  have hf0 := Fr.refl w
  go_enter Tryz.func38, Tryz.ntmps38
  go_wp2_with (first
    | (go_at_call 88; refine (special_any sch (by omega) _).mono ?_; rintro e w1 ⟨rfl, hf⟩; rw [hsp]; have h15 := hf.cell h15; have h16 := hf.cell h16; have hf0 := hf0.trans hf)
    | (go_at_call 95; refine (esc_call 1 fs (by omega) _ _ rfl _ rfl _).mono ?_; rintro e wb ⟨rfl, hf⟩; have hf0 := hf0.trans hf; have c12 := hf0.cell h12; have z12 : wb.frozen? ⟨P, 12, none⟩ = false := (World.frozen?_of_block (w := w) (hf0.out.block P hP)).trans (hz 12)))
  go_end0
  exact ⟨rfl, wb, hf0, rfl⟩

set_option maxRecDepth 100000 in
set_option maxHeartbeats 1000000 in
theorem finish_cons (P : Nat) (sch fs : Bs) (q : UInt8) (qs : Bs) (hl2 : sch.length ≤ 1000000) (hq : (q :: qs).length ≤ 1000000) (hfl : fs.length ≤ 1000000) (hsp : special sch = false) (w : World) (h0 : w.cell? ⟨P, 0, none⟩ = some (S sch)) (h15 : w.cell? ⟨P, 15, none⟩ = some (S (q :: qs))) (h16 : w.cell? ⟨P, 16, none⟩ = some (S fs))
    (x11 x12 : Value) (h11 : w.cell? ⟨P, 11, none⟩ = some x11) (h12 : w.cell? ⟨P, 12, none⟩ = some x12) (hz : ∀ j, w.frozen? ⟨P, j, none⟩ = false) :
    Calls Tryz.prog 38 #[.pointer (some ⟨P, 0, none⟩)] w fun e w' => e = .returned (.tuple #[]) ∧ ∃ wb wc, Fr w wb ∧ Fr (wb.setCell ⟨P, 11, none⟩ (S (esc 2 (q :: qs)))) wc ∧ w' = wc.setCell ⟨P, 12, none⟩ (S (esc 1 fs)) := by
  have kc := fun (w : World) (s : ByteArray) => Lib.run_convert_string_bytes (P := Tryz.prog) w 9 34 5 s Tryz.underlying9 Tryz.underlying34 Tryz.underlying5
  have hP := World.block_lt_of_cell? w _ h0
  simp only at hP
  have hf0 := Fr.refl w
  go_enter Tryz.func38, Tryz.ntmps38
  go_wp2_with (first
    | (go_at_call 88; refine (special_any sch (by omega) _).mono ?_; rintro e w1 ⟨rfl, hf⟩; rw [hsp]; have h15 := hf.cell h15; have hf0 := hf0.trans hf))
  refine (esc_call2 2 (q :: qs) (by omega) w1 _ _ rfl rfl _).mono ?_
  rintro e wb ⟨rfl, hf2⟩
  have hf1 := hf0.trans hf2
  have c11 := hf1.cell h11
  have z11 : wb.frozen? ⟨P, 11, none⟩ = false := (World.frozen?_of_block (w := w) (hf1.out.block P hP)).trans (hz 11)
  have hPb : P < wb.heap.size := Nat.lt_of_lt_of_le hP hf1.size
  have c16 := hf1.cell h16
  have c12 := hf1.cell h12
  have z12 : wb.frozen? ⟨P, 12, none⟩ = false := (World.frozen?_of_block (w := w) (hf1.out.block P hP)).trans (hz 12)
  clear h0 h15 h11 h12 h16 hz hf2
  have d12 : (wb.setCell ⟨P, 11, none⟩ (S (esc 2 (q :: qs)))).cell? ⟨P, 12, none⟩ = some x12 := (World.cell?_setCell_other _ _ _ _ (ne_off (by decide))).trans c12
  have y12 : (wb.setCell ⟨P, 11, none⟩ (S (esc 2 (q :: qs)))).frozen? ⟨P, 12, none⟩ = false := (World.frozen?_setCell _ _ _ _).trans z12
  have hPc : P < (wb.setCell ⟨P, 11, none⟩ (S (esc 2 (q :: qs)))).heap.size := by rw [World.size_setCell]; exact hPb
  have D := Lib.hid d12
  have Y := Lib.hid y12
  clear d12 y12 c12 z12
  go_wp2_with fail
  refine (esc_call2 1 fs (by omega) (wb.setCell ⟨P, 11, none⟩ (S (esc 2 (q :: qs)))) _ _ (World.size_setCell _ _ _).symm rfl _).mono ?_
  rintro e wc ⟨rfl, hg⟩
  have c12 := hg.cell D.out
  have z12 : wc.frozen? ⟨P, 12, none⟩ = false := (World.frozen?_of_block (hg.out.block P hPc)).trans Y.out
  go_wp2
  go_end0
  exact ⟨rfl, wb, wc, hf1, hg, rfl⟩
end Go.Proofs.YtogpmgjdmoglkaaGreatDoor
