/- Walks: strings.NewReplacer and its Replace; parse.Clean. -/
import Derived.Handy
import Derived.Test.YtogpmgjdmoglkaaGreatDoorHWj
set_option linter.unusedVariables false
set_option linter.unusedSimpArgs false
namespace Go.Proofs.YtogpmgjdmoglkaaGreatDoor
open Go.RowKit Pu

/-- A Replacer that has not been used yet: block R, the pairs' row g. -/
structure Rp (w0 : World) (R : Nat) (ps : List (UInt8 × Bs)) (w : World) : Prop where
  fr : Fr w0 w
  base : w0.heap.size ≤ R
  c0 : w.cell? ⟨R, 0, none⟩ = some (.int .u32 0)
  c1 : w.cell? ⟨R, 1, none⟩ = some (.int .i32 0)
  c3 : ∃ x, w.cell? ⟨R, 3, none⟩ = some x
  c4 : ∃ g cap, w.cell? ⟨R, 4, none⟩ = some (.slice (some ⟨g, 0, none⟩) (2 * ps.length) cap) ∧ g ≠ R ∧ PairsAt g ps w
  free : ∀ j, w.frozen? ⟨R, j, none⟩ = false

set_option maxRecDepth 100000 in
set_option maxHeartbeats 1600000 in
theorem once_any (ps : List (UInt8 × Bs)) (hF : Fine ps) (R : Nat) (w0 w : World) (h : Rp w0 R ps w) :
    Calls Tryz.prog 162 #[.pointer (some ⟨R, 0, none⟩), .func (.func 163) #[.pointer (some ⟨R, 0, none⟩)] #[]] w fun e w' => e = .returned (.tuple #[]) ∧ ∃ T, Fr w0 w' ∧ (∃ B, BRep B T (ps.reverse.map (·.1)) (tabOf ps) w') ∧ w'.cell? ⟨R, 3, none⟩ = some (IFr T) := by
  obtain ⟨x3, hc3⟩ := h.c3
  obtain ⟨g, cap, hc4, hgR, hP⟩ := h.c4
  have hcall := doSlow_any ps hF R g cap x3 w hc4 hc3 h.c0 h.c1 h.free hgR hP
  have hR := World.block_lt_of_cell? w _ hc4
  simp only at hR
  have hc0 := h.c0
  go_enter Tryz.func162, Tryz.ntmps162
  go_wp2_with (first
    | (go_at_call 218; refine (so_load0 ⟨R, 0, none⟩ _ hc0).mono ?_; rintro e w' ⟨rfl, rfl⟩)
    | (go_at_call 219; refine hcall.mono ?_; rintro e w' ⟨rfl, T, wb, hf, hB, rfl⟩))
  go_end0
  have o : ∀ i j : Nat, i ≠ j → (⟨R, i, none⟩ : Addr) ≠ ⟨R, j, none⟩ := fun i j h => ne_off h
  refine ⟨rfl, T, ?_, ⟨w.heap.size, ?_⟩, ?_⟩
  · exact Fr.set (Fr.set (Fr.drew (Fr.set (Fr.set ((h.fr.set h.base _).trans hf) h.base _) h.base _)) h.base _) h.base _
  · exact (((((hB.set hR _).set hR _).fr (Fr.drew (Fr.refl _))).set hR _).set hR _)
  · have e3 : wb.cell? ⟨R, 3, none⟩ = some x3 := hf.cell ((World.cell?_setCell_other w ⟨R, 1, none⟩ ⟨R, 3, none⟩ (.int .i32 1) (o _ _ (by decide))).trans hc3)
    rw [World.cell?_drew, World.cell?_setCell_other _ ⟨R, 1, none⟩ ⟨R, 3, none⟩ _ (o _ _ (by decide)), World.cell?_setCell_other _ ⟨R, 0, none⟩ ⟨R, 3, none⟩ _ (o _ _ (by decide)), World.cell?_setCell_other _ ⟨R, 4, none⟩ ⟨R, 3, none⟩ _ (o _ _ (by decide))]
    exact World.cell?_setCell_same _ _ _ e3

theorem tabOf_le {ps : List (UInt8 × Bs)} (h : ∀ p ∈ ps, p.2.length ≤ 3) (c : UInt8) (b : Bs) (hc : tabOf ps c = some b) : b.length ≤ 3 := by
  unfold tabOf at hc
  obtain ⟨p, hp, rfl⟩ := Option.map_eq_some_iff.1 hc
  exact h p (List.mem_of_find?_eq_some hp)
set_option maxRecDepth 100000 in
set_option maxHeartbeats 1600000 in
theorem replace_any (ps : List (UInt8 × Bs)) (hF : Fine ps) (R : Nat) (w0 w : World) (h : Rp w0 R ps w) (s : Bs) (hs : s.length ≤ 1000000) :
    Calls Tryz.prog 80 #[.pointer (some ⟨R, 0, none⟩), S s] w fun e w' => e = .returned (S (repl (tabOf ps) s)) ∧ Fr w0 w' := by
  have hcall := once_any ps hF R w0 w h
  have hmf : ∀ (fn : Fn) (first cap : Array Value) (w : World), (Instr.makeFunc fn first cap).run Tryz.prog w = .ok (.func fn first cap) w := fun _ _ _ _ => rfl
  go_enter Tryz.func80, Tryz.ntmps80
  go_wp2_with (first
    | (go_at_call 162; refine hcall.mono ?_; rintro e w1 ⟨rfl, T, hf, ⟨B, hB⟩, hc⟩)
    | (go_at_call 375; refine (brep_any B T _ _ s hs (by simp; exact hF.ten) (tabOf_le hF.three) _ hB).mono ?_; rintro e w2 ⟨rfl, hf2⟩))
  go_ret
  exact ⟨rfl, hf.trans hf2⟩

/-- The strings of a call of NewReplacer. -/
def pvals (ps : List (UInt8 × Bs)) : List Value := ps.flatMap fun p => [S [p.1], S p.2]
theorem pvals_len (ps : List (UInt8 × Bs)) : (pvals ps).length = 2 * ps.length := by
  induction ps with
  | nil => rfl
  | cons p r ih => simp [pvals] at ih ⊢; omega
theorem pvals_get (ps : List (UInt8 × Bs)) : ∀ i, (h : i < ps.length) → (pvals ps)[2 * i]? = some (S [ps[i].1]) ∧ (pvals ps)[2 * i + 1]? = some (S ps[i].2) := by
  induction ps with
  | nil => intro i h; simp at h
  | cons p r ih =>
    intro i h
    cases i with
    | zero => exact ⟨rfl, rfl⟩
    | succ i =>
      have := ih i (by simpa using h)
      exact this
theorem pvals_one (ps : List (UInt8 × Bs)) : ∀ u ∈ pvals ps, u.oneCell' = true := by
  intro u hu
  unfold pvals at hu
  rw [List.mem_flatMap] at hu
  obtain ⟨p, _, hp⟩ := hu
  simp at hp
  rcases hp with rfl | rfl <;> rfl

set_option maxRecDepth 100000 in
set_option maxHeartbeats 1600000 in
theorem newReplacer_any (ps : List (UInt8 × Bs)) (hF : Fine ps) (ad : Addr) (cap : Nat) (w : World) (hv : ∀ j u, (pvals ps)[j]? = some u → w.cell? (ad.add j) = some u) :
    Calls Tryz.prog 79 #[.slice (some ad) (2 * ps.length) cap] w fun e w' => ∃ R, e = .returned (.pointer (some ⟨R, 0, none⟩)) ∧ Rp w R ps w' := by
  obtain ⟨i0, hi, hz0, hz1, hz2⟩ := info_parts str_info
  have h2 := hF.two
  have h10 := hF.ten
  have hl := pvals_len ps
  have hmod : (((2 * ps.length : Nat) : Int).tmod 2 == 1) = false := by simp
  have hlb : ((2 * ps.length : Nat) : Int) = 2 * (ps.length : Int) := by omega
  have hn := World.ownsRow_nil w w.heap.size 9 1
  generalize hp : pvals ps = vs at *
  have HV := Lib.hid hv
  clear hv
  go_enter Tryz.func79, Tryz.ntmps79
  go_wp2_with (at_builtin; refine wpList_append_lies _ rfl _ _ _ rfl w.heap.size 9 i0 _ 1 16 Tryz.underlying23 hi hz0 hz1 hz2 rfl (by omega) (.slice none 0 0) 0 [] rfl hn ad (2 * ps.length) cap vs rfl (by omega) HV.out (hp ▸ pvals_one ps) (by omega) (by unfold maxLen; omega) (by omega) (Nat.le_refl _) w.heap.size rfl ?_; intro gg cap2 w1 hown1 hgrow hat hlt2)
  go_ret
  have hsz := hgrow.size
  have hfr : Fr w w1 := (Fr.refl w).grown hgrow fun k hk => by simp [Value.ownBlock] at hk
  refine ⟨w1.heap.size, rfl, hfr.alloc _, hsz, by simp, by simp, ⟨.nilIface, by simp⟩, ⟨gg, cap2, by simp, by omega, fun i hi => ?_⟩, fun j => ?_⟩
  · have hg := pvals_get ps i hi
    rw [hp] at hg
    have k1 := hown1.cells (g := gg) rfl (2 * i) _ (by simpa using hg.1)
    have k2 := hown1.cells (g := gg) rfl (2 * i + 1) _ (by simpa using hg.2)
    rw [add_at] at k1 k2
    rw [World.cell?_alloc_past _ _ _ hlt2, World.cell?_alloc_past _ _ _ hlt2]
    exact ⟨k1, k2⟩
  · rw [World.frozen?_alloc_mark w1 _ _ 0 0 j]; simp

/-! ### Clean -/
def cleanPs : List (UInt8 × Bs) := [(9, []), (10, []), (13, [])]
theorem cleanPs_fine : Fine cleanPs := ⟨by decide, by decide, by decide, ⟨(9, []), by decide, by decide⟩, by decide⟩
/-- A text, cleaned, as the program does it. -/
def cleanP (l : Bs) : Bs := repl (tabOf cleanPs) (Lib.trimF (fun x => decide (x ≤ 32)) ⟨(encL (decL l)).toArray⟩).data.toList
theorem string_S (b : ByteArray) : Value.string b = S b.data.toList := by cases b; simp [S]
theorem clean1 (w : World) : PredGrows Tryz.prog 78 #[] (fun x => decide (x ≤ 32)) w := by
  intro W x hx hb
  show Calls Tryz.prog 78 (#[Value.int .i32 (x : Int)] ++ #[]) W _
  by_cases h : x ≤ 32
  · have h1 : (x : Int) ≤ 32 := by omega
    have h2 : decide (x ≤ 32) = true := decide_eq_true h
    simp only [h2]
    go_enter Tryz.func78, Tryz.ntmps78
    go_wp2
    go_ret
    exact ⟨by simp, Below.refl _ _⟩
  · have h2 : decide (x ≤ 32) = false := decide_eq_false h
    have h3 : decide ((x : Int) ≤ 32) = false := decide_eq_false (by omega)
    simp only [h2]
    go_enter Tryz.func78, Tryz.ntmps78
    go_wp2
    go_ret
    exact ⟨by simp, Below.refl _ _⟩

theorem decL_bd (l : Bs) : ∀ r ∈ decL l, 0 ≤ r ∧ r ≤ 1114111 := by
  have hf : ∀ (c : UInt8) (r : Bs), 0 ≤ (ufirst c r).1 ∧ (ufirst c r).1 ≤ 1114111 := by
    intro c r
    have hc := u8_lt c
    unfold ufirst
    split
    · simp only [bI] at *; omega
    · split
      · show (0 : Int) ≤ 65533 ∧ (65533 : Int) ≤ 1114111
        omega
      · simp only [Lib.decodeGo]
        split
        · show (0 : Int) ≤ ((65533 : Nat) : Int) ∧ ((65533 : Nat) : Int) ≤ 1114111
          omega
        · generalize (⟨((c :: r).take (ulen c r)).toArray⟩ : ByteArray) = x
          exact ⟨Int.natCast_nonneg _, Int.ofNat_le.2 (Lib.rune_le x 0)⟩
  suffices h : ∀ n (l : Bs), l.length ≤ n → ∀ r ∈ decL l, 0 ≤ r ∧ r ≤ 1114111 from h _ l (Nat.le_refl _)
  intro n
  induction n with
  | zero => intro l hl; obtain rfl : l = [] := List.eq_nil_of_length_eq_zero (by omega); intro r hr; simp [decL] at hr
  | succ n ih =>
    intro l hl
    cases l with
    | nil => intro r hr; simp [decL] at hr
    | cons c t =>
      intro r hr
      rw [decL, List.mem_cons] at hr
      rcases hr with hr | hr
      · rw [hr]; exact hf c t
      · refine ih _ ?_ r hr
        have := (ufirst_bd c t).1
        simp at hl ⊢; omega
theorem decL_len (l : Bs) : (decL l).length ≤ l.length := by
  suffices h : ∀ n (l : Bs), l.length ≤ n → (decL l).length ≤ l.length from h _ l (Nat.le_refl _)
  intro n
  induction n with
  | zero => intro l hl; obtain rfl : l = [] := List.eq_nil_of_length_eq_zero (by omega); simp [decL]
  | succ n ih =>
    intro l hl
    cases l with
    | nil => simp [decL]
    | cons c t =>
      rw [decL]
      have h1 := (ufirst_bd c t).1
      have := ih ((c :: t).drop (ufirst c t).2) (by simp at hl ⊢; omega)
      simp at this ⊢; omega
theorem trimF_le (p : Nat → Bool) (s : ByteArray) : (Lib.trimF p s).size ≤ s.size := by
  have h1 : (Lib.trimLeftF p s).size ≤ s.size := by
    unfold Lib.trimLeftF
    split
    · exact Nat.zero_le _
    · rw [ByteArray.size_extract]; omega
  unfold Lib.trimF Lib.trimRightF
  rw [ByteArray.size_extract]; omega

set_option maxRecDepth 100000 in
set_option maxHeartbeats 1600000 in
theorem clean_any (l : Bs) (hl : l.length ≤ 65536) (w : World) (hE : Env w) : Calls Tryz.prog 33 #[S l] w fun e w' => e = .returned (S (cleanP l)) ∧ Fr w w' := by
  have kc := fun (w : World) (s : ByteArray) => Lib.run_convert_string_bytes (P := Tryz.prog) w 9 34 5 s Tryz.underlying9 Tryz.underlying34 Tryz.underlying5
  have hb := OwnB.conv w l
  have hsz : (⟨l.toArray⟩ : ByteArray).size = l.length := by show l.toArray.size = _; simp
  have h1 := decL_len l
  have h2 := encL_le (decL l)
  have h3 := trimF_le (fun x => decide (x ≤ 32)) ⟨(encL (decL l)).toArray⟩
  have h4 : (⟨(encL (decL l)).toArray⟩ : ByteArray).size = (encL (decL l)).length := by show (encL (decL l)).toArray.size = _; simp
  rw [h4] at h3
  have HB := Lib.hid hb
  have heg : ∀ args w, (callFunc 78 args).run Tryz.prog w = .ok (.enter 78 args) w := enters_of Tryz.func78 (by kernel_rfl) rfl
  clear hb
  go_enter Tryz.func33, Tryz.ntmps33
  go_wp2_with (first
    | (go_at_call 76; refine (decode_any l (by omega) w.heap.size _ (grownCap_ge _ _ _ _) _ (hE.fr HB.out.fr) HB.out.cell).mono ?_; rintro e w1 ⟨v1, rfl, o1⟩)
    | (go_at_call 75; refine (encode_any (decL l) (by omega) (fun r hr => by have := decL_bd l r hr; omega) v1 w1 o1.row).mono ?_; rintro e w2 ⟨v2, rfl, o2⟩; have hs2 := o2.str)
    | (go_at_call 77; refine (Tryz.strings_TrimFunc_grows _ #[] heg (fun x => decide (x ≤ 32)) ⟨(encL (decL l)).toArray⟩ _ (by rw [h4]; omega) (hE.fr ((HB.out.fr.trans o1.fr).trans o2.fr)).tabs (clean1 _)).mono ?_; rintro e w3 ⟨rfl, b3⟩; rw [string_S])
    | (go_at_call 79; refine (newReplacer_any cleanPs cleanPs_fine ⟨w3.heap.size, 0, none⟩ 6 _ (World.news_of_block (fr := (0, 0)) (heap_alloc_new w3 _))).mono ?_; rintro e w4 ⟨R, rfl, hR⟩)
    | (go_at_call 80; refine (replace_any cleanPs cleanPs_fine R _ _ hR _ (by rw [Array.length_toList]; show (Lib.trimF _ _).size ≤ _; omega)).mono ?_; rintro e w5 ⟨rfl, f5⟩))
  go_ret
  exact ⟨rfl, (((HB.out.fr.trans o1.fr).trans (o2.fr.trans ⟨b3⟩)).alloc _).trans f5⟩
end Go.Proofs.YtogpmgjdmoglkaaGreatDoor
