/- Walks: layers 4 and 5: token.Quote, mime.Print, mime.Right. -/
import Derived.Test.YtogpmgjdmoglkaaGreatDoorHVg
import Derived.Test.YtogpmgjdmoglkaaGreatDoorHWk
set_option linter.unusedVariables false
set_option linter.unusedSimpArgs false
namespace Go.Proofs.YtogpmgjdmoglkaaGreatDoor
open Go.RowKit Pu

def quotePs : List (UInt8 × Bs) := [(92, [92, 92]), (34, [92, 34])]
theorem quotePs_fine : Fine quotePs := ⟨by decide, by decide, by decide, ⟨(92, [92, 92]), by decide, by decide⟩, by decide⟩
theorem repC_quote (c : UInt8) : repC (tabOf quotePs) c = quoteC c := by
  unfold repC tabOf quotePs quoteC
  by_cases h1 : (92 : UInt8) = c
  · subst h1; decide
  · by_cases h2 : (34 : UInt8) = c
    · subst h2; decide
    · have e1 : ((92 : UInt8) == c) = false := by simpa using h1
      have e2 : ((34 : UInt8) == c) = false := by simpa using h2
      simp [List.find?, e1, e2]
      exact ⟨fun h => h2 h.symm, fun h => h1 h.symm⟩
theorem repl_quote (s : Bs) : repl (tabOf quotePs) s = s.flatMap quoteC := by
  unfold repl
  congr 1; funext c; exact repC_quote c
theorem quoteC_le (s : Bs) : (s.flatMap quoteC).length ≤ 2 * s.length := by
  induction s with
  | nil => simp
  | cons c r ih =>
    have : (quoteC c).length ≤ 2 := by unfold quoteC; split <;> simp
    simp at ih ⊢; omega
set_option maxRecDepth 100000 in
set_option maxHeartbeats 4000000 in
theorem quote_any (l : Bs) (hl : l.length ≤ 1000000) (w : World) : Calls Tryz.prog 151 #[S l] w fun e w' => e = .returned (S (quote l)) ∧ Fr w w' := by
  have hq := quoteC_le l
  have HQ := Lib.hid (repl_quote l)
  show Calls Tryz.prog 151 #[S l] w fun e w' => e = .returned (S (34 :: (l.flatMap quoteC ++ [34]))) ∧ Fr w w'
  generalize l.flatMap quoteC = X at *
  have n1 : ¬ 9223372036854775807 < 1 + X.length := by omega
  have n2 : ¬ 9223372036854775807 < 1 + X.length + 1 := by omega
  have e1 := cat2 [34] X
  have e2 := cat2 (34 :: X) [34]
  go_enter Tryz.func151, Tryz.ntmps151
  go_wp2_with fail
  refine (newReplacer_any quotePs quotePs_fine ⟨w.heap.size, 0, none⟩ 4 _ (World.news_of_block (fr := (0, 0)) (heap_alloc_new w _))).mono ?_
  rintro e w4 ⟨R, rfl, hR⟩
  go_wp2_with fail
  refine (replace_any quotePs quotePs_fine R _ _ hR l hl).mono ?_
  rintro e w5 ⟨rfl, f5⟩
  rw [HQ.out]
  clear HQ
  go_wp2
  go_ret
  exact ⟨rfl, ((Fr.refl w).alloc _).trans f5⟩

theorem pprint_take (ps : List (Bs × Bs)) (k : Nat) (h : k < ps.length) : (ps.take (k + 1)).flatMap pprint = (ps.take k).flatMap pprint ++ pprint ps[k] := by
  rw [List.take_succ_eq_append_getElem h, List.flatMap_append]; simp
theorem pvalue_le (v : Bs) : (pvalue v).length ≤ 2 * v.length + 2 := by
  have := quoteC_le v
  unfold pvalue quote
  split
  · omega
  · simp; simp at this; omega
/-- A type whose texts are short. -/
structure ShortM (m : Mime) : Prop where
  type : m.type.length ≤ 1000000
  sub : m.sub.length ≤ 1000000
  n : m.params.length ≤ 20000
  par : ∀ p ∈ m.params, p.1.length ≤ 1000000 ∧ p.2.length ≤ 1000000
theorem pprint_le (ps : List (Bs × Bs)) (h : ∀ p ∈ ps, p.1.length ≤ 1000000 ∧ p.2.length ≤ 1000000) : (ps.flatMap pprint).length ≤ 4000000 * ps.length := by
  induction ps with
  | nil => simp
  | cons p r ih =>
    have h1 := h p (by simp)
    have h2 := ih fun q hq => h q (by simp [hq])
    have h3 := pvalue_le p.2
    simp [pprint] at h2 ⊢; omega
set_option maxRecDepth 100000 in
set_option maxHeartbeats 4000000 in
theorem mprint_any (m : Mime) (h : ShortM m) (v : Value) (w : World) (hr : Row2 v m.params w) : Calls Tryz.prog 63 #[mimeV m v] w fun e w' => e = .returned (S (mprint m)) ∧ Fr w w' := by
  obtain ⟨A, cap, rfl, hr⟩ := hr
  have HR := Lib.hid hr
  clear hr
  obtain ⟨ty, sub, ps⟩ := m
  obtain ⟨ht, hs, hn, hp⟩ := h
  simp only at ht hs hn hp HR
  have HP := Lib.hid hp
  have HL := Lib.hid fun k => pprint_le (ps.take k) fun p hp2 => hp p (List.mem_of_mem_take hp2)
  have HE : Hid (∀ w, Calls Tryz.prog 32 #[.agg #[S ty, S sub, .slice A ps.length cap]] w fun e w' => e = .returned (S (ty ++ 47 :: sub)) ∧ Fr w w') := Lib.hid fun w => essence_any ⟨ty, sub, ps⟩ (by simp only; omega) (by simp only; omega) (.slice A ps.length cap) w
  have hel : (ty ++ 47 :: sub).length ≤ 3000000 := by simp; omega
  unfold mimeV
  show Calls Tryz.prog 63 #[.agg #[S ty, S sub, .slice A ps.length cap]] w fun e w' => e = .returned (S ((ty ++ 47 :: sub) ++ ps.flatMap pprint)) ∧ Fr w w'
  generalize ty ++ 47 :: sub = X0 at *
  have F1 : Fr w (w.alloc (Obj.cells #[S ty, S sub, .slice A ps.length cap] 33)) := (Fr.refl w).alloc _
  have B1 : Blk w.heap.size #[S ty, S sub, .slice A ps.length cap] 33 (w.alloc (Obj.cells #[S ty, S sub, .slice A ps.length cap] 33)) := ⟨heap_alloc_new w _⟩
  have hb := Bld.new (w.alloc (Obj.cells #[S ty, S sub, .slice A ps.length cap] 33))
  have hsz : (w.alloc (Obj.cells #[S ty, S sub, .slice A ps.length cap] 33)).heap.size = w.heap.size + 1 := by simp
  clear hp
  go_enter Tryz.func63, Tryz.ntmps63
  go_wp2_with fail
  refine (HE.out _).mono ?_
  rintro e w2 ⟨rfl, f2⟩
  clear HE
  rw [hsz] at hb
  replace hb := hb.step f2
  have c2 : w2.cell? ⟨w.heap.size, 2, none⟩ = some (.slice A ps.length cap) := (B1.fr hb.fr).cell rfl
  generalize w.alloc _ = w1 at *
  go_wp2_with fail
  refine (bld_string hb _ (by simp) (by omega)).mono ?_
  rintro e w3 ⟨rfl, hb3⟩
  rw [List.nil_append] at hb3
  have c2 : w3.cell? ⟨w.heap.size, 2, none⟩ = some (.slice A ps.length cap) := (B1.fr hb3.fr).cell rfl
  clear hb f2
  go_wp2
  go_loopw [13] (fun i wr => ∃ k : Nat, k ≤ ps.length ∧ i = .int .i64 k ∧ Bld w1 (w.heap.size + 1) (X0 ++ (ps.take k).flatMap pprint) wr) (fun i _ => ps.length - (intOf i).toNat)
  case atStart => exact ⟨0, by omega, rfl, by simpa using hb3⟩
  case round =>
    obtain ⟨k, hk, rfl, hr⟩ := hrel
    clear hb3 c2
    by_cases hlt : k < ps.length
    · obtain ⟨g, off, rfl, h1, h2⟩ := HR.out k hlt
      have hf := F1.trans hr.fr
      replace h1 := hf.cell h1
      replace h2 := hf.cell h2
      obtain ⟨hp1, hp2⟩ := HP.out ps[k] (List.getElem_mem hlt)
      have hXl : (X0 ++ (ps.take k).flatMap pprint).length ≤ 90000000000 := by
        have := HL.out k
        have h3 : (ps.take k).length ≤ ps.length := by simp; omega
        simp at this ⊢; omega
      have HT := Lib.hid (pprint_take ps k hlt)
      obtain ⟨⟨pn, pv0⟩, hpk⟩ : ∃ q, q = ps[k] := ⟨_, rfl⟩
      rw [← hpk] at h1 h2 hp1 hp2 HT
      simp only at h1 h2 hp1 hp2
      generalize hX : X0 ++ (ps.take k).flatMap pprint = X at *
      have HX := Lib.hid hX
      clear hpk hX HR HL HP
      have hr1 := hr.step ((Fr.refl wr).alloc (Obj.cells #[S pn, S pv0] 82))
      have P1 : Blk wr.heap.size #[S pn, S pv0] 82 (wr.alloc (Obj.cells #[S pn, S pv0] 82)) := ⟨heap_alloc_new wr _⟩
      clear P1
      have HTk : Hid (∀ w, Calls Tryz.prog 137 #[S pv0] w fun e w' => e = .returned (.bool (isToken pv0)) ∧ w = w') := Lib.hid fun w => token_any pv0 (by omega) w
      have HPv : Hid (pprint (pn, pv0) = 59 :: (pn ++ [61]) ++ pvalue pv0) := Lib.hid (by simp [pprint])
      have hpvl := pvalue_le pv0
      cases ht : isToken pv0 with
      | true =>
        have hpq : pvalue pv0 = pv0 := by unfold pvalue; rw [if_pos ht]
        rw [hpq] at HPv
        rw [ht] at HTk
        clear hpq hpvl
        have e1 := cat2 [59] pn
        have e2 := cat2 (59 :: pn) [61]
        have e3 := cat2 (59 :: (pn ++ [61])) pv0
        have HS : Hid (X ++ (59 :: (pn ++ [61]) ++ pv0) = X0 ++ (ps.take (k + 1)).flatMap pprint) := Lib.hid (by rw [← HX.out, HT.out, HPv.out]; simp)
        clear HX HT HPv
        go_wp2_with fail
        refine (HTk.out _).mono ?_
        rintro e w4 ⟨rfl, rfl⟩
        go_wp2_with fail
        refine (bld_string hr1 (59 :: (pn ++ 61 :: pv0)) (by omega) (by simp; omega)).mono ?_
        rintro e w5 ⟨rfl, hr5⟩
        have hr6 : Bld w1 (w.heap.size + 1) (X0 ++ (ps.take (k + 1)).flatMap pprint) w5 := by
          rw [← HS.out]; simpa using hr5
        clear hr5
        go_wp2
        exact ⟨⟨k + 1, by omega, by go_num, hr6⟩, by simp [intOf]; omega⟩
      | false =>
        have hpq : pvalue pv0 = quote pv0 := by unfold pvalue; rw [if_neg (by simp [ht])]
        rw [hpq] at HPv hpvl
        rw [ht] at HTk
        have HQt : Hid (∀ w, Calls Tryz.prog 151 #[S pv0] w fun e w' => e = .returned (S (quote pv0)) ∧ Fr w w') := Lib.hid fun w => quote_any pv0 (by omega) w
        clear hpq
        have P1 : Blk wr.heap.size #[S pn, S pv0] 82 (wr.alloc (Obj.cells #[S pn, S pv0] 82)) := ⟨heap_alloc_new wr _⟩
        generalize quote pv0 = Qv at *
        have e1 := cat2 [59] pn
        have e2 := cat2 (59 :: pn) [61]
        have e3 := cat2 (59 :: (pn ++ [61])) Qv
        have HS : Hid (X ++ (59 :: (pn ++ [61]) ++ Qv) = X0 ++ (ps.take (k + 1)).flatMap pprint) := Lib.hid (by rw [← HX.out, HT.out, HPv.out]; simp)
        clear HX HT HPv
        go_wp2_with fail
        refine (HTk.out _).mono ?_
        rintro e w4 ⟨rfl, rfl⟩
        go_wp2_with fail
        refine (HQt.out _).mono ?_
        rintro e w4 ⟨rfl, f4⟩
        replace hr1 := hr1.step f4
        have k0 : w4.cell? ⟨wr.heap.size, 0, none⟩ = some (S pn) := (P1.fr f4).cell rfl
        clear HQt HTk P1
        go_wp2_with fail
        refine (bld_string hr1 (59 :: (pn ++ 61 :: Qv)) (by omega) (by simp; omega)).mono ?_
        rintro e w5 ⟨rfl, hr5⟩
        have hr6 : Bld w1 (w.heap.size + 1) (X0 ++ (ps.take (k + 1)).flatMap pprint) w5 := by
          rw [← HS.out]; simpa using hr5
        clear hr5
        go_wp2
        exact ⟨⟨k + 1, by omega, by go_num, hr6⟩, by simp [intOf]; omega⟩
    · obtain rfl : k = ps.length := by omega
      have HE : Hid (X0 ++ (ps.take ps.length).flatMap pprint = X0 ++ ps.flatMap pprint) := Lib.hid (by rw [List.take_length])
      rw [HE.out] at hr
      clear HE HL HP
      go_wp2_with (go_at_call 152; refine (bld_done hr).mono ?_; rintro e w' ⟨rfl, hf⟩)
      go_ret
      exact ⟨rfl, F1.trans hf⟩

/-! ### mime.Right -/
set_option maxRecDepth 100000 in
theorem twiceR_any (p q : Bs × Bs) (b : Nat) (w : World) (hb : w.cell? ⟨b, 0, none⟩ = some (S q.1)) : Calls Tryz.prog 147 #[pv p, .pointer (some ⟨b, 0, none⟩)] w fun e w' => e = .returned (.bool (p.1 == q.1)) ∧ Fr w w' := by
  have hc := fun o => ((Fr.refl w).alloc o).cell hb
  unfold pv
  go_enter Tryz.func147, Tryz.ntmps147
  go_wp2
  go_ret
  exact ⟨rfl, (Fr.refl w).alloc _⟩
set_option maxRecDepth 100000 in
set_option maxHeartbeats 4000000 in
theorem indexR_any (ps : List (Bs × Bs)) (hl : ps.length ≤ 1000000000) (n : Bs) (v : Value) (b : Nat) (w : World) (hr : Row2 v ps w) (hb : w.cell? ⟨b, 0, none⟩ = some (S n)) :
    Calls Tryz.prog 208 #[v, .func (.func 147) #[] #[.pointer (some ⟨b, 0, none⟩)]] w fun e w' => (∃ i : Int, e = .returned (.int .i64 i) ∧ decide (0 ≤ i) = ps.any fun p => p.1 == n) ∧ Fr w w' := by
  obtain ⟨A, cap, rfl, hr⟩ := hr
  have HR := Lib.hid hr
  clear hr
  go_enter Tryz.func208, Tryz.ntmps208
  go_wp2
  go_loopw [8] (fun i wr => ∃ k : Nat, k ≤ ps.length ∧ i = .int .i64 k ∧ Fr w wr ∧ Hid (((ps.drop k).any fun p => p.1 == n) = ps.any fun p => p.1 == n)) (fun i _ => ps.length - (intOf i).toNat)
  case atStart => exact ⟨0, by omega, rfl, Fr.refl _, Lib.hid (by simp)⟩
  case round =>
    obtain ⟨k, hk, rfl, hf, HQ⟩ := hrel
    by_cases hlt : k < ps.length
    · obtain ⟨g, off, rfl, h1, h2⟩ := HR.out k hlt
      have h1 := hf.cell h1
      have h2 := hf.cell h2
      have hb2 := hf.cell hb
      have hb2 := hf.cell hb
      have hdk : ps.drop k = ps[k] :: ps.drop (k + 1) := List.drop_eq_getElem_cons hlt
      have HT : Hid (∀ w, w.cell? ⟨b, 0, none⟩ = some (S n) → Calls Tryz.prog 147 #[.agg #[S ps[k].1, S ps[k].2], .pointer (some ⟨b, 0, none⟩)] w fun e w' => e = .returned (.bool (ps[k].1 == n)) ∧ Fr w w') := Lib.hid fun w h => twiceR_any ps[k] (n, []) b w h
      by_cases he : (ps[k].1 == n) = true
      · have HQ2 : Hid (decide (0 ≤ (k : Int)) = ps.any fun p => p.1 == n) := Lib.hid (by rw [← HQ.out, hdk, List.any_cons, he, Bool.true_or]; exact decide_eq_true (by omega))
        rw [he] at HT
        clear HQ hdk HR he
        go_wp2_with fail
        refine (HT.out _ hb2).mono ?_
        rintro e w2 ⟨rfl, hf2⟩
        go_wp2
        go_ret
        exact ⟨⟨_, rfl, HQ2.out⟩, hf.trans hf2⟩
      · have he : (ps[k].1 == n) = false := by simpa using he
        have HQ2 : Hid (((ps.drop (k + 1)).any fun p => p.1 == n) = ps.any fun p => p.1 == n) := Lib.hid (by rw [← HQ.out, hdk, List.any_cons, he, Bool.false_or])
        rw [he] at HT
        clear HQ hdk HR he
        go_wp2_with fail
        refine (HT.out _ hb2).mono ?_
        rintro e w2 ⟨rfl, hf2⟩
        go_wp2
        exact ⟨⟨k + 1, by omega, by go_num, hf.trans hf2, HQ2⟩, by simp [intOf]; omega⟩
    · have HQ2 : (ps.any fun p => p.1 == n) = false := by rw [← HQ.out, List.drop_eq_nil_of_le (by omega)]; rfl
      clear HQ HR
      go_wp2
      go_ret
      exact ⟨⟨_, rfl, by rw [HQ2]; rfl⟩, hf⟩
set_option maxRecDepth 100000 in
theorem containsR_any (ps : List (Bs × Bs)) (hl : ps.length ≤ 1000000000) (n : Bs) (v : Value) (b : Nat) (w : World) (hr : Row2 v ps w) (hb : w.cell? ⟨b, 0, none⟩ = some (S n)) :
    Calls Tryz.prog 146 #[v, .func (.func 147) #[] #[.pointer (some ⟨b, 0, none⟩)]] w fun e w' => e = .returned (.bool (ps.any fun p => p.1 == n)) ∧ Fr w w' := by
  have HI : Hid (∀ w, Row2 v ps w → w.cell? ⟨b, 0, none⟩ = some (S n) → _) := Lib.hid fun w h1 h2 => indexR_any ps hl n v b w h1 h2
  go_enter Tryz.func146, Tryz.ntmps146
  go_wp2_with fail
  refine (HI.out _ hr hb).mono ?_
  rintro e w2 ⟨⟨i, rfl, hi⟩, hf⟩
  go_wp2
  go_ret
  exact ⟨by rw [← hi]; rfl, hf⟩


theorem slice_row2 {A : Option Addr} {cap : Nat} {ps : List (Bs × Bs)} {w : World} (h : Row2 (.slice A ps.length cap) ps w) (k : Nat) (hk : k ≤ ps.length) : Row2 (.slice A k cap) (ps.take k) w := by
  obtain ⟨A', cap', hv, hr⟩ := h
  injection hv with e1 e2 e3
  subst e1 e3
  refine ⟨A, cap, by simp [Nat.min_eq_left hk], fun j hj => ?_⟩
  have hj2 : j < ps.length := by simp at hj; omega
  obtain ⟨b, off, hA, h1, h2⟩ := hr j hj2
  exact ⟨b, off, hA, by rw [List.getElem_take]; exact h1, by rw [List.getElem_take]; exact h2⟩
set_option maxRecDepth 100000 in
set_option maxHeartbeats 4000000 in
theorem mright_any (m : Mime) (h : ShortM m) (A : Option Addr) (cap : Nat) (hcap : m.params.length ≤ cap) (w : World) (hE : Env w) (hr : Row2 (.slice A m.params.length cap) m.params w) : Calls Tryz.prog 62 #[mimeV m (.slice A m.params.length cap)] w fun e w' => e = .returned (.bool (mright m)) ∧ Fr w w' := by
  have HR0 := Lib.hid hr
  obtain ⟨A', cap', hv, hr⟩ := hr
  injection hv with e1 e2 e3
  subst e1 e3
  clear e2
  have HR := Lib.hid hr
  clear hr
  obtain ⟨ty, sub, ps⟩ := m
  obtain ⟨ht, hs, hn, hp⟩ := h
  simp only at ht hs hn hp HR HR0 hcap
  have HP := Lib.hid hp
  clear hp
  unfold mimeV
  show Calls Tryz.prog 62 #[.agg #[S ty, S sub, .slice A ps.length cap]] w fun e w' => e = .returned (.bool (paramsOk [] ps && (small ty && small sub))) ∧ Fr w w'
  have F1 : Fr w (w.alloc (Obj.cells #[S ty, S sub, .slice A ps.length cap] 33)) := (Fr.refl w).alloc _
  have B1 : Blk w.heap.size #[S ty, S sub, .slice A ps.length cap] 33 (w.alloc (Obj.cells #[S ty, S sub, .slice A ps.length cap] 33)) := ⟨heap_alloc_new w _⟩
  go_enter Tryz.func62, Tryz.ntmps62
  go_wp2
  generalize w.alloc _ = w1 at *
  go_loopw [9] (fun i wr => ∃ k : Nat, k ≤ ps.length ∧ i = .int .i64 k ∧ Fr w1 wr ∧ Hid (paramsOk [] ps = paramsOk (ps.take k) (ps.drop k))) (fun i _ => ps.length - (intOf i).toNat)
  case atStart => exact ⟨0, by omega, rfl, Fr.refl _, Lib.hid (by simp)⟩
  case round =>
    obtain ⟨k, hk, rfl, hf, HQ⟩ := hrel
    have hf1 := F1.trans hf
    have B2 := B1.fr hf
    have c2 : wr.cell? ⟨w.heap.size, 2, none⟩ = some (.slice A ps.length cap) := B2.cell rfl
    by_cases hlt : k < ps.length
    · obtain ⟨g, off, rfl, h1, h2⟩ := HR.out k hlt
      have h1 := hf1.cell h1
      have h2 := hf1.cell h2
      obtain ⟨hp1, hp2⟩ := HP.out ps[k] (List.getElem_mem hlt)
      have hdk : ps.drop k = ps[k] :: ps.drop (k + 1) := List.drop_eq_getElem_cons hlt
      have htk : ps.take (k + 1) = ps.take k ++ [ps[k]] := List.take_succ_eq_append_getElem hlt
      have htl : (ps.take k).length = k := by simp; omega
      have HQ1 : Hid (paramsOk [] ps = (!((ps.take k).any fun q => q.1 == ps[k].1) && small ps[k].1 && quotable ps[k].2 && paramsOk (ps.take (k + 1)) (ps.drop (k + 1)))) := Lib.hid (by rw [HQ.out, hdk, htk]; rfl)
      have HC : Hid (∀ w2 b, Fr w w2 → w2.cell? ⟨b, 0, none⟩ = some (S ps[k].1) → Calls Tryz.prog 146 #[.slice (some ⟨g, off, none⟩) k cap, .func (.func 147) #[] #[.pointer (some ⟨b, 0, none⟩)]] w2 fun e w' => e = .returned (.bool ((ps.take k).any fun p => p.1 == ps[k].1)) ∧ Fr w2 w') := Lib.hid fun w2 b h2 hb =>
        containsR_any (ps.take k) (by omega) ps[k].1 _ b w2 ((slice_row2 HR0.out k hk).fr h2) hb
      have HSm : Hid (∀ w, Calls Tryz.prog 148 #[S ps[k].1] w fun e w' => e = .returned (.bool (small ps[k].1)) ∧ Fr w w') := Lib.hid fun w => small_any _ (by omega) w
      have HQt : Hid (∀ w, Env w → Calls Tryz.prog 149 #[S ps[k].2] w fun e w' => e = .returned (.bool (quotable ps[k].2)) ∧ Fr w w') := Lib.hid fun w h => quotable_any _ (by omega) w h
      have P1 : Blk wr.heap.size #[S ps[k].1, S ps[k].2] 82 (wr.alloc (Obj.cells #[S ps[k].1, S ps[k].2] 82)) := ⟨heap_alloc_new wr _⟩
      have fA : Fr wr (wr.alloc (Obj.cells #[S ps[k].1, S ps[k].2] 82)) := (Fr.refl wr).alloc _
      have c2a : (wr.alloc (Obj.cells #[S ps[k].1, S ps[k].2] 82)).cell? ⟨w.heap.size, 2, none⟩ = some (.slice (some ⟨g, off, none⟩) ps.length cap) := (B2.fr fA).cell rfl
      have kz : (wr.alloc (Obj.cells #[S ps[k].1, S ps[k].2] 82)).cell? ⟨wr.heap.size, 0, none⟩ = some (S ps[k].1) := P1.cell rfl
      have hkc : (k : Int) ≤ (cap : Int) := by omega
      have hkc2 : k ≤ cap := by omega
      generalize ps[k].1 = pn at *
      generalize ps[k].2 = pw at *
      clear HQ hdk htk htl HR HP
      go_wp2_with fail
      generalize wr.alloc _ = w2 at *
      generalize wr.heap.size = bp at *
      refine (HC.out _ _ (hf1.trans fA) kz).mono ?_
      clear HC
      cases hany : (ps.take k).any fun p => p.1 == pn with
      | true =>
        have HE : Hid (paramsOk [] ps = false) := Lib.hid (by rw [HQ1.out, hany]; rfl)
        clear HQ1
        rintro e w3 ⟨rfl, f3⟩
        go_wp2
        go_ret
        exact ⟨ret_b (by rw [HE.out]; rfl), (hf1.trans fA).trans f3⟩
      | false =>
        rintro e w3 ⟨rfl, f3⟩
        have k3 : w3.cell? ⟨bp, 0, none⟩ = some (S pn) := (P1.fr f3).cell rfl
        go_wp2_with fail
        refine (HSm.out _).mono ?_
        clear HSm
        cases hsm : small pn with
        | false =>
          have HE : Hid (paramsOk [] ps = false) := Lib.hid (by rw [HQ1.out, hany, hsm]; rfl)
          clear HQ1
          rintro e w4 ⟨rfl, f4⟩
          go_wp2
          go_ret
          exact ⟨ret_b (by rw [HE.out]; rfl), ((hf1.trans fA).trans f3).trans f4⟩
        | true =>
          rintro e w4 ⟨rfl, f4⟩
          have k4 : w4.cell? ⟨bp, 1, none⟩ = some (S pw) := ((P1.fr f3).fr f4).cell rfl
          have f5 := ((hf1.trans fA).trans f3).trans f4
          go_wp2_with fail
          refine (HQt.out _ (hE.fr f5)).mono ?_
          clear HQt
          cases hqt : quotable pw with
          | false =>
            have HE : Hid (paramsOk [] ps = false) := Lib.hid (by rw [HQ1.out, hany, hsm, hqt]; rfl)
            clear HQ1
            rintro e w6 ⟨rfl, f6⟩
            go_wp2
            go_ret
            exact ⟨ret_b (by rw [HE.out]; rfl), f5.trans f6⟩
          | true =>
            have HE : Hid (paramsOk [] ps = paramsOk (ps.take (k + 1)) (ps.drop (k + 1))) := Lib.hid (by rw [HQ1.out, hany, hsm, hqt]; rfl)
            clear HQ1
            rintro e w6 ⟨rfl, f6⟩
            go_wp2
            exact ⟨⟨k + 1, by omega, by go_num, ((hf.trans fA).trans (f3.trans f4)).trans f6, HE⟩, by simp [intOf]; omega⟩
    · obtain rfl : k = ps.length := by omega
      have HE : Hid (paramsOk [] ps = true) := Lib.hid (by rw [HQ.out, List.take_length, List.drop_length]; rfl)
      have c0 : wr.cell? ⟨w.heap.size, 0, none⟩ = some (S ty) := B2.cell rfl
      have HSt : Hid (∀ w, Calls Tryz.prog 148 #[S ty] w fun e w' => e = .returned (.bool (small ty)) ∧ Fr w w') := Lib.hid fun w => small_any _ (by omega) w
      have HSs : Hid (∀ w, Calls Tryz.prog 148 #[S sub] w fun e w' => e = .returned (.bool (small sub)) ∧ Fr w w') := Lib.hid fun w => small_any _ (by omega) w
      clear HQ HR HP HR0
      go_wp2_with fail
      refine (HSt.out _).mono ?_
      cases hsm : small ty with
      | false =>
        rintro e w4 ⟨rfl, f4⟩
        go_wp2
        go_ret
        exact ⟨ret_b (by rw [HE.out, hsm]; rfl), hf1.trans f4⟩
      | true =>
        rintro e w4 ⟨rfl, f4⟩
        have c1 : w4.cell? ⟨w.heap.size, 1, none⟩ = some (S sub) := (B2.fr f4).cell rfl
        go_wp2_with fail
        refine (HSs.out _).mono ?_
        rintro e w5 ⟨rfl, f5⟩
        go_wp2
        go_ret
        exact ⟨ret_b (by rw [HE.out, hsm]; rfl), (hf1.trans f4).trans f5⟩
end Go.Proofs.YtogpmgjdmoglkaaGreatDoor
