/- Walks: mime.Parse. -/
import Derived.Test.YtogpmgjdmoglkaaGreatDoorHVg
import Derived.Deep.MidRow
set_option linter.unusedVariables false
set_option linter.unusedSimpArgs false
namespace Go.Proofs.YtogpmgjdmoglkaaGreatDoor
open Go.RowKit Pu

theorem cutB_while (c : UInt8) : ∀ s : Bs, (cutB c s).1 = s.takeWhile (not1 c) ∧ (cutB c s).2.2 = !(s.dropWhile (not1 c)).isEmpty ∧ (cutB c s).2.1 = (s.dropWhile (not1 c)).drop 1
  | [] => by simp [cutB]
  | x :: r => by
    have ih := cutB_while c r
    by_cases h : x = c
    · simp [cutB, h, not1]
    · have h2 : not1 c x = true := by simp [not1, h]
      simp only [cutB, if_neg h, List.takeWhile_cons, List.dropWhile_cons, h2, if_true]
      exact ⟨by rw [ih.1], ih.2.1, ih.2.2⟩
theorem mparse_cut (s : Bs) : mparse s = if (cutB 47 (trimB blankM s)).2.2 then mparse2 (cutB 47 (trimB blankM s)).1 (cutB 47 (trimB blankM s)).2.1 else none := by
  have h := cutB_while 47 (trimB blankM s)
  rw [h.1, h.2.1, h.2.2]
  unfold mparse
  cases (trimB blankM s).dropWhile (not1 47) <;> simp
theorem cutB_lens (c : UInt8) (s : Bs) : (cutB c s).1.length ≤ s.length ∧ (cutB c s).2.1.length ≤ s.length := by
  have h := cutB_while c s
  rw [h.1, h.2.2]
  refine ⟨(List.takeWhile_sublist _).length_le, ?_⟩
  have := (List.dropWhile_sublist (not1 c) (l := s)).length_le
  simp; omega
theorem trimB_len (p : UInt8 → Bool) (s : Bs) : (trimB p s).length ≤ s.length :=
  Nat.le_trans (trimR_len _ _) (List.dropWhile_sublist _).length_le
theorem setCells_other {nb g : Nat} (h : g ≠ nb) : ∀ (vs : List Value) (o : Nat) (w : World), (w.setCells nb o vs).heap[g]? = w.heap[g]?
  | [], _, _ => rfl
  | v :: vs, o, w => (setCells_other h vs (o + 1) _).trans (heap_setCell_other _ _ _ _ h)
theorem OwnM.put {w0 w6 w7 : World} {v : Value} {ps : List (Bs × Bs)} (h : OwnM w6 v ps w7) (f : Fr w0 w6) {nb : Nat} (hnb : w0.heap.size ≤ nb) (hlt : nb < w6.heap.size) (vs : List Value) : OwnM w0 v ps (w7.setCells nb 0 vs) :=
  ⟨by
    refine ⟨h.own.1, ?_⟩
    rcases h.own.2 with hv | ⟨g, cap, cur, hv, hg, hat, rest⟩
    · exact .inl hv
    · exact .inr ⟨g, cap, cur, hv, by have := f.size; omega, by rw [setCells_other (by omega)]; exact hat, rest⟩,
   (f.trans h.fr).setAll hnb vs 0⟩
def mimeL (m : Mime) (v : Value) : List Value := [S m.type, S m.sub, v]

set_option maxRecDepth 100000 in
set_option maxHeartbeats 4000000 in
theorem mparse_any (l : Bs) (hl : l.length ≤ 100000000) (w : World) (hE : Env w) : Calls Tryz.prog 49 #[S l] w fun e w' =>
    ∃ v, e = .returned (.tuple #[mimeV ((mparse l).getD {}) v, .bool (mparse l).isSome]) ∧ OwnM w v ((mparse l).getD {}).params w' := by
  have hm := mparse_cut l
  have h1 := trimB_len blankM l
  have h2 := cutB_lens 47 (trimB blankM l)
  have HC : Hid (∀ w2, Env w2 → Calls Tryz.prog 34 #[S (trimB blankM l), S [47]] w2 fun e w' => e = .returned (.tuple #[S (cutB 47 (trimB blankM l)).1, S (cutB 47 (trimB blankM l)).2.1, .bool (cutB 47 (trimB blankM l)).2.2]) ∧ Fr w2 w') := Lib.hid fun w2 h => cut_any 47 (trimB blankM l) (by omega) w2 h
  generalize hcv : cutB 47 (trimB blankM l) = cv at *
  obtain ⟨kind, rest, ok⟩ := cv
  clear hcv
  simp only at h2 hm HC
  have hsz : (Tryz.prog.info? 33).map (·.size) = some 3 := by kernel_rfl
  go_enter Tryz.func49, Tryz.ntmps49
  go_wp2_with fail
  have B0 : Blk w.heap.size #[S [], S [], .slice none 0 0] 33 (w.alloc (Obj.cells #[Value.string ⟨#[]⟩, Value.string ⟨#[]⟩, .slice none 0 0] 33)) := ⟨heap_alloc_new w _⟩
  have F0 : Fr w (w.alloc (Obj.cells #[Value.string ⟨#[]⟩, Value.string ⟨#[]⟩, .slice none 0 0] 33)) := (Fr.refl w).alloc _
  have hnb : w.heap.size ≤ w.heap.size := Nat.le_refl _
  generalize (w.alloc (Obj.cells #[Value.string ⟨#[]⟩, Value.string ⟨#[]⟩, .slice none 0 0] 33)) = W0 at *
  generalize hnb2 : w.heap.size = nb at B0 hnb ⊢
  replace hnb : w.heap.size ≤ nb := by omega
  clear hnb2
  refine (ttrim_any l (by omega) _).mono ?_
  rintro e W1 ⟨rfl, f1⟩
  replace B0 := B0.fr f1
  replace F0 := F0.trans f1
  clear f1
  go_wp2_with fail
  refine (HC.out _ (hE.fr F0)).mono ?_
  rintro e W2 ⟨rfl, f1⟩
  replace B0 := B0.fr f1
  replace F0 := F0.trans f1
  clear f1 HC
  go_wp2_with fail
  have hm2 := mcut_any rest [59] (by omega) (by decide)
  rw [notIn_one] at hm2
  have hs1 : (rest.takeWhile (not1 59)).length ≤ rest.length := (List.takeWhile_sublist _).length_le
  have hs2 : (rest.dropWhile (not1 59)).length ≤ rest.length := (List.dropWhile_sublist _).length_le
  have hm3 : mparse l = if ok = true then (if isToken kind && isToken (trimR blankM (rest.takeWhile (not1 59))) then some ⟨lower kind, lower (trimR blankM (rest.takeWhile (not1 59))), paramsGo [] (rest.dropWhile (not1 59))⟩ else none) else none := hm
  clear hm
  generalize rest.takeWhile (not1 59) = sub at *
  generalize rest.dropWhile (not1 59) = tl at *
  refine (hm2 _).mono ?_
  rintro e W3 ⟨rfl, f1⟩
  replace B0 := B0.fr f1
  replace F0 := F0.trans f1
  clear f1 hm2
  go_wp2_with fail
  have hs3 := trimR_len blankM sub
  refine (tright_any sub (by omega) _).mono ?_
  rintro e W4 ⟨rfl, f1⟩
  replace B0 := B0.fr f1
  replace F0 := F0.trans f1
  clear f1
  generalize trimR blankM sub = sb at *
  have HNone : Hid (mparse l = none → ∀ W5 : World, Blk nb #[S [], S [], .slice none 0 0] 33 W5 → Fr w W5 → ∃ v, (Ending.returned (.tuple #[.agg #[S [], S [], .slice none 0 0], .bool false])) = .returned (.tuple #[mimeV ((mparse l).getD {}) v, .bool (mparse l).isSome]) ∧ OwnM w v ((mparse l).getD {}).params W5) := Lib.hid fun h W5 _ hf => ⟨.slice none 0 0, by rw [h]; rfl, by rw [h]; exact (OwnM.nil w).step hf⟩
  have hrange := fun (W : World) (cs : Array Value) (h : Blk nb cs 33 W) (h3 : cs.size = 3) => run_loadVar_row (P := Tryz.prog) W nb 33 33 cs (0, 0) _ h.at_ Tryz.underlying33 rfl (by rw [h3]; exact hsz)
  cases ok
  · have hmm : mparse l = none := by rw [hm3]; rfl
    have hth := B0.there 3 (by simp)
    go_wp2_with (refine wpList_store_mid rfl 33 (.tmp 2) (.tmp 34) rfl nb 0 #[S [], S [], .slice none 0 0] rfl rfl hth hsz (by simp [Value.oneCell']) ?_)
    have B5 := B0.url [S [], S [], .slice none 0 0] rfl
    have F5 := F0.setAll hnb [S [], S [], .slice none 0 0] 0
    have hld := hrange _ _ B5 rfl
    have hf := HNone.out hmm _ B5 F5
    generalize W4.setCells nb 0 [S [], S [], .slice none 0 0] = W5 at *
    exact bodyPost_ret (v := .tuple #[.agg #[S [], S [], .slice none 0 0], .bool false]) (by simp [results, Tryz.results49, asAddr, hld]) rfl hf
  · cases hk : isToken kind
    · have hmm : mparse l = none := by rw [hm3]; simp [hk]
      have hth := B0.there 3 (by simp)
      go_wp2_with fail
      refine (token_any kind (by omega) _).mono ?_
      rw [hk]
      rintro e W5 ⟨rfl, rfl⟩
      go_wp2_with (refine wpList_store_mid rfl 33 (.tmp 2) (.tmp 34) rfl nb 0 #[S [], S [], .slice none 0 0] rfl rfl hth hsz (by simp [Value.oneCell']) ?_)
      have B5 := B0.url [S [], S [], .slice none 0 0] rfl
      have F5 := F0.setAll hnb [S [], S [], .slice none 0 0] 0
      have hld := hrange _ _ B5 rfl
      have hf := HNone.out hmm _ B5 F5
      generalize W4.setCells nb 0 [S [], S [], .slice none 0 0] = W5 at *
      exact bodyPost_ret (v := .tuple #[.agg #[S [], S [], .slice none 0 0], .bool false]) (by simp [results, Tryz.results49, asAddr, hld]) rfl hf
    · cases hb : isToken sb
      · have hmm : mparse l = none := by rw [hm3]; simp [hb]
        have hth := B0.there 3 (by simp)
        go_wp2_with fail
        refine (token_any kind (by omega) _).mono ?_
        rw [hk]
        rintro e W5 ⟨rfl, rfl⟩
        go_wp2_with fail
        refine (token_any sb (by omega) _).mono ?_
        rw [hb]
        rintro e W5 ⟨rfl, rfl⟩
        go_wp2_with (refine wpList_store_mid rfl 33 (.tmp 2) (.tmp 34) rfl nb 0 #[S [], S [], .slice none 0 0] rfl rfl hth hsz (by simp [Value.oneCell']) ?_)
        have B5 := B0.url [S [], S [], .slice none 0 0] rfl
        have F5 := F0.setAll hnb [S [], S [], .slice none 0 0] 0
        have hld := hrange _ _ B5 rfl
        have hf := HNone.out hmm _ B5 F5
        generalize W4.setCells nb 0 [S [], S [], .slice none 0 0] = W5 at *
        exact bodyPost_ret (v := .tuple #[.agg #[S [], S [], .slice none 0 0], .bool false]) (by simp [results, Tryz.results49, asAddr, hld]) rfl hf
      · have hmm : mparse l = some ⟨lower kind, lower sb, paramsGo [] tl⟩ := by rw [hm3]; simp [hk, hb]
        have HDone : Hid (∀ (v : Value) (W : World), OwnM w v (paramsGo [] tl) W → ∃ v2, (Ending.returned (.tuple #[.agg #[S (lower kind), S (lower sb), v], .bool true])) = .returned (.tuple #[mimeV ((mparse l).getD {}) v2, .bool (mparse l).isSome]) ∧ OwnM w v2 ((mparse l).getD {}).params W) := Lib.hid fun v W h => ⟨v, by rw [hmm]; rfl, by rw [hmm]; exact h⟩
        clear hmm hm3 HNone
        go_wp2_with fail
        refine (token_any kind (by omega) _).mono ?_
        rw [hk]
        rintro e W5 ⟨rfl, rfl⟩
        go_wp2_with fail
        refine (token_any sb (by omega) _).mono ?_
        rw [hb]
        rintro e W5 ⟨rfl, rfl⟩
        go_wp2_with fail
        refine (lower_any kind (by omega) _).mono ?_
        rintro e W5 ⟨rfl, f1⟩
        replace B0 := B0.fr f1
        replace F0 := F0.trans f1
        clear f1
        go_wp2_with fail
        refine (lower_any sb (by omega) _).mono ?_
        rintro e W6 ⟨rfl, f1⟩
        replace B0 := B0.fr f1
        replace F0 := F0.trans f1
        clear f1
        go_wp2_with fail
        refine (params_any tl (by omega) _ (hE.fr F0)).mono ?_
        rintro e W7 ⟨v, rfl, ov⟩
        have hB6 := B0.lt
        replace B0 := B0.fr ov.fr
        have F1 := F0.trans ov.fr
        have hth := B0.there 3 (by simp)
        generalize paramsGo [] tl = ps at *
        generalize lower kind = lk at *
        generalize lower sb = lb at *
        obtain ⟨A, cap, rfl⟩ := ov.slice
        go_wp2_with (refine wpList_store_mid rfl 33 (.tmp 2) (.tmp 41) rfl nb 0 #[S lk, S lb, .slice A ps.length cap] rfl rfl hth hsz (by simp [Value.oneCell']) ?_)
        have B5 := B0.url [S lk, S lb, .slice A ps.length cap] rfl
        have hld := hrange _ _ B5 rfl
        have hlt : nb < W6.heap.size := hB6
        have hf := HDone.out _ _ (ov.put F0 hnb hlt [S lk, S lb, .slice A ps.length cap])
        generalize W7.setCells nb 0 [S lk, S lb, .slice A ps.length cap] = W8 at *
        exact bodyPost_ret (v := .tuple #[.agg #[S lk, S lb, .slice A ps.length cap], .bool true]) (by simp [results, Tryz.results49, asAddr, hld]) rfl hf
end Go.Proofs.YtogpmgjdmoglkaaGreatDoor
