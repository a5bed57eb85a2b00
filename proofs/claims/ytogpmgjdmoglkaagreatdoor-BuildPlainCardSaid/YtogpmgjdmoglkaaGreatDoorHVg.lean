/- Walks: mime.params. -/
import Derived.Test.YtogpmgjdmoglkaaGreatDoorHVe
import Derived.Test.YtogpmgjdmoglkaaGreatDoorHWv
set_option linter.unusedVariables false
set_option linter.unusedSimpArgs false
namespace Go.Proofs.YtogpmgjdmoglkaaGreatDoor
open Go.RowKit Pu

theorem param_info : (Tryz.prog.info? 82).map (fun i => (i.zero, i.size, i.bytes)) = some (some (.agg #[.string ⟨#[]⟩, .string ⟨#[]⟩]), 2, 32) := by kernel_rfl
/-- A row of parameters of the call's own, new since w0. -/
structure OwnM (w0 : World) (v : Value) (ps : List (Bs × Bs)) (w : World) : Prop where
  own : w.ownsRow w0.heap.size 82 2 v ps.length (pcs ps)
  fr : Fr w0 w
theorem OwnM.nil (w : World) : OwnM w (.slice none 0 0) [] w := ⟨World.ownsRow_nil _ _ _ _, Fr.refl w⟩
theorem OwnM.step {w0 w w' : World} {v : Value} {ps : List (Bs × Bs)} (h : OwnM w0 v ps w) (hf : Fr w w') : OwnM w0 v ps w' :=
  ⟨h.own.kept (row := none) ⟨hf.out.os, hf.out.tape, hf.out.output, hf.out.size, fun k hk _ => hf.out.block k hk⟩ (by cases v.ownBlock <;> simp), h.fr.trans hf⟩
theorem OwnM.slice {w0 w : World} {v : Value} {ps : List (Bs × Bs)} (h : OwnM w0 v ps w) : ∃ A cap, v = .slice A ps.length cap := by
  rcases h.own.2 with ⟨hv, h0⟩ | ⟨g, cap, cur, hv, _⟩
  · exact ⟨none, 0, by rw [hv, h0]⟩
  · exact ⟨_, _, hv⟩
theorem pcs_len : ∀ ps : List (Bs × Bs), (pcs ps).length = ps.length * 2
  | [] => rfl
  | p :: r => by have := pcs_len r; simp [pcs] at *; omega
theorem pcs_at : ∀ (ps : List (Bs × Bs)) (j : Nat) (hj : j < ps.length), (pcs ps)[j * 2]? = some (S ps[j].1) ∧ (pcs ps)[j * 2 + 1]? = some (S ps[j].2)
  | [], _, hj => by cases hj
  | p :: r, 0, _ => by simp [pcs]
  | p :: r, j + 1, hj => by
    have := pcs_at r j (by simp at hj; omega)
    have e : pcs (p :: r) = S p.1 :: S p.2 :: pcs r := by simp [pcs]
    rw [e, show (j + 1) * 2 = j * 2 + 1 + 1 from by omega]
    simpa using this
theorem pcs_snoc (ps : List (Bs × Bs)) (a b : Bs) : pcs ps ++ [S a, S b] = pcs (ps ++ [(a, b)]) := by simp [pcs]
theorem OwnM.row {w0 w : World} {v : Value} {ps : List (Bs × Bs)} (h : OwnM w0 v ps w) : Row2 v ps w := by
  rcases h.own.2 with ⟨hv, h0⟩ | ⟨g, cap, cur, hv, hg, _⟩
  · have : ps = [] := List.eq_nil_of_length_eq_zero h0
    subst this
    exact ⟨none, 0, hv, fun j hj => by cases hj⟩
  · refine ⟨some ⟨g, 0, none⟩, cap, hv, fun j hj => ⟨g, 0, rfl, ?_, ?_⟩⟩
    · rw [Nat.zero_add, ← add_at]
      exact h.own.cells (g := g) (by rw [hv]; rfl) (j * 2) _ (pcs_at ps j hj).1
    · rw [Nat.zero_add, ← add_at]
      exact h.own.cells (g := g) (by rw [hv]; rfl) (j * 2 + 1) _ (pcs_at ps j hj).2
theorem OwnM.snoc {w0 wr wx w1 : World} {v v1 : Value} {ps : List (Bs × Bs)} {a b : Bs} (h : OwnM w0 v ps wr) (hf : Fr wr wx) (hgrow : wx.grownBy w1 v.ownBlock)
    (hown1 : w1.ownsRow w0.heap.size 82 2 v1 (ps.length + 1) (pcs ps ++ [S a, S b])) : OwnM w0 v1 (ps ++ [(a, b)]) w1 := by
  rw [pcs_snoc] at hown1
  exact ⟨by simpa using hown1, (h.fr.trans hf).grown hgrow fun k hk => (h.own.lt k hk).1⟩

/-- What stands ahead of ; or =, and from there on. -/
def pname (r : Bs) : Bs := (trimL blankM r).takeWhile (not2 59 61)
def prest (r : Bs) : Bs := (trimL blankM r).dropWhile (not2 59 61)
def pgood (ps : List (Bs × Bs)) (n : Bs) (x : Bs × Bs × Bool) : Bool := x.2.2 && !(ps.any fun p => p.1 == n) && isToken n && quotable x.1
theorem pg_no (ps : List (Bs × Bs)) (c : UInt8) (r : Bs) (h : ∀ t, prest r ≠ 61 :: t) : paramsGo ps (c :: r) = paramsGo ps (prest r) := by
  rw [paramsGo]
  split
  · rename_i r2 hs
    exact absurd hs (h r2)
  · rename_i hs
    rfl
theorem pg_eq (ps : List (Bs × Bs)) (c : UInt8) (r r2 : Bs) (h : prest r = 61 :: r2) : paramsGo ps (c :: r) = if pgood ps (lower (pname r)) (valueOf r2) then paramsGo (ps ++ [(lower (pname r), (valueOf r2).1)]) (valueOf r2).2.1 else paramsGo ps (valueOf r2).2.1 := by
  rw [paramsGo]
  split
  · rename_i r3 hs
    have : r3 = r2 := by
      have h2 := hs.symm.trans h
      injection h2
    subst this
    rfl
  · rename_i hs
    exact absurd h (hs r2)
theorem qGo_le1 : ∀ s : Bs, (qGo s).1.length ≤ s.length
  | [] => by simp [qGo]
  | [c] => by simp only [qGo]; split <;> simp
  | c :: d :: r => by
    have h1 := qGo_le1 r
    have h2 := qGo_le1 (d :: r)
    simp only [qGo]
    split
    · simp
    · split <;> simp at * <;> omega
theorem trimR_len (p : UInt8 → Bool) (s : Bs) : (trimR p s).length ≤ s.length := by
  unfold trimR
  rw [List.length_reverse]
  have := (List.dropWhile_sublist p (l := s.reverse)).length_le
  simpa using this
theorem valueOf_le1 (s : Bs) : (valueOf s).1.length ≤ s.length := by
  unfold valueOf
  split
  · rename_i r
    have := qGo_le1 r
    simp; omega
  · exact Nat.le_trans (trimR_len _ _) (List.takeWhile_sublist _).length_le
theorem lower_len (l : Bs) : (lower l).length = l.length := by simp [lower]

set_option maxRecDepth 100000 in
set_option maxHeartbeats 4000000 in
theorem params_any (l : Bs) (hl : l.length ≤ 100000000) (w : World) (hE : Env w) : Calls Tryz.prog 138 #[S l] w fun e w' => ∃ v, e = .returned v ∧ OwnM w v (paramsGo [] l) w' := by
  obtain ⟨i0, hi, hz0, hz1, hz2⟩ := info_parts param_info
  have hn := OwnM.nil w
  go_enter Tryz.func138, Tryz.ntmps138
  go_wp2
  go_loopw [0, 3] (fun s v wr => ∃ (t : Bs) (ps : List (Bs × Bs)), s = S t ∧ t.length + ps.length ≤ l.length ∧ OwnM w v ps wr ∧ Hid (paramsGo [] l = paramsGo ps t)) (fun s _ _ => lenS s)
  case atStart => exact ⟨l, [], rfl, by simp, hn, Lib.hid rfl⟩
  case round =>
    obtain ⟨t, ps, rfl, htl, hr, HQ⟩ := hrel
    cases t with
    | nil =>
      have HQ2 : Hid (paramsGo [] l = ps) := Lib.hid (by rw [HQ.out, paramsGo])
      clear HQ
      go_wp2
      go_ret
      exact ⟨_, rfl, by rw [HQ2.out]; exact hr⟩
    | cons c r =>
      have hdr := drop1_S' c r
      have hlc : (c :: r).length = r.length + 1 := rfl
      have htr : (trimL blankM r).length ≤ r.length := (List.dropWhile_sublist _).length_le
      have hpn : (pname r).length ≤ r.length := Nat.le_trans (List.takeWhile_sublist _).length_le htr
      have hpr : (prest r).length ≤ r.length := Nat.le_trans (List.dropWhile_sublist _).length_le htr
      have HCut : Hid (∀ w, Calls Tryz.prog 135 #[S (trimL blankM r), S [59, 61]] w fun e w' => e = .returned (.tuple #[S (pname r), S (prest r)]) ∧ Fr w w') := Lib.hid fun w => by
        have := mcut_any (trimL blankM r) [59, 61] (by omega) (by decide) w
        rw [notIn_two] at this
        exact this
      have HNo := Lib.hid (pg_no ps c r)
      have HYes := Lib.hid (pg_eq ps c r)
      generalize hnm : pname r = nm at *
      generalize hs2 : prest r = s2 at *
      clear hnm hs2
      go_wp2_with fail
      have B0 : Blk wr.heap.size #[S []] 9 (wr.alloc (Obj.cells #[Value.string ⟨#[]⟩] 9)) := ⟨heap_alloc_new wr _⟩
      have F0 : Fr wr (wr.alloc (Obj.cells #[Value.string ⟨#[]⟩] 9)) := (Fr.refl wr).alloc _
      have hnb : wr.heap.size ≤ wr.heap.size := Nat.le_refl _
      generalize (wr.alloc (Obj.cells #[Value.string ⟨#[]⟩] 9)) = W0 at *
      generalize hnb2 : wr.heap.size = nb at B0 hnb ⊢
      replace hnb : wr.heap.size ≤ nb := by omega
      clear hnb2
      refine (trimLeft_call [9, 10, 13, 32] r (by simp) (by decide) (by omega) _).mono ?_
      rw [blankM_in]
      rintro e W1 ⟨rfl, f1⟩
      go_wp2_with fail
      refine (HCut.out _).mono ?_
      rintro e W2 ⟨rfl, f2⟩
      have B2 := (B0.fr f1).fr f2
      have F2 := F0.trans (f1.trans f2)
      clear B0 F0 f1 f2 HCut
      have c2 := B2.cell (j := 0) rfl
      have z2 := B2.free 0
      go_wp2_with fail
      replace B2 := B2.set 0 (S nm)
      replace F2 := F2.set hnb (S nm) (p := ⟨nb, 0, none⟩)
      clear c2 z2
      generalize W2.setCell ⟨nb, 0, none⟩ (S nm) = W3 at *
      refine (lower_any nm (by omega) _).mono ?_
      rintro e W4 ⟨rfl, f3⟩
      replace B2 := B2.fr f3
      replace F2 := F2.trans f3
      clear f3
      have c2 := B2.cell (j := 0) rfl
      have z2 := B2.free 0
      have hln := lower_len nm
      generalize lower nm = nn at *
      go_wp2_with fail
      replace B2 := B2.set 0 (S nn)
      replace F2 := F2.set hnb (S nn) (p := ⟨nb, 0, none⟩)
      clear c2 z2
      generalize W4.setCell ⟨nb, 0, none⟩ (S nn) = W5 at *
      by_cases h61 : ∃ r2, s2 = 61 :: r2
      · obtain ⟨r2, rfl⟩ := h61
        have hpre : Lib.hasPrefix (61 :: r2) [61] = true := by simp [Lib.hasPrefix]
        have hd2 := drop1_S' 61 r2
        have hl2 : (61 :: r2).length = r2.length + 1 := rfl
        have HY := Lib.hid (HYes.out r2 rfl)
        have hvl := valueOf_le r2
        have HV : Hid (∀ w, Calls Tryz.prog 205 #[S r2] w fun e w' => e = .returned (.tuple #[S (valueOf r2).1, S (valueOf r2).2.1, .bool (valueOf r2).2.2]) ∧ Fr w w') := Lib.hid fun w => value_any r2 (by omega) w
        have hvl1 : (valueOf r2).1.length ≤ r2.length := valueOf_le1 r2
        clear HYes HNo
        obtain ⟨⟨x, y, z⟩, hv⟩ : ∃ v, v = valueOf r2 := ⟨_, rfl⟩
        rw [← hv] at HY HV hvl hvl1
        simp only at HV hvl hvl1
        simp only [pgood] at HY
        clear hv
        refine (prefix_any (61 :: r2) [61] _).mono ?_
        rintro e W6 ⟨rfl, rfl⟩
        rw [hpre]
        go_wp2_with fail
        refine (HV.out _).mono ?_
        rintro e W7 ⟨rfl, f4⟩
        replace B2 := B2.fr f4
        replace F2 := F2.trans f4
        clear f4 HV
        go_wp2_with fail
        have hps : ps.length ≤ 100000000 := by omega
        refine (contains_any ps (by omega) nn _ nb _ (hr.step F2).row (B2.cell rfl)).mono ?_
        rintro e W8 ⟨rfl, f5⟩
        replace B2 := B2.fr f5
        replace F2 := F2.trans f5
        clear f5
        have c2 : W8.cell? ⟨nb, 0, none⟩ = some (S nn) := B2.cell (j := 0) rfl
        have z2 := B2.free 0
        have Hm : Hid (∀ b, (paramsGo ps (c :: r) = if b then paramsGo (ps ++ [(nn, x)]) y else paramsGo ps y) → b = false → paramsGo [] l = paramsGo ps y) := Lib.hid fun b h1 h2 => by rw [HQ.out, h1, h2]; simp
        cases z
        · have HQ2 : Hid (paramsGo [] l = paramsGo ps y) := Lib.hid (Hm.out _ HY.out (by simp))
          clear HQ HY Hm
          go_wp2
          exact ⟨⟨y, ps, rfl, by omega, hr.step F2, HQ2⟩, by simp [lenS, ba_size]; omega⟩
        · cases htw : (ps.any fun p => p.1 == nn)
          · cases htk : isToken nn
            · have HQ2 : Hid (paramsGo [] l = paramsGo ps y) := Lib.hid (Hm.out _ HY.out (by simp [htk]))
              clear HQ HY Hm
              go_wp2_with fail
              refine (token_any nn (by omega) _).mono ?_
              rw [htk]
              rintro e W9 ⟨rfl, rfl⟩
              go_wp2
              exact ⟨⟨y, ps, rfl, by omega, hr.step F2, HQ2⟩, by simp [lenS, ba_size]; omega⟩
            · cases hqt : quotable x
              · have HQ2 : Hid (paramsGo [] l = paramsGo ps y) := Lib.hid (Hm.out _ HY.out (by simp [hqt]))
                clear HQ HY Hm
                go_wp2_with fail
                refine (token_any nn (by omega) _).mono ?_
                rw [htk]
                rintro e W9 ⟨rfl, rfl⟩
                go_wp2_with fail
                refine (quotable_any x (by omega) _ (hE.fr (hr.fr.trans F2))).mono ?_
                rw [hqt]
                rintro e W9 ⟨rfl, f6⟩
                replace F2 := F2.trans f6
                go_wp2
                exact ⟨⟨y, ps, rfl, by omega, hr.step F2, HQ2⟩, by simp [lenS, ba_size]; omega⟩
              · have HQ2 : Hid (paramsGo [] l = paramsGo (ps ++ [(nn, x)]) y) := Lib.hid (by rw [HQ.out, HY.out]; simp [htw, htk, hqt])
                clear HQ HY Hm
                go_wp2_with fail
                refine (token_any nn (by omega) _).mono ?_
                rw [htk]
                rintro e W9 ⟨rfl, rfl⟩
                go_wp2_with fail
                refine (quotable_any x (by omega) _ (hE.fr (hr.fr.trans F2))).mono ?_
                rw [hqt]
                rintro e W9 ⟨rfl, f6⟩
                replace F2 := F2.trans f6
                replace B2 := B2.fr f6
                replace c2 : W9.cell? ⟨nb, 0, none⟩ = some (S nn) := B2.cell (j := 0) rfl
                replace z2 := B2.free 0
                have hr2 := hr.step F2
                obtain ⟨A, cap, rfl⟩ := hr2.slice
                have hown := hr2.own
                have hbs : w.heap.size ≤ W9.heap.size := hr2.fr.size
                have HS : Hid (∀ (gg cap2 : Nat) (w1 wx : World), Fr W9 wx → wx.grownBy w1 (Value.slice A ps.length cap).ownBlock → w1.ownsRow w.heap.size 82 2 (.slice (some ⟨gg, 0, none⟩) (ps.length + 1) cap2) (ps.length + 1) (pcs ps ++ [S nn, S x]) → OwnM w (.slice (some ⟨gg, 0, none⟩) (ps.length + 1) cap2) (ps ++ [(nn, x)]) w1) := Lib.hid fun gg cap2 w1 wx h1 h2 h3 => hr2.snoc h1 h2 h3
                go_wp2_with (at_builtin; refine wpList_append_lies _ rfl _ _ _ rfl w.heap.size 82 i0 _ 2 32 Tryz.underlying31 hi hz0 hz1 hz2 rfl (by omega) (.slice A ps.length cap) ps.length (pcs ps) rfl (hown.alloc _) ⟨W9.heap.size, 0, none⟩ 1 1 [S nn, S x] rfl rfl (World.news_of_block (cs := #[S nn, S x]) (t := 82) (fr := (0, 0)) (heap_alloc_new W9 _)) (by simp [Value.oneCell']) (by omega) (by unfold maxLen; omega) (by omega) (by simp; omega) (W9.heap.size + 1) (by simp) ?_; intro gg cap2 w1 hown1 hgrow hat hlt2)
                have hr3 := HS.out gg cap2 w1 _ ((Fr.refl W9).alloc _) hgrow hown1
                exact ⟨⟨y, ps ++ [(nn, x)], rfl, by simp; omega, by simpa using hr3, HQ2⟩, by simp [lenS, ba_size]; omega⟩
          · have HQ2 : Hid (paramsGo [] l = paramsGo ps y) := Lib.hid (Hm.out _ HY.out (by simp [htw]))
            clear HQ HY Hm
            go_wp2
            exact ⟨⟨y, ps, rfl, by omega, hr.step F2, HQ2⟩, by simp [lenS, ba_size]; omega⟩
      · have hpre : Lib.hasPrefix s2 [61] = false := by
          cases s2 with
          | nil => rfl
          | cons d t =>
            have : ¬ d = 61 := fun e => h61 ⟨t, by rw [e]⟩
            simp [Lib.hasPrefix, List.isPrefixOf]
            exact fun e => this e.symm
        have HQ2 : Hid (paramsGo [] l = paramsGo ps s2) := Lib.hid (by rw [HQ.out]; exact HNo.out fun t h => h61 ⟨t, h⟩)
        clear HQ HNo HYes h61
        refine (prefix_any s2 [61] _).mono ?_
        rintro e W6 ⟨rfl, rfl⟩
        rw [hpre]
        go_wp2
        exact ⟨⟨s2, ps, rfl, by omega, hr.step F2, HQ2⟩, by simp [lenS, ba_size]; omega⟩
end Go.Proofs.YtogpmgjdmoglkaaGreatDoor
