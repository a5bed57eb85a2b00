/- Walks: package utf's characters. -/
import Derived.Deep.Draws
import Derived.Test.YtogpmgjdmoglkaaGreatDoorHWe
import Derived.Test.YtogpmgjdmoglkaaGreatDoorHPu
set_option linter.unusedVariables false
set_option linter.unusedSimpArgs false
namespace Go.Proofs.YtogpmgjdmoglkaaGreatDoor
open Go.RowKit Pu

theorem span_any (n : Int) (w : World) : Calls Tryz.prog 214 #[.int .u8 n] w fun e w' => e = .returned (.tuple #[.int .u8 (uspan n).1, .int .u8 (uspan n).2.1, .int .i64 (uspan n).2.2]) ∧ w = w' := by
  unfold uspan
  by_cases h1 : 194 ≤ n ∧ n ≤ 223
  · rw [if_pos h1]; obtain ⟨ha, hb⟩ := h1
    go_enter Tryz.func214, Tryz.ntmps214
    go_wp2
    go_ret3
    exact ⟨rfl, rfl⟩
  rw [if_neg h1]
  by_cases h2 : n = 224
  · subst h2
    go_enter Tryz.func214, Tryz.ntmps214
    go_wp2
    go_ret3
    exact ⟨rfl, rfl⟩
  rw [if_neg h2]
  by_cases h3 : n = 237
  · subst h3
    go_enter Tryz.func214, Tryz.ntmps214
    go_wp2
    go_ret3
    exact ⟨rfl, rfl⟩
  rw [if_neg h3]
  have b2 : (n == 224) = false := by simpa using h2
  have b3 : (n == 237) = false := by simpa using h3
  by_cases h4 : 225 ≤ n ∧ n ≤ 239
  · rw [if_pos h4]; obtain ⟨ha, hb⟩ := h4
    clear h1 h2 h3
    have hc : ¬ n ≤ 223 := by omega
    go_enter Tryz.func214, Tryz.ntmps214
    go_wp2
    go_ret3
    exact ⟨rfl, rfl⟩
  rw [if_neg h4]
  by_cases h5 : n = 240
  · subst h5
    go_enter Tryz.func214, Tryz.ntmps214
    go_wp2
    go_ret3
    exact ⟨rfl, rfl⟩
  rw [if_neg h5]
  have b5 : (n == 240) = false := by simpa using h5
  by_cases h6 : 241 ≤ n ∧ n ≤ 243
  · rw [if_pos h6]; obtain ⟨ha, hb⟩ := h6
    clear h1 h2 h3 h4 h5
    have hc : ¬ n ≤ 223 := by omega
    have hd : ¬ n ≤ 239 := by omega
    go_enter Tryz.func214, Tryz.ntmps214
    go_wp2
    go_ret3
    exact ⟨rfl, rfl⟩
  rw [if_neg h6]
  by_cases h7 : n = 244
  · subst h7
    go_enter Tryz.func214, Tryz.ntmps214
    go_wp2
    go_ret3
    exact ⟨rfl, rfl⟩
  rw [if_neg h7]
  have b7 : (n == 244) = false := by simpa using h7
  have H := Lib.hid (And.intro h1 (And.intro h4 h6))
  clear h1 h2 h3 h4 h5 h6 h7
  go_enter Tryz.func214, Tryz.ntmps214
  go_wp2
  all_goals have hh := H.out
  all_goals first
    | (exfalso; omega)
    | (go_ret3; exact ⟨rfl, rfl⟩)

theorem dec_slice (l : Bs) (k : Nat) (hk : k ≤ l.length) (g o cap : Nat) (w : World) (hE : Env w) (hc : ∀ j, j < l.length → w.cell? ⟨g, o + j, none⟩ = some (.int .u8 ((l.getD j 0).toNat : Int))) :
    Calls Tryz.prog 215 #[.slice (some ⟨g, o, none⟩) k cap] w fun e w' => e = .returned (.tuple #[.int .i32 (Lib.decodeGo ⟨(l.take k).toArray⟩).1, .int .i64 (Lib.decodeGo ⟨(l.take k).toArray⟩).2]) ∧ Fr w w' := by
  have hs : (⟨(l.take k).toArray⟩ : ByteArray).size = k := by show (l.take k).toArray.size = k; simp; omega
  have := Tryz.utf8_DecodeRune ⟨(l.take k).toArray⟩ g o cap w hE.tabs (fun j hj => by
    rw [hs] at hj
    rw [hc j (by omega), getD_at _ _ (by omega)]
    show _ = some (Value.int .u8 (((l.take k).toArray[j]!).toNat : Int))
    rw [getElem!_pos _ _ (by simp; omega)]
    simp)
  rw [hs] at this
  refine this.mono ?_
  rintro e w' ⟨rfl, hb⟩
  exact ⟨rfl, Fr.of hb⟩
theorem uspan_le (n : Int) : (uspan n).2.2 ≤ 4 := by unfold uspan; (repeat' split) <;> simp
theorem span_eq {n x y z : Int} (h : uspan n = (x, y, z)) (w : World) : Calls Tryz.prog 214 #[.int .u8 n] w fun e w' => e = .returned (.tuple #[.int .u8 x, .int .u8 y, .int .i64 z]) ∧ w = w' := by
  have := span_any n w
  rw [h] at this
  exact this
set_option maxHeartbeats 2000000 in
set_option maxRecDepth 100000 in
theorem first_any (c : UInt8) (r : Bs) (hl : r.length ≤ 1000000000) (g o cap : Nat) (hcap : r.length + 1 ≤ cap) (w : World) (hE : Env w) (hc : ∀ j, j < r.length + 1 → w.cell? ⟨g, o + j, none⟩ = some (.int .u8 (((c :: r).getD j 0).toNat : Int))) :
    Calls Tryz.prog 159 #[.slice (some ⟨g, o, none⟩) (r.length + 1) cap] w fun e w' => e = .returned (.tuple #[.int .i32 (ufirst c r).1, .int .i64 (ufirst c r).2]) ∧ Fr w w' := by
  have c0 : w.cell? ⟨g, o, none⟩ = some (.int .u8 (c.toNat : Int)) := hc 0 (by omega)
  by_cases h128 : bI c < 128
  · have hu : ufirst c r = (bI c, 1) := by simp [ufirst, h128]
    rw [hu]
    simp only [bI] at h128 ⊢
    clear hu hc
    go_enter Tryz.func159, Tryz.ntmps159
    go_wp2
    go_ret2
    exact ⟨rfl, Fr.refl _⟩
  · have HU := Lib.hid (show ufirst c r = _ by unfold ufirst; rw [if_neg h128])
    have h128' : ¬ (c.toNat : Int) < 128 := h128
    have HC := Lib.hid hc
    clear h128 hc
    have hL := Lib.hid (show ulen c r = contGo (uspan (bI c)).1 (uspan (bI c)).2.1 (uspan (bI c)).2.2 1 ((c :: r).drop 1) from rfl)
    obtain ⟨lo0, hi0, many, hsp⟩ : ∃ x y z, uspan (bI c) = (x, y, z) := ⟨_, _, _, rfl⟩
    rw [hsp] at HU hL
    have hcall := span_eq hsp
    have H4 : many ≤ 4 := by
      have h4 := uspan_le (bI c)
      rw [hsp] at h4; exact h4
    clear hsp
    go_enter Tryz.func159, Tryz.ntmps159
    go_wp2_with (go_at_call 214; refine (hcall _).mono ?_; rintro e w' ⟨rfl, rfl⟩)
    clear hcall
    go_loopw [4, 5, 7] (fun lo hi n wr => ∃ (l h : Int) (k : Nat), lo = .int .u8 l ∧ hi = .int .u8 h ∧ n = .int .i64 k ∧ 1 ≤ k ∧ k ≤ r.length + 1 ∧ wr = w ∧ Hid (ulen c r = contGo l h many k ((c :: r).drop k))) (fun _ _ n _ => r.length + 1 - (intOf n).toNat)
    case atStart => exact ⟨lo0, hi0, 1, rfl, rfl, rfl, by omega, by omega, rfl, hL⟩
    case round =>
      obtain ⟨l, h, k, rfl, rfl, rfl, hk1, hk2, rfl, HI⟩ := hrel
      clear hL
      have hstay : ∀ (hn : ulen c r = k), ¬ (many = 0 ∨ (k : Int) < many) → Hid (ufirst c r = (((Lib.decodeGo ⟨((c :: r).take k).toArray⟩).1 : Int), k)) := fun hn h2 => Lib.hid (by rw [HU.out, if_neg (by rw [hn]; exact h2), hn])
      have hbad : ∀ (hn : ulen c r = k), (many = 0 ∨ (k : Int) < many) → Hid (ufirst c r = (65533, k)) := fun hn h2 => Lib.hid (by rw [HU.out, if_pos (by rw [hn]; exact h2), hn])
      by_cases hm : (k : Int) < many
      · by_cases hlt : k < r.length + 1
        · have hcell := HC.out k hlt
          have hd : (c :: r).drop k = (c :: r)[k]'(by simpa using hlt) :: (c :: r).drop (k + 1) := List.drop_eq_getElem_cons (by simpa using hlt)
          have hg : (c :: r).getD k 0 = (c :: r)[k]'(by simpa using hlt) := getD_at _ _ _
          rw [hg] at hcell
          have hi2 := HI.out
          rw [hd, contGo] at hi2
          generalize (c :: r)[k]'(by simpa using hlt) = x at *
          by_cases hin : l ≤ (x.toNat : Int) ∧ (x.toNat : Int) ≤ h
          · rw [if_pos ⟨hm, hin.1, hin.2⟩] at hi2
            have H2 := Lib.hid hi2
            obtain ⟨q1, q2⟩ := hin
            clear hi2 hd hg hstay hbad
            go_wp2
            go_roundw
            case rel => exact ⟨128, 191, k + 1, by first | rfl | trivial, by first | rfl | trivial, by go_num, by omega, by omega, by first | rfl | trivial, H2⟩
            case measure => simp [intOf]; omega
          · rw [if_neg (by intro hh; exact hin hh.2)] at hi2
            have H2 := hbad hi2 (.inr hm)
            have H3 : many ≠ 0 := by omega
            have b0 : (many == 0) = false := by simpa using H3
            clear hi2 hd hg hstay hbad
            by_cases hx : l ≤ (x.toNat : Int)
            · have hx2 : h < (x.toNat : Int) := by omega
              have d1 : decide ((x.toNat : Int) ≤ h) = false := decide_eq_false (by omega)
              have d2 : ¬ (x.toNat : Int) ≤ h := by omega
              clear hin
              go_wp2
              go_wp2
              go_ret2
              rw [H2.out]
              exact ⟨rfl, Fr.refl _⟩
            · have d1 : decide (l ≤ (x.toNat : Int)) = false := decide_eq_false (by omega)
              clear hin
              go_wp2
              go_wp2
              go_ret2
              rw [H2.out]
              exact ⟨rfl, Fr.refl _⟩
        · have hi2 := HI.out
          rw [List.drop_eq_nil_of_le (by simp; omega), contGo] at hi2
          have H2 := hbad hi2 (.inr hm)
          have H3 : many ≠ 0 := by omega
          have b0 : (many == 0) = false := by simpa using H3
          obtain rfl : k = r.length + 1 := by omega
          clear hi2 hbad hstay
          go_wp2
          go_wp2
          go_ret2
          rw [H2.out]
          exact ⟨rfl, Fr.refl _⟩
      · have hi2 : ulen c r = k := by
          rw [HI.out]
          cases h0 : (c :: r).drop k with
          | nil => rfl
          | cons y ys => rw [contGo, if_neg (by intro hh; exact hm hh.1)]
        have d1 : decide ((k : Int) < many) = false := decide_eq_false hm
        by_cases h0 : many = 0
        · have H2 := hbad hi2 (.inl h0)
          subst h0
          clear hi2 hbad hstay
          go_wp2
          go_wp2
          go_ret2
          rw [H2.out]
          exact ⟨rfl, Fr.refl _⟩
        · have H2 := hstay hi2 (by omega)
          have b0 : (many == 0) = false := by simpa using h0
          have hd := dec_slice (c :: r) k (by simpa using hk2) g o
          have HD := Lib.hid hd
          clear hi2 hbad hstay hd
          go_wp2_with (go_at_call 215; refine (HD.out _ _ hE (fun j hj => HC.out j (by simpa using hj))).mono ?_; rintro e w' ⟨rfl, hf⟩)
          go_ret2
          rw [H2.out]
          exact ⟨rfl, hf⟩
end Go.Proofs.YtogpmgjdmoglkaaGreatDoor
/- Walks: utf.Decode, utf.Encode. -/
set_option linter.unusedVariables false
set_option linter.unusedSimpArgs false
namespace Go.Proofs.YtogpmgjdmoglkaaGreatDoor
open Go.RowKit Pu

theorem rune_info : (Tryz.prog.info? 21).map (fun i => (i.zero, i.size, i.bytes)) = some (some (.int .i32 0), 1, 4) := by kernel_rfl

/-- A row of one-cell values of the call's own, new since w0. -/
structure OwnR (t : TypeId) (w0 : World) (v : Value) (vs : List Value) (w : World) : Prop where
  own : w.ownsRow w0.heap.size t 1 v vs.length vs
  fr : Fr w0 w
theorem OwnR.nil (t : TypeId) (w : World) : OwnR t w (.slice none 0 0) [] w := ⟨World.ownsRow_nil _ _ _ _, Fr.refl w⟩
theorem OwnR.step {t : TypeId} {w0 w w' : World} {v : Value} {xs : List Value} (h : OwnR t w0 v xs w) (hf : Fr w w') : OwnR t w0 v xs w' :=
  ⟨h.own.kept (row := none) ⟨hf.out.os, hf.out.tape, hf.out.output, hf.out.size, fun k hk _ => hf.out.block k hk⟩ (by cases v.ownBlock <;> simp), h.fr.trans hf⟩
theorem OwnR.slice {t : TypeId} {w0 w : World} {v : Value} {xs : List Value} (h : OwnR t w0 v xs w) : ∃ A cap, v = .slice A xs.length cap := by
  rcases h.own.2 with ⟨hv, h0⟩ | ⟨g, cap, cur, hv, _⟩
  · exact ⟨none, 0, by rw [hv, h0]⟩
  · exact ⟨_, _, hv⟩
theorem OwnR.cells {t : TypeId} {w0 w : World} {v : Value} {xs : List Value} (h : OwnR t w0 v xs w) : (xs = [] ∧ v = .slice none 0 0) ∨ ∃ g cap, v = .slice (some ⟨g, 0, none⟩) xs.length cap ∧ w0.heap.size ≤ g ∧ ∀ j, (hj : j < xs.length) → w.cell? ⟨g, j, none⟩ = some xs[j] := by
  rcases h.own.2 with ⟨hv, h0⟩ | ⟨g, cap, cur, hv, hg, _⟩
  · exact .inl ⟨List.eq_nil_of_length_eq_zero h0, hv⟩
  · refine .inr ⟨g, cap, hv, hg, fun j hj => ?_⟩
    rw [← add_at]
    exact h.own.cells (g := g) (by rw [hv]; rfl) j xs[j] (by simp [hj])
theorem OwnR.snoc {t : TypeId} {w0 wr wx w1 : World} {v v1 x : Value} {xs : List Value} (h : OwnR t w0 v xs wr) (hf : Fr wr wx) (hgrow : wx.grownBy w1 v.ownBlock)
    (hown1 : w1.ownsRow w0.heap.size t 1 v1 (xs.length + 1) (xs ++ [x])) : OwnR t w0 v1 (xs ++ [x]) w1 :=
  ⟨by simpa using hown1, (h.fr.trans hf).grown hgrow fun k hk => (h.own.lt k hk).1⟩

abbrev Rn (rs : List Int) : List Value := rs.map (Value.int .i32)

def lenOf : Value → Nat
  | .slice _ n _ => n
  | _ => 0
theorem first_at (l : Bs) (hl : l.length ≤ 1000000000) (k : Nat) (hk : k < l.length) (g cap : Nat) (hcap : l.length ≤ cap) (w : World) (hE : Env w) (hc : ∀ j, j < l.length → w.cell? ⟨g, j, none⟩ = some (.int .u8 ((l.getD j 0).toNat : Int))) :
    Calls Tryz.prog 159 #[.slice (some ⟨g, k, none⟩) (l.length - k) (cap - k)] w fun e w' => e = .returned (.tuple #[.int .i32 (ufirst l[k] (l.drop (k + 1))).1, .int .i64 (ufirst l[k] (l.drop (k + 1))).2]) ∧ Fr w w' := by
  have h1 : (l.drop (k + 1)).length + 1 = l.length - k := by rw [List.length_drop]; omega
  have := first_any l[k] (l.drop (k + 1)) (by rw [List.length_drop]; omega) g k (cap - k) (by omega) w hE (fun j hj => by
    rw [h1] at hj
    rw [hc (k + j) (by omega), ← List.drop_eq_getElem_cons hk]
    congr 4
    simp [List.getD_eq_getElem?_getD])
  rw [h1] at this
  exact this
theorem decL_at (l : Bs) (k : Nat) (hk : k < l.length) : decL (l.drop k) = (ufirst l[k] (l.drop (k + 1))).1 :: decL (l.drop (k + (ufirst l[k] (l.drop (k + 1))).2)) := by
  rw [List.drop_eq_getElem_cons hk, decL, ← List.drop_eq_getElem_cons hk, List.drop_drop]

set_option maxHeartbeats 2000000 in
set_option maxRecDepth 100000 in
theorem decode_any (l : Bs) (hl : l.length ≤ 1000000000) (g cap : Nat) (hcap : l.length ≤ cap) (w : World) (hE : Env w) (hc : ∀ j, j < l.length → w.cell? ⟨g, j, none⟩ = some (.int .u8 ((l.getD j 0).toNat : Int))) :
    Calls Tryz.prog 76 #[.slice (some ⟨g, 0, none⟩) l.length cap] w fun e w' => ∃ v, e = .returned v ∧ OwnR 21 w v (Rn (decL l)) w' := by
  obtain ⟨i0, hi, hz0, hz1, hz2⟩ := info_parts rune_info
  have hn := OwnR.nil 21 w
  have HC := Lib.hid hc
  clear hc
  go_enter Tryz.func76, Tryz.ntmps76
  go_wp2
  go_loopw [0, 3] (fun b v wr => ∃ (k : Nat) (A : Addr) (rs : List Int), k ≤ l.length ∧ b = .slice (some A) (l.length - k) (cap - k) ∧ Hid (k < l.length → A = ⟨g, k, none⟩) ∧ OwnR 21 w v (Rn rs) wr ∧ rs.length ≤ k ∧ Hid (decL l = rs ++ decL (l.drop k))) (fun b _ _ => lenOf b)
  case atStart => exact ⟨0, ⟨g, 0, none⟩, [], Nat.zero_le _, rfl, Lib.hid (fun _ => rfl), hn, Nat.le_refl _, Lib.hid rfl⟩
  case round =>
    obtain ⟨k, A, rs, hk, rfl, hA, hr, hrs, HD⟩ := hrel
    by_cases hlt : k < l.length
    · obtain rfl := hA.out hlt
      have hbd := ufirst_bd l[k] (l.drop (k + 1))
      rw [List.length_drop] at hbd
      have hat := decL_at l k hlt
      have hcall := first_at l hl k hlt g cap hcap wr (hE.fr hr.fr) (fun j hj => hr.fr.cell (HC.out j hj))
      have HA := Lib.hid hat
      generalize ufirst l[k] (l.drop (k + 1)) = uf at *
      obtain ⟨u, n⟩ := uf
      simp only at hbd hcall HA
      obtain ⟨B, cap1, rfl⟩ := hr.slice
      have hlen : (Rn rs).length = rs.length := by simp
      have hstep : ∀ (w' w1 : World) (gg cap2 : Nat) (hf : Fr wr w') (hg : (w'.alloc (.cells #[.int .i32 u] 21)).grownBy w1 (Value.slice B rs.length cap1).ownBlock) (ho : w1.ownsRow w.heap.size 21 1 (.slice (some ⟨gg, 0, none⟩) (rs.length + 1) cap2) (rs.length + 1) (Rn rs ++ [.int .i32 u])),
          OwnR 21 w (.slice (some ⟨gg, 0, none⟩) (rs.length + 1) cap2) (Rn (rs ++ [u])) w1 := by
        intro w' w1 gg cap2 hf hg ho
        rw [hlen] at hr
        have := hr.snoc (x := .int .i32 u) (hf.alloc _) hg (by simpa [hlen] using ho)
        simpa [Rn] using this
      have HS := Lib.hid hstep
      rw [hlen] at hr
      clear hat hn hstep
      go_wp2_with (first
        | (go_at_call 159; refine hcall.mono ?_; rintro e w' ⟨rfl, hf⟩; have hr2 : w'.ownsRow w.heap.size 21 1 (.slice B rs.length cap1) rs.length (Rn rs) := (by have := (hr.step hf).own; simpa using this); have hsz := (hr.fr.trans hf).size)
        | (at_builtin; refine wpList_append_lies _ rfl _ _ _ rfl w.heap.size 21 i0 _ 1 4 Tryz.underlying92 hi hz0 hz1 hz2 rfl (by omega) (.slice B rs.length cap1) (rs.length) (Rn rs) rfl (hr2.alloc _) ⟨w'.heap.size, 0, none⟩ 1 1 [.int .i32 u] rfl rfl (World.news_of_block (cs := #[.int .i32 u]) (t := 21) (fr := (0, 0)) (heap_alloc_new w' _)) (by simp [Value.oneCell']) (by omega) (by unfold maxLen; omega) (by omega) (by simp; omega) (w'.heap.size + 1) (by simp) ?_; intro gg cap2 w1 hown1 hgrow hat hlt2))
      go_roundw
      case rel => exact ⟨k + n, if cap - k = n then ⟨g, k, none⟩ else ⟨g, k + n, none⟩, rs ++ [u], by omega, by (repeat' split) <;> simp_all <;> omega, Lib.hid (by intro h; rw [if_neg (by omega)]), HS.out _ _ _ _ hf hgrow hown1, by simp; omega, Lib.hid (by rw [HD.out, HA.out]; simp)⟩
      case measure => simp [lenOf]; omega
    · obtain rfl : k = l.length := by omega
      have hz : l.length - l.length = 0 := Nat.sub_self _
      have hd : decL l = rs := by rw [HD.out, List.drop_length]; simp [decL]
      rw [← hd] at hr
      rw [hz]
      clear hd
      go_wp2
      go_ret
      exact ⟨_, rfl, hr⟩

/-- A slice that holds these values. -/
def RowAt (v : Value) (vs : List Value) (w : World) : Prop :=
  (vs = [] ∧ v = .slice none 0 0) ∨ ∃ g cap, v = .slice (some ⟨g, 0, none⟩) vs.length cap ∧ ∀ j, (hj : j < vs.length) → w.cell? ⟨g, j, none⟩ = some vs[j]
theorem OwnR.row {t : TypeId} {w0 w : World} {v : Value} {xs : List Value} (h : OwnR t w0 v xs w) : RowAt v xs w := by
  rcases h.cells with h1 | ⟨g, cap, h1, _, h2⟩
  · exact .inl h1
  · exact .inr ⟨g, cap, h1, h2⟩
theorem RowAt.fr {v : Value} {vs : List Value} {w w' : World} (h : RowAt v vs w) (hf : Fr w w') : RowAt v vs w' := by
  rcases h with h1 | ⟨g, cap, h1, h2⟩
  · exact .inl h1
  · exact .inr ⟨g, cap, h1, fun j hj => hf.cell (h2 j hj)⟩

theorem apprune {w0 w : World} {v : Value} {xs : Bs} (h : OwnS w0 v xs w) (hl : xs.length ≤ 100000000000) (r : Int) (hr0 : -2147483648 ≤ r) (hr1 : r ≤ 2147483647) :
    Calls Tryz.prog 158 #[v, .int .i32 r] w fun e w' => ∃ v', e = .returned v' ∧ OwnS w0 v' (xs ++ Lib.encodeRune r) w' := by
  refine (Tryz.utf8_AppendRune_plain w0.heap.size v xs.length (Lib.byteCells xs) r hr0 hr1 w h.own (by omega) h.fr.size).mono ?_
  rintro e w' ⟨v', rfl, ho, o, hg⟩
  refine ⟨v', rfl, ?_, (h.fr.alloc _).grown hg fun k hk => (h.own.lt k hk).1⟩
  rw [Lib.runeCells_length, ← Lib.byteCells_encodeRune] at ho
  rw [List.length_append]
  simpa [Lib.byteCells] using ho
theorem encL_snoc (rs : List Int) (k : Nat) (h : k < rs.length) : encL (rs.take (k + 1)) = encL (rs.take k) ++ Lib.encodeRune rs[k] := by
  rw [List.take_succ_eq_append_getElem h]; simp only [encL, List.flatMap_append]; simp
theorem encL_le (rs : List Int) : (encL rs).length ≤ 4 * rs.length := by
  induction rs with
  | nil => simp [encL]
  | cons c r ih =>
    have h := (Lib.runeCells_le c).2
    rw [Lib.runeCells_length] at h
    simp [encL] at ih ⊢
    omega

set_option maxHeartbeats 2000000 in
set_option maxRecDepth 100000 in
theorem encode_any (rs : List Int) (hl : rs.length ≤ 1000000000) (hb : ∀ r ∈ rs, -2147483648 ≤ r ∧ r ≤ 2147483647) (v : Value) (w : World) (hv : RowAt v (Rn rs) w) :
    Calls Tryz.prog 75 #[v] w fun e w' => ∃ v', e = .returned v' ∧ OwnS w v' (encL rs) w' := by
  have hn := OwnS.nil w
  obtain ⟨A, cap, hv1⟩ : ∃ A cap, v = .slice A rs.length cap := by
    rcases hv with ⟨h1, rfl⟩ | ⟨g, cap, rfl, _⟩
    · simp at h1; subst h1; exact ⟨none, 0, rfl⟩
    · exact ⟨some ⟨g, 0, none⟩, cap, by simp⟩
  have hc : ∀ k, (hk : k < rs.length) → ∃ g, A = some ⟨g, 0, none⟩ ∧ w.cell? ⟨g, k, none⟩ = some (.int .i32 rs[k]) := by
    intro k hk
    rcases hv with ⟨h1, h2⟩ | ⟨g, c, h1, h2⟩
    · simp at h1; subst h1; simp at hk
    · rw [hv1] at h1
      injection h1 with h1 _ _
      have h3 := h2 k (by simpa [Rn] using hk)
      rw [List.getElem_map] at h3
      exact ⟨g, h1, h3⟩
  subst hv1
  clear hv
  have HC := Lib.hid hc
  have HB := Lib.hid hb
  clear hc hb
  go_enter Tryz.func75, Tryz.ntmps75
  go_wp2
  go_loopw [3, 8] (fun v i wr => ∃ k : Nat, k ≤ rs.length ∧ i = .int .i64 k ∧ OwnS w v (encL (rs.take k)) wr) (fun _ i _ => rs.length - (intOf i).toNat)
  case atStart => exact ⟨0, Nat.zero_le _, rfl, by simpa [encL] using hn⟩
  case round =>
    obtain ⟨k, hk, rfl, hr⟩ := hrel
    by_cases hlt : k < rs.length
    · obtain ⟨g, rfl, hcell0⟩ := HC.out k hlt
      have hcell := hr.fr.cell hcell0
      have hst := encL_snoc rs k hlt
      have HS := Lib.hid hst
      have hle := encL_le (rs.take k)
      have hle2 : (rs.take k).length ≤ k := List.length_take_le _ _
      have hcall := apprune hr (by omega) rs[k] (HB.out _ (List.getElem_mem hlt)).1 (HB.out _ (List.getElem_mem hlt)).2
      clear hst hcell0 hle hle2
      go_wp2_with (go_at_call 158; refine hcall.mono ?_; rintro e w' ⟨v', rfl, hv'⟩)
      go_roundw
      case rel => exact ⟨k + 1, by omega, by go_num, by rw [HS.out]; exact hv'⟩
      case measure => simp [intOf]; omega
    · obtain rfl : k = rs.length := by omega
      rw [List.take_length] at hr
      go_wp2
      go_ret
      exact ⟨_, rfl, hr⟩
end Go.Proofs.YtogpmgjdmoglkaaGreatDoor
