/- Walks: package escape. -/
import Derived.StillTailTactics
import Derived.Deep.RegionHeld3
import Derived.Deep.AppendLies
import Derived.Test.YtogpmgjdmoglkaaGreatDoorHWc
import Derived.Test.YtogpmgjdmoglkaaGreatDoorHWd
set_option linter.unusedVariables false
set_option linter.unusedSimpArgs false
namespace Go.Proofs.YtogpmgjdmoglkaaGreatDoor
open Go.RowKit Pu

theorem signs_any (set : Int) (w : World) : Calls Tryz.prog 235 #[.int .i64 set] w fun e w' => e = .returned (S (signs set)) ∧ w = w' := by
  by_cases h1 : set = 1
  · subst h1; (go_enter Tryz.func235, Tryz.ntmps235); go_wp2; go_ret; exact ⟨rfl, rfl⟩
  by_cases h2 : set = 2
  · subst h2; (go_enter Tryz.func235, Tryz.ntmps235); go_wp2; go_ret; exact ⟨rfl, rfl⟩
  by_cases h3 : set = 3
  · subst h3; (go_enter Tryz.func235, Tryz.ntmps235); go_wp2; go_ret; exact ⟨rfl, rfl⟩
  by_cases h4 : set = 4
  · subst h4; (go_enter Tryz.func235, Tryz.ntmps235); go_wp2; go_ret; exact ⟨rfl, rfl⟩
  by_cases h5 : set = 5
  · subst h5; (go_enter Tryz.func235, Tryz.ntmps235); go_wp2; go_ret; exact ⟨rfl, rfl⟩
  by_cases h6 : set = 6
  · subst h6; (go_enter Tryz.func235, Tryz.ntmps235); go_wp2; go_ret; exact ⟨rfl, rfl⟩
  have e : signs set = [] := by simp [signs, h1, h2, h3, h4, h5, h6]
  rw [e]
  have b1 : (set == 1) = false := by simpa using h1
  have b2 : (set == 2) = false := by simpa using h2
  have b3 : (set == 3) = false := by simpa using h3
  have b4 : (set == 4) = false := by simpa using h4
  have b5 : (set == 5) = false := by simpa using h5
  have b6 : (set == 6) = false := by simpa using h6
  clear h1 h2 h3 h4 h5 h6 e
  (go_enter Tryz.func235, Tryz.ntmps235); go_wp2; go_ret; exact ⟨rfl, rfl⟩

theorem indexByte_has (l : List UInt8) (c : UInt8) : decide (0 ≤ Lib.indexByte l c) = l.contains c := by
  induction l with
  | nil => simp [Lib.indexByte]
  | cons b l ih =>
    have h := Lib.indexByte_ge l c
    unfold Lib.indexByte
    by_cases hbc : b = c
    · subst hbc; simp
    · have h1 : (b == c) = false := by simpa using hbc
      have h2 : (c == b) = false := by simpa using Ne.symm hbc
      rw [h1, List.contains_cons, h2, ← ih]
      simp only [Bool.false_eq_true, if_false, Bool.false_or]
      split
      · rename_i he; rw [beq_iff_eq] at he; rw [he]
      · rename_i he
        rw [beq_iff_eq] at he
        rw [decide_eq_decide]; omega

theorem inSet_any (set : Int) (c : UInt8) (w : World) : Calls Tryz.prog 179 #[.int .i64 set, .int .u8 (c.toNat : Int)] w fun e w' => e = .returned (.bool (inSet set c)) ∧ w = w' := by
  go_enter Tryz.func179, Tryz.ntmps179
  go_wp2_with (first
    | (go_at_call 235; refine (signs_any _ _).mono ?_; rintro e w' ⟨rfl, rfl⟩)
    | (go_at_call 84; refine (Tryz.strings_IndexByte _ _ _).mono ?_; rintro e w' ⟨rfl, rfl⟩))
  all_goals go_ret
  all_goals refine ⟨ret_b ?_, rfl⟩
  all_goals simp only [inSet]
  all_goals first
    | (rw [if_pos (by omega)]; done)
    | (rw [if_neg (by omega), ← indexByte_has]; simp; omega)
    | (rw [if_neg (by omega), ← indexByte_has, show decide (c.toNat < 32) = false from decide_eq_false (by omega), show decide (126 < c.toNat) = false from decide_eq_false (by omega), decide_eq_false (by omega : ¬ (c.toNat : Int) < 32), decide_eq_false (by omega : ¬ 126 < (c.toNat : Int))])

/-! ### Encode -/
theorem esc_take (set : Int) (l : Bs) (k : Nat) (h : k < l.length) : esc set (l.take (k + 1)) = esc set (l.take k) ++ escC set l[k] := by
  rw [List.take_succ_eq_append_getElem h]; simp only [esc, List.flatMap_append]; simp
theorem esc_le (set : Int) (l : Bs) : (esc set l).length ≤ 3 * l.length := by
  induction l with
  | nil => simp [esc]
  | cons c r ih =>
    have : (escC set c).length ≤ 3 := by unfold escC; split <;> simp [pct]
    simp [esc] at ih ⊢
    omega

theorem cat2 (a b : List UInt8) : (⟨a.toArray⟩ : ByteArray) ++ ⟨b.toArray⟩ = ⟨(a ++ b).toArray⟩ := by
  apply ByteArray.ext
  rw [ByteArray.data_append]
  simp
theorem cat3 (x y z : UInt8) : (⟨#[x]⟩ : ByteArray) ++ ⟨#[y]⟩ ++ ⟨#[z]⟩ = ⟨[x, y, z].toArray⟩ := by
  rw [show (⟨#[x]⟩ : ByteArray) = ⟨[x].toArray⟩ from rfl, show (⟨#[y]⟩ : ByteArray) = ⟨[y].toArray⟩ from rfl, show (⟨#[z]⟩ : ByteArray) = ⟨[z].toArray⟩ from rfl, cat2, cat2]
  rfl
theorem and15 (c : UInt8) : bits .and .u8 (c.toNat : Int) 15 = (c.toNat : Int) % 16 := by
  have h : ∀ c : Fin 256, bits .and .u8 (c.val : Int) 15 = (c.val : Int) % 16 := by decide +kernel
  exact h c.toFin
theorem u8_wrap (n : Int) (h0 : 0 ≤ n) (h1 : n ≤ 255) : IntKind.u8.wrap n = n := by rw [IntKind.wrap_u8]; omega
theorem digitsU_at (n : Int) (h0 : 0 ≤ n) (h1 : n ≤ 15) : (⟨#[48, 49, 50, 51, 52, 53, 54, 55, 56, 57, 65, 66, 67, 68, 69, 70]⟩ : ByteArray).extract n.toNat (n + 1).toNat = ⟨#[hexU n.toNat]⟩ := by
  have h : ∀ k : Fin 16, (⟨#[48, 49, 50, 51, 52, 53, 54, 55, 56, 57, 65, 66, 67, 68, 69, 70]⟩ : ByteArray).extract k.val (k.val + 1) = ⟨#[hexU k.val]⟩ := by decide
  have := h ⟨n.toNat, by omega⟩
  rw [show (n + 1).toNat = n.toNat + 1 by omega]
  exact this

set_option maxHeartbeats 1000000 in
set_option maxRecDepth 100000 in
theorem esc_any (set : Int) (l : Bs) (hl : l.length ≤ 1000000000) (g cap : Nat) (w : World) (hc : ∀ j, j < l.length → w.cell? ⟨g, j, none⟩ = some (.int .u8 ((l.getD j 0).toNat : Int))) :
    Calls Tryz.prog 95 #[.int .i64 set, .slice (some ⟨g, 0, none⟩) l.length cap] w fun e w' => e = .returned (S (esc set l)) ∧ Fr w w' := by
  have hb := Bld.new w
  have hn := esc_le set l
  go_enter Tryz.func95, Tryz.ntmps95
  go_wp2
  generalize w.alloc (.cells #[.pointer none, .slice none 0 0] 127) = w1 at *
  generalize w.heap.size = b at *
  go_loopw [10] (fun i wr => ∃ k : Nat, k ≤ l.length ∧ i = .int .i64 k ∧ Bld w b (esc set (l.take k)) wr) (fun i _ => l.length - (intOf i).toNat)
  case atStart => exact ⟨0, Nat.zero_le _, rfl, by simpa [esc] using hb⟩
  case round =>
    obtain ⟨k, hk, rfl, hr⟩ := hrel
    by_cases hlt : k < l.length
    · have hcell := hr.fr.cell (hc k hlt)
      have e1 : (l.getD k 0) = l[k] := by simp [List.getD_eq_getElem?_getD, hlt]
      rw [e1] at hcell
      have hlen : (esc set (l.take k)).length ≤ 100000000000 := by
        have := esc_le set (l.take k)
        have h2 : (l.take k).length ≤ k := List.length_take_le _ _
        omega
      cases hin : inSet set l[k] with
      | false =>
        have hst : esc set (l.take (k + 1)) = esc set (l.take k) ++ [l[k]] := by rw [esc_take _ _ _ hlt]; simp [escC, hin]
        have HS := Lib.hid hst
        clear hst hc e1
        go_wp2_with (first
          | (go_at_call 179; refine (inSet_any _ _ _).mono ?_; rintro e w' ⟨rfl, rfl⟩; rw [hin])
          | (go_at_call 153; refine (bld_byte hr hlen _).mono ?_; rintro e w' ⟨rfl, hr'⟩))
        go_roundw
        case rel => exact ⟨k + 1, by omega, by go_num, by rw [HS.out]; exact hr'⟩
        case measure => simp [intOf]; omega
      | true =>
        have hst : esc set (l.take (k + 1)) = esc set (l.take k) ++ pct l[k] := by rw [esc_take _ _ _ hlt]; simp [escC, hin]
        have HS := Lib.hid hst
        clear hst hc e1
        have hu := u8_lt l[k]
        have q1 : IntKind.u8.wrap ((l[k].toNat : Int) / 16 + 1) = (l[k].toNat : Int) / 16 + 1 := u8_wrap _ (by omega) (by omega)
        have q2 : (l[k].toNat : Int) / 16 + 1 ≤ 16 := by omega
        have q3 : 0 ≤ (l[k].toNat : Int) / 16 := by omega
        have q4 : (l[k].toNat : Int) / 16 ≤ (l[k].toNat : Int) / 16 + 1 := by omega
        have q5 := digitsU_at ((l[k].toNat : Int) / 16) q3 (by omega)
        go_wp2_with (first
          | (go_at_call 179; refine (inSet_any _ _ _).mono ?_; rintro e w' ⟨rfl, rfl⟩; rw [hin]))
        have q6 := and15 l[k]
        have q7 : IntKind.u8.wrap ((l[k].toNat : Int) % 16 + 1) = (l[k].toNat : Int) % 16 + 1 := u8_wrap _ (by omega) (by omega)
        have q8 : (l[k].toNat : Int) % 16 + 1 ≤ 16 := by omega
        have q9 : 0 ≤ (l[k].toNat : Int) % 16 := by omega
        have q10 : (l[k].toNat : Int) % 16 ≤ (l[k].toNat : Int) % 16 + 1 := by omega
        have q11 := digitsU_at ((l[k].toNat : Int) % 16) q9 (by omega)
        go_still_tail 14, (by kernel_rfl)
        clear hu q1 q2 q3 q4 q5 q6 q7 q8 q9 q10 q11
        have hr1 : Bld w b (esc set (l.take k)) wr.drew := hr.step (Fr.refl _).drew
        change wpList _ _ _ _ _ wr.drew
        generalize wr.drew = wr1 at *
        go_wp2_with fail
        rw [cat3]
        refine (bld_string hr1 (pct l[k]) hlen (by simp [pct])).mono ?_
        rintro e w' ⟨rfl, hr'⟩
        go_wp2
        go_roundw
        case rel => exact ⟨k + 1, by omega, by go_num, by rw [HS.out]; exact hr'⟩
        case measure => simp [intOf]; omega
    · obtain rfl : k = l.length := by omega
      rw [List.take_length] at hr
      go_wp2_with (go_at_call 152; refine (bld_done hr).mono ?_; rintro e w' ⟨rfl, hf⟩)
      go_ret
      exact ⟨rfl, hf⟩

/-! ### Decode -/
/-- A slice of bytes of the call's own, new since w0. -/
structure OwnS (w0 : World) (v : Value) (xs : Bs) (w : World) : Prop where
  own : w.ownsRow w0.heap.size 5 1 v xs.length (Lib.byteCells xs)
  fr : Fr w0 w
theorem OwnS.nil (w : World) : OwnS w (.slice none 0 0) [] w := ⟨World.ownsRow_nil _ _ _ _, Fr.refl w⟩
theorem OwnS.step {w0 w w' : World} {v : Value} {xs : Bs} (h : OwnS w0 v xs w) (hf : Fr w w') : OwnS w0 v xs w' :=
  ⟨h.own.kept (row := none) ⟨hf.out.os, hf.out.tape, hf.out.output, hf.out.size, fun k hk _ => hf.out.block k hk⟩ (by cases v.ownBlock <;> simp), h.fr.trans hf⟩
theorem OwnS.slice {w0 w : World} {v : Value} {xs : Bs} (h : OwnS w0 v xs w) : ∃ A cap, v = .slice A xs.length cap := by
  rcases h.own.2 with ⟨hv, h0⟩ | ⟨g, cap, cur, hv, _⟩
  · exact ⟨none, 0, by rw [hv, h0]⟩
  · exact ⟨_, _, hv⟩
/-- Where it is, and its cells. -/
theorem OwnS.cells {w0 w : World} {v : Value} {xs : Bs} (h : OwnS w0 v xs w) : (xs = [] ∧ v = .slice none 0 0) ∨ ∃ g cap, v = .slice (some ⟨g, 0, none⟩) xs.length cap ∧ w0.heap.size ≤ g ∧ ∀ j, j < xs.length → w.cell? ⟨g, j, none⟩ = some (.int .u8 ((xs.getD j 0).toNat : Int)) := by
  rcases h.own.2 with ⟨hv, h0⟩ | ⟨g, cap, cur, hv, hg, _⟩
  · exact .inl ⟨List.eq_nil_of_length_eq_zero h0, hv⟩
  · refine .inr ⟨g, cap, hv, hg, fun j hj => ?_⟩
    rw [← add_at]
    exact h.own.cells (g := g) (by rw [hv]; rfl) j (.int .u8 ((xs.getD j 0).toNat : Int)) (by simp [Lib.byteCells, List.getD_eq_getElem?_getD, hj])
theorem OwnS.str {w0 w : World} {v : Value} {xs : Bs} (h : OwnS w0 v xs w) : (convert 34 9 v).run Tryz.prog w = .ok (S xs) w := by
  rcases h.cells with ⟨rfl, rfl⟩ | ⟨g, cap, rfl, hg, hc⟩
  · exact run_convert_bytes_nil w 34 5 Tryz.underlying34 Tryz.underlying5 0 0 _ Tryz.underlying9
  · rw [run_convert_bytes_arg w 34 5 Tryz.underlying34 Tryz.underlying5 g 0 xs.length cap (xs.map fun c => (c.toNat : Int)) (by simp) (fun i hi => by
      rw [Nat.zero_add, hc i hi]
      simp [List.getD_eq_getElem?_getD, hi]) _ Tryz.underlying9]
    congr 2
    simp only [strOfNums, List.map_map]
    congr 2
    clear h hc
    induction xs with
    | nil => rfl
    | cons c r ih => simp [ih]

theorem OwnS.snoc {w0 wr wx w1 : World} {v v1 : Value} {xs : Bs} (h : OwnS w0 v xs wr) (hf : Fr wr wx) (hgrow : wx.grownBy w1 v.ownBlock) {z : Int} {c : UInt8} (hz : z = (c.toNat : Int))
    (hown1 : w1.ownsRow w0.heap.size 5 1 v1 (xs.length + 1) (Lib.byteCells xs ++ [.int .u8 z])) : OwnS w0 v1 (xs ++ [c]) w1 := by
  subst hz
  rw [byteCells_snoc] at hown1
  exact ⟨by simpa using hown1, (h.fr.trans hf).grown hgrow fun k hk => (h.own.lt k hk).1⟩

/-- The text's rest from place k on: what it means. -/
theorem unesc_at (l : Bs) (k : Nat) (h : k < l.length) :
    unesc (l.drop k) = if l[k] = 37 ∧ k + 2 < l.length ∧ 0 ≤ hex (bI (l.getD (k + 1) 0)) ∧ 0 ≤ hex (bI (l.getD (k + 2) 0))
      then UInt8.ofNat (16 * (hex (bI (l.getD (k + 1) 0))).toNat + (hex (bI (l.getD (k + 2) 0))).toNat) :: unesc (l.drop (k + 3)) else l[k] :: unesc (l.drop (k + 1)) := by
  rw [List.drop_eq_getElem_cons h]
  by_cases h2 : k + 2 < l.length
  · rw [List.drop_eq_getElem_cons (show k + 1 < l.length by omega), List.drop_eq_getElem_cons h2]
    have e1 : l.getD (k + 1) 0 = l[k + 1] := by simp [List.getD_eq_getElem?_getD, show k + 1 < l.length by omega]
    have e2 : l.getD (k + 2) 0 = l[k + 2] := by simp [List.getD_eq_getElem?_getD, h2]
    rw [e1, e2]
    simp only [unesc, twoHex]
    by_cases hc : l[k] = 37
    · simp only [hc, true_and, h2]
      by_cases hx : 0 ≤ hex (bI l[k + 1]) ∧ 0 ≤ hex (bI l[k + 2])
      · simp [hx]
      · simp [hx]
    · simp [hc]
  · rw [if_neg (by omega)]
    by_cases h1 : k + 1 < l.length
    · rw [List.drop_eq_getElem_cons h1, List.drop_eq_nil_of_le (by omega)]
      simp [unesc]
    · rw [List.drop_eq_nil_of_le (by omega)]
      simp [unesc]
theorem unesc_le : ∀ l : Bs, (unesc l).length ≤ l.length
  | [] => by simp [unesc]
  | [c] => by simp [unesc]
  | [c, a] => by simp [unesc]
  | c :: a :: b :: r => by
    have h1 := unesc_le r
    have h2 := unesc_le (a :: b :: r)
    simp only [unesc]
    split
    · split
      · simp; omega
      · simp at h2 ⊢; omega
    · simp at h2 ⊢; omega

theorem hex_byte (c : UInt8) (w : World) : Calls Tryz.prog 122 #[.int .u8 (c.toNat : Int)] w fun e w' => e = .returned (.int .i64 (hex (bI c))) ∧ w = w' := hex_any _ (by omega) (u8_lt c) w
theorem or_hex (x y : Int) (h0 : 0 ≤ x) (h1 : x ≤ 15) (h2 : 0 ≤ y) (h3 : y ≤ 15) : bits .or .i64 (x * 16) y = x * 16 + y := by
  have h : ∀ a b : Fin 16, bits .or .i64 ((a.val : Int) * 16) (b.val : Int) = (a.val : Int) * 16 + b.val := by decide +kernel
  have := h ⟨x.toNat, by omega⟩ ⟨y.toNat, by omega⟩
  rw [show ((x.toNat : Nat) : Int) = x by omega, show ((y.toNat : Nat) : Int) = y by omega] at this
  exact this
theorem twoHex_toNat (x y : Int) (h0 : 0 ≤ x) (h1 : x ≤ 15) (h2 : 0 ≤ y) (h3 : y ≤ 15) : x * 16 + y = ((UInt8.ofNat (16 * x.toNat + y.toNat)).toNat : Int) := by
  rw [UInt8.toNat_ofNat']
  omega
theorem hex_lt (n : Int) : hex n ≤ 15 := by unfold hex; (repeat' split) <;> omega
theorem bI_bd (c : UInt8) : 0 ≤ bI c ∧ bI c ≤ 255 := by have := c.toNat_lt; simp [bI]; omega

set_option maxHeartbeats 4000000 in
set_option maxRecDepth 100000 in
theorem unesc_any (l : Bs) (hl : l.length ≤ 1000000000) (w : World) :
    Calls Tryz.prog 44 #[S l] w fun e w' => ∃ v, e = .returned v ∧ OwnS w v (unesc l) w' := by
  obtain ⟨i0, hi, hz0, hz1, hz2⟩ := info_parts byte_info
  have hn := OwnS.nil w
  go_enter Tryz.func44, Tryz.ntmps44
  go_wp2
  go_loopw [3, 4] (fun v i wr => ∃ (k : Nat) (xs : Bs), k ≤ l.length ∧ i = .int .i64 k ∧ OwnS w v xs wr ∧ xs.length ≤ k ∧ Hid (unesc l = xs ++ unesc (l.drop k))) (fun _ i _ => l.length - (intOf i).toNat)
  case atStart => exact ⟨0, [], Nat.zero_le _, rfl, hn, Nat.le_refl _, rfl⟩
  case round =>
    obtain ⟨k, xs, hk, rfl, hr, hxs, HU⟩ := hrel
    by_cases hlt : k < l.length
    · have hat := unesc_at l k hlt
      have HA := Lib.hid hat
      clear hat hn
      obtain ⟨A, cap, rfl⟩ := hr.slice
      by_cases hc : l[k] = 37 ∧ k + 2 < l.length ∧ 0 ≤ hex (bI (l.getD (k + 1) 0)) ∧ 0 ≤ hex (bI (l.getD (k + 2) 0))
      · have ha := HA.out
        rw [if_pos hc] at ha
        have HB := Lib.hid ha
        clear ha HA
        obtain ⟨hc1, hc2, hc3, hc4⟩ := hc
        have e1 : l.getD (k + 1) 0 = l[k + 1] := by simp [List.getD_eq_getElem?_getD, show k + 1 < l.length by omega]
        have e2 : l.getD (k + 2) 0 = l[k + 2] := by simp [List.getD_eq_getElem?_getD, hc2]
        rw [e1, e2] at HB
        rw [e1] at hc3
        rw [e2] at hc4
        have h37 : ((l[k].toNat : Int) == 37) = true := by rw [hc1]; rfl
        have hl1 := bI_bd l[k + 1]
        have hl2 := bI_bd l[k + 2]
        have hx1 := hex_lt (bI l[k + 1])
        have hx2 := hex_lt (bI l[k + 2])
        clear hc1 e1 e2
        have hix := ba_get l
        go_wp2_with (first
          | (go_at_call 122; refine (hex_byte _ _).mono ?_; rintro e w' ⟨rfl, rfl⟩))
        have r1 : IntKind.i64.wrap ((k : Int) + 1) = (k : Int) + 1 := i64_wrap _ (by omega) (by omega)
        have r2 : IntKind.i64.wrap ((k : Int) + 2) = (k : Int) + 2 := i64_wrap _ (by omega) (by omega)
        have r3 : ((k : Int) + 1).toNat = k + 1 := by omega
        have r4 : ((k : Int) + 2).toNat = k + 2 := by omega
        have r5 : (0 : Int) ≤ (k : Int) + 1 := by omega
        have r6 : (0 : Int) ≤ (k : Int) + 2 := by omega
        have r7 : (k : Int) + 1 < (l.length : Int) := by omega
        have r8 : (k : Int) + 2 < (l.length : Int) := by omega
        have s1 : IntKind.i64.wrap (hex (bI l[k + 1]) * 16) = hex (bI l[k + 1]) * 16 := i64_wrap _ (by omega) (by omega)
        have s2 := or_hex (hex (bI l[k + 1])) (hex (bI l[k + 2])) hc3 hx1 hc4 hx2
        have s3 : IntKind.u8.wrap (hex (bI l[k + 1]) * 16 + hex (bI l[k + 2])) = hex (bI l[k + 1]) * 16 + hex (bI l[k + 2]) := u8_wrap _ (by omega) (by omega)
        have hown := hr.own
        have hbs := hr.fr.size
        go_region_held3 (fun _ => True) (trivial)
          (first
            | (go_at_call 122; refine (hex_byte _ _).mono ?_; rintro e w' ⟨rfl, rfl⟩)
            | ((refine step_append_lies _ (by rfl) _ _ _ (by rfl) w.heap.size 5 i0 _ 1 1 Tryz.underlying34 hi hz0 hz1 hz2 rfl (by omega) (.slice A xs.length cap) xs.length (Lib.byteCells xs) (by rfl) ((hown.alloc _).drew) ⟨wr.heap.size, 0, none⟩ 1 1 [.int .u8 (hex (bI l[k + 1]) * 16 + hex (bI l[k + 2]))] (by rfl) (by rfl) (World.news_of_block (cs := #[.int .u8 (hex (bI l[k + 1]) * 16 + hex (bI l[k + 2]))]) (t := 5) (fr := (0, 0)) (heap_alloc_new wr _)) (by simp [Value.oneCell']) (by omega) (by unfold maxLen; omega) (by omega) (by simp; omega) (wr.heap.size + 1) (by simp) ?_; intro gg cap2 w1 hown1 hgrow hat hlt2)))
        all_goals
          go_wp2
          have hn := hr.snoc (((Fr.refl wr).alloc _).drew) hgrow (c := UInt8.ofNat (16 * (hex (bI l[k + 1])).toNat + (hex (bI l[k + 2])).toNat)) (twoHex_toNat _ _ hc3 hx1 hc4 hx2) hown1
          refine ⟨⟨k + 3, _, by omega, by go_num, hn, by simp; omega, ?_⟩, by simp [intOf]; omega⟩
          show unesc l = _
          rw [HU.out, HB.out]
          simp
      · have ha := HA.out
        rw [if_neg hc] at ha
        have HB := Lib.hid ha
        clear ha HA
        have hix := ba_get l
        have hown := hr.own
        have hbs := hr.fr.size
        have hstep : ∀ (gg cap2 : Nat) (w1 wx : World), Fr wr wx → wx.grownBy w1 (Value.slice A xs.length cap).ownBlock → w1.ownsRow w.heap.size 5 1 (.slice (some ⟨gg, 0, none⟩) (xs.length + 1) cap2) (xs.length + 1) (Lib.byteCells xs ++ [.int .u8 (l[k].toNat : Int)]) →
            ∃ ys : Bs, OwnS w (.slice (some ⟨gg, 0, none⟩) (xs.length + 1) cap2) ys w1 ∧ ys.length ≤ k + 1 ∧ Hid (unesc l = ys ++ unesc (l.drop (k + 1))) := fun gg cap2 w1 wx hf hg ho =>
          ⟨_, hr.snoc hf hg rfl ho, by simp; omega, by show unesc l = _; rw [HU.out, HB.out]; simp⟩
        have HS := Lib.hid hstep
        clear hstep
        by_cases h1 : l[k] = 37
        · have h37 : ((l[k].toNat : Int) == 37) = true := by rw [h1]; rfl
          by_cases h2 : k + 2 < l.length
          · have e1 : l.getD (k + 1) 0 = l[k + 1] := getD_at l _ _
            have e2 : l.getD (k + 2) 0 = l[k + 2] := getD_at l _ _
            rw [e1, e2] at hc
            have r1 : IntKind.i64.wrap ((k : Int) + 1) = (k : Int) + 1 := i64_wrap _ (by omega) (by omega)
            by_cases h3 : 0 ≤ hex (bI l[k + 1])
            · have h4 : ¬ 0 ≤ hex (bI l[k + 2]) := fun h => hc ⟨h1, h2, h3, h⟩
              have d4 := decide_eq_false h4
              clear hc h1 e1 e2 h4
              go_wp2_with (first
                | (go_at_call 122; refine (hex_byte _ _).mono ?_; rintro e w' ⟨rfl, rfl⟩)
                | (at_builtin; refine wpList_append_lies _ rfl _ _ _ rfl w.heap.size 5 i0 _ 1 1 Tryz.underlying34 hi hz0 hz1 hz2 rfl (by omega) (.slice A xs.length cap) xs.length (Lib.byteCells xs) rfl (hown.alloc _) ⟨wr.heap.size, 0, none⟩ 1 1 [.int .u8 (l[k].toNat : Int)] rfl rfl (World.news_of_block (cs := #[.int .u8 (l[k].toNat : Int)]) (t := 5) (fr := (0, 0)) (heap_alloc_new wr _)) (by simp [Value.oneCell']) (by omega) (by unfold maxLen; omega) (by omega) (by simp; omega) (wr.heap.size + 1) (by simp) ?_; intro gg cap2 w1 hown1 hgrow hat hlt2))
              obtain ⟨ys, hy1, hy2, hy3⟩ := HS.out gg cap2 w1 _ ((Fr.refl wr).alloc _) hgrow hown1
              exact ⟨⟨k + 1, ys, by omega, by go_num, hy1, hy2, hy3⟩, by simp [intOf]; omega⟩
            · have d3 := decide_eq_false h3
              clear hc h1 e1 e2 h3
              go_wp2_with (first
                | (go_at_call 122; refine (hex_byte _ _).mono ?_; rintro e w' ⟨rfl, rfl⟩)
                | (at_builtin; refine wpList_append_lies _ rfl _ _ _ rfl w.heap.size 5 i0 _ 1 1 Tryz.underlying34 hi hz0 hz1 hz2 rfl (by omega) (.slice A xs.length cap) xs.length (Lib.byteCells xs) rfl (hown.alloc _) ⟨wr.heap.size, 0, none⟩ 1 1 [.int .u8 (l[k].toNat : Int)] rfl rfl (World.news_of_block (cs := #[.int .u8 (l[k].toNat : Int)]) (t := 5) (fr := (0, 0)) (heap_alloc_new wr _)) (by simp [Value.oneCell']) (by omega) (by unfold maxLen; omega) (by omega) (by simp; omega) (wr.heap.size + 1) (by simp) ?_; intro gg cap2 w1 hown1 hgrow hat hlt2))
              obtain ⟨ys, hy1, hy2, hy3⟩ := HS.out gg cap2 w1 _ ((Fr.refl wr).alloc _) hgrow hown1
              exact ⟨⟨k + 1, ys, by omega, by go_num, hy1, hy2, hy3⟩, by simp [intOf]; omega⟩
          · clear hc h1
            go_wp2_with (at_builtin; refine wpList_append_lies _ rfl _ _ _ rfl w.heap.size 5 i0 _ 1 1 Tryz.underlying34 hi hz0 hz1 hz2 rfl (by omega) (.slice A xs.length cap) xs.length (Lib.byteCells xs) rfl (hown.alloc _) ⟨wr.heap.size, 0, none⟩ 1 1 [.int .u8 (l[k].toNat : Int)] rfl rfl (World.news_of_block (cs := #[.int .u8 (l[k].toNat : Int)]) (t := 5) (fr := (0, 0)) (heap_alloc_new wr _)) (by simp [Value.oneCell']) (by omega) (by unfold maxLen; omega) (by omega) (by simp; omega) (wr.heap.size + 1) (by simp) ?_; intro gg cap2 w1 hown1 hgrow hat hlt2)
            obtain ⟨ys, hy1, hy2, hy3⟩ := HS.out gg cap2 w1 _ ((Fr.refl wr).alloc _) hgrow hown1
            exact ⟨⟨k + 1, ys, by omega, by go_num, hy1, hy2, hy3⟩, by simp [intOf]; omega⟩
        · have h37 : ((l[k].toNat : Int) == 37) = false := by
            rw [beq_eq_false_iff_ne]
            intro h
            apply h1
            apply UInt8.toNat_inj.1
            show l[k].toNat = 37
            omega
          clear hc h1
          go_wp2_with (at_builtin; refine wpList_append_lies _ rfl _ _ _ rfl w.heap.size 5 i0 _ 1 1 Tryz.underlying34 hi hz0 hz1 hz2 rfl (by omega) (.slice A xs.length cap) xs.length (Lib.byteCells xs) rfl (hown.alloc _) ⟨wr.heap.size, 0, none⟩ 1 1 [.int .u8 (l[k].toNat : Int)] rfl rfl (World.news_of_block (cs := #[.int .u8 (l[k].toNat : Int)]) (t := 5) (fr := (0, 0)) (heap_alloc_new wr _)) (by simp [Value.oneCell']) (by omega) (by unfold maxLen; omega) (by omega) (by simp; omega) (wr.heap.size + 1) (by simp) ?_; intro gg cap2 w1 hown1 hgrow hat hlt2)
          obtain ⟨ys, hy1, hy2, hy3⟩ := HS.out gg cap2 w1 _ ((Fr.refl wr).alloc _) hgrow hown1
          exact ⟨⟨k + 1, ys, by omega, by go_num, hy1, hy2, hy3⟩, by simp [intOf]; omega⟩
    · obtain rfl : k = l.length := by omega
      go_wp2
      go_ret
      refine ⟨_, rfl, ?_⟩
      rw [HU.out, List.drop_length]
      simpa [unesc] using hr
end Go.Proofs.YtogpmgjdmoglkaaGreatDoor
