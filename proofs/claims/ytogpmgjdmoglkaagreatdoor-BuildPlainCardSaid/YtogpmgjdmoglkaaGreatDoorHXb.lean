/- Walks: layer 3: bytes' letters (base.Encode). -/
import Derived.Test.YtogpmgjdmoglkaaGreatDoorHXa
import Derived.Test.YtogpmgjdmoglkaaGreatDoorHWv
import Derived.Laws.BitsAllLaws
import Derived.Laws.IdiomCopy
set_option linter.unusedVariables false
set_option linter.unusedSimpArgs false
namespace Go.Proofs.YtogpmgjdmoglkaaGreatDoor
open Go.RowKit Pu

theorem or_add (a x k : Nat) (h : a < 18446744073709551616) (hx : x < 2 ^ k) (hk : k ≤ 64) (ha : a % 2 ^ k = 0) : bits .or .u64 (a : Int) (x : Int) = ((a + x : Nat) : Int) := by
  have h2 : 2 ^ k ≤ 2 ^ 64 := Nat.pow_le_pow_right (by omega) hk
  have := u64_or_nat a x h (by omega)
  rw [this]
  congr 1
  obtain ⟨q, rfl⟩ : ∃ q, a = 2 ^ k * q := ⟨a / 2 ^ k, (Nat.mul_div_cancel' (Nat.dvd_of_mod_eq_zero ha)).symm⟩
  rw [Nat.two_pow_add_eq_or_of_lt hx]
theorem and63 (a : Nat) (h : a < 18446744073709551616) : bits .and .u64 (a : Int) 63 = ((a % 64 : Nat) : Int) := by
  have := u64_and_nat a 63 h (by omega)
  rw [show (63 : Nat) = 2 ^ 6 - 1 from rfl, Nat.and_two_pow_sub_one_eq_mod] at this
  exact this
def ltabE : Bs := [65, 66, 67, 68, 69, 70, 71, 72, 73, 74, 75, 76, 77, 78, 79, 80, 81, 82, 83, 84, 85, 86, 87, 88, 89, 90, 97, 98, 99, 100, 101, 102, 103, 104, 105, 106, 107, 108, 109, 110, 111, 112, 113, 114, 115, 116, 117, 118, 119, 120, 121, 122, 48, 49, 50, 51, 52, 53, 54, 55, 56, 57, 43, 47]
theorem ltab_get (n : Nat) (h : n < 64) : ltabE.getD n 0 = let64 n := by
  have : ∀ k : _root_.Fin 64, ltabE.getD k.val 0 = let64 k.val := by decide +kernel
  exact this ⟨n, h⟩
/-- Three bytes, as one number. -/
def tri (x y z : UInt8) : Nat := x.toNat * 65536 + y.toNat * 256 + z.toNat
theorem tri_lt (x y z : UInt8) : tri x y z < 16777216 := by
  have := x.toNat_lt; have := y.toNat_lt; have := z.toNat_lt
  unfold tri; omega
theorem tri_or (x y z : UInt8) : bits .or .u64 ((x.toNat : Int) * 65536) ((y.toNat : Int) * 256) = ((x.toNat * 65536 + y.toNat * 256 : Nat) : Int) ∧ bits .or .u64 ((x.toNat * 65536 + y.toNat * 256 : Nat) : Int) (z.toNat : Int) = (tri x y z : Int) := by
  have h1 := x.toNat_lt; have h2 := y.toNat_lt; have h3 := z.toNat_lt
  refine ⟨?_, ?_⟩
  · have := or_add (x.toNat * 65536) (y.toNat * 256) 16 (by omega) (by omega) (by omega) (by omega)
    simpa using this
  · exact or_add (x.toNat * 65536 + y.toNat * 256) z.toNat 8 (by omega) (by omega) (by omega) (by omega)
theorem tri_and (x y z : UInt8) (d : Nat) (hd : 0 < d) : bits .and .u64 ((tri x y z : Int) / (d : Int)) 63 = ((tri x y z / d % 64 : Nat) : Int) := by
  have h := tri_lt x y z
  have h2 : tri x y z / d ≤ tri x y z := Nat.div_le_self _ _
  have := and63 (tri x y z / d) (by omega)
  simpa using this
theorem enc_three (x y z : UInt8) (r : Bs) : enc64 (x :: y :: z :: r) = [let64 (tri x y z / 262144 % 64), let64 (tri x y z / 4096 % 64), let64 (tri x y z / 64 % 64), let64 (tri x y z % 64)] ++ enc64 r := by
  have h1 := x.toNat_lt; have h2 := y.toNat_lt; have h3 := z.toNat_lt
  have hp : pad64 (x :: y :: z :: r) = pad64 r := by simp [pad64, Nat.add_assoc]
  unfold enc64
  rw [hp]
  simp only [encU, List.map_cons, List.cons_append, List.nil_append]
  unfold tri
  rw [show (x.toNat * 65536 + y.toNat * 256 + z.toNat) / 262144 % 64 = x.toNat / 4 by omega,
    show (x.toNat * 65536 + y.toNat * 256 + z.toNat) / 4096 % 64 = x.toNat % 4 * 16 + y.toNat / 16 by omega,
    show (x.toNat * 65536 + y.toNat * 256 + z.toNat) / 64 % 64 = y.toNat % 16 * 4 + z.toNat / 64 by omega,
    show (x.toNat * 65536 + y.toNat * 256 + z.toNat) % 64 = z.toNat % 64 by omega]
theorem enc_two (x y : UInt8) : enc64 [x, y] = [let64 (tri x y 0 / 262144 % 64), let64 (tri x y 0 / 4096 % 64), let64 (tri x y 0 / 64 % 64), 61] := by
  have h1 := x.toNat_lt; have h2 := y.toNat_lt
  show [let64 _, let64 _, let64 _] ++ [61] = _
  unfold tri
  simp only [List.cons_append, List.nil_append]
  rw [show (x.toNat * 65536 + y.toNat * 256 + (0 : UInt8).toNat) / 262144 % 64 = x.toNat / 4 by simp; omega,
    show (x.toNat * 65536 + y.toNat * 256 + (0 : UInt8).toNat) / 4096 % 64 = x.toNat % 4 * 16 + y.toNat / 16 by simp; omega,
    show (x.toNat * 65536 + y.toNat * 256 + (0 : UInt8).toNat) / 64 % 64 = y.toNat % 16 * 4 by simp; omega]
theorem enc_one (x : UInt8) : enc64 [x] = [let64 (tri x 0 0 / 262144 % 64), let64 (tri x 0 0 / 4096 % 64), 61, 61] := by
  have h1 := x.toNat_lt
  show [let64 _, let64 _] ++ [61, 61] = _
  unfold tri
  simp only [List.cons_append, List.nil_append]
  rw [show (x.toNat * 65536 + (0 : UInt8).toNat * 256 + (0 : UInt8).toNat) / 262144 % 64 = x.toNat / 4 by simp; omega,
    show (x.toNat * 65536 + (0 : UInt8).toNat * 256 + (0 : UInt8).toNat) / 4096 % 64 = x.toNat % 4 * 16 by simp; omega]

theorem ltab_ix (n : Nat) (h : n < (⟨ltabE.toArray⟩ : ByteArray).size) : (⟨ltabE.toArray⟩ : ByteArray)[n]'h = let64 n := by
  have h2 : n < ltabE.length := by have h3 : n < ltabE.toArray.size := h; simpa using h3
  rw [ba_get ltabE n h, ← getD_at ltabE n h2]
  exact ltab_get n h2
theorem copy3 (w : World) (g off cap : Nat) (r : Bs) (hc : ∀ j, (hj : j < r.length) → w.cell? ⟨g, off + j, none⟩ = some (.int .u8 (r[j].toNat : Int))) :
    ∃ W2, (Builtin.copy_ #[34, 34] 3 #[.slice (some ⟨w.heap.size, 0, none⟩) 3 3, .slice (some ⟨g, off, none⟩) r.length cap]).run Tryz.prog (w.alloc (.cells #[.int .u8 0, .int .u8 0, .int .u8 0] 132)) = .ok (.int .i64 ((min r.length 3 : Nat) : Int)) W2 ∧ Fr w W2 ∧
      Blk w.heap.size #[.int .u8 ((r.getD 0 0).toNat : Int), .int .u8 ((r.getD 1 0).toNat : Int), .int .u8 ((r.getD 2 0).toNat : Int)] 132 W2 := by
  have B : Blk w.heap.size #[.int .u8 0, .int .u8 0, .int .u8 0] 132 (w.alloc (.cells #[.int .u8 0, .int .u8 0, .int .u8 0] 132)) := ⟨heap_alloc_new w _⟩
  have F : Fr w (w.alloc (.cells #[.int .u8 0, .int .u8 0, .int .u8 0] 132)) := (Fr.refl w).alloc _
  have hlen : ((r.take 3).map fun c => Value.int .u8 (c.toNat : Int)).length = min r.length 3 := by simp [Nat.min_comm]
  refine ⟨(w.alloc (.cells #[.int .u8 0, .int .u8 0, .int .u8 0] 132)).setCells w.heap.size 0 ((r.take 3).map fun c => .int .u8 (c.toNat : Int)), ?_, ?_, ?_⟩
  · have := run_copy_cells (P := Tryz.prog) (w.alloc (.cells #[.int .u8 0, .int .u8 0, .int .u8 0] 132)) 34 34 3 5 w.heap.size 0 3 3 ⟨g, off, none⟩ r.length cap ((r.take 3).map fun c => .int .u8 (c.toNat : Int))
      Tryz.underlying34 (by kernel_rfl) hlen
      (fun j v hv => by
        have hj : j < r.length := by
          rcases Nat.lt_or_ge j r.length with h | h
          · exact h
          · rw [List.getElem?_eq_none (by simp; omega)] at hv; cases hv
        have hj3 : j < 3 := by
          rcases Nat.lt_or_ge j 3 with h | h
          · exact h
          · rw [List.getElem?_eq_none (by simp; omega)] at hv; cases hv
        rw [show (⟨g, off, none⟩ : Addr).add j = ⟨g, off + j, none⟩ from by unfold Addr.add; split <;> simp_all]
        rw [F.cell (hc j hj), ← hv]
        simp [List.getElem?_take, hj3, hj])
      (fun j hj => by
        rw [hlen] at hj
        have : j = 0 ∨ j = 1 ∨ j = 2 := by omega
        rcases this with rfl | rfl | rfl
        · rw [B.cell (j := 0) rfl]; rfl
        · rw [B.cell (j := 1) rfl]; rfl
        · rw [B.cell (j := 2) rfl]; rfl)
      (fun j _ => B.free _) (fun v hv => by
        simp only [List.mem_map] at hv
        obtain ⟨c, _, rfl⟩ := hv; rfl)
    rw [hlen] at this
    exact this
  · clear hlen B
    have hset : ∀ (vs : List Value) (o : Nat) (a : World), Fr w a → Fr w (a.setCells w.heap.size o vs) := by
      intro vs
      induction vs with
      | nil => exact fun o a h => h
      | cons v vs ih => exact fun o a h => ih (o + 1) _ (h.set (p := ⟨w.heap.size, o, none⟩) (Nat.le_refl _) v)
    exact hset _ 0 _ F
  · have := B.sets ((r.take 3).map fun c => .int .u8 (c.toNat : Int)) 0
    refine ⟨this.at_.trans ?_⟩
    match r with
    | [] => rfl
    | [x] => rfl
    | [x, y] => rfl
    | x :: y :: z :: t => rfl

def nOf : Value → Nat
  | .slice _ n _ => n
  | _ => 0
set_option maxHeartbeats 40000000 in
set_option maxRecDepth 100000 in
theorem benc_any (l : Bs) (hl : l.length ≤ 100000000) (v : Value) (w : World) (hv : RowB v l w) :
    Calls Tryz.prog 64 #[v] w fun e w' => e = .returned (S (enc64 l)) ∧ Fr w w' := by
  have hb := Bld.new w
  have HIX := Lib.hid ltab_ix
  go_enter Tryz.func64, Tryz.ntmps64
  go_wp2
  generalize w.alloc (.cells #[.pointer none, .slice none 0 0] 127) = w1 at *
  generalize w.heap.size = b at *
  go_loopw [0] (fun v wr => ∃ r xs : Bs, r.length ≤ l.length ∧ xs.length + 4 * r.length ≤ 2000000000 ∧ RowB v r w ∧ Bld w b xs wr ∧ Hid (enc64 l = xs ++ enc64 r)) (fun v _ => nOf v)
  case atStart => exact ⟨l, [], Nat.le_refl _, by simp; omega, hv, hb, Lib.hid rfl⟩
  case round =>
    obtain ⟨r, xs, hrl, hxs, hv, hr, HQ⟩ := hrel
    clear hb
    obtain ⟨A, cap, rfl, hcap, hc⟩ := hv
    match r, hrl, hxs, hcap, hc, HQ with
    | [], _, _, _, _, HQ0 =>
      have HQ2 : Hid (xs = enc64 l) := Lib.hid (by rw [HQ0.out]; simp [enc64, encU, pad64])
      clear HQ0 HIX HQ
      go_wp2_with (go_at_call 152; refine (bld_done hr).mono ?_; rintro e w' ⟨rfl, hf⟩)
      go_ret
      exact ⟨ret_s HQ2.out, hf⟩
    | [x], hrl, hxs, hcap, hc, HQ =>
      obtain ⟨g, off, rfl, _⟩ := hc 0 (by simp)
      have hcg : ∀ j, (hj : j < ([x]).length) → wr.cell? ⟨g, off + j, none⟩ = some (.int .u8 (([x])[j].toNat : Int)) := fun j hj => by
        obtain ⟨b2, o2, h1, h2⟩ := hc j hj
        injection h1 with h1; injection h1 with h1 h3; subst h1; subst h3; exact hr.fr.cell h2
      have hcw : ∀ j, (hj : j < ([x]).length) → w.cell? ⟨g, off + j, none⟩ = some (.int .u8 (([x])[j].toNat : Int)) := fun j hj => by
        obtain ⟨b2, o2, h1, h2⟩ := hc j hj
        injection h1 with h1; injection h1 with h1 h3; subst h1; subst h3; exact h2
      obtain ⟨W2, hcopy0, f2, B2⟩ := copy3 wr g off cap ([x]) hcg
      obtain ⟨Z, hZ⟩ : ∃ Z, Z = tri x 0 0 := ⟨_, rfl⟩
      obtain ⟨M, hM⟩ : ∃ M, M = x.toNat * 65536 + (0 : UInt8).toNat * 256 := ⟨_, rfl⟩
      have hor := tri_or x 0 0
      rw [← hM, ← hZ] at hor
      have ho1 : bits .or .u64 ((x.toNat : Int) * 65536) 0 = (M : Int) := hor.1
      have ho2 : bits .or .u64 (M : Int) 0 = (Z : Int) := hor.2
      have hZl : Z < 16777216 := by rw [hZ]; exact tri_lt _ _ _
      have ha0 : bits .and .u64 ((Z : Int) / 262144) 63 = ((Z / 262144 % 64 : Nat) : Int) := by have := tri_and x 0 0 262144 (by omega); rw [← hZ] at this; simpa using this
      have ha1 : bits .and .u64 ((Z : Int) / 4096) 63 = ((Z / 4096 % 64 : Nat) : Int) := by have := tri_and x 0 0 4096 (by omega); rw [← hZ] at this; simpa using this
      have HQ2 : Hid (enc64 l = (xs ++ [let64 (Z / 262144 % 64), let64 (Z / 4096 % 64), 61, 61]) ++ enc64 []) := Lib.hid (by rw [HQ.out, enc_one x, ← hZ]; simp [enc64, encU, pad64])
      have hux := u8_lt x
      have k0 : W2.cell? ⟨wr.heap.size, 0, none⟩ = some (.int .u8 (x.toNat : Int)) := B2.cell rfl
      have k1 : W2.cell? ⟨wr.heap.size, 1, none⟩ = some (.int .u8 0) := B2.cell rfl
      have k2 : W2.cell? ⟨wr.heap.size, 2, none⟩ = some (.int .u8 0) := B2.cell rfl
      have hcopy : (Builtin.copy_ #[34, 34] 3 #[.slice (some ⟨wr.heap.size, 0, none⟩) 3 3, .slice (some ⟨g, off, none⟩) 1 cap]).run Tryz.prog (wr.alloc (.cells #[.int .u8 0, .int .u8 0, .int .u8 0] 132)) = .ok (.int .i64 1) W2 := by
        exact hcopy0
      have hrB : Bld w b xs W2 := hr.step f2
      clear hc hcg hcw hcopy0 B2 hor hZ hM HQ hr
      go_wp2
      all_goals
        go_loopw [31] (fun i wi => ∃ k : Nat, k ≤ 4 ∧ i = .int .i64 k ∧ Bld w b (xs ++ ([let64 (Z / 262144 % 64), let64 (Z / 4096 % 64), 61, 61] : Bs).take k) wi) (fun i _ => 4 - (intOf i).toNat)
        case atStart => exact ⟨0, by omega, rfl, by simpa using hrB⟩
        case round =>
          obtain ⟨k, hk, rfl, hri⟩ := hrel
          have hk5 : k = 0 ∨ k = 1 ∨ k = 2 ∨ k = 3 ∨ k = 4 := by omega
          clear hk
          rcases hk5 with rfl | rfl | rfl | rfl | rfl
          · clear hrB
            have hri : Bld w b (xs ++ []) _ := hri
            have hxl : (xs ++ []).length ≤ 100000000000 := by simp; omega
            have hi0 := HIX.out (Z / 262144 % 64)
            unfold ltabE at hi0
            have hl0 : ((Z / 262144 % 64 : Nat) : Int) < 64 := by omega
            go_wp2_with fail
            refine (bld_byte hri hxl _).mono ?_
            rintro e w' ⟨rfl, hr'⟩
            go_wp2
            exact ⟨⟨1, by omega, by go_num, by simpa using hr'⟩, by simp [intOf]⟩
          · clear hrB
            have hri : Bld w b (xs ++ [let64 (Z / 262144 % 64)]) _ := hri
            have hxl : (xs ++ [let64 (Z / 262144 % 64)]).length ≤ 100000000000 := by simp; omega
            have hi1 := HIX.out (Z / 4096 % 64)
            unfold ltabE at hi1
            have hl1 : ((Z / 4096 % 64 : Nat) : Int) < 64 := by omega
            go_wp2_with fail
            refine (bld_byte hri hxl _).mono ?_
            rintro e w' ⟨rfl, hr'⟩
            go_wp2
            exact ⟨⟨2, by omega, by go_num, by simpa using hr'⟩, by simp [intOf]⟩
          · clear hrB
            have hri : Bld w b (xs ++ [let64 (Z / 262144 % 64), let64 (Z / 4096 % 64)]) _ := hri
            have hxl : (xs ++ [let64 (Z / 262144 % 64), let64 (Z / 4096 % 64)]).length ≤ 100000000000 := by simp; omega
            go_wp2_with fail
            refine (bld_byte hri hxl 61).mono ?_
            rintro e w' ⟨rfl, hr'⟩
            go_wp2
            exact ⟨⟨3, by omega, by go_num, by simpa using hr'⟩, by simp [intOf]⟩
          · clear hrB
            have hri : Bld w b (xs ++ [let64 (Z / 262144 % 64), let64 (Z / 4096 % 64), 61]) _ := hri
            have hxl : (xs ++ [let64 (Z / 262144 % 64), let64 (Z / 4096 % 64), 61]).length ≤ 100000000000 := by simp; omega
            go_wp2_with fail
            refine (bld_byte hri hxl 61).mono ?_
            rintro e w' ⟨rfl, hr'⟩
            go_wp2
            exact ⟨⟨4, by omega, by go_num, by simpa using hr'⟩, by simp [intOf]⟩
          · have hri : Bld w b (xs ++ [let64 (Z / 262144 % 64), let64 (Z / 4096 % 64), 61, 61]) _ := hri
            clear hrB
            go_wp2
            exact ⟨⟨[], xs ++ [let64 (Z / 262144 % 64), let64 (Z / 4096 % 64), 61, 61], by simp, by simp; simp at hxs; omega, ⟨_, _, rfl, by simp, fun j hj => by cases hj⟩, hri, HQ2⟩, by simp [nOf]⟩
    | [x, y], hrl, hxs, hcap, hc, HQ =>
      obtain ⟨g, off, rfl, _⟩ := hc 0 (by simp)
      have hcg : ∀ j, (hj : j < ([x, y]).length) → wr.cell? ⟨g, off + j, none⟩ = some (.int .u8 (([x, y])[j].toNat : Int)) := fun j hj => by
        obtain ⟨b2, o2, h1, h2⟩ := hc j hj
        injection h1 with h1; injection h1 with h1 h3; subst h1; subst h3; exact hr.fr.cell h2
      have hcw : ∀ j, (hj : j < ([x, y]).length) → w.cell? ⟨g, off + j, none⟩ = some (.int .u8 (([x, y])[j].toNat : Int)) := fun j hj => by
        obtain ⟨b2, o2, h1, h2⟩ := hc j hj
        injection h1 with h1; injection h1 with h1 h3; subst h1; subst h3; exact h2
      obtain ⟨W2, hcopy0, f2, B2⟩ := copy3 wr g off cap ([x, y]) hcg
      obtain ⟨Z, hZ⟩ : ∃ Z, Z = tri x y 0 := ⟨_, rfl⟩
      obtain ⟨M, hM⟩ : ∃ M, M = x.toNat * 65536 + y.toNat * 256 := ⟨_, rfl⟩
      have hor := tri_or x y 0
      rw [← hM, ← hZ] at hor
      have ho1 : bits .or .u64 ((x.toNat : Int) * 65536) ((y.toNat : Int) * 256) = (M : Int) := hor.1
      have ho2 : bits .or .u64 (M : Int) 0 = (Z : Int) := hor.2
      have hZl : Z < 16777216 := by rw [hZ]; exact tri_lt _ _ _
      have ha0 : bits .and .u64 ((Z : Int) / 262144) 63 = ((Z / 262144 % 64 : Nat) : Int) := by have := tri_and x y 0 262144 (by omega); rw [← hZ] at this; simpa using this
      have ha1 : bits .and .u64 ((Z : Int) / 4096) 63 = ((Z / 4096 % 64 : Nat) : Int) := by have := tri_and x y 0 4096 (by omega); rw [← hZ] at this; simpa using this
      have ha2 : bits .and .u64 ((Z : Int) / 64) 63 = ((Z / 64 % 64 : Nat) : Int) := by have := tri_and x y 0 64 (by omega); rw [← hZ] at this; simpa using this
      have HQ2 : Hid (enc64 l = (xs ++ [let64 (Z / 262144 % 64), let64 (Z / 4096 % 64), let64 (Z / 64 % 64), 61]) ++ enc64 []) := Lib.hid (by rw [HQ.out, enc_two x y, ← hZ]; simp [enc64, encU, pad64])
      have hux := u8_lt x
      have huy := u8_lt y
      have k0 : W2.cell? ⟨wr.heap.size, 0, none⟩ = some (.int .u8 (x.toNat : Int)) := B2.cell rfl
      have k1 : W2.cell? ⟨wr.heap.size, 1, none⟩ = some (.int .u8 (y.toNat : Int)) := B2.cell rfl
      have k2 : W2.cell? ⟨wr.heap.size, 2, none⟩ = some (.int .u8 0) := B2.cell rfl
      have hcopy : (Builtin.copy_ #[34, 34] 3 #[.slice (some ⟨wr.heap.size, 0, none⟩) 3 3, .slice (some ⟨g, off, none⟩) 2 cap]).run Tryz.prog (wr.alloc (.cells #[.int .u8 0, .int .u8 0, .int .u8 0] 132)) = .ok (.int .i64 2) W2 := by
        exact hcopy0
      have hrB : Bld w b xs W2 := hr.step f2
      clear hc hcg hcw hcopy0 B2 hor hZ hM HQ hr
      go_wp2
      all_goals
        go_loopw [31] (fun i wi => ∃ k : Nat, k ≤ 4 ∧ i = .int .i64 k ∧ Bld w b (xs ++ ([let64 (Z / 262144 % 64), let64 (Z / 4096 % 64), let64 (Z / 64 % 64), 61] : Bs).take k) wi) (fun i _ => 4 - (intOf i).toNat)
        case atStart => exact ⟨0, by omega, rfl, by simpa using hrB⟩
        case round =>
          obtain ⟨k, hk, rfl, hri⟩ := hrel
          have hk5 : k = 0 ∨ k = 1 ∨ k = 2 ∨ k = 3 ∨ k = 4 := by omega
          clear hk
          rcases hk5 with rfl | rfl | rfl | rfl | rfl
          · clear hrB
            have hri : Bld w b (xs ++ []) _ := hri
            have hxl : (xs ++ []).length ≤ 100000000000 := by simp; omega
            have hi0 := HIX.out (Z / 262144 % 64)
            unfold ltabE at hi0
            have hl0 : ((Z / 262144 % 64 : Nat) : Int) < 64 := by omega
            go_wp2_with fail
            refine (bld_byte hri hxl _).mono ?_
            rintro e w' ⟨rfl, hr'⟩
            go_wp2
            exact ⟨⟨1, by omega, by go_num, by simpa using hr'⟩, by simp [intOf]⟩
          · clear hrB
            have hri : Bld w b (xs ++ [let64 (Z / 262144 % 64)]) _ := hri
            have hxl : (xs ++ [let64 (Z / 262144 % 64)]).length ≤ 100000000000 := by simp; omega
            have hi1 := HIX.out (Z / 4096 % 64)
            unfold ltabE at hi1
            have hl1 : ((Z / 4096 % 64 : Nat) : Int) < 64 := by omega
            go_wp2_with fail
            refine (bld_byte hri hxl _).mono ?_
            rintro e w' ⟨rfl, hr'⟩
            go_wp2
            exact ⟨⟨2, by omega, by go_num, by simpa using hr'⟩, by simp [intOf]⟩
          · clear hrB
            have hri : Bld w b (xs ++ [let64 (Z / 262144 % 64), let64 (Z / 4096 % 64)]) _ := hri
            have hxl : (xs ++ [let64 (Z / 262144 % 64), let64 (Z / 4096 % 64)]).length ≤ 100000000000 := by simp; omega
            have hi2 := HIX.out (Z / 64 % 64)
            unfold ltabE at hi2
            have hl2 : ((Z / 64 % 64 : Nat) : Int) < 64 := by omega
            go_wp2_with fail
            refine (bld_byte hri hxl _).mono ?_
            rintro e w' ⟨rfl, hr'⟩
            go_wp2
            exact ⟨⟨3, by omega, by go_num, by simpa using hr'⟩, by simp [intOf]⟩
          · clear hrB
            have hri : Bld w b (xs ++ [let64 (Z / 262144 % 64), let64 (Z / 4096 % 64), let64 (Z / 64 % 64)]) _ := hri
            have hxl : (xs ++ [let64 (Z / 262144 % 64), let64 (Z / 4096 % 64), let64 (Z / 64 % 64)]).length ≤ 100000000000 := by simp; omega
            go_wp2_with fail
            refine (bld_byte hri hxl 61).mono ?_
            rintro e w' ⟨rfl, hr'⟩
            go_wp2
            exact ⟨⟨4, by omega, by go_num, by simpa using hr'⟩, by simp [intOf]⟩
          · have hri : Bld w b (xs ++ [let64 (Z / 262144 % 64), let64 (Z / 4096 % 64), let64 (Z / 64 % 64), 61]) _ := hri
            clear hrB
            go_wp2
            exact ⟨⟨[], xs ++ [let64 (Z / 262144 % 64), let64 (Z / 4096 % 64), let64 (Z / 64 % 64), 61], by simp, by simp; simp at hxs; omega, ⟨_, _, rfl, by simp, fun j hj => by cases hj⟩, hri, HQ2⟩, by simp [nOf]⟩
    | x :: y :: z :: r, hrl, hxs, hcap, hc, HQ =>
      obtain ⟨g, off, rfl, _⟩ := hc 0 (by simp)
      have hcg : ∀ j, (hj : j < (x :: y :: z :: r).length) → wr.cell? ⟨g, off + j, none⟩ = some (.int .u8 ((x :: y :: z :: r)[j].toNat : Int)) := fun j hj => by
        obtain ⟨b2, o2, h1, h2⟩ := hc j hj
        injection h1 with h1; injection h1 with h1 h3; subst h1; subst h3; exact hr.fr.cell h2
      have hcw : ∀ j, (hj : j < (x :: y :: z :: r).length) → w.cell? ⟨g, off + j, none⟩ = some (.int .u8 ((x :: y :: z :: r)[j].toNat : Int)) := fun j hj => by
        obtain ⟨b2, o2, h1, h2⟩ := hc j hj
        injection h1 with h1; injection h1 with h1 h3; subst h1; subst h3; exact h2
      obtain ⟨W2, hcopy0, f2, B2⟩ := copy3 wr g off cap (x :: y :: z :: r) hcg
      obtain ⟨Z, hZ⟩ : ∃ Z, Z = tri x y z := ⟨_, rfl⟩
      obtain ⟨M, hM⟩ : ∃ M, M = x.toNat * 65536 + y.toNat * 256 := ⟨_, rfl⟩
      have hor := tri_or x y z
      rw [← hM, ← hZ] at hor
      have ho1 : bits .or .u64 ((x.toNat : Int) * 65536) ((y.toNat : Int) * 256) = (M : Int) := hor.1
      have ho2 : bits .or .u64 (M : Int) (z.toNat : Int) = (Z : Int) := hor.2
      have hZl : Z < 16777216 := by rw [hZ]; exact tri_lt _ _ _
      have ha0 : bits .and .u64 ((Z : Int) / 262144) 63 = ((Z / 262144 % 64 : Nat) : Int) := by have := tri_and x y z 262144 (by omega); rw [← hZ] at this; simpa using this
      have ha1 : bits .and .u64 ((Z : Int) / 4096) 63 = ((Z / 4096 % 64 : Nat) : Int) := by have := tri_and x y z 4096 (by omega); rw [← hZ] at this; simpa using this
      have ha2 : bits .and .u64 ((Z : Int) / 64) 63 = ((Z / 64 % 64 : Nat) : Int) := by have := tri_and x y z 64 (by omega); rw [← hZ] at this; simpa using this
      have ha3 : bits .and .u64 (Z : Int) 63 = ((Z % 64 : Nat) : Int) := by have := tri_and x y z 1 (by omega); rw [← hZ] at this; simpa using this
      have HQ2 : Hid (enc64 l = (xs ++ [let64 (Z / 262144 % 64), let64 (Z / 4096 % 64), let64 (Z / 64 % 64), let64 (Z % 64)]) ++ enc64 r) := Lib.hid (by rw [HQ.out, enc_three x y z r, ← hZ]; simp [enc64, encU, pad64])
      have hux := u8_lt x
      have huy := u8_lt y
      have huz := u8_lt z
      have k0 : W2.cell? ⟨wr.heap.size, 0, none⟩ = some (.int .u8 (x.toNat : Int)) := B2.cell rfl
      have k1 : W2.cell? ⟨wr.heap.size, 1, none⟩ = some (.int .u8 (y.toNat : Int)) := B2.cell rfl
      have k2 : W2.cell? ⟨wr.heap.size, 2, none⟩ = some (.int .u8 (z.toNat : Int)) := B2.cell rfl
      have hcopy : (Builtin.copy_ #[34, 34] 3 #[.slice (some ⟨wr.heap.size, 0, none⟩) 3 3, .slice (some ⟨g, off, none⟩) (r.length + 1 + 1 + 1) cap]).run Tryz.prog (wr.alloc (.cells #[.int .u8 0, .int .u8 0, .int .u8 0] 132)) = .ok (.int .i64 3) W2 := by
        rw [show ((3 : Int)) = ((min (x :: y :: z :: r).length 3 : Nat) : Int) from by simp]; exact hcopy0
      have HR : Hid (RowB (.slice (some ⟨g, off + 3, none⟩) r.length (cap - 3)) r w) := Lib.hid ⟨_, _, rfl, by simp at hcap; omega, fun j hj => ⟨g, off + 3, rfl, by rw [show off + 3 + j = off + (j + 3) by omega]; exact hcw (j + 3) (by simp; omega)⟩⟩
      have HR0 : Hid (cap = 3 → RowB (.slice (some ⟨g, off, none⟩) r.length 0) r w) := Lib.hid fun hc3 => by
        have h0 : r = [] := List.eq_nil_of_length_eq_zero (by simp at hcap; omega)
        subst h0; exact ⟨_, _, rfl, by simp, fun j hj => by cases hj⟩
      have hrB : Bld w b xs W2 := hr.step f2
      clear hc hcg hcw hcopy0 B2 hor hZ hM HQ hr
      go_wp2
      all_goals
        go_loopw [31] (fun i wi => ∃ k : Nat, k ≤ 4 ∧ i = .int .i64 k ∧ Bld w b (xs ++ ([let64 (Z / 262144 % 64), let64 (Z / 4096 % 64), let64 (Z / 64 % 64), let64 (Z % 64)] : Bs).take k) wi) (fun i _ => 4 - (intOf i).toNat)
        case atStart => exact ⟨0, by omega, rfl, by simpa using hrB⟩
        case round =>
          obtain ⟨k, hk, rfl, hri⟩ := hrel
          have hk5 : k = 0 ∨ k = 1 ∨ k = 2 ∨ k = 3 ∨ k = 4 := by omega
          clear hk
          rcases hk5 with rfl | rfl | rfl | rfl | rfl
          · clear hrB
            have hri : Bld w b (xs ++ []) _ := hri
            have hxl : (xs ++ []).length ≤ 100000000000 := by simp; omega
            have hi0 := HIX.out (Z / 262144 % 64)
            unfold ltabE at hi0
            have hl0 : ((Z / 262144 % 64 : Nat) : Int) < 64 := by omega
            go_wp2_with fail
            refine (bld_byte hri hxl _).mono ?_
            rintro e w' ⟨rfl, hr'⟩
            go_wp2
            exact ⟨⟨1, by omega, by go_num, by simpa using hr'⟩, by simp [intOf]⟩
          · clear hrB
            have hri : Bld w b (xs ++ [let64 (Z / 262144 % 64)]) _ := hri
            have hxl : (xs ++ [let64 (Z / 262144 % 64)]).length ≤ 100000000000 := by simp; omega
            have hi1 := HIX.out (Z / 4096 % 64)
            unfold ltabE at hi1
            have hl1 : ((Z / 4096 % 64 : Nat) : Int) < 64 := by omega
            go_wp2_with fail
            refine (bld_byte hri hxl _).mono ?_
            rintro e w' ⟨rfl, hr'⟩
            go_wp2
            exact ⟨⟨2, by omega, by go_num, by simpa using hr'⟩, by simp [intOf]⟩
          · clear hrB
            have hri : Bld w b (xs ++ [let64 (Z / 262144 % 64), let64 (Z / 4096 % 64)]) _ := hri
            have hxl : (xs ++ [let64 (Z / 262144 % 64), let64 (Z / 4096 % 64)]).length ≤ 100000000000 := by simp; omega
            have hi2 := HIX.out (Z / 64 % 64)
            unfold ltabE at hi2
            have hl2 : ((Z / 64 % 64 : Nat) : Int) < 64 := by omega
            go_wp2_with fail
            refine (bld_byte hri hxl _).mono ?_
            rintro e w' ⟨rfl, hr'⟩
            go_wp2
            exact ⟨⟨3, by omega, by go_num, by simpa using hr'⟩, by simp [intOf]⟩
          · clear hrB
            have hri : Bld w b (xs ++ [let64 (Z / 262144 % 64), let64 (Z / 4096 % 64), let64 (Z / 64 % 64)]) _ := hri
            have hxl : (xs ++ [let64 (Z / 262144 % 64), let64 (Z / 4096 % 64), let64 (Z / 64 % 64)]).length ≤ 100000000000 := by simp; omega
            have hi3 := HIX.out (Z % 64)
            unfold ltabE at hi3
            have hl3 : ((Z % 64 : Nat) : Int) < 64 := by omega
            go_wp2_with fail
            refine (bld_byte hri hxl _).mono ?_
            rintro e w' ⟨rfl, hr'⟩
            go_wp2
            exact ⟨⟨4, by omega, by go_num, by simpa using hr'⟩, by simp [intOf]⟩
          · have hri : Bld w b (xs ++ [let64 (Z / 262144 % 64), let64 (Z / 4096 % 64), let64 (Z / 64 % 64), let64 (Z % 64)]) _ := hri
            clear hrB
            go_wp2
            exact ⟨⟨r, xs ++ [let64 (Z / 262144 % 64), let64 (Z / 4096 % 64), let64 (Z / 64 % 64), let64 (Z % 64)], by simp at hrl; omega, by simp; simp at hxs; omega, by first | exact HR.out | exact HR0.out (by assumption), hri, HQ2⟩, by simp [nOf]; omega⟩
end Go.Proofs.YtogpmgjdmoglkaaGreatDoor
