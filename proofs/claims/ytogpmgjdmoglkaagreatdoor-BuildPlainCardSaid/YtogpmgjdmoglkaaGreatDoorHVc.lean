/- Walks: texts that may stand in quotes; ranges over texts' runes. -/
import Derived.Test.YtogpmgjdmoglkaaGreatDoorHWu
import Derived.Test.YtogpmgjdmoglkaaGreatDoorHVa
import Derived.Deep.LoopGhost
import Derived.Lib.OthersKept
import Derived.Lib.TrimU
set_option linter.unusedVariables false
set_option linter.unusedSimpArgs false
namespace Go.Proofs.YtogpmgjdmoglkaaGreatDoor
open Go.RowKit Pu

theorem ba_size (l : Bs) : (⟨l.toArray⟩ : ByteArray).size = l.length := by show l.toArray.size = _; simp
/-- A rune more of a text. -/
theorem rune_next (l : Bs) (w : World) (k pos : Nat) (hk : w.heap[k]? = some (.stringIter ⟨l.toArray⟩ pos)) (h : pos < l.length) : ∃ (R K : Nat) (W : World), goRune (l.drop pos) = (R, K) ∧ 1 ≤ K ∧ pos + K ≤ l.length ∧
    (∀ ty, (Instr.next (.pointer (some ⟨k, 0, none⟩)) true ty).run Tryz.prog w = .ok (.tuple #[.bool true, .int .i64 pos, .int .i32 (R : Int)]) W) ∧ W.heap[k]? = some (.stringIter ⟨l.toArray⟩ (pos + K)) ∧
    (∀ (B : Nat) (a : World), B ≤ k → Below B a w → Below B a W) ∧ (∀ j, j ≠ k → W.heap[j]? = w.heap[j]?) ∧ W.heap.size = w.heap.size := by
  have hd : l.drop pos = l[pos] :: l.drop (pos + 1) := List.drop_eq_getElem_cons h
  have hb := goRune_bd l[pos] (l.drop (pos + 1))
  have hl : (l.drop (pos + 1)).length = l.length - (pos + 1) := by simp
  rw [← hd] at hb
  refine ⟨(goRune (l.drop pos)).1, (goRune (l.drop pos)).2, _, rfl, hb.1, by omega, fun ty => ?_, Lib.iterAt_heap w k _ pos _ hk, fun B a hB hb => Lib.below_iterAt hb hB _ _, fun j hj => Lib.iterAt_other w k j _ _ hj, Lib.iterAt_size _ _ _ _⟩
  rw [← decode_drop]
  exact Lib.run_next_any_at w k _ pos ty hk (by rw [ba_size]; exact h)
theorem rune_end (l : Bs) (w : World) (k pos : Nat) (hk : w.heap[k]? = some (.stringIter ⟨l.toArray⟩ pos)) (h : ¬ pos < l.length) : ∀ ty, (Instr.next (.pointer (some ⟨k, 0, none⟩)) true ty).run Tryz.prog w = .ok (.tuple #[.bool false]) w := fun ty =>
  Lib.run_next_end_at w k _ pos ty hk (by rw [ba_size]; exact h)

theorem valid_any (l : Bs) (hl : l.length ≤ 1000000000) (hq : quotable l = true) (g cap : Nat) (hcap : l.length ≤ cap) (w : World) (hE : Env w) (hc : CellsAt l g w) :
    Calls Tryz.prog 209 #[.slice (some ⟨g, 0, none⟩) l.length cap] w fun e w' => e = .returned (.bool true) ∧ Fr w w' := by
  go_enter Tryz.func209, Tryz.ntmps209
  go_wp2_with (go_at_call 246; refine (valid_quotable l hl hq g cap hcap _ hE hc).mono ?_; rintro e w2 ⟨rfl, hf⟩)
  go_ret
  exact ⟨rfl, hf⟩

set_option maxRecDepth 100000 in
set_option maxHeartbeats 4000000 in
theorem quotable_any (l : Bs) (hl : l.length ≤ 1000000000) (w : World) (hE : Env w) : Calls Tryz.prog 149 #[S l] w fun e w' => e = .returned (.bool (quotable l)) ∧ Fr w w' := by
  go_enter Tryz.func149, Tryz.ntmps149
  go_wp2
  go_loopg [] l.length (fun gf wx => ∃ pos : Nat, wx.heap[w.heap.size]? = some (.stringIter ⟨l.toArray⟩ pos) ∧ Below w.heap.size w wx ∧ Hid (quotable (l.drop pos) = quotable l) ∧ l.length ≤ pos + gf)
  case atStart => exact ⟨0, World.iter_heap w _ 0, (Below.refl _ w).alloc (Nat.le_refl _) _, Lib.hid (by simp), by omega⟩
  case round =>
    obtain ⟨pos, hit, hbw, HQ, hfu⟩ := hrel
    by_cases hps : pos < l.length
    · obtain ⟨g', rfl⟩ : ∃ g', gk = g' + 1 := ⟨gk - 1, by omega⟩
      obtain ⟨R, K, W, hg, hK1, hK2, hnx, hitW, hbwW, -, -⟩ := rune_next l wr _ pos hit hps
      have hbw2 := hbwW _ _ (Nat.le_refl _) hbw
      have hdk : l.drop pos = l[pos] :: l.drop (pos + 1) := List.drop_eq_getElem_cons hps
      have HQ2 : Hid (quotable l = (quoteR R && quotable (l.drop (pos + K)))) := Lib.hid (by
        have := quotable_rune l[pos] (l.drop (pos + 1))
        rw [← hdk, hg] at this
        rw [← HQ.out, this, List.drop_drop])
      clear HQ hdk hbw hbwW hit hg hE
      by_cases h9 : R = 9
      · subst h9
        have HQ3 : Hid (quotable (l.drop (pos + K)) = quotable l) := Lib.hid (by rw [HQ2.out]; rfl)
        go_wp2
        go_roundg g'
        case measure => omega
        case rel => exact ⟨pos + K, hitW, hbw2, HQ3, by omega⟩
      · have e9 : ((R : Int) != 9) = true := by simp; omega
        by_cases h32 : R < 32
        · have e32 : (R : Int) < 32 := by omega
          have e128 : (R : Int) < 128 := by omega
          have HQ3 : Hid (quotable l = false) := Lib.hid (by rw [HQ2.out]; simp [quoteR]; omega)
          go_wp2
          go_ret
          exact ⟨by rw [HQ3.out]; rfl, ⟨hbw2⟩⟩
        · have e32 : decide ((R : Int) < 32) = false := decide_eq_false (by omega)
          by_cases h126 : 126 < R
          · have e126 : (126 : Int) < (R : Int) := by omega
            by_cases h128 : R < 128
            · have e128 : (R : Int) < 128 := by omega
              have HQ3 : Hid (quotable l = false) := Lib.hid (by rw [HQ2.out]; simp [quoteR]; omega)
              go_wp2
              go_ret
              exact ⟨by rw [HQ3.out]; rfl, ⟨hbw2⟩⟩
            · have e128 : decide ((R : Int) < 128) = false := decide_eq_false (by omega)
              by_cases h255 : 255 < R
              · have e255 : (255 : Int) < (R : Int) := by omega
                have HQ3 : Hid (quotable l = false) := Lib.hid (by rw [HQ2.out]; simp [quoteR]; omega)
                go_wp2
                go_ret
                exact ⟨by rw [HQ3.out]; rfl, ⟨hbw2⟩⟩
              · have e255 : decide ((255 : Int) < (R : Int)) = false := decide_eq_false (by omega)
                have HQ3 : Hid (quotable (l.drop (pos + K)) = quotable l) := Lib.hid (by
                  rw [HQ2.out]
                  have : quoteR R = true := by simp [quoteR]; omega
                  simp [this])
                go_wp2
                go_roundg g'
                case measure => omega
                case rel => exact ⟨pos + K, hitW, hbw2, HQ3, by omega⟩
          · have e126 : decide ((126 : Int) < (R : Int)) = false := decide_eq_false (by omega)
            have HQ3 : Hid (quotable (l.drop (pos + K)) = quotable l) := Lib.hid (by
              rw [HQ2.out]
              have : quoteR R = true := by simp [quoteR]; omega
              simp [this])
            go_wp2
            go_roundg g'
            case measure => omega
            case rel => exact ⟨pos + K, hitW, hbw2, HQ3, by omega⟩
    · have hnx := rune_end l wr _ pos hit hps
      have hq : quotable l = true := by rw [← HQ.out, List.drop_eq_nil_of_le (by omega)]; rfl
      have HV : Hid (∀ (w2 : World) (g cap : Nat), l.length ≤ cap → Env w2 → CellsAt l g w2 → Calls Tryz.prog 209 #[.slice (some ⟨g, 0, none⟩) l.length cap] w2 fun e w' => e = .returned (.bool true) ∧ Fr w2 w') :=
        Lib.hid fun w2 g cap h1 h2 h3 => valid_any l hl hq g cap h1 w2 h2 h3
      have hE2 := hE.fr ⟨hbw⟩
      have hob := OwnB.conv wr l
      have kc := fun (w : World) (s : ByteArray) => Lib.run_convert_string_bytes (P := Tryz.prog) w 9 34 5 s Tryz.underlying9 Tryz.underlying34 Tryz.underlying5
      clear HQ hE hit
      go_wp2_with fail
      refine (HV.out _ _ _ (grownCap_ge _ _ _ _) (hE2.fr hob.fr) hob.cell).mono ?_
      rintro e w2 ⟨rfl, hf⟩
      go_wp2
      go_ret
      exact ⟨by rw [hq]; rfl, Fr.trans ⟨hbw⟩ (hob.fr.trans hf)⟩
end Go.Proofs.YtogpmgjdmoglkaaGreatDoor
/- Walks: mime.anyAt, mime.cut. -/
set_option linter.unusedVariables false
set_option linter.unusedSimpArgs false
namespace Go.Proofs.YtogpmgjdmoglkaaGreatDoor
open Go.RowKit Pu

/-- Not one of these. -/
def notIn (a : Bs) (c : UInt8) : Bool := !a.contains c
/-- Where a byte of these first stands, or -1. -/
def anyOf (a l : Bs) : Int := if (l.takeWhile (notIn a)).length < l.length then ((l.takeWhile (notIn a)).length : Int) else -1
theorem anyOf_at (a l : Bs) (k : Nat) (h : k < l.length) (hn : ∀ j (hj : j < l.length), j < k → notIn a l[j] = true) (hk : notIn a l[k] = false) : anyOf a l = k := by
  have : l.takeWhile (notIn a) = l.take k := by
    have h2 := (takeWhile_all (p := notIn a) (l := l.take k) (fun x hx => by
      obtain ⟨j, hj, rfl⟩ := List.mem_iff_getElem.1 hx
      rw [List.length_take] at hj
      rw [List.getElem_take]
      exact hn j (by omega) (by omega)) (l.drop k) (fun x hx => by
      rw [List.drop_eq_getElem_cons h] at hx
      cases hx
      exact hk)).1
    rwa [List.take_append_drop] at h2
  unfold anyOf
  rw [this, List.length_take, if_pos (by omega)]
  omega
theorem anyOf_no (a l : Bs) (hn : ∀ j (hj : j < l.length), notIn a l[j] = true) : anyOf a l = -1 := by
  have h2 := (takeWhile_all (p := notIn a) (l := l) (fun x hx => by
      obtain ⟨j, hj, rfl⟩ := List.mem_iff_getElem.1 hx
      exact hn j hj) [] (fun x hx => by cases hx)).1
  rw [List.append_nil] at h2
  unfold anyOf
  rw [h2, if_neg (by omega)]

set_option maxRecDepth 100000 in
set_option maxHeartbeats 4000000 in
theorem anyAt_any (l a : Bs) (hl : l.length ≤ 1000000000) (ha : ∀ c ∈ a, c.toNat < 128) (w : World) : Calls Tryz.prog 203 #[S l, S a] w fun e w' => e = .returned (.int .i64 (anyOf a l)) ∧ Fr w w' := by
  go_enter Tryz.func203, Tryz.ntmps203
  go_wp2
  go_loopg [] l.length (fun gf wx => ∃ pos : Nat, wx.heap[w.heap.size]? = some (.stringIter ⟨l.toArray⟩ pos) ∧ Below w.heap.size w wx ∧ Hid (∀ j (hj : j < l.length), j < pos → notIn a l[j] = true) ∧ pos ≤ l.length ∧ l.length ≤ pos + gf)
  case atStart => exact ⟨0, World.iter_heap w _ 0, (Below.refl _ w).alloc (Nat.le_refl _) _, Lib.hid (fun j hj h => by omega), by omega, by omega⟩
  case round =>
    obtain ⟨pos, hit, hbw, HQ, hpl, hfu⟩ := hrel
    by_cases hps : pos < l.length
    · obtain ⟨g', rfl⟩ : ∃ g', gk = g' + 1 := ⟨gk - 1, by omega⟩
      obtain ⟨R, K, W, hg, hK1, hK2, hnx, hitW, hbwW, -, -⟩ := rune_next l wr _ pos hit hps
      have hbw2 := hbwW _ _ (Nat.le_refl _) hbw
      have hlW : w.heap.size < W.heap.size := by
        rcases Nat.lt_or_ge w.heap.size W.heap.size with h | h
        · exact h
        · rw [Array.getElem?_eq_none h] at hitW; cases hitW
      have hrune : R < 128 → R = l[pos].toNat ∧ K = 1 := fun h => by
        rw [List.drop_eq_getElem_cons hps] at hg
        by_cases h2 : l[pos].toNat < 128
        · rw [goRune_low _ _ h2] at hg; injection hg with h3 h4; exact ⟨h3.symm, h4.symm⟩
        · have := (goRune_high l[pos] (l.drop (pos + 1)) h2).1
          rw [hg] at this; exact absurd h (by omega)
      have HF : Hid (∀ (q : Nat) (hq : q < a.length), R = a[q].toNat → anyOf a l = pos) := Lib.hid (fun q hq he => by
        have h1 := hrune (by rw [he]; exact ha _ (List.getElem_mem hq))
        refine anyOf_at a l pos hps HQ.out ?_
        have : l[pos] = a[q] := UInt8.toNat_inj.1 (by omega)
        rw [this]
        simp [notIn])
      have HN : Hid ((∀ (j : Nat) (hj : j < a.length), a[j].toNat ≠ R) → Hid (∀ j (hj : j < l.length), j < pos + K → notIn a l[j] = true)) := Lib.hid (fun hno => Lib.hid (fun j hj hk => by
        by_cases hjp : j < pos
        · exact HQ.out j hj hjp
        · have key : ∀ c : UInt8, (c.toNat < 128 → c.toNat = R) → notIn a c = true := fun c hc => by
            have : ¬ c ∈ a := fun hm => by
              obtain ⟨i, hi, rfl⟩ := List.mem_iff_getElem.1 hm
              exact hno i hi (hc (ha _ hm))
            simp [notIn, this]
          refine key _ fun hlt => ?_
          rw [List.drop_eq_getElem_cons hps] at hg
          by_cases h2 : l[pos].toNat < 128
          · rw [goRune_low _ _ h2] at hg
            injection hg with h3 h4
            obtain rfl : j = pos := by omega
            exact h3
          · have h4 := (goRune_high l[pos] (l.drop (pos + 1)) h2).2.2.2 (j - pos) (by rw [hg]; show j - pos < K; omega)
            rw [← List.drop_eq_getElem_cons hps, List.getD_eq_getElem?_getD, List.getElem?_drop, show pos + (j - pos) = j from by omega, List.getElem?_eq_getElem hj] at h4
            simp at h4
            omega))
      clear hit hbw hbwW hg hrune
      go_wp2
      go_loopg [] a.length (fun gf wx => ∃ q : Nat, wx.heap[W.heap.size]? = some (.stringIter ⟨a.toArray⟩ q) ∧ wx.heap[w.heap.size]? = some (.stringIter ⟨l.toArray⟩ (pos + K)) ∧ Below w.heap.size w wx ∧ Hid (∀ j (hj : j < a.length), j < q → a[j].toNat ≠ R) ∧ q ≤ a.length ∧ a.length ≤ q + gf)
      case atStart => exact ⟨0, World.iter_heap W _ 0, ((Fr.refl W).alloc (.stringIter ⟨a.toArray⟩ 0)).heap hitW, hbw2.alloc hbw2.size _, Lib.hid (fun j hj h => by omega), by omega, by omega⟩
      case round =>
        obtain ⟨q, hit2, hit1, hbw3, HR, hqa, hfu2⟩ := hrel
        by_cases hqs : q < a.length
        · obtain ⟨g2, rfl⟩ : ∃ g2, gk = g2 + 1 := ⟨gk - 1, by omega⟩
          obtain ⟨R2, K2, W2, hg2, hK3, hK4, hnx2, hitW2, hbwW2, hoth, -⟩ := rune_next a wr _ q hit2 hqs
          have hlow := goRune_low a[q] (a.drop (q + 1)) (ha _ (List.getElem_mem hqs))
          rw [← List.drop_eq_getElem_cons hqs, hg2] at hlow
          obtain ⟨rfl, rfl⟩ : R2 = a[q].toNat ∧ K2 = 1 := by injection hlow with h1 h2; exact ⟨h1, h2⟩
          have hbw4 := hbwW2 _ _ hbw2.size hbw3
          have hit3 := (hoth w.heap.size (Nat.ne_of_lt hlW)).trans hit1
          have hgd := goRune_low
          clear hlow hg2 hbwW2 hoth hbw3 hit1 hit2 hgd
          by_cases he : R = a[q].toNat
          · have heq : ((R : Int) == (a[q].toNat : Int)) = true := by rw [he]; simp
            have hq := HF.out q hqs he
            clear he HR HF HQ HN
            go_wp2
            go_ret
            exact ⟨by rw [hq]; rfl, ⟨hbw4⟩⟩
          · have heq : ((R : Int) == (a[q].toNat : Int)) = false := by rw [beq_eq_false_iff_ne]; omega
            have HR2 : Hid (∀ (j : Nat) (hj : j < a.length), j < q + 1 → a[j].toNat ≠ R) := Lib.hid (fun j hj hq => by
              by_cases h : j = q
              · subst h; exact fun h => he h.symm
              · exact HR.out j hj (by omega))
            clear he HR HF HQ HN
            go_wp2
            go_roundg g2
            case measure => omega
            case rel => exact ⟨q + 1, hitW2, hit3, hbw4, HR2, by omega, by omega⟩
        · have hnx2 := rune_end a wr _ q hit2 hqs
          obtain rfl : q = a.length := by omega
          have HQ2 := HN.out (fun j hj => HR.out j hj hj)
          clear HR HN HF HQ
          go_wp2
          go_roundg g'
          case measure => omega
          case rel => exact ⟨pos + K, hit1, hbw3, HQ2, by omega, by omega⟩
    · have hnx := rune_end l wr _ pos hit hps
      obtain rfl : pos = l.length := by omega
      have hq := anyOf_no a l (fun j hj => HQ.out j hj hj)
      clear HQ
      go_wp2
      go_ret
      exact ⟨by rw [hq]; rfl, ⟨hbw⟩⟩
theorem drop_S' (s : Bs) (n : Nat) : (⟨s.toArray⟩ : ByteArray).extract n s.length = ⟨(s.drop n).toArray⟩ := by
  apply ByteArray.ext
  simp [ByteArray.data_extract]
  rw [List.take_of_length_le (by simp)]
theorem anyOf_lt (a l : Bs) : (anyOf a l = -1 ∧ l.takeWhile (notIn a) = l ∧ l.dropWhile (notIn a) = []) ∨ ∃ n : Nat, anyOf a l = n ∧ n < l.length ∧ l.takeWhile (notIn a) = l.take n ∧ l.dropWhile (notIn a) = l.drop n := by
  have h := List.takeWhile_append_dropWhile (p := notIn a) (l := l)
  have hlen := congrArg List.length h
  rw [List.length_append] at hlen
  unfold anyOf
  split
  · rename_i hlt
    refine .inr ⟨_, rfl, hlt, ?_, ?_⟩
    · conv => rhs; rw [← h]
      rw [List.take_left']
      conv => rhs; rw [h]
    · conv => rhs; rw [← h]
      rw [List.drop_left']
      conv => rhs; rw [h]
  · rename_i hlt
    have hd : l.dropWhile (notIn a) = [] := List.eq_nil_of_length_eq_zero (by omega)
    rw [hd, List.append_nil] at h
    exact .inl ⟨rfl, h, hd⟩

set_option maxRecDepth 100000 in
set_option maxHeartbeats 4000000 in
theorem mcut_any (l a : Bs) (hl : l.length ≤ 1000000000) (ha : ∀ c ∈ a, c.toNat < 128) (w : World) : Calls Tryz.prog 135 #[S l, S a] w fun e w' => e = .returned (.tuple #[S (l.takeWhile (notIn a)), S (l.dropWhile (notIn a))]) ∧ Fr w w' := by
  rcases anyOf_lt a l with ⟨h1, h2, h3⟩ | ⟨n, h1, h2, h3, h4⟩
  · rw [h2, h3]
    go_enter Tryz.func135, Tryz.ntmps135
    go_wp2_with fail
    refine (anyAt_any l a hl ha _).mono ?_
    rintro e w2 ⟨rfl, hf⟩
    rw [h1]
    go_wp2
    go_ret2
    exact ⟨rfl, hf⟩
  · rw [h3, h4]
    go_enter Tryz.func135, Tryz.ntmps135
    go_wp2_with fail
    refine (anyAt_any l a hl ha _).mono ?_
    rintro e w2 ⟨rfl, hf⟩
    rw [h1]
    have hn0 : decide ((n : Int) < 0) = false := decide_eq_false (by omega)
    have hsz : (⟨l.toArray⟩ : ByteArray).size = l.length := ba_size l
    go_wp2_with fail
    go_quiet (fail)
    go_wp2
    go_ret2
    refine ⟨?_, hf.drewN _⟩
    show Ending.returned (.tuple #[.string ((⟨l.toArray⟩ : ByteArray).extract 0 n), .string ((⟨l.toArray⟩ : ByteArray).extract n l.length)]) = _
    rw [take_S', drop_S']
theorem notIn_one : notIn [59] = not1 59 := by funext c; simp [notIn, not1]; rw [Bool.eq_iff_iff]; simp
theorem notIn_two : notIn [59, 61] = not2 59 61 := by funext c; simp [notIn, not2]; rw [Bool.eq_iff_iff]; simp
theorem qGo_suffix : ∀ t : Bs, ∃ pre, t = pre ++ (qGo t).2
  | [] => ⟨[], by simp [qGo]⟩
  | [c] => by
    by_cases h : c = 34
    · exact ⟨[c], by simp [qGo, h]⟩
    · exact ⟨[c], by simp [qGo, h]⟩
  | c :: d :: r => by
    by_cases h : c = 34
    · exact ⟨[c], by simp [qGo, h]⟩
    · by_cases h2 : c = 92
      · obtain ⟨pre, hp⟩ := qGo_suffix r
        refine ⟨c :: d :: pre, ?_⟩
        conv => lhs; rw [hp]
        simp [qGo, h, h2]
      · obtain ⟨pre, hp⟩ := qGo_suffix (d :: r)
        refine ⟨c :: pre, ?_⟩
        conv => lhs; rw [hp]
        simp [qGo, h, h2]
theorem qGo_drop (t : Bs) : (34 :: t).drop ((34 :: t).length - (qGo t).2.length) = (qGo t).2 := by
  obtain ⟨pre, hp⟩ := qGo_suffix t
  conv => lhs; arg 2; rw [hp]
  have : (34 :: t).length - (qGo t).2.length = (34 :: pre).length := by
    conv => lhs; arg 1; rw [hp]
    simp; omega
  rw [this, ← List.cons_append, List.drop_left]

set_option maxRecDepth 100000 in
set_option maxHeartbeats 4000000 in
theorem value_any (l : Bs) (hl : l.length ≤ 1000000000) (w : World) : Calls Tryz.prog 205 #[S l] w fun e w' => e = .returned (.tuple #[S (valueOf l).1, S (valueOf l).2.1, .bool (valueOf l).2.2]) ∧ Fr w w' := by
  have h59 : ∀ c ∈ ([59] : Bs), c.toNat < 128 := by decide
  by_cases h : ∃ t, l = 34 :: t
  · obtain ⟨t, rfl⟩ := h
    have hv : valueOf (34 :: t) = ((qGo t).1, (qGo t).2.dropWhile (not1 59), true) := by simp [valueOf]
    have hq : quotedOf (34 :: t) = ((qGo t).1, (34 :: t).length - (qGo t).2.length) := by simp [quotedOf]
    have hle := qGo_le t
    have hd := qGo_drop t
    have hlen : (34 :: t).length = t.length + 1 := rfl
    obtain ⟨n, hn⟩ : ∃ n, n = (34 :: t).length - (qGo t).2.length := ⟨_, rfl⟩
    rw [← hn] at hd hq
    have hn1 : 1 ≤ n := by omega
    have hn2 : n ≤ (34 :: t).length := by omega
    rw [hv]
    have HC : Hid (∀ w, Calls Tryz.prog 135 #[S ((34 :: t).drop n), S [59]] w fun e w' => e = .returned (.tuple #[S ((qGo t).2.takeWhile (not1 59)), S ((qGo t).2.dropWhile (not1 59))]) ∧ Fr w w') := Lib.hid (by
      intro w
      have := mcut_any (qGo t).2 [59] (by omega) h59 w
      rw [notIn_one] at this
      rw [hd]
      exact this)
    have HQ : Hid (∀ w, Calls Tryz.prog 245 #[S (34 :: t)] w fun e w' => e = .returned (.tuple #[S (qGo t).1, .int .i64 (n : Int)]) ∧ Fr w w') := Lib.hid (by
      intro w
      have := quoted_any (34 :: t) (by omega) w
      rw [hq] at this
      exact this)
    generalize (34 :: t) = l at *
    clear hd hn hq hv hlen hle
    go_enter Tryz.func205, Tryz.ntmps205
    go_wp2_with fail
    refine (HQ.out _).mono ?_
    rintro e w2 ⟨rfl, hf⟩
    have hnz : (0 : Int) < (n : Int) := by omega
    have hsz : (⟨l.toArray⟩ : ByteArray).size = l.length := ba_size l
    go_wp2_with fail
    rw [drop_S']
    refine (HC.out _).mono ?_
    rintro e w3 ⟨rfl, hf3⟩
    go_wp2
    go_ret3
    exact ⟨rfl, hf.trans hf3⟩
  · have hv : valueOf l = (trimR blankM (l.takeWhile (not1 59)), l.dropWhile (not1 59), !(trimR blankM (l.takeWhile (not1 59))).isEmpty) := by
      unfold valueOf
      split
      · rename_i t; exact absurd ⟨t, rfl⟩ h
      · rfl
    have hq : quotedOf l = ([], 0) := by
      unfold quotedOf
      split
      · rename_i t; exact absurd ⟨t, rfl⟩ h
      · rfl
    rw [hv]
    clear h hv
    go_enter Tryz.func205, Tryz.ntmps205
    go_wp2_with fail
    refine (quoted_any l hl _).mono ?_
    rw [hq]
    rintro e w2 ⟨rfl, hf⟩
    go_wp2_with fail
    refine (mcut_any l [59] hl h59 _).mono ?_
    rw [notIn_one]
    rintro e w3 ⟨rfl, hf3⟩
    have htl : (l.takeWhile (not1 59)).length ≤ l.length := (List.takeWhile_sublist _).length_le
    go_wp2_with fail
    refine (tright_any (l.takeWhile (not1 59)) (by omega) _).mono ?_
    rintro e w4 ⟨rfl, hf4⟩
    go_wp2
    go_ret3
    exact ⟨rfl, hf.trans (hf3.trans hf4)⟩
end Go.Proofs.YtogpmgjdmoglkaaGreatDoor
