/- Walks: strings.NewReplacer with single bytes: the table's Replace. -/
import Derived.Lib.SlBuf
import Derived.BigQuiet
import Derived.WalkSpells
import Derived.Laws.OwnMore
import Derived.Deep.RegionLaw
import Derived.Deep.DeepCutAuto
import Derived.Test.YtogpmgjdmoglkaaGreatDoorHWf
set_option linter.unusedVariables false
set_option linter.unusedSimpArgs false
namespace Go.Proofs.YtogpmgjdmoglkaaGreatDoor
open Go.RowKit Pu

/-- What a text becomes: each byte that the table has is what the table says. -/
def repC (tab : UInt8 → Option Bs) (c : UInt8) : Bs := match tab c with | some b => b | none => [c]
def repl (tab : UInt8 → Option Bs) (s : Bs) : Bs := s.flatMap (repC tab)
def growC (tab : UInt8 → Option Bs) (c : UInt8) : Int := match tab c with | some b => (b.length : Int) - 1 | none => 0
def growS (tab : UInt8 → Option Bs) : Bs → Int
  | [] => 0
  | c :: r => growC tab c + growS tab r
def gsum (tab : UInt8 → Option Bs) (s : Bs) : List UInt8 → Int
  | [] => 0
  | x :: r => (Lib.countByte s x : Int) * growC tab x + gsum tab s r
theorem growS_append (tab : UInt8 → Option Bs) (a b : Bs) : growS tab (a ++ b) = growS tab a + growS tab b := by
  induction a with
  | nil => simp [growS]
  | cons c r ih => simp [growS, ih]; omega
theorem gsum_append (tab : UInt8 → Option Bs) (s a b : Bs) : gsum tab s (a ++ b) = gsum tab s a + gsum tab s b := by
  induction a with
  | nil => simp [gsum]
  | cons c r ih => simp [gsum, ih]; omega
theorem repl_len (tab : UInt8 → Option Bs) (s : Bs) : ((repl tab s).length : Int) = s.length + growS tab s := by
  induction s with
  | nil => simp [repl, growS]
  | cons c r ih =>
    have : ((repC tab c).length : Int) = 1 + growC tab c := by unfold repC growC; cases tab c with
      | none => simp
      | some b => simp; omega
    simp only [repl] at ih
    simp only [repl, List.flatMap_cons, List.length_append, growS, List.length_cons]
    omega
theorem repl_same (tab : UInt8 → Option Bs) (s : Bs) (h : ∀ c ∈ s, tab c = none) : repl tab s = s := by
  induction s with
  | nil => rfl
  | cons c r ih =>
    have h1 := h c (by simp)
    have h2 := ih fun x hx => h x (by simp [hx])
    simp only [repl] at h2
    simp [repl, repC, h1, h2]
theorem countByte_cons (c x : UInt8) (r : Bs) : Lib.countByte (c :: r) x = (if c = x then 1 else 0) + Lib.countByte r x := by
  unfold Lib.countByte
  rw [List.count_cons]
  by_cases h : c = x <;> simp [h] <;> omega
theorem gsum_cons (tab : UInt8 → Option Bs) (c : UInt8) (r : Bs) (ks : List UInt8) (hn : ks.Nodup) : gsum tab (c :: r) ks = (if c ∈ ks then growC tab c else 0) + gsum tab r ks := by
  induction ks with
  | nil => simp [gsum]
  | cons x ks ih =>
    rw [List.nodup_cons] at hn
    simp only [gsum, ih hn.2, countByte_cons]
    by_cases h : c = x
    · subst h
      simp [hn.1, Int.add_mul]
      omega
    · simp [h]
      omega
theorem gsum_eq (tab : UInt8 → Option Bs) (ks : List UInt8) (hn : ks.Nodup) (hk : ∀ c, c ∈ ks ↔ (tab c).isSome) (s : Bs) : gsum tab s ks = growS tab s := by
  induction s with
  | nil =>
    clear hn hk
    induction ks with
    | nil => rfl
    | cons x ks ih => simp only [gsum, ih]; simp [Lib.countByte, growS]
  | cons c r ih =>
    rw [gsum_cons _ _ _ _ hn, ih, growS]
    by_cases h : c ∈ ks
    · simp [h]
    · have : tab c = none := by
        cases ht : tab c with
        | none => rfl
        | some b => exact absurd ((hk c).2 (by rw [ht]; rfl)) h
      simp [h, growC, this]

/-- Block t is a byteStringReplacer of this table. -/
structure BRep (B : Nat) (t : Nat) (ks : List UInt8) (tab : UInt8 → Option Bs) (w : World) : Prop where
  base : B ≤ t
  none_ : ∀ c : UInt8, tab c = none → w.cell? ⟨t, c.toNat, none⟩ = some (.slice none 0 0)
  some_ : ∀ (c : UInt8) (b : Bs), tab c = some b → ∃ g cap, w.cell? ⟨t, c.toNat, none⟩ = some (.slice (some ⟨g, 0, none⟩) b.length cap) ∧ B ≤ g ∧ ∀ j, j < b.length → w.cell? ⟨g, j, none⟩ = some (.int .u8 ((b.getD j 0).toNat : Int))
  keys : ∃ g cap, w.cell? ⟨t, 256, none⟩ = some (.slice (some ⟨g, 0, none⟩) ks.length cap) ∧ B ≤ g ∧ ∀ j, (hj : j < ks.length) → w.cell? ⟨g, j, none⟩ = some (S [ks[j]])
  nodup : ks.Nodup
  mem : ∀ c, c ∈ ks ↔ (tab c).isSome
theorem BRep.fr {B t : Nat} {ks : List UInt8} {tab : UInt8 → Option Bs} {w w' : World} (h : BRep B t ks tab w) (hf : Fr w w') : BRep B t ks tab w' := by
  refine ⟨h.base, fun c hc => hf.cell (h.none_ c hc), fun c b hc => ?_, ?_, h.nodup, h.mem⟩
  · obtain ⟨g, cap, h1, hb, h2⟩ := h.some_ c b hc
    exact ⟨g, cap, hf.cell h1, hb, fun j hj => hf.cell (h2 j hj)⟩
  · obtain ⟨g, cap, h1, hb, h2⟩ := h.keys
    exact ⟨g, cap, hf.cell h1, hb, fun j hj => hf.cell (h2 j hj)⟩
theorem BRep.set {B t : Nat} {ks : List UInt8} {tab : UInt8 → Option Bs} {w : World} (h : BRep B t ks tab w) {a : Addr} (ha : a.block < B) (v : Value) : BRep B t ks tab (w.setCell a v) := by
  have hc : ∀ (k j : Nat), B ≤ k → (w.setCell a v).cell? ⟨k, j, none⟩ = w.cell? ⟨k, j, none⟩ := fun k j hk => World.cell?_setCell_other _ _ _ _ (by intro e; rw [e] at ha; simp at ha; omega)
  refine ⟨h.base, fun c hcc => by rw [hc _ _ h.base]; exact h.none_ c hcc, fun c b hcb => ?_, ?_, h.nodup, h.mem⟩
  · obtain ⟨g, cap, h1, hb, h2⟩ := h.some_ c b hcb
    exact ⟨g, cap, by rw [hc _ _ h.base]; exact h1, hb, fun j hj => by rw [hc _ _ hb]; exact h2 j hj⟩
  · obtain ⟨g, cap, h1, hb, h2⟩ := h.keys
    exact ⟨g, cap, by rw [hc _ _ h.base]; exact h1, hb, fun j hj => by rw [hc _ _ hb]; exact h2 j hj⟩

theorem neq_sl_nil (w : World) : (binOp .neq 34 (.slice none 0 0) (.slice none 0 0)).run Tryz.prog w = .ok (.bool false) w := run_neq_slice_nil_any w _ _ none 0 0 0 0 Tryz.underlying34
theorem neq_sl_some (w : World) (a : Addr) (n c : Nat) : (binOp .neq 34 (.slice (some a) n c) (.slice none 0 0)).run Tryz.prog w = .ok (.bool true) w := run_neq_slice_nil_any w _ _ (some a) n c 0 0 Tryz.underlying34
theorem eql_sl_nil (w : World) : (binOp .eql 34 (.slice none 0 0) (.slice none 0 0)).run Tryz.prog w = .ok (.bool true) w := by
  have := run_eql_nil_slice w 34 _ none 0 0 0 0 Tryz.underlying34 
  exact this
theorem count_one (s : Bs) (c : UInt8) (w : World) : Calls Tryz.prog 314 #[S s, S [c]] w fun e w' => e = .returned (.int .i64 (Lib.countByte s c)) ∧ w' = w := by
  have := Tryz.strings_Count_one ⟨s.toArray⟩ c w
  simpa using this
theorem growC_bd (tab : UInt8 → Option Bs) (h3 : ∀ c b, tab c = some b → b.length ≤ 3) (c : UInt8) : -1 ≤ growC tab c ∧ growC tab c ≤ 2 := by
  unfold growC
  cases h : tab c with
  | none => simp
  | some b => have := h3 c b h; simp only; omega
theorem growS_bd (tab : UInt8 → Option Bs) (h3 : ∀ c b, tab c = some b → b.length ≤ 3) (s : Bs) : -(s.length : Int) ≤ growS tab s ∧ growS tab s ≤ 2 * s.length := by
  induction s with
  | nil => simp [growS]
  | cons c r ih => have := growC_bd tab h3 c; simp only [growS, List.length_cons]; omega

theorem term_bd (n : Nat) (g : Int) (hn : n ≤ 1000000) (h0 : -1 ≤ g) (h1 : g ≤ 2) : -1000000 ≤ (n : Int) * g ∧ (n : Int) * g ≤ 2000000 := by
  have : g = -1 ∨ g = 0 ∨ g = 1 ∨ g = 2 := by omega
  rcases this with h | h | h | h <;> subst h <;> omega
theorem gsum_bd (tab : UInt8 → Option Bs) (h3 : ∀ c b, tab c = some b → b.length ≤ 3) (s : Bs) (hl : s.length ≤ 1000000) (ks : List UInt8) : -(1000000 * ks.length : Int) ≤ gsum tab s ks ∧ gsum tab s ks ≤ 2000000 * ks.length := by
  induction ks with
  | nil => simp [gsum]
  | cons x r ih =>
    have hc : Lib.countByte s x ≤ s.length := List.count_le_length
    have hg := growC_bd tab h3 x
    have := term_bd (Lib.countByte s x) (growC tab x) (by omega) hg.1 hg.2
    simp only [gsum, List.length_cons]
    omega

theorem step_copy_run {P : Program} {ops : Array Oper} {o : Oper} {a : Act} {w : World} {K : Act → World → Prop} {Q : Exit → Act → World → Prop} {E : Prop} (hgd : o.guard = none) (d s : Operand) (t t' : TypeId)
    (ho : o.op = .call { callee := .builtin .copy, args := #[d, s], argTypes := #[t, t'] }) (v u : Value) (hd : a.eval d = v) (hs : a.eval s = u) {v' : Value} {w' : World}
    (hr : (Builtin.copy_ #[t, t'] o.type #[v, u]).run P w = .ok v' w') (h : K (a.put o.dst v') w') : if Region.wanted o (yielded ops a.tmps) = true then Oper.wp P o a w K Q else E := by
  have hw : Region.wanted o (yielded ops a.tmps) = true := by simp [Region.wanted, hgd]
  rw [if_pos hw]
  exact Lib.wp_copy_run w d s t t' ho v u hd hs hr h
theorem buf_made {wc wm : World} {N : Nat} (hown : wm.ownsRow wc.heap.size 5 1 (.slice (some ⟨wc.heap.size, 0, none⟩) N N) N (madeCells (Value.int .u8 0).cells (N * 1)).toList) (hg : wc.grownBy wm none) : Lib.Buf wc wm wc.heap.size N [] where
  below := ⟨hg.os, hg.tape, hg.output, hg.size, fun k hk => hg.block k hk (by simp)⟩
  there := fun j hj => by
    rw [hown.cellAt j (by omega), List.getElem?_eq_getElem (by rw [hown.1]; omega)]; rfl
  free := fun j _ => hown.frozenAt j
  holds := fun j x hx => by simp at hx
  fits := Nat.zero_le _
theorem buf_snoc {w0 wr : World} {h N : Nat} {acc : Bs} (hb : Lib.Buf w0 wr h N acc) (hlt : acc.length < N) (c : UInt8) : Lib.Buf w0 (wr.setCell ⟨h, acc.length, none⟩ (.int .u8 (c.toNat : Int))) h N (acc ++ [c]) where
  below := hb.below.setCell (Nat.le_refl _) _
  there := fun j hj => by
    obtain ⟨x, hx⟩ := Option.isSome_iff_exists.1 (hb.there _ hlt)
    by_cases e : j = acc.length
    · subst e; rw [World.cell?_setCell_same _ _ _ hx]; rfl
    · rw [World.cell?_setCell_other _ _ _ _ (by intro h; injection h with _ h2; exact e h2.symm)]; exact hb.there j hj
  free := fun j hj => by rw [World.frozen?_setCell]; exact hb.free j hj
  holds := fun j x hx => by
    obtain ⟨y, hy⟩ := Option.isSome_iff_exists.1 (hb.there _ hlt)
    by_cases e : j = acc.length
    · subst e
      rw [World.cell?_setCell_same _ _ _ hy]
      simp at hx; rw [hx]
    · rw [World.cell?_setCell_other _ _ _ _ (by intro h; injection h with _ h2; exact e h2.symm)]
      have hj : j < (acc ++ [c]).length := (List.getElem?_eq_some_iff.1 hx).1
      rw [List.getElem?_append_left (by simp at hj; omega)] at hx
      exact hb.holds j x hx
  fits := by simp; omega
theorem repl_take (tab : UInt8 → Option Bs) (s : Bs) (k : Nat) (h : k < s.length) : repl tab (s.take (k + 1)) = repl tab (s.take k) ++ repC tab s[k] := by
  rw [List.take_succ_eq_append_getElem h]; unfold repl; rw [List.flatMap_append]; simp
theorem buf_str {w0 wr : World} {h N : Nat} {acc : Bs} (hb : Lib.Buf w0 wr h N acc) (hN : N = acc.length) : (convert 34 9 (.slice (some ⟨h, 0, none⟩) N N)).run Tryz.prog wr = .ok (S acc) wr := by
  rw [run_convert_bytes_arg wr 34 5 Tryz.underlying34 Tryz.underlying5 h 0 N N (acc.map fun c => (c.toNat : Int)) (by simp [hN]) (fun i hi => by
    have hi2 : i < acc.length := by omega
    rw [Nat.zero_add, hb.holds i acc[i] (List.getElem?_eq_getElem hi2)]
    simp [List.getD_eq_getElem?_getD, hi2]) _ Tryz.underlying9]
  congr 2
  simp only [strOfNums, List.map_map]
  congr 2
  clear hb hN
  induction acc with
  | nil => rfl
  | cons c r ih => simp [ih]
theorem repl_take_le (tab : UInt8 → Option Bs) (s : Bs) (k : Nat) : (repl tab (s.take k)).length ≤ (repl tab s).length := by
  conv => rhs; rw [← List.take_append_drop k s]
  unfold repl
  rw [List.flatMap_append, List.length_append]
  omega

set_option maxHeartbeats 4000000 in
set_option maxRecDepth 100000 in
theorem brep_any (B t : Nat) (ks : List UInt8) (tab : UInt8 → Option Bs) (s : Bs) (hl : s.length ≤ 1000000) (hks : ks.length ≤ 10) (h3 : ∀ c b, tab c = some b → b.length ≤ 3) (w : World) (hB : BRep B t ks tab w) :
    Calls Tryz.prog 375 #[.pointer (some ⟨t, 0, none⟩), S s] w fun e w' => e = .returned (S (repl tab s)) ∧ Fr w w' := by
  obtain ⟨gk, capk, hk1, _, hk2⟩ := hB.keys
  have HK := Lib.hid hk2
  clear hk2
  have hsum := Lib.hid (gsum_eq tab ks hB.nodup hB.mem s)
  have hne1 := neq_sl_nil
  have hne2 := neq_sl_some
  go_enter Tryz.func375, Tryz.ntmps375
  go_upto_if 26 with fail
  go_cut [5, 6] (fun n f wx => n = .int .i64 (s.length + growS tab s) ∧ Fr w wx ∧ ∃ b : Bool, f = .bool b ∧ Hid (b = false → ∀ c ∈ s, tab c = none))
  case first =>
    by_cases hq : (ks.length : Int) * 8 ≤ s.length
    · have hqd := decide_eq_true hq
      rw [hqd]
      go_wp2
      go_loopw [5, 6, 32] (fun n f i wr => ∃ (k : Nat) (b : Bool), k ≤ ks.length ∧ i = .int .i64 k ∧ n = .int .i64 (s.length + gsum tab s (ks.take k)) ∧ f = .bool b ∧ Fr w wr ∧ Hid (b = false → ∀ x ∈ ks.take k, Lib.countByte s x = 0)) (fun _ _ i _ => ks.length - (intOf i).toNat)
      case atStart => exact ⟨0, false, Nat.zero_le _, rfl, by simp [gsum], rfl, Fr.refl _, Lib.hid (by simp)⟩
      case round =>
        obtain ⟨k, b, hk, rfl, rfl, rfl, hf, HF⟩ := hrel
        by_cases hlt : k < ks.length
        · have hcell := hf.cell (HK.out k hlt)
          have hsome : (tab ks[k]).isSome := (hB.mem _).1 (List.getElem_mem hlt)
          obtain ⟨b0, hb0⟩ := Option.isSome_iff_exists.1 hsome
          obtain ⟨gr, capr, hr1, _, hr2⟩ := hB.some_ _ _ hb0
          have hr1' := hf.cell hr1
          have hu := u8_lt ks[k]
          have hlen3 := h3 _ _ hb0
          have hst : gsum tab s (ks.take (k + 1)) = gsum tab s (ks.take k) + (Lib.countByte s ks[k] : Int) * (b0.length - 1) := by
            rw [List.take_succ_eq_append_getElem hlt, gsum_append]
            simp [gsum, growC, hb0]
          have hcnt : Lib.countByte s ks[k] ≤ s.length := List.count_le_length
          have hg := gsum_bd tab h3 s hl (ks.take k)
          have hlk : (ks.take k).length ≤ k := List.length_take_le _ _
          have ht := term_bd (Lib.countByte s ks[k]) ((b0.length : Int) - 1) (by omega) (by omega) (by omega)
          have hw : wrap64 ((s.length : Int) + gsum tab s (ks.take k) + wrap64 ((Lib.countByte s ks[k] : Int) * ((b0.length : Int) - 1))) = s.length + gsum tab s (ks.take (k + 1)) := by
            rw [hst]
            generalize (Lib.countByte s ks[k] : Int) * ((b0.length : Int) - 1) = X at *
            have h1 : wrap64 X = X := by unfold wrap64; omega
            rw [h1]
            unfold wrap64; omega
          have HW := Lib.hid hw
          clear hw hg hlk ht
          have HS := Lib.hid hst
          clear hst hr1 hr2 hsome
          by_cases h0 : Lib.countByte s ks[k] = 0
          · have hne : ((Lib.countByte s ks[k] : Int) != 0) = false := by simp [h0]
            have HS0 : Hid (gsum tab s (ks.take (k + 1)) = gsum tab s (ks.take k)) := Lib.hid (by rw [HS.out, h0]; simp)
            go_wp2_with (go_at_call 314; refine (count_one s ks[k] wr).mono ?_; rintro e w' ⟨rfl, rfl⟩)
            have H2 : Hid (b = false → ∀ x ∈ ks.take (k + 1), Lib.countByte s x = 0) := Lib.hid (by
              intro hb x hx
              rw [List.take_succ_eq_append_getElem hlt, List.mem_append] at hx
              rcases hx with hx | hx
              · exact HF.out hb x hx
              · simp at hx; subst hx; exact h0)
            go_roundw
            case rel => first | exact ⟨k + 1, b, by omega, by go_num, by rw [HS0.out], rfl, by assumption, H2⟩ | ((repeat apply Exists.intro); exact ⟨⟨k + 1, b, by omega, by go_num, by rw [HS0.out], rfl, by assumption, H2⟩, rfl⟩)
            case measure => simp [intOf]; omega
          · have hne : ((Lib.countByte s ks[k] : Int) != 0) = true := by simp; omega
            have hix := ba_get [ks[k]]
            go_wp2_with (go_at_call 314; refine (count_one s ks[k] wr).mono ?_; rintro e w' ⟨rfl, rfl⟩)
            go_quiet (fail)
            go_wp2
            go_roundw
            case rel => first | exact ⟨k + 1, true, by omega, by go_num, by rw [← HW.out], rfl, Fr.drewN (by assumption) _, Lib.hid (by simp)⟩ | ((repeat apply Exists.intro); exact ⟨⟨k + 1, true, by omega, by go_num, by rw [← HW.out], rfl, Fr.drewN (by assumption) _, Lib.hid (by simp)⟩, rfl⟩)
            case measure => simp [intOf]; omega
        · obtain rfl : k = ks.length := by omega
          rw [List.take_length] at HF ⊢
          go_wp2
          go_meet
          case rel =>
            refine ⟨by rw [hsum.out], hf, b, rfl, Lib.hid ?_⟩
            intro hb c hc
            cases ht : tab c with
            | none => rfl
            | some bb =>
              have := HF.out hb c ((hB.mem c).2 (by rw [ht]; rfl))
              exact absurd hc (List.count_eq_zero.1 this)
    · have hqd := decide_eq_false hq
      rw [hqd]
      go_wp2
      go_loopw [5, 6, 10] (fun n f i wr => ∃ (k : Nat) (b : Bool), k ≤ s.length ∧ i = .int .i64 k ∧ n = .int .i64 (s.length + growS tab (s.take k)) ∧ f = .bool b ∧ Fr w wr ∧ Hid (b = false → ∀ x ∈ s.take k, tab x = none)) (fun _ _ i _ => s.length - (intOf i).toNat)
      case atStart => exact ⟨0, false, Nat.zero_le _, rfl, by simp [growS], rfl, Fr.refl _, Lib.hid (by simp)⟩
      case round =>
        obtain ⟨k, b, hk, rfl, rfl, rfl, hf, HF⟩ := hrel
        by_cases hlt : k < s.length
        · have hu := u8_lt s[k]
          have hst : growS tab (s.take (k + 1)) = growS tab (s.take k) + growC tab s[k] := by
            rw [List.take_succ_eq_append_getElem hlt, growS_append]
            simp [growS]
          have hgb := growS_bd tab h3 (s.take k)
          have hlk : (s.take k).length ≤ k := List.length_take_le _ _
          have hmem : ∀ x ∈ s.take (k + 1), x ∈ s.take k ∨ x = s[k] := by
            intro x hx
            rw [List.take_succ_eq_append_getElem hlt, List.mem_append] at hx
            simpa using hx
          have HM := Lib.hid hmem
          have hix := ba_get s
          cases h0 : tab s[k] with
          | none =>
            have hcell := hf.cell (hB.none_ _ h0)
            have HS0 : Hid (growS tab (s.take (k + 1)) = growS tab (s.take k)) := Lib.hid (by rw [hst]; simp [growC, h0])
            have H2 : Hid (b = false → ∀ x ∈ s.take (k + 1), tab x = none) := Lib.hid (by
              intro hb x hx
              rcases HM.out x hx with h | h
              · exact HF.out hb x h
              · rw [h]; exact h0)
            clear hst hgb hlk hmem
            go_wp2
            go_roundw
            case rel => first | exact ⟨k + 1, b, by omega, by go_num, by rw [HS0.out], rfl, hf, H2⟩ | ((repeat apply Exists.intro); exact ⟨⟨k + 1, b, by omega, by go_num, by rw [HS0.out], rfl, hf, H2⟩, rfl⟩)
            case measure => simp [intOf]; omega
          | some b0 =>
            obtain ⟨gr, capr, hr1, _, hr2⟩ := hB.some_ _ _ h0
            have hcell := hf.cell hr1
            have hlen3 := h3 _ _ h0
            have HW : Hid (wrap64 ((s.length : Int) + growS tab (s.take k) + ((b0.length : Int) - 1)) = s.length + growS tab (s.take (k + 1))) := Lib.hid (by
              have e : growC tab s[k] = (b0.length : Int) - 1 := by simp [growC, h0]
              rw [hst, e]
              unfold wrap64; omega)
            clear hst hgb hlk hmem hr2 hr1
            go_wp2
            go_roundw
            case rel => first | exact ⟨k + 1, true, by omega, by go_num, by rw [← HW.out], rfl, hf, Lib.hid (by simp)⟩ | ((repeat apply Exists.intro); exact ⟨⟨k + 1, true, by omega, by go_num, by rw [← HW.out], rfl, hf, Lib.hid (by simp)⟩, rfl⟩)
            case measure => simp [intOf]; omega
        · obtain rfl : k = s.length := by omega
          rw [List.take_length] at HF ⊢
          go_wp2
          go_meet
          case rel => exact ⟨rfl, hf, b, rfl, HF⟩
  case rest =>
    obtain ⟨rfl, hf, b, rfl, HF⟩ := hcut
    cases b with
    | false =>
      have he := Lib.hid (repl_same tab s (HF.out rfl))
      have hnn : (!false) = true := rfl
      go_wp2
      go_ret
      rw [he.out]
      exact ⟨rfl, hf⟩
    | true =>
      have hlen := repl_len tab s
      have hbd := growS_bd tab h3 s
      clear HF hk1 HK hsum
      obtain ⟨N, hN⟩ : ∃ N, N = (repl tab s).length := ⟨_, rfl⟩
      have hNN : (s.length : Int) + growS tab s = (N : Int) := by rw [hN]; exact hlen.symm
      rw [hNN]
      have hNb : N ≤ 3000000 := by omega
      have HN := Lib.hid hN
      clear hlen hbd hNN hN
      have hBc := hB.fr hf
      obtain ⟨i0, hi, hz0, hz1, hz2⟩ := info_parts byte_info
      have hnn : (!true) = false := rfl
      go_wp2_with (at_make; refine wpList_make_full _ rfl _ _ _ rfl wc.heap.size 5 i0 (.int .u8 0) 1 Tryz.underlying34 hi hz0 hz1 .i64 .i64 _ _ N rfl rfl rfl rfl (by rw [hz2]; omega) (by unfold maxLen; omega) (Nat.le_refl _) ?_; intro wm hown hgrow)
      have hbuf := buf_made hown hgrow
      have HBf := Lib.hid hbuf
      have hle : ∀ k, (repl tab (s.take k)).length ≤ N := fun k => by rw [HN.out]; exact repl_take_le tab s k
      have HLE := Lib.hid hle
      clear hbuf hle hown hgrow hnn hne1 hne2 hB
      generalize hH : wc.heap.size = H at *
      go_loopw [13, 14] (fun j i wr => ∃ k : Nat, k ≤ s.length ∧ i = .int .i64 k ∧ j = .int .i64 ((repl tab (s.take k)).length : Nat) ∧ Hid (Lib.Buf wc wr H N (repl tab (s.take k)))) (fun _ i _ => s.length - (intOf i).toNat)
      case atStart => exact ⟨0, Nat.zero_le _, rfl, by simp [repl], by simpa [repl] using HBf⟩
      case round =>
        obtain ⟨k, hk, rfl, rfl, HBk⟩ := hrel
        have hsz : wc.heap.size ≤ H := Nat.le_of_eq hH
        by_cases hlt : k < s.length
        · have hu := u8_lt s[k]
          have hix := ba_get s
          have hst := repl_take tab s k hlt
          have hle1 := HLE.out (k + 1)
          have HS := Lib.hid hst
          generalize repl tab (s.take k) = acc at *
          have hfr : Fr wc wr := ⟨HBk.out.below.mono hsz⟩
          cases h0 : tab s[k] with
          | none =>
            have hcell := hfr.cell (hBc.none_ _ h0)
            have hne := neq_sl_nil
            have e : repC tab s[k] = [s[k]] := by simp [repC, h0]
            rw [e] at hst
            have hl1 : acc.length < N := by rw [hst] at hle1; simp at hle1; omega
            obtain ⟨x0, hx0⟩ := Option.isSome_iff_exists.1 (HBk.out.there _ hl1)
            have hfz := HBk.out.free _ hl1
            have hnx := Lib.hid (buf_snoc HBk.out hl1 s[k])
            have HST := Lib.hid hst
            clear hst e hle1
            go_wp2
            go_roundw
            case rel => first | exact ⟨k + 1, by omega, by go_num, by rw [HST.out]; simp, by rw [HST.out]; exact hnx⟩ | ((repeat apply Exists.intro); exact ⟨⟨k + 1, by omega, by go_num, by rw [HST.out]; simp, by rw [HST.out]; exact hnx⟩, rfl⟩)
            case measure => simp [intOf]; omega
          | some b0 =>
            obtain ⟨gr, capr, hr1, _, hr2⟩ := hBc.some_ _ _ h0
            have hcell := hfr.cell hr1
            have hne := neq_sl_some
            have e : repC tab s[k] = b0 := by simp [repC, h0]
            rw [e] at hst
            have hl1 : acc.length + b0.length ≤ N := by rw [hst] at hle1; simpa using hle1
            have hd1 : Lib.Buf wc wr.drew H N acc := ⟨HBk.out.below.drew, HBk.out.there, HBk.out.free, HBk.out.holds, HBk.out.fits⟩
            obtain ⟨wn, hrun, hnx⟩ := Lib.copy_part (P := Tryz.prog) wc wr.drew H N acc b0 (.slice (some ⟨gr, 0, none⟩) b0.length capr) 34 3 5 Tryz.underlying34 (by kernel_rfl) hsz hd1
              ⟨_, capr, rfl, by simp, by
                rintro a ha i x hx
                injection ha with ha
                subst ha
                rw [add_at, hr2 i (List.getElem?_eq_some_iff.1 hx).1]
                rw [List.getD_eq_getElem?_getD, hx]; rfl⟩ hl1
            have HST := Lib.hid hst
            have HR := Lib.hid hrun
            have HX := Lib.hid hnx
            have hNle : acc.length ≤ N := by omega
            clear hst e hle1 hrun hnx hd1 hr1 hr2
            have hu2 : (s[k].toNat : Int) < 256 := by omega
            have hu3 : s[k].toNat < 256 := by omega
            have hu4 : (0 : Int) ≤ (s[k].toNat : Int) := by omega
            have hcell2 : World.cell? { heap := wr.heap, tape := wr.tape, drawn := wr.drawn + 1, os := wr.os, output := wr.output } ⟨t, s[k].toNat, none⟩ = some (.slice (some ⟨gr, 0, none⟩) b0.length capr) := hcell
            by_cases hNa : N = acc.length
            · subst hNa
              have hT : Lib.tailV H acc.length acc.length = .slice (some ⟨H, 0, none⟩) 0 0 := by simp [Lib.tailV]
              have hr3 := HR.out
              rw [hT] at hr3
              have HR3 := Lib.hid hr3
              clear hT hr3
              go_wp2_with fail
              go_region_law (refine step_copy_run rfl (.tmp 105) (.tmp 111) 34 34 rfl _ _ rfl rfl HR3.out ?_)
              all_goals go_wp2
              exact ⟨⟨k + 1, by omega, by go_num, by rw [HST.out]; simp, by rw [HST.out]; exact HX⟩, by simp [intOf]; omega⟩
            · have hT : Lib.tailV H N acc.length = .slice (some ⟨H, acc.length, none⟩) (N - acc.length) (N - acc.length) := by simp [Lib.tailV, hNa]
              have hr3 := HR.out
              rw [hT] at hr3
              have HR3 := Lib.hid hr3
              clear hT hr3
              go_wp2_with fail
              go_region_law (refine step_copy_run rfl (.tmp 105) (.tmp 111) 34 34 rfl _ _ rfl rfl HR3.out ?_)
              all_goals go_wp2
              exact ⟨⟨k + 1, by omega, by go_num, by rw [HST.out]; simp, by rw [HST.out]; exact HX⟩, by simp [intOf]; omega⟩
        · obtain rfl : k = s.length := by omega
          rw [List.take_length] at HBk
          have hstr := buf_str HBk.out HN.out
          have HS2 := Lib.hid hstr
          have hfr : Fr wc wr := ⟨HBk.out.below.mono hsz⟩
          clear hstr
          have hs3 := HS2.out
          go_wp2
          go_ret
          exact ⟨rfl, hf.trans hfr⟩
end Go.Proofs.YtogpmgjdmoglkaaGreatDoor
