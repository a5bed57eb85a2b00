/- Walks: url.Special. -/
import Derived.Handy
import Derived.Maps.OwnSet
import Derived.Test.YtogpmgjdmoglkaaGreatDoorHWk
set_option linter.unusedVariables false
set_option linter.unusedSimpArgs false
namespace Go.Proofs.YtogpmgjdmoglkaaGreatDoor
open Go.RowKit Pu Go.Maps

abbrev MapOf (b n : Nat) (D : DataW Unit) (w : World) : Prop := w.ownsMap Tryz.prog 9 (plainElem Tryz.prog 3) b n D
theorem str_law : Keyed Tryz.prog 9 := string_keyed Tryz.underlying9
def port1 (l : Bs) (n : Int) : Lit × DataW Unit := (.string l, .lit (.int .i64 n))
def portsD : DataW Unit := ((((((DataW.map []).put (.string [102, 116, 112]) (.lit (.int .i64 21))).put (.string [102, 105, 108, 101]) (.lit (.int .i64 (-1)))).put (.string [104, 116, 116, 112]) (.lit (.int .i64 80))).put (.string [104, 116, 116, 112, 115]) (.lit (.int .i64 443))).put (.string [119, 115]) (.lit (.int .i64 80))).put (.string [119, 115, 115]) (.lit (.int .i64 443))

theorem map_up {b n : Nat} {D : DataW Unit} {w : World} (h : MapOf b n D w) (hn : n < 100) (l : Bs) (hl : l.length ≤ 100000) (v : Int) (hv : (Lit.int .i64 v).wf = true) :
    ∃ w', (Instr.mapUpdate 158 (.map (some b)) (S l) (.int .i64 v)).run Tryz.prog w = .ok () w' ∧ MapOf b (n + 1) (D.put (.string l) (.lit (.int .i64 v))) w' ∧ w.grownBy w' (some b) :=
  World.ownsMap.update h str_law Tryz.underlying158 (by unfold maxLen; omega) (kl := .string l) (d := .lit (.int .i64 v)) (ps := []) (by
    have hs : (⟨l.toArray⟩ : ByteArray).size = l.length := by show l.toArray.size = _; simp
    simp [keyOf, Tryz.underlying9, mapKey, hs]
    unfold maxLen; omega) (plainElem_int Tryz.underlying3 hv)

set_option maxRecDepth 100000 in
set_option maxHeartbeats 1600000 in
theorem ports_any (w : World) : Calls Tryz.prog 173 #[] w fun e w' => ∃ b, e = .returned (.map (some b)) ∧ MapOf b 6 portsD w' ∧ Fr w w' := by
  have hmm := @run_makeMap Tryz.prog
  have h0 : MapOf w.heap.size 0 (.map []) (w.alloc (.map #[] 0)) := World.ownsMap_made w _ _ _
  obtain ⟨w1, r1, h1, g1⟩ := map_up h0 (by omega) [102, 116, 112] (by decide) 21 (by decide)
  obtain ⟨w2, r2, h2, g2⟩ := map_up h1 (by omega) [102, 105, 108, 101] (by decide) (-1) (by decide)
  obtain ⟨w3, r3, h3, g3⟩ := map_up h2 (by omega) [104, 116, 116, 112] (by decide) 80 (by decide)
  obtain ⟨w4, r4, h4, g4⟩ := map_up h3 (by omega) [104, 116, 116, 112, 115] (by decide) 443 (by decide)
  obtain ⟨w5, r5, h5, g5⟩ := map_up h4 (by omega) [119, 115] (by decide) 80 (by decide)
  obtain ⟨w6, r6, h6, g6⟩ := map_up h5 (by omega) [119, 115, 115] (by decide) 443 (by decide)
  have hf : Fr w w6 := by
    have hb : ∀ k, some w.heap.size = some k → w.heap.size ≤ k := fun k hk => by injection hk with hk; omega
    exact ((((((Fr.refl w).alloc _).grown g1 hb).grown g2 hb).grown g3 hb).grown g4 hb).grown g5 hb |>.grown g6 hb
  have H6 := Lib.hid h6
  clear h0 h1 h2 h3 h4 h5 h6 g1 g2 g3 g4 g5 g6
  go_enter Tryz.func173, Tryz.ntmps173
  go_wp2
  go_ret
  exact ⟨w.heap.size, rfl, H6.out, hf⟩

theorem zero_int (w : World) : (zeroValue 3).run Tryz.prog w = .ok (.int .i64 0) w := by kernel_rfl
theorem portsD_eq : portsD = .map [(.string [102, 105, 108, 101], .lit (.int .i64 (-1))), (.string [102, 116, 112], .lit (.int .i64 21)), (.string [104, 116, 116, 112], .lit (.int .i64 80)), (.string [104, 116, 116, 112, 115], .lit (.int .i64 443)), (.string [119, 115], .lit (.int .i64 80)), (.string [119, 115, 115], .lit (.int .i64 443))] := by kernel_rfl
theorem has_ports (l : Bs) : Maps.has portsD (.string l) = special l := by
  rw [portsD_eq]
  simp only [Maps.has, List.any_cons, List.any_nil, special]
  have c : ∀ a : Bs, (a == l) = (l == a) := fun a => by rw [Bool.eq_iff_iff, beq_iff_eq, beq_iff_eq, eq_comm]
  simp only [Lit.sameKey, c, sFtp, sFile, sHttp, sHttps, sWs, sWss]
  generalize (l == [102, 105, 108, 101]) = b1
  generalize (l == [102, 116, 112]) = b2
  generalize (l == [104, 116, 116, 112]) = b3
  generalize (l == [104, 116, 116, 112, 115]) = b4
  generalize (l == [119, 115]) = b5
  generalize (l == [119, 115, 115]) = b6
  revert b1 b2 b3 b4 b5 b6
  decide
theorem at_ports (l : Bs) (h : special l = true) : portsD.atKey (.string l) (.lit (.int .i64 0)) = .lit (.int .i64 (defPort l)) := by
  simp only [special, Bool.or_eq_true, beq_iff_eq] at h
  rw [portsD_eq]
  rcases h with ((((h | h) | h) | h) | h) | h <;> subst h <;> rfl
theorem defPort_not (l : Bs) (h : special l = false) : defPort l = -1 := by
  simp only [special, Bool.or_eq_false_iff, beq_eq_false_iff_ne] at h
  simp [defPort, h]

theorem look_ports {b : Nat} {w : World} (h : MapOf b 6 portsD w) (l : Bs) (hl : l.length ≤ 10000000) : ∃ v : Int, (Instr.lookup 158 (.map (some b)) (S l) true).run Tryz.prog w = .ok (.tuple #[.int .i64 v, .bool (special l)]) w ∧ (special l = true → v = defPort l) := by
  obtain ⟨v, ps, h1, h2⟩ := World.ownsMap.look_ok h str_law Tryz.underlying158 (zero_int w) (zd := .lit (.int .i64 0)) (zp := []) (plainElem_int Tryz.underlying3 (by decide)) (key := S l) (kl := .string l) (by
    have hs : (⟨l.toArray⟩ : ByteArray).size = l.length := by show l.toArray.size = _; simp
    simp [keyOf, Tryz.underlying9, mapKey, hs]
    unfold maxLen; omega)
  obtain ⟨c, rfl, hc, _⟩ := plainElem_int_inv Tryz.underlying3 h2
  rw [has_ports] at h1
  refine ⟨c, h1, fun hsp => ?_⟩
  simp only [Prod.mk.injEq] at hc
  rw [at_ports l hsp] at hc
  generalize defPort l = d at hc ⊢
  have h3 := hc.1
  simp only [DataW.lit.injEq, Lit.int.injEq, true_and] at h3
  exact h3.symm

set_option maxRecDepth 100000 in
theorem special_any (l : Bs) (hl : l.length ≤ 10000000) (w : World) : Calls Tryz.prog 88 #[S l] w fun e w' => e = .returned (.bool (special l)) ∧ Fr w w' := by
  go_enter Tryz.func88, Tryz.ntmps88
  go_wp2_with (go_at_call 173; refine (ports_any _).mono ?_; rintro e w1 ⟨b, rfl, hm, hf⟩; obtain ⟨v, hv, _⟩ := look_ports hm l hl)
  go_ret
  exact ⟨rfl, hf⟩
set_option maxRecDepth 100000 in
theorem default_any (l : Bs) (hl : l.length ≤ 10000000) (w : World) : Calls Tryz.prog 263 #[S l] w fun e w' => e = .returned (.int .i64 (defPort l)) ∧ Fr w w' := by
  cases hs : special l with
  | true =>
    go_enter Tryz.func263, Tryz.ntmps263
    go_wp2_with (go_at_call 173; refine (ports_any _).mono ?_; rintro e w1 ⟨b, rfl, hm, hf⟩; obtain ⟨v, hv, hd⟩ := look_ports hm l hl; rw [hs] at hv; have hd2 := hd hs)
    go_ret
    exact ⟨rfl, hf⟩
  | false =>
    have hd := defPort_not l hs
    rw [hd]
    go_enter Tryz.func263, Tryz.ntmps263
    go_wp2_with (go_at_call 173; refine (ports_any _).mono ?_; rintro e w1 ⟨b, rfl, hm, hf⟩; obtain ⟨v, hv, _⟩ := look_ports hm l hl; rw [hs] at hv)
    go_ret
    exact ⟨rfl, hf⟩
end Go.Proofs.YtogpmgjdmoglkaaGreatDoor
