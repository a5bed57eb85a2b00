/- Walks: what is written of whom a URL means. -/
import Derived.Test.YtogpmgjdmoglkaaGreatDoorHWv
import Derived.Test.YtogpmgjdmoglkaaGreatDoorHWq
set_option linter.unusedVariables false
set_option linter.unusedSimpArgs false
namespace Go.Proofs.YtogpmgjdmoglkaaGreatDoor
open Go.RowKit Pu

theorem fr_grow (w : World) (os : Array Obj) : Fr w (Go.Sort.grow w os) := by
  refine ⟨⟨rfl, rfl, rfl, by simp [Go.Sort.grow], fun k hk => ?_⟩⟩
  show (w.heap ++ os)[k]? = _
  rw [Array.getElem?_append_left hk]
theorem itoa_any (n : Int) (h0 : -9223372036854775808 ≤ n) (h1 : n ≤ 9223372036854775807) (w : World) (hE : Env w) :
    Calls Tryz.prog 195 #[.int .i64 n] w fun e w' => e = .returned (S (Lib.itoa n)) ∧ Fr w w' := by
  refine (Tryz.strconv_Itoa n h0 h1 w hE.pow10).mono ?_
  rintro e w' ⟨rfl, k, os, rfl⟩
  exact ⟨rfl, ((Fr.refl w).drewN k).trans (fr_grow _ _)⟩
theorem decDigits_le : ∀ (k u : Nat), u < 10 ^ k → (Lib.decDigits u).length ≤ k + 1
  | 0, u, h => by
    rw [Lib.decDigits, dif_pos (by simpa using Nat.lt_of_lt_of_le h (by decide))]; simp
  | k + 1, u, h => by
    rw [Lib.decDigits]
    split
    · simp
    · have := decDigits_le k (u / 10) (by rw [Nat.pow_succ] at h; omega)
      simp; omega
theorem itoa_le (n : Int) (h0 : -9223372036854775808 ≤ n) (h1 : n ≤ 9223372036854775807) : (Lib.itoa n).length ≤ 30 := by
  unfold Lib.itoa
  split
  · have := decDigits_le 19 n.natAbs (by omega)
    simp; omega
  · have := decDigits_le 19 n.toNat (by omega)
    omega
theorem nil_isEmpty {l : Bs} (h : l = []) : l.isEmpty = true := by rw [h]; rfl
theorem ne_isEmpty {l : Bs} (h : ¬ l = []) : l.isEmpty = false := by simpa using h

def authText (user pass host : Bs) (port : Int) : Bs := [47, 47] ++ user ++ (if pass = [] then [] else 58 :: pass) ++ (if user = [] ∧ pass = [] then [] else [64]) ++ host ++ (if port = -1 then [] else 58 :: Lib.itoa port)
set_option maxRecDepth 100000 in
set_option maxHeartbeats 4000000 in
theorem authority_yes (user pass host : Bs) (port : Int) (opq : Bool) (sch text query frag : Bs) (pv : Value) (hq hf : Bool) (h1 : user.length ≤ 1000000000) (h2 : pass.length ≤ 1000000000) (h3 : host.length ≤ 1000000000) (h4 : -9223372036854775808 ≤ port) (h5 : port ≤ 9223372036854775807) (w : World) (hE : Env w) :
    Calls Tryz.prog 120 #[.agg #[S sch, S user, S pass, S host, .bool true, .int .i64 port, .bool opq, S text, pv, .bool hq, .bool hf, S query, S frag]] w fun e w' => e = .returned (S (authText user pass host port)) ∧ Fr w w' := by
  have e1 := cat2 [47, 47] user
  have e2 := cat2 [58] pass
  have e3 := cat2 [58] (Lib.itoa port)
  have hi := itoa_le port h4 h5
  have k1 : (w.alloc (.cells #[S sch, S user, S pass, S host, .bool true, .int .i64 port, .bool opq, S text, pv, .bool hq, .bool hf, S query, S frag] 25)).cell? ⟨w.heap.size, 1, none⟩ = some (S user) := by go_simp
  have k2 : (w.alloc (.cells #[S sch, S user, S pass, S host, .bool true, .int .i64 port, .bool opq, S text, pv, .bool hq, .bool hf, S query, S frag] 25)).cell? ⟨w.heap.size, 2, none⟩ = some (S pass) := by go_simp
  have k3 : (w.alloc (.cells #[S sch, S user, S pass, S host, .bool true, .int .i64 port, .bool opq, S text, pv, .bool hq, .bool hf, S query, S frag] 25)).cell? ⟨w.heap.size, 3, none⟩ = some (S host) := by go_simp
  have k5 : (w.alloc (.cells #[S sch, S user, S pass, S host, .bool true, .int .i64 port, .bool opq, S text, pv, .bool hq, .bool hf, S query, S frag] 25)).cell? ⟨w.heap.size, 5, none⟩ = some (.int .i64 port) := by go_simp
  have f1 : Fr w (w.alloc (.cells #[S sch, S user, S pass, S host, .bool true, .int .i64 port, .bool opq, S text, pv, .bool hq, .bool hf, S query, S frag] 25)) := (Fr.refl w).alloc _
  have hb := Bld.new (w.alloc (.cells #[S sch, S user, S pass, S host, .bool true, .int .i64 port, .bool opq, S text, pv, .bool hq, .bool hf, S query, S frag] 25))
  rw [show (w.alloc (.cells #[S sch, S user, S pass, S host, .bool true, .int .i64 port, .bool opq, S text, pv, .bool hq, .bool hf, S query, S frag] 25)).heap.size = w.heap.size + 1 from by simp] at hb
  have K1 := Lib.hid k1; have K2 := Lib.hid k2; have K3 := Lib.hid k3; have K5 := Lib.hid k5
  have HB := Lib.hid hb
  have F1 := Lib.hid f1
  clear k1 k2 k3 k5 hb f1
  obtain ⟨v1, b1, c1, i1⟩ : ∃ v, (port == -1) = v ∧ (port != -1) = (!v) ∧ (v = true ↔ port = -1) := ⟨_, rfl, rfl, by simp⟩
  obtain ⟨v2, b2, i2⟩ : ∃ v, pass.isEmpty = v ∧ (v = true ↔ pass = []) := ⟨_, rfl, by simp⟩
  obtain ⟨v3, b3, i3⟩ : ∃ v, user.isEmpty = v ∧ (v = true ↔ user = []) := ⟨_, rfl, by simp⟩
  have I1 := Lib.hid i1; have I2 := Lib.hid i2; have I3 := Lib.hid i3
  clear i1 i2 i3
  cases v1 <;> cases v2 <;> cases v3 <;> simp only [Bool.not_true, Bool.not_false] at c1
  all_goals
    go_enter Tryz.func120, Tryz.ntmps120
    go_wp2_with fail
  all_goals
    have hb := HB.out
    have f1 := F1.out
    have k1 := K1.out
    have k2 := K2.out
    have k3 := K3.out
    have k5 := K5.out
    have hE1 := hE.fr f1
    clear HB F1 K1 K2 K3 K5
    generalize (w.alloc (.cells #[S sch, S user, S pass, S host, .bool true, .int .i64 port, .bool opq, S text, pv, .bool hq, .bool hf, S query, S frag] 25)) = W1 at *
    generalize (W1.alloc (.cells #[.pointer none, .slice none 0 0] 127)) = W2 at *
    generalize w.heap.size + 1 = B at *
    have K1 := Lib.hid k1; have K2 := Lib.hid k2; have K3 := Lib.hid k3; have K5 := Lib.hid k5
    clear k1 k2 k3 k5
  all_goals
    refine (bld_string hb (47 :: 47 :: user) (by simp) (by simp; omega)).mono ?_
    rintro e w3 ⟨rfl, hb3⟩
    have k1 := hb3.fr.cell K1.out
    have k2 := hb3.fr.cell K2.out
    have k3 := hb3.fr.cell K3.out
    have k5 := hb3.fr.cell K5.out
    clear hb
    go_wp2_with (first
      | (go_at_call 150; refine (bld_string (w0 := W1) (b := B) (by assumption) _ (by first | omega | (simp; done) | (simp; omega)) (by first | omega | (simp; done) | (simp; omega))).mono ?_; rintro e w4 ⟨rfl, hb4⟩; have k1 := hb4.fr.cell K1.out; have k2 := hb4.fr.cell K2.out; have k3 := hb4.fr.cell K3.out; have k5 := hb4.fr.cell K5.out)
      | (go_at_call 195; refine (itoa_any port h4 h5 _ (hE1.fr (Bld.fr (w0 := W1) (b := B) (by assumption)))).mono ?_; rintro e w5 ⟨rfl, hf5⟩; have hb5 := Bld.step (w0 := W1) (b := B) (by assumption) hf5)
      | (go_at_call 152; refine (bld_done (w0 := W1) (b := B) (by assumption)).mono ?_; rintro e w6 ⟨rfl, hf6⟩))
  all_goals
    have i1 := I1.out
    have i2 := I2.out
    have i3 := I3.out
    go_ret
    refine ⟨ret_s ?_, f1.trans hf6⟩
    simp at i1 i2 i3
    simp [authText, i1, i2, i3]
set_option maxRecDepth 100000 in
theorem authority_no (user pass host : Bs) (port : Int) (opq : Bool) (sch text query frag : Bs) (pv : Value) (hq hf : Bool) (w : World) :
    Calls Tryz.prog 120 #[.agg #[S sch, S user, S pass, S host, .bool false, .int .i64 port, .bool opq, S text, pv, .bool hq, .bool hf, S query, S frag]] w fun e w' => e = .returned (S []) ∧ Fr w w' := by
  go_enter Tryz.func120, Tryz.ntmps120
  go_wp2
  go_ret
  exact ⟨rfl, (Fr.refl w).alloc _⟩
structure Short (u : Url) : Prop where
  scheme : u.scheme.length ≤ 1000000000
  user : u.user.length ≤ 1000000000
  pass : u.pass.length ≤ 1000000000
  host : u.host.length ≤ 1000000000
  text : u.text.length ≤ 1000000000
  query : u.query.length ≤ 1000000000
  frag : u.frag.length ≤ 1000000000
  p0 : -9223372036854775808 ≤ u.port
  p1 : u.port ≤ 9223372036854775807
  segs : (segText u.path).length ≤ 1000000000
theorem authority_any (u : Url) (h : Short u) (pv : Value) (w : World) (hE : Env w) : Calls Tryz.prog 120 #[urlV u pv] w fun e w' => e = .returned (S (urlAuth u)) ∧ Fr w w' := by
  obtain ⟨sch, user, pass, host, hh, port, opq, text, path, hq, hf, query, frag⟩ := u
  cases hh with
  | false =>
    refine (authority_no user pass host port opq sch text query frag pv hq hf w).mono ?_
    rintro e w' ⟨rfl, h⟩
    exact ⟨rfl, h⟩
  | true =>
    refine (authority_yes user pass host port opq sch text query frag pv hq hf h.user h.pass h.host h.p0 h.p1 w hE).mono ?_
    rintro e w' ⟨rfl, h⟩
    exact ⟨rfl, h⟩
end Go.Proofs.YtogpmgjdmoglkaaGreatDoor
