/- Walks: parse.Parse on the opaque way. -/
import Derived.Deep.MidRow
import Derived.Test.YtogpmgjdmoglkaaGreatDoorHWm
import Derived.Test.YtogpmgjdmoglkaaGreatDoorHPu19
set_option linter.unusedVariables false
set_option linter.unusedSimpArgs false
namespace Go.Proofs.YtogpmgjdmoglkaaGreatDoor
open Go.RowKit Pu

/-- A block, known whole. -/
structure Blk (P : Nat) (cs : Array Value) (T : TypeId) (w : World) : Prop where mk :: (at_ : w.heap[P]? = some (.cells cs T (0, 0)))
theorem Blk.cell {P : Nat} {cs : Array Value} {T : TypeId} {w : World} (h : Blk P cs T w) {j : Nat} {v : Value} (hv : cs[j]? = some v) : w.cell? ⟨P, j, none⟩ = some v := by
  rw [Lib.cell_of_heap h.at_]; exact hv
theorem Blk.free {P : Nat} {cs : Array Value} {T : TypeId} {w : World} (h : Blk P cs T w) (j : Nat) : w.frozen? ⟨P, j, none⟩ = false := Lib.frozen_of_heap h.at_ j
theorem Blk.lt {P : Nat} {cs : Array Value} {T : TypeId} {w : World} (h : Blk P cs T w) : P < w.heap.size := (Array.getElem?_eq_some_iff.1 h.at_).1
theorem Blk.fr {P : Nat} {cs : Array Value} {T : TypeId} {w w' : World} (h : Blk P cs T w) (hf : Fr w w') : Blk P cs T w' := ⟨hf.heap h.at_⟩
theorem Blk.set {P : Nat} {cs : Array Value} {T : TypeId} {w : World} (h : Blk P cs T w) (j : Nat) (v : Value) : Blk P (cs.setIfInBounds j v) T (w.setCell ⟨P, j, none⟩ v) := ⟨heap_setCell_same w P j cs T v h.at_⟩
theorem Blk.other {P Q : Nat} {cs : Array Value} {T : TypeId} {w : World} (h : Blk P cs T w) (hne : Q ≠ P) (j : Nat) (v : Value) : Blk P cs T (w.setCell ⟨Q, j, none⟩ v) := ⟨by rw [heap_setCell_other _ _ _ _ (Ne.symm hne)]; exact h.at_⟩

/-- A URL, as a value; its path: that slice. -/
def urlV (u : Url) (pv : Value) : Value := .agg #[S u.scheme, S u.user, S u.pass, S u.host, .bool u.hasHost, .int .i64 u.port, .bool u.opq, S u.text, pv, .bool u.hasQuery, .bool u.hasFrag, S u.query, S u.frag]
def urlL (u : Url) (pv : Value) : List Value := [S u.scheme, S u.user, S u.pass, S u.host, .bool u.hasHost, .int .i64 u.port, .bool u.opq, S u.text, pv, .bool u.hasQuery, .bool u.hasFrag, S u.query, S u.frag]
/-- The parser's cells. -/
def pcells (u : Url) (pv : Value) (base : Value) (rest query fragment : Bs) (bad : Bool) : Array Value :=
  #[S u.scheme, S u.user, S u.pass, S u.host, .bool u.hasHost, .int .i64 u.port, .bool u.opq, S u.text, pv, .bool u.hasQuery, .bool u.hasFrag, S u.query, S u.frag, base, S rest, S query, S fragment, .bool bad]
abbrev Par (P : Nat) (cs : Array Value) (w : World) : Prop := Blk P cs 63 w

theorem Par.range {P : Nat} {u : Url} {pv base : Value} {r q f : Bs} {b : Bool} {w : World} (h : Par P (pcells u pv base r q f b) w) : w.rangeAt P 0 (urlL u pv) := by
  intro j v hv
  rw [Nat.zero_add]
  have hj : j < 13 := by
    rcases Nat.lt_or_ge j 13 with h | h
    · exact h
    · rw [List.getElem?_eq_none (by simp [urlL]; omega)] at hv; cases hv
  refine h.cell ?_
  have : j = 0 ∨ j = 1 ∨ j = 2 ∨ j = 3 ∨ j = 4 ∨ j = 5 ∨ j = 6 ∨ j = 7 ∨ j = 8 ∨ j = 9 ∨ j = 10 ∨ j = 11 ∨ j = 12 := by omega
  rcases this with rfl | rfl | rfl | rfl | rfl | rfl | rfl | rfl | rfl | rfl | rfl | rfl | rfl <;> exact hv
theorem Blk.there {P : Nat} {cs : Array Value} {T : TypeId} {w : World} (h : Blk P cs T w) (n : Nat) (hn : n ≤ cs.size) : w.there P 0 n := by
  intro j hj
  rw [Nat.zero_add]
  refine ⟨?_, h.free j⟩
  have : cs[j]? = some cs[j] := by simp [show j < cs.size from by omega]
  rw [h.cell this]; rfl
def setFrom (cs : Array Value) : Nat → List Value → Array Value
  | _, [] => cs
  | o, v :: vs => setFrom (cs.setIfInBounds o v) (o + 1) vs
theorem Blk.sets {R : Nat} {T : TypeId} : ∀ (vs : List Value) (o : Nat) (cs : Array Value) (w : World), Blk R cs T w → Blk R (setFrom cs o vs) T (w.setCells R o vs)
  | [], _, _, _, h => h
  | v :: vs, o, cs, w, h => Blk.sets vs (o + 1) _ _ (h.set o v)
theorem setFrom_all : ∀ (vs pre cs : List Value), cs.length = vs.length → setFrom (pre ++ cs).toArray pre.length vs = (pre ++ vs).toArray
  | [], pre, cs, h => by
    have : cs = [] := by simpa using h
    subst this; rfl
  | v :: vs, pre, c :: cs, h => by
    have e : (pre ++ c :: cs).toArray.setIfInBounds pre.length v = ((pre ++ [v]) ++ cs).toArray := by simp
    have ih := setFrom_all vs (pre ++ [v]) cs (by simpa using h)
    show setFrom ((pre ++ c :: cs).toArray.setIfInBounds pre.length v) (pre.length + 1) vs = _
    rw [e]
    simp at ih ⊢
    exact ih
/-- A block that is written whole. -/
theorem Blk.url {R : Nat} {cs : Array Value} {T : TypeId} {w : World} (h : Blk R cs T w) (vs : List Value) (hs : cs.size = vs.length) : Blk R vs.toArray T (w.setCells R 0 vs) := by
  have h2 := h.sets vs 0
  have h3 := setFrom_all vs [] cs.toList (by simpa using hs)
  simp at h3
  rw [h3] at h2
  exact h2
theorem Fr.setAll {w0 w : World} (h : Fr w0 w) {R : Nat} (hR : w0.heap.size ≤ R) : ∀ (vs : List Value) (o : Nat), Fr w0 (w.setCells R o vs) := by
  intro vs
  induction vs generalizing w with
  | nil => intro o; exact h
  | cons v vs ih => intro o; exact ih (h.set hR v) (o + 1)

theorem cleanP_eq (l : Bs) : cleanP l = cleanL l := by
  unfold cleanP cleanL
  rw [trimF_low]
  have h : ∀ s : Bs, repl (tabOf cleanPs) s = s.filter gone3 := by
    intro s
    induction s with
    | nil => rfl
    | cons c r ih =>
      show repC (tabOf cleanPs) c ++ repl (tabOf cleanPs) r = _
      rw [ih]
      have hc : repC (tabOf cleanPs) c = if gone3 c then [c] else [] := by
        by_cases h9 : c = 9
        · subst h9; rfl
        · by_cases h10 : c = 10
          · subst h10; rfl
          · by_cases h13 : c = 13
            · subst h13; rfl
            · have e1 : gone3 c = true := by simp [gone3, h9, h10, h13]
              have e9 : ((9 : UInt8) == c) = false := by simpa using Ne.symm h9
              have e10 : ((10 : UInt8) == c) = false := by simpa using Ne.symm h10
              have e13 : ((13 : UInt8) == c) = false := by simpa using Ne.symm h13
              simp [repC, tabOf, cleanPs, e1, e9, e10, e13]
      rw [hc]
      cases hg : gone3 c <;> simp [hg]
  rw [h]

set_option maxRecDepth 100000 in
set_option maxHeartbeats 4000000 in
theorem parse_long (s : Bs) (hl : 65536 < s.length) (hl2 : s.length ≤ 1000000000000) (w : World) :
    Calls Tryz.prog 14 #[S s, .pointer none] w fun e w' => e = .returned (.tuple #[urlV {} (.slice none 0 0), .int .i64 3]) ∧ Fr w w' := by
  have h1 : (65536 : Int) < (s.length : Int) := by omega
  go_enter Tryz.func14, Tryz.ntmps14
  go_wp2
  exact bodyPost_ret (v := .tuple #[urlV {} (.slice none 0 0), .int .i64 3]) (by simp [results, Tryz.results14, go_sem]; rfl) rfl ⟨rfl, by repeat (first | exact Fr.refl _ | refine Fr.alloc ?_ _ | refine Fr.set ?_ (by simp) _)⟩
end Go.Proofs.YtogpmgjdmoglkaaGreatDoor
