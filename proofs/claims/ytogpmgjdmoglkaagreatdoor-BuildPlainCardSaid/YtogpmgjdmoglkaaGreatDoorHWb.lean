/- Words for the walks: what stays of a world behind a call, and the library's tables. -/
import Derived.WalkKit
import Derived.Test.YtogpmgjdmoglkaaGreatDoorProg
import Derived.Lib.LaidTab
import Derived.Lib.Hide
import Derived.Lib.ConvBytes
import Derived.Laws.BytesArg
import Derived.Lib.ItoaNum
import Derived.Shelf.Unicode.DecodeSlow
set_option linter.unusedVariables false
set_option linter.unusedSimpArgs false
namespace Go.Proofs.YtogpmgjdmoglkaaGreatDoor
open Go.RowKit

/-- What was there when a call began is there still. -/
structure Fr (w w' : World) : Prop where mk :: (out : Below w.heap.size w w')
theorem Fr.refl (w : World) : Fr w w := ⟨Below.refl _ _⟩
theorem Fr.of {w w' : World} (h : Below w.heap.size w w') : Fr w w' := ⟨h⟩
theorem Fr.trans {a b c : World} (h : Fr a b) (k : Fr b c) : Fr a c := ⟨h.out.trans (k.out.mono h.out.size)⟩
theorem Fr.drew {a b : World} (h : Fr a b) : Fr a b.drew := ⟨h.out.drew⟩
theorem Fr.drewN {a b : World} (h : Fr a b) (n : Nat) : Fr a (b.drewN n) := ⟨⟨h.out.os, h.out.tape, h.out.output, h.out.size, h.out.block⟩⟩
theorem Fr.alloc {a b : World} (h : Fr a b) (o : Obj) : Fr a (b.alloc o) := ⟨h.out.alloc h.out.size o⟩
theorem Fr.set {a b : World} (h : Fr a b) {p : Addr} (hp : a.heap.size ≤ p.block) (u : Value) : Fr a (b.setCell p u) := ⟨h.out.setCell hp u⟩
theorem Fr.grown {a b c : World} (h : Fr a b) {row : Option Nat} (hg : b.grownBy c row) (hr : ∀ k, row = some k → a.heap.size ≤ k) : Fr a c := ⟨h.out.grown hg h.out.size hr⟩
theorem Fr.size {a b : World} (h : Fr a b) : a.heap.size ≤ b.heap.size := h.out.size
theorem Fr.cell {a b : World} (h : Fr a b) {p : Addr} {v : Value} (hc : a.cell? p = some v) : b.cell? p = some v := (h.out.cell (World.block_lt_of_cell? a p hc)).trans hc
theorem Fr.heap {a b : World} (h : Fr a b) {k : Nat} {o : Obj} (hk : a.heap[k]? = some o) : b.heap[k]? = some o := by
  rw [h.out.block k (Array.getElem?_eq_some_iff.1 hk).1]; exact hk

/-- The tables of Go's library that are read, as its own text lays them. -/
structure Env (w : World) : Prop where
  size : 8 ≤ w.heap.size
  tabs : Lib.Utf8Tabs 1 2 w
  maxLen : ∃ m, w.cell? ⟨0, 0, none⟩ = some (.int .i64 m)
  pow10 : Lib.TabIs Tryz.prog w "internal/strconv.uint64pow10" .u64 Lib.pow10Tab
theorem Env.kept {w w' : World} (h : Env w) (hs : w.heap.size ≤ w'.heap.size) (hk : ∀ k, k < 8 → w'.heap[k]? = w.heap[k]?) : Env w' := by
  have hc : ∀ (b o : Nat), b < 8 → w'.cell? ⟨b, o, none⟩ = w.cell? ⟨b, o, none⟩ := fun b o hb => World.cell?_of_block (w := w) (hk b hb)
  refine ⟨Nat.le_trans h.size hs, ⟨fun c hcc => ?_, fun i hi => ?_⟩, ?_, ?_⟩
  · rw [hc _ _ (by decide)]; exact h.tabs.1 c hcc
  · rw [hc _ _ (by decide), hc _ _ (by decide)]; exact h.tabs.2 i hi
  · obtain ⟨m, hm⟩ := h.maxLen
    exact ⟨m, by rw [hc _ _ (by decide)]; exact hm⟩
  · have hp := h.pow10
    unfold Lib.TabIs World.var? at hp ⊢
    have hg : Tryz.prog.globalNamed "internal/strconv.uint64pow10" = some 3 := by kernel_rfl
    rw [hg] at hp ⊢
    simp only [Option.bind_some] at hp ⊢
    rw [hk _ (by decide)]
    exact hp
theorem Env.fr {w w' : World} (h : Env w) (hf : Fr w w') : Env w' := h.kept hf.size fun k hk => hf.out.block k (Nat.lt_of_lt_of_le hk h.size)

/-- A string of bytes, as a value. -/
abbrev S (l : List UInt8) : Value := .string ⟨l.toArray⟩
theorem ret_i {k : IntKind} {a b : Int} (h : a = b) : Ending.returned (.int k a) = .returned (.int k b) := by rw [h]
theorem ret_b {a b : Bool} (h : a = b) : Ending.returned (.bool a) = .returned (.bool b) := by rw [h]
theorem ret_s {a b : List UInt8} (h : a = b) : Ending.returned (S a) = .returned (S b) := by rw [h]

theorem add_at (g j : Nat) : (⟨g, 0, none⟩ : Addr).add j = ⟨g, j, none⟩ := by unfold Addr.add; split <;> simp_all
/-- A byte of a string, as the list has it. -/
theorem ba_get (l : List UInt8) : ∀ (k : Nat) (h : k < (⟨l.toArray⟩ : ByteArray).size), (⟨l.toArray⟩ : ByteArray)[k]'h = l[k]'(by have h2 : k < l.toArray.size := h; simpa using h2) := fun _ _ => rfl
theorem getD_at (l : List UInt8) (k : Nat) (h : k < l.length) : l.getD k 0 = l[k] := by simp [List.getD_eq_getElem?_getD, h]
theorem i64_wrap (n : Int) (h0 : -1000000000000 ≤ n) (h1 : n ≤ 1000000000000) : IntKind.i64.wrap n = n := by rw [IntKind.wrap_i64]; omega
theorem u8_lt (c : UInt8) : (c.toNat : Int) ≤ 255 := by have := c.toNat_lt; omega

/-! ### bytes of the call's own -/
/-- Block g, new since w0, begins with these bytes; they may be written. -/
structure OwnB (w0 : World) (g : Nat) (xs : List UInt8) (w : World) : Prop where
  base : w0.heap.size ≤ g
  cell : ∀ j, j < xs.length → w.cell? ⟨g, j, none⟩ = some (.int .u8 ((xs.getD j 0).toNat : Int))
  free : ∀ j, j < xs.length → w.frozen? ⟨g, j, none⟩ = false
  fr : Fr w0 w
theorem OwnB.set {w0 w : World} {g : Nat} {xs : List UInt8} (h : OwnB w0 g xs w) (k : Nat) (hk : k < xs.length) (c : UInt8) : OwnB w0 g (xs.set k c) (w.setCell ⟨g, k, none⟩ (.int .u8 (c.toNat : Int))) := by
  refine ⟨h.base, fun j hj => ?_, fun j hj => ?_, h.fr.set h.base _⟩
  · rw [List.length_set] at hj
    by_cases hjk : j = k
    · subst hjk
      rw [World.cell?_setCell_same _ _ _ (h.cell j hj)]
      simp [List.getD_eq_getElem?_getD, hj]
    · rw [World.cell?_setCell_other _ _ _ _ (by intro e; injection e with _ e2; exact hjk e2.symm), h.cell j hj]
      simp [List.getD_eq_getElem?_getD, List.getElem?_set, Ne.symm hjk]
  · rw [List.length_set] at hj
    rw [World.frozen?_setCell]; exact h.free j hj
theorem OwnB.drewN {w0 w : World} {g : Nat} {xs : List UInt8} (h : OwnB w0 g xs w) (n : Nat) : OwnB w0 g xs (w.drewN n) := ⟨h.base, h.cell, h.free, h.fr.drewN n⟩
theorem OwnB.conv (w : World) (l : List UInt8) : OwnB w w.heap.size l (Lib.bytesWorld w 5 ⟨l.toArray⟩) := by
  refine ⟨Nat.le_refl _, fun j hj => ?_, fun j hj => ?_, ⟨rfl, rfl, rfl, by rw [Lib.bytesWorld_size]; omega, fun k hk => Lib.bytesWorld_at_old _ _ _ _ hk⟩⟩
  · exact Lib.bytesWorld_cell w 5 ⟨l.toArray⟩ j (by show j < l.toArray.size; simpa using hj)
  · unfold World.frozen?
    rw [Lib.bytesWorld_at_new]
    have : j < (Lib.bytesCells w 5 ⟨l.toArray⟩).size := by
      have h2 : l.toArray.size = l.length := by simp
      simp only [Lib.bytesCells, Array.size_append, Array.size_map, h2]
      omega
    simp; omega
theorem OwnB.str {w0 w : World} {g : Nat} {xs : List UInt8} (h : OwnB w0 g xs w) (cap : Nat) :
    (convert 34 9 (.slice (some ⟨g, 0, none⟩) xs.length cap)).run Tryz.prog w = .ok (S xs) w := by
  rw [run_convert_bytes_arg w 34 5 Tryz.underlying34 Tryz.underlying5 g 0 xs.length cap (xs.map fun c => (c.toNat : Int)) (by simp) (fun i hi => by
    rw [Nat.zero_add, h.cell i hi]
    simp [List.getD_eq_getElem?_getD, hi]) _ Tryz.underlying9]
  congr 2
  simp only [strOfNums, List.map_map]
  congr 2
  clear h
  induction xs with
  | nil => rfl
  | cons c r ih => simp [ih]
end Go.Proofs.YtogpmgjdmoglkaaGreatDoor
