/- Walks: utf8.Valid of a text that may stand in quotes: true. -/
import Derived.Lib.Endian
import Derived.Lib.EndianBits
import Derived.Lib.ValidAsc
import Derived.Laws.BitsAllLaws
import Derived.Deep.LoopGhost
import Derived.Deep.QuietTactic
import Derived.BigQuiet
import Derived.Deep.Draws
import Derived.Test.YtogpmgjdmoglkaaGreatDoorHWc
import Derived.Test.YtogpmgjdmoglkaaGreatDoorHPu
set_option linter.unusedVariables false
set_option linter.unusedSimpArgs false
namespace Go.Proofs.YtogpmgjdmoglkaaGreatDoor
open Go.RowKit Pu

def W8 (l : Bs) (k : Nat) : Nat := Lib.leNat [l.getD k 0, l.getD (k + 1) 0, l.getD (k + 2) 0, l.getD (k + 3) 0, l.getD (k + 4) 0, l.getD (k + 5) 0, l.getD (k + 6) 0, l.getD (k + 7) 0]
def CellsAt (l : Bs) (g : Nat) (w : World) : Prop := ∀ j, j < l.length → w.cell? ⟨g, j, none⟩ = some (.int .u8 ((l.getD j 0).toNat : Int))
theorem cell_getD {l : Bs} {g : Nat} {w : World} (h : CellsAt l g w) (j : Nat) (hj : j < l.length) : w.cell? ⟨g, j, none⟩ = some (.int .u8 ((l.getD j 0).toNat : Int)) := h j hj

set_option maxHeartbeats 8000000 in
set_option maxRecDepth 100000 in
theorem word_any (l : Bs) (g k m cap : Nat) (hm : k + (m + 8) ≤ l.length) (w : World) (hc : CellsAt l g w) :
    Calls Tryz.prog 272 #[.slice (some ⟨g, k, none⟩) (m + 8) cap] w fun e w' => e = .returned (.int .u64 (W8 l k : Nat)) ∧ ∃ q, w' = w.drewN q := by
  have c0 := hc k (by omega)
  have c1 := hc (k + 1) (by omega)
  have c2 := hc (k + 2) (by omega)
  have c3 := hc (k + 3) (by omega)
  have c4 := hc (k + 4) (by omega)
  have c5 := hc (k + 5) (by omega)
  have c6 := hc (k + 6) (by omega)
  have c7 := hc (k + 7) (by omega)
  clear hc
  unfold W8
  generalize l.getD k 0 = x0 at *
  generalize l.getD (k + 1) 0 = x1 at *
  generalize l.getD (k + 2) 0 = x2 at *
  generalize l.getD (k + 3) 0 = x3 at *
  generalize l.getD (k + 4) 0 = x4 at *
  generalize l.getD (k + 5) 0 = x5 at *
  generalize l.getD (k + 6) 0 = x6 at *
  generalize l.getD (k + 7) 0 = x7 at *
  have h0 : x0.toNat < 256 := x0.toNat_lt
  have h1 : x1.toNat < 256 := x1.toNat_lt
  have h2 : x2.toNat < 256 := x2.toNat_lt
  have h3 : x3.toNat < 256 := x3.toNat_lt
  have h4 : x4.toNat < 256 := x4.toNat_lt
  have h5 : x5.toNat < 256 := x5.toNat_lt
  have h6 : x6.toNat < 256 := x6.toNat_lt
  have h7 : x7.toNat < 256 := x7.toNat_lt
  have hv : ((Lib.leNat [x0, x1, x2, x3, x4, x5, x6, x7] : Nat) : Int) = (x0.toNat : Int) + (x1.toNat : Int) * 256 + (x2.toNat : Int) * 65536 + (x3.toNat : Int) * 16777216 + (x4.toNat : Int) * 4294967296 + (x5.toNat : Int) * 1099511627776 + (x6.toNat : Int) * 281474976710656 + (x7.toNat : Int) * 72057594037927936 := by
    simp only [Lib.leNat]
    push_cast
    omega
  have q0 : (0 : Int) < (m : Int) + 8 := by omega
  have q1 : (1 : Int) < (m : Int) + 8 := by omega
  have q2 : (2 : Int) < (m : Int) + 8 := by omega
  have q3 : (3 : Int) < (m : Int) + 8 := by omega
  have q4 : (4 : Int) < (m : Int) + 8 := by omega
  have q5 : (5 : Int) < (m : Int) + 8 := by omega
  have q6 : (6 : Int) < (m : Int) + 8 := by omega
  have q7 : (7 : Int) < (m : Int) + 8 := by omega
  rw [hv]
  clear hv
  go_enter Tryz.func272, Tryz.ntmps272
  go_wp2
  go_quiet (fail)
  go_wp2
  go_ret
  refine ⟨?_, _, rfl⟩
  simp (disch := omega) only [u64_wrap_id, u64_or8, u64_or16, u64_or24, u64_or32, u64_or40, u64_or48, u64_or56]
  rfl
end Go.Proofs.YtogpmgjdmoglkaaGreatDoor
