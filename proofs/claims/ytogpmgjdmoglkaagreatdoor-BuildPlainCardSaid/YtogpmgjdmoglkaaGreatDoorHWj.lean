/- Walks: sync.Once on one goroutine, strings.NewReplacer and its Replace. -/
import Derived.Tactics2
import Derived.Defers
import Derived.Laws.Pointers
import Derived.Laws.LoneSync
import Derived.RegionTactic
import Derived.RegionCalls
import Derived.Test.YtogpmgjdmoglkaaGreatDoorHWi
set_option linter.unusedVariables false
set_option linter.unusedSimpArgs false
namespace Go.Proofs.YtogpmgjdmoglkaaGreatDoor
open Go.RowKit Pu

theorem so_disable (w : World) : (callFunc 299 #[]).run Tryz.prog w = .ok (.value (.tuple #[])) w := run_call_mark0 Tryz.func299 (by kernel_rfl) (by kernel_rfl) (by kernel_rfl) .disable (by kernel_rfl) w
theorem so_enable (w : World) : (callFunc 301 #[]).run Tryz.prog w = .ok (.value (.tuple #[])) w := run_call_mark0 Tryz.func301 (by kernel_rfl) (by kernel_rfl) (by kernel_rfl) .enable (by kernel_rfl) w
theorem so_acquire (a : Addr) (w : World) : (callFunc 302 #[.pointer (some a)]).run Tryz.prog w = .ok (.value (.tuple #[])) w := run_call_marked Tryz.func302 (by kernel_rfl) (by kernel_rfl) (by kernel_rfl) .acquire (by kernel_rfl) a w
theorem so_release (a : Addr) (w : World) : (callFunc 304 #[.pointer (some a)]).run Tryz.prog w = .ok (.value (.tuple #[])) w := run_call_marked Tryz.func304 (by kernel_rfl) (by kernel_rfl) (by kernel_rfl) .releaseMerge (by kernel_rfl) a w

theorem so_store (a : Addr) (x : Value) (u : FrameMode) (w : World) (hc : w.cell? a = some x) (hz : w.frozen? a = false) :
    CallsD Tryz.prog 253 #[.pointer (some a), .bool true] u w fun e u' w' => u' = u ∧ (e = .returned (.tuple #[]) ∧ w' = w.drew.setCell a (.int .u32 1)) := by
  have hc' : w.drew.cell? a = some x := by go_simp
  have hz' : w.drew.frozen? a = false := by go_simp
  have hst := run_call_store (P := Tryz.prog) Tryz.func275 (by kernel_rfl) (by kernel_rfl) (by kernel_rfl) (by kernel_rfl) (k := .u32) (y := 1) hc' hz'
  go_enter_d Tryz.func253, Tryz.ntmps253
  go_wp2
  go_region_calls
  all_goals (go_end0; exact ⟨rfl, rfl⟩)

set_option maxRecDepth 100000 in
set_option maxHeartbeats 1600000 in
theorem so_unlock (a : Addr) (u : FrameMode) (w : World) (hc : w.cell? a = some (.int .i32 1)) (hz : w.frozen? a = false) :
    CallsD Tryz.prog 252 #[.pointer (some a)] u w fun e u' w' => u' = u ∧ (e = .returned (.tuple #[]) ∧ w' = w.setCell a (.int .i32 0)) := by
  have hd := so_disable
  have he := so_enable
  have hr := so_release
  have hadd := run_call_add (P := Tryz.prog) Tryz.func305 (by kernel_rfl) (by kernel_rfl) (by kernel_rfl) .i32 (by kernel_rfl) (y := -1) (s := 0) hc hz (by simp [go_sem]; rfl)
  have hcv := run_convert_to_unsafe (P := Tryz.prog) (src := 256) (dst := 190) Tryz.underlying256 Tryz.underlying190 (by kernel_rfl) hc
  go_enter_d Tryz.func252, Tryz.ntmps252
  go_wp2
  go_end0
  go_wp2
  go_end0
  exact ⟨rfl, rfl⟩

set_option maxRecDepth 100000 in
set_option maxHeartbeats 1600000 in
theorem so_lock (a : Addr) (w : World) (hc : w.cell? a = some (.int .i32 0)) (hz : w.frozen? a = false) :
    Calls Tryz.prog 251 #[.pointer (some a)] w fun e w' => e = .returned (.tuple #[]) ∧ w' = w.setCell a (.int .i32 1) := by
  have hd := so_disable
  have he := so_enable
  have ha := so_acquire
  have hcas := run_call_cas_hit (P := Tryz.prog) Tryz.func300 (by kernel_rfl) (by kernel_rfl) (by kernel_rfl) .i32 (by kernel_rfl) (y := 1) hc hz
  have hc' : (w.setCell a (.int .i32 1)).cell? a = some (.int .i32 1) := World.cell?_setCell_same w a _ hc
  have hcv := run_convert_to_unsafe (P := Tryz.prog) (src := 256) (dst := 190) Tryz.underlying256 Tryz.underlying190 (by kernel_rfl) hc'
  go_enter Tryz.func251, Tryz.ntmps251
  go_wp2
  first | go_end0 | (simp only [Exit.inBlock, Exit.then]; refine bodyPost_ret (results_none rfl _ _ _) rfl ?_) | refine bodyPost_ret (results_none rfl _ _ _) rfl ?_
  go_wp2
  go_end0
  exact ⟨rfl, rfl⟩

set_option maxRecDepth 100000 in
theorem so_load0 (a : Addr) (w : World) (h : w.cell? a = some (.int .u32 0)) : Calls Tryz.prog 218 #[.pointer (some a)] w fun e w' => e = .returned (.bool false) ∧ w = w' := by
  have hl := run_call_load (P := Tryz.prog) Tryz.func250 (by kernel_rfl) (by kernel_rfl) (by kernel_rfl) .u32 (by kernel_rfl) h
  go_enter Tryz.func218, Tryz.ntmps218
  go_wp2
  go_ret
  exact ⟨rfl, rfl⟩
/-- The pairs of a call, as they may be. -/
structure Fine (ps : List (UInt8 × Bs)) : Prop where
  two : 2 ≤ ps.length
  ten : ps.length ≤ 10
  nodup : (ps.map (·.1)).Nodup
  one : ∃ p ∈ ps, p.2.length ≠ 1
  three : ∀ p ∈ ps, p.2.length ≤ 3
abbrev IFr (T : Nat) : Value := .iface 206 (.pointer (some ⟨T, 0, none⟩))

set_option maxRecDepth 100000 in
set_option maxHeartbeats 1600000 in
theorem buildOnce_any (ps : List (UInt8 × Bs)) (hF : Fine ps) (R g cap : Nat) (x3 : Value) (w : World) (h4 : w.cell? ⟨R, 4, none⟩ = some (.slice (some ⟨g, 0, none⟩) (2 * ps.length) cap)) (h3 : w.cell? ⟨R, 3, none⟩ = some x3) (hz : ∀ j, w.frozen? ⟨R, j, none⟩ = false) (hP : PairsAt g ps w) :
    Calls Tryz.prog 163 #[.pointer (some ⟨R, 0, none⟩)] w fun e w' => e = .returned (.tuple #[]) ∧ ∃ T wb, Fr w wb ∧ BRep w.heap.size T (ps.reverse.map (·.1)) (tabOf ps) wb ∧ w' = (wb.setCell ⟨R, 3, none⟩ (IFr T)).setCell ⟨R, 4, none⟩ (.slice none 0 0) := by
  have hcall := build_any ps hF.two hF.ten hF.nodup hF.one hF.three R g cap w h4 hP
  have hR := World.block_lt_of_cell? w _ h4
  simp only at hR
  go_enter Tryz.func163, Tryz.ntmps163
  go_wp2_with (go_at_call 220; refine hcall.mono ?_; rintro e wb ⟨T, rfl, hf, hB⟩; have c3 := hf.cell h3; have c4 := hf.cell h4; have z3 : wb.frozen? ⟨R, 3, none⟩ = false := (World.frozen?_of_block (w := w) (hf.out.block R hR)).trans (hz 3); have z4 : wb.frozen? ⟨R, 4, none⟩ = false := (World.frozen?_of_block (w := w) (hf.out.block R hR)).trans (hz 4))
  go_end0
  exact ⟨rfl, T, wb, hf, hB, rfl⟩

set_option maxRecDepth 100000 in
set_option maxHeartbeats 1600000 in
theorem doSlow_any (ps : List (UInt8 × Bs)) (hF : Fine ps) (R g cap : Nat) (x3 : Value) (w : World) (h4 : w.cell? ⟨R, 4, none⟩ = some (.slice (some ⟨g, 0, none⟩) (2 * ps.length) cap)) (h3 : w.cell? ⟨R, 3, none⟩ = some x3)
    (h0 : w.cell? ⟨R, 0, none⟩ = some (.int .u32 0)) (h1 : w.cell? ⟨R, 1, none⟩ = some (.int .i32 0)) (hz : ∀ j, w.frozen? ⟨R, j, none⟩ = false) (hgR : g ≠ R) (hP : PairsAt g ps w) :
    Calls Tryz.prog 219 #[.pointer (some ⟨R, 0, none⟩), .func (.func 163) #[.pointer (some ⟨R, 0, none⟩)] #[]] w fun e w' => e = .returned (.tuple #[]) ∧ ∃ T wb, Fr (w.setCell ⟨R, 1, none⟩ (.int .i32 1)) wb ∧ BRep w.heap.size T (ps.reverse.map (·.1)) (tabOf ps) wb ∧
      w' = ((((wb.setCell ⟨R, 3, none⟩ (IFr T)).setCell ⟨R, 4, none⟩ (.slice none 0 0)).drew.setCell ⟨R, 0, none⟩ (.int .u32 1)).setCell ⟨R, 1, none⟩ (.int .i32 0)) := by
  have o : ∀ i j : Nat, i ≠ j → (⟨R, i, none⟩ : Addr) ≠ ⟨R, j, none⟩ := fun i j h => ne_off h
  have c0 := (World.cell?_setCell_other w ⟨R, 1, none⟩ ⟨R, 0, none⟩ (.int .i32 1) (o _ _ (by decide))).trans h0
  have c3 := (World.cell?_setCell_other w ⟨R, 1, none⟩ ⟨R, 3, none⟩ (.int .i32 1) (o _ _ (by decide))).trans h3
  have c4 := (World.cell?_setCell_other w ⟨R, 1, none⟩ ⟨R, 4, none⟩ (.int .i32 1) (o _ _ (by decide))).trans h4
  have c1 := World.cell?_setCell_same w ⟨R, 1, none⟩ (.int .i32 1) h1
  have z : ∀ j, (w.setCell ⟨R, 1, none⟩ (.int .i32 1)).frozen? ⟨R, j, none⟩ = false := fun j => by rw [World.frozen?_setCell]; exact hz j
  have hP1 : PairsAt g ps (w.setCell ⟨R, 1, none⟩ (.int .i32 1)) := fun i hi => ⟨(World.cell?_setCell_other _ _ _ _ (ne_blk (Ne.symm hgR))).trans (hP i hi).1, (World.cell?_setCell_other _ _ _ _ (ne_blk (Ne.symm hgR))).trans (hP i hi).2⟩
  have hcall := buildOnce_any ps hF R g cap x3 _ c4 c3 z hP1
  have hl := run_call_load (P := Tryz.prog) Tryz.func250 (by kernel_rfl) (by kernel_rfl) (by kernel_rfl) .u32 (by kernel_rfl) c0
  have hnot : ∀ (x : Bool) (w : World), (Op.unary .not (.bool x)).run Tryz.prog w = .ok (.bool (!x)) w := fun _ _ => rfl
  have hR := World.block_lt_of_cell? w _ h4
  simp only at hR
  go_enter_defers Tryz.func219, Tryz.ntmps219
  go_wp2_with (first
    | (go_at_call 251; refine (so_lock ⟨R, 1, none⟩ _ h1 (hz 1)).mono ?_; rintro e w' ⟨rfl, rfl⟩)
    | (go_at_call 218; refine (so_load0 ⟨R, 0, none⟩ _ c0).mono ?_; rintro e w' ⟨rfl, rfl⟩)
    | (go_at_call 163; refine hcall.mono ?_; rintro e w' ⟨rfl, T, wb, hf, hB, rfl⟩))
  have d0 : ((wb.setCell ⟨R, 3, none⟩ (IFr T)).setCell ⟨R, 4, none⟩ (.slice none 0 0)).cell? ⟨R, 0, none⟩ = some (.int .u32 0) := by
    rw [World.cell?_setCell_other _ _ _ _ (o _ _ (by decide)), World.cell?_setCell_other _ _ _ _ (o _ _ (by decide))]; exact hf.cell c0
  have d1 : ((wb.setCell ⟨R, 3, none⟩ (IFr T)).setCell ⟨R, 4, none⟩ (.slice none 0 0)).cell? ⟨R, 1, none⟩ = some (.int .i32 1) := by
    rw [World.cell?_setCell_other _ _ _ _ (o _ _ (by decide)), World.cell?_setCell_other _ _ _ _ (o _ _ (by decide))]; exact hf.cell c1
  have dz : ∀ j, ((wb.setCell ⟨R, 3, none⟩ (IFr T)).setCell ⟨R, 4, none⟩ (.slice none 0 0)).frozen? ⟨R, j, none⟩ = false := fun j => by
    rw [World.frozen?_setCell, World.frozen?_setCell, World.frozen?_of_block (w := w.setCell ⟨R, 1, none⟩ (.int .i32 1)) (hf.out.block R (by rw [World.size_setCell]; exact hR))]
    exact z j
  have hs : (w.setCell ⟨R, 1, none⟩ (.int .i32 1)).heap.size = w.heap.size := World.size_setCell _ _ _
  rw [hs] at hB
  refine leaves_cons (f := 253) (args := #[.pointer (some ⟨R, 0, none⟩), .bool true]) (by simp) (by simp [go_sem]) ?_
  refine (so_store ⟨R, 0, none⟩ (.int .u32 0) .returning _ d0 (dz 0)).mono ?_
  rintro e u' w'' ⟨rfl, rfl, rfl⟩
  refine leaves_cons (f := 252) (args := #[.pointer (some ⟨R, 1, none⟩)]) (by simp [settle]) (by simp [go_sem]) ?_
  refine (so_unlock ⟨R, 1, none⟩ _ _ ?_ ?_).mono ?_
  · rw [World.cell?_setCell_other _ _ _ _ (o _ _ (by decide))]; exact d1
  · rw [World.frozen?_setCell]; exact dz 1
  rintro e u' w'' ⟨rfl, rfl, rfl⟩
  simp only [Leaves, settle, results, Tryz.results219]
  exact ⟨.tuple #[], by simp, rfl, T, wb, hf, hB, rfl⟩

end Go.Proofs.YtogpmgjdmoglkaaGreatDoor
