/- Walks: strings.(*Replacer).build with single bytes. -/
import Derived.Test.YtogpmgjdmoglkaaGreatDoorHWh
set_option linter.unusedVariables false
set_option linter.unusedSimpArgs false
namespace Go.Proofs.YtogpmgjdmoglkaaGreatDoor
open Go.RowKit Pu

theorem str_info : (Tryz.prog.info? 9).map (fun i => (i.zero, i.size, i.bytes)) = some (some (.string ⟨#[]⟩), 1, 16) := by kernel_rfl

/-- The pairs of a call of NewReplacer, as they lie in memory from block g on. -/
def PairsAt (g : Nat) (ps : List (UInt8 × Bs)) (w : World) : Prop := ∀ i, (h : i < ps.length) → w.cell? ⟨g, 2 * i, none⟩ = some (S [ps[i].1]) ∧ w.cell? ⟨g, 2 * i + 1, none⟩ = some (S ps[i].2)

set_option maxRecDepth 100000 in
theorem rep_zero : Tryz.zeroCells205.toList = List.replicate 257 (.slice none 0 0) := by kernel_rfl
theorem rep_store_gen (Z : Array Value) (t : TypeId) (rep_zero : Z.toList = List.replicate 257 (.slice none 0 0)) (wm : World) (v : Value) (h1 : v.oneCell' = true) : ∃ W, (storeCells ⟨wm.heap.size, 0, none⟩ (Z.toList.set 256 v)).run Tryz.prog (wm.alloc (.cells Z t)) = .ok () W ∧
    (∀ j, j < 256 → W.cell? ⟨wm.heap.size, j, none⟩ = some (.slice none 0 0)) ∧ W.cell? ⟨wm.heap.size, 256, none⟩ = some v ∧ (∀ j, W.frozen? ⟨wm.heap.size, j, none⟩ = false) ∧ Below wm.heap.size wm W ∧ wm.heap.size < W.heap.size := by
  have hlen : (Z.toList.set 256 v).length = 257 := by rw [List.length_set, rep_zero, List.length_replicate]
  have hz : Z.size = 257 := by rw [← Array.length_toList, rep_zero, List.length_replicate]
  have hc : ∀ j, j < 257 → ((wm.alloc (.cells Z t)).cell? ⟨wm.heap.size, j, none⟩).isSome = true := by
    intro j hj
    rw [World.cell?_alloc_mark, Array.getElem?_eq_getElem (by omega)]
    rfl
  refine ⟨_, run_storeCells_cells wm.heap.size 0 _ 0 _ (fun j hj => by rw [hlen] at hj; simpa using hc j hj) (fun j _ => by
    have := World.frozen?_alloc_mark wm Z t 0 0 (0 + 0 + j)
    rw [this]; simp) (fun u hu => ?_), ?_, ?_, ?_, ?_, ?_⟩
  · rcases List.mem_or_eq_of_mem_set hu with h | h
    · rw [rep_zero] at h
      rw [List.eq_of_mem_replicate h]; rfl
    · rw [h]; exact h1
  all_goals have hin := World.cell?_setCells_in wm.heap.size (Z.toList.set 256 v) 0 (wm.alloc (.cells Z t)) (fun j hj => by rw [hlen] at hj; simpa using hc j hj)
  · intro j hj
    have := hin j (by rw [hlen]; omega)
    rw [Nat.zero_add] at this
    rw [this, List.getElem_set_ne (by omega)]
    congr 1
    have hj2 : j < Z.toList.length := by rw [Array.length_toList, hz]; omega
    have hm := List.getElem_mem hj2
    exact List.eq_of_mem_replicate (n := 257) (by rw [← rep_zero]; exact hm)
  · have := hin 256 (by rw [hlen]; omega)
    rw [Nat.zero_add] at this
    rw [this, List.getElem_set_self]
  · intro j
    rw [World.frozen?_setCells]
    have := World.frozen?_alloc_mark wm Z t 0 0 j
    rw [this]; simp
  · exact Lib.below_setCells _ (Nat.le_refl _) _ _ ⟨rfl, rfl, rfl, by simp, fun k hk => heap_alloc_old wm _ hk⟩
  · have : ∀ (vs : List Value) (o : Nat) (w : World), (w.setCells wm.heap.size o vs).heap.size = w.heap.size := by
      intro vs
      induction vs with
      | nil => intro o w; rfl
      | cons v r ih => intro o w; rw [World.setCells, ih]; simp
    rw [this]; simp

theorem rep_store (wm : World) (v : Value) (h1 : v.oneCell' = true) : ∃ W, (storeCells ⟨wm.heap.size, 0, none⟩ (Tryz.zeroCells205.toList.set 256 v)).run Tryz.prog (wm.alloc (.cells Tryz.zeroCells205 205)) = .ok () W ∧
    (∀ j, j < 256 → W.cell? ⟨wm.heap.size, j, none⟩ = some (.slice none 0 0)) ∧ W.cell? ⟨wm.heap.size, 256, none⟩ = some v ∧ (∀ j, W.frozen? ⟨wm.heap.size, j, none⟩ = false) ∧ Below wm.heap.size wm W ∧ wm.heap.size < W.heap.size :=
  rep_store_gen _ _ rep_zero wm v h1

/-- The table in block T, with the pairs q laid; the keys' row is block G. -/
structure BB (w0 : World) (G T n : Nat) (q : List (UInt8 × Bs)) (w : World) : Prop where
  fr : Fr w0 w
  hT : w0.heap.size ≤ T
  hne : G ≠ T
  free : ∀ j, w.frozen? ⟨T, j, none⟩ = false
  none_ : ∀ c : UInt8, (∀ p ∈ q, p.1 ≠ c) → w.cell? ⟨T, c.toNat, none⟩ = some (.slice none 0 0)
  some_ : ∀ p ∈ q, ∃ gr cap, w.cell? ⟨T, p.1.toNat, none⟩ = some (.slice (some ⟨gr, 0, none⟩) p.2.length cap) ∧ gr ≠ T ∧ gr ≠ G ∧ w0.heap.size ≤ gr ∧ ∀ j, j < p.2.length → w.cell? ⟨gr, j, none⟩ = some (.int .u8 ((p.2.getD j 0).toNat : Int))
  row : w.cell? ⟨T, 256, none⟩ = some (.slice (some ⟨G, 0, none⟩) q.length n)
  own : w.ownsRow w0.heap.size 9 1 (.slice (some ⟨G, 0, none⟩) q.length n) q.length (q.reverse.map fun p => S [p.1])

theorem ne_off {b i j : Nat} (h : i ≠ j) : (⟨b, i, none⟩ : Addr) ≠ ⟨b, j, none⟩ := by intro e; injection e with _ e2; exact h e2
theorem ne_blk {a b : Addr} (h : a.block ≠ b.block) : a ≠ b := by intro e; exact h (congrArg Addr.block e)
theorem fr_bytes (w : World) (s : ByteArray) : Fr w (Lib.bytesWorld w 5 s) := ⟨rfl, rfl, rfl, by rw [Lib.bytesWorld_size]; omega, fun k hk => Lib.bytesWorld_at_old _ _ _ _ hk⟩
theorem bb_block {wr w2 : World} {G T : Nat} {o1 o2 : Obj} (hT : T < wr.heap.size) (hne : G ≠ T) (hg : ((wr.alloc o1).alloc o2).grownBy w2 (some G)) (k : Nat) (hk : k < wr.heap.size) (hkG : k ≠ G) : w2.heap[k]? = wr.heap[k]? := by
  rw [hg.block k (by simp; omega) (by simpa using hkG), heap_alloc_old _ _ (by simp; omega), heap_alloc_old _ _ hk]
theorem bb_step {w0 wr w2 : World} {G T n : Nat} {q : List (UInt8 × Bs)} {o1 o2 : Obj} (h : BB w0 G T n q wr) (p : UInt8 × Bs) (hfr : ∀ x ∈ q, x.1 ≠ p.1) (hT : T < wr.heap.size) (hGl : G < wr.heap.size)
    (hg : ((wr.alloc o1).alloc o2).grownBy w2 (some G)) (m : Nat) (hm : m = q.length + 1)
    (hown : w2.ownsRow w0.heap.size 9 1 (.slice (some ⟨G, 0, none⟩) m n) m (q.reverse.map (fun p => S [p.1]) ++ [S [p.1]])) (cap : Nat) :
    BB w0 G T n (p :: q) ((Lib.bytesWorld (w2.setCell ⟨T, 256, none⟩ (.slice (some ⟨G, 0, none⟩) m n)) 5 ⟨p.2.toArray⟩).setCell ⟨T, p.1.toNat, none⟩ (.slice (some ⟨w2.heap.size, 0, none⟩) p.2.length cap)) := by
  subst hm
  have hb := bb_block hT h.hne hg
  have hs2 : wr.heap.size ≤ w2.heap.size := by have := hg.size; simp at this; omega
  have hGb : w0.heap.size ≤ G := by
    have := hown.lt G rfl; exact this.1
  have hsz3 : (w2.setCell ⟨T, 256, none⟩ (.slice (some ⟨G, 0, none⟩) (q.length + 1) n)).heap.size = w2.heap.size := World.size_setCell _ _ _
  have hu := p.1.toNat_lt
  have hold : ∀ (a : Addr), a.block < w2.heap.size → (Lib.bytesWorld (w2.setCell ⟨T, 256, none⟩ (.slice (some ⟨G, 0, none⟩) (q.length + 1) n)) 5 ⟨p.2.toArray⟩).cell? a = (w2.setCell ⟨T, 256, none⟩ (.slice (some ⟨G, 0, none⟩) (q.length + 1) n)).cell? a := fun a ha => Lib.bytesWorld_old _ _ _ _ (by rw [hsz3]; exact ha)
  have hcT : ∀ j, w2.cell? ⟨T, j, none⟩ = wr.cell? ⟨T, j, none⟩ := fun j => World.cell?_of_block (w := wr) (hb T hT (Ne.symm h.hne))
  have hfT : ∀ j, w2.frozen? ⟨T, j, none⟩ = wr.frozen? ⟨T, j, none⟩ := fun j => World.frozen?_of_block (w := wr) (hb T hT (Ne.symm h.hne))
  have hTc : ∀ j, j ≠ 256 → j ≠ p.1.toNat → ((Lib.bytesWorld (w2.setCell ⟨T, 256, none⟩ (.slice (some ⟨G, 0, none⟩) (q.length + 1) n)) 5 ⟨p.2.toArray⟩).setCell ⟨T, p.1.toNat, none⟩ (.slice (some ⟨w2.heap.size, 0, none⟩) p.2.length cap)).cell? ⟨T, j, none⟩ = wr.cell? ⟨T, j, none⟩ := by
    intro j h1 h2
    rw [World.cell?_setCell_other _ _ _ _ (ne_off (Ne.symm h2)), hold _ (by show T < _; omega), World.cell?_setCell_other _ _ _ _ (ne_off (Ne.symm h1)), hcT]
  have hOc : ∀ k j, k < w2.heap.size → k ≠ T → ((Lib.bytesWorld (w2.setCell ⟨T, 256, none⟩ (.slice (some ⟨G, 0, none⟩) (q.length + 1) n)) 5 ⟨p.2.toArray⟩).setCell ⟨T, p.1.toNat, none⟩ (.slice (some ⟨w2.heap.size, 0, none⟩) p.2.length cap)).cell? ⟨k, j, none⟩ = w2.cell? ⟨k, j, none⟩ := by
    intro k j h1 h2
    rw [World.cell?_setCell_other _ _ _ _ (ne_blk (Ne.symm h2)), hold _ h1, World.cell?_setCell_other _ _ _ _ (ne_blk (Ne.symm h2))]
  have h256 : (w2.setCell ⟨T, 256, none⟩ (.slice (some ⟨G, 0, none⟩) (q.length + 1) n)).cell? ⟨T, 256, none⟩ = some (.slice (some ⟨G, 0, none⟩) (q.length + 1) n) := World.cell?_setCell_same _ _ _ ((hcT 256).trans h.row)
  have hnew : ((Lib.bytesWorld (w2.setCell ⟨T, 256, none⟩ (.slice (some ⟨G, 0, none⟩) (q.length + 1) n)) 5 ⟨p.2.toArray⟩)).cell? ⟨T, p.1.toNat, none⟩ = some (.slice none 0 0) := by
    rw [hold _ (by show T < _; omega), World.cell?_setCell_other _ _ _ _ (ne_off (by omega)), hcT]
    exact h.none_ _ hfr
  refine ⟨?_, h.hT, h.hne, ?_, ?_, ?_, ?_, ?_⟩
  · exact Fr.set ((((h.fr.alloc o1).alloc o2).grown hg fun k hk => by injection hk with hk; omega).set h.hT _ |>.trans (fr_bytes _ _)) h.hT _
  · intro j
    rw [World.frozen?_setCell, World.frozen?_of_block (w := w2.setCell ⟨T, 256, none⟩ (.slice (some ⟨G, 0, none⟩) (q.length + 1) n)) (Lib.bytesWorld_at_old _ _ _ _ (by rw [hsz3]; show T < _; omega)), World.frozen?_setCell, hfT]
    exact h.free j
  · intro c hc
    rw [hTc _ (by have := c.toNat_lt; omega) (by intro e; exact hc p (by simp) (UInt8.toNat_inj.1 e.symm))]
    exact h.none_ c fun x hx => hc x (by simp [hx])
  · intro x hx
    rw [List.mem_cons] at hx
    rcases hx with rfl | hx
    · refine ⟨w2.heap.size, cap, World.cell?_setCell_same _ _ _ hnew, by omega, by omega, by have := h.fr.size; omega, fun j hj => ?_⟩
      rw [World.cell?_setCell_other _ _ _ _ (ne_blk (by show T ≠ w2.heap.size; omega))]
      have := Lib.bytesWorld_cell (w2.setCell ⟨T, 256, none⟩ (.slice (some ⟨G, 0, none⟩) (q.length + 1) n)) 5 ⟨x.2.toArray⟩ j (by show j < x.2.toArray.size; simpa using hj)
      rw [hsz3] at this
      exact this
    · obtain ⟨gr, c2, h1, h2, h3, hb4, h4⟩ := h.some_ x hx
      refine ⟨gr, c2, ?_, h2, h3, hb4, fun j hj => ?_⟩
      · rw [hTc _ (by have := x.1.toNat_lt; omega) (by intro e; exact hfr x hx (UInt8.toNat_inj.1 e))]
        exact h1
      · have hgl := World.block_lt_of_cell? wr _ (h4 j hj)
        rw [hOc _ _ (by show gr < _; simp only at hgl; omega) h2, World.cell?_of_block (w := wr) (hb gr hgl h3)]
        exact h4 j hj
  · rw [World.cell?_setCell_other _ _ _ _ (ne_off (by omega)), hold _ (by show T < _; omega), h256]
    rfl
  · have h1 : (p :: q).reverse.map (fun p => S [p.1]) = q.reverse.map (fun p => S [p.1]) ++ [S [p.1]] := by simp
    rw [h1]
    have hnb : (Value.slice (some ⟨G, 0, none⟩) (q.length + 1) n).ownBlock ≠ some T := by
      intro e; exact h.hne (by injection e)
    have h2 := ownsRow_setCell_other hown (a := ⟨T, 256, none⟩) hnb (.slice (some ⟨G, 0, none⟩) (q.length + 1) n)
    have h3 := h2.kept (row := none) ⟨(fr_bytes _ ⟨p.2.toArray⟩).out.os, (fr_bytes _ ⟨p.2.toArray⟩).out.tape, (fr_bytes _ ⟨p.2.toArray⟩).out.output, (fr_bytes _ ⟨p.2.toArray⟩).out.size, fun k hk _ => (fr_bytes _ ⟨p.2.toArray⟩).out.block k hk⟩ (.inr (by simp [Value.ownBlock]))
    exact ownsRow_setCell_other h3 (a := ⟨T, p.1.toNat, none⟩) hnb _
theorem bb_mid {w0 wr w2 : World} {G T n : Nat} {q : List (UInt8 × Bs)} {o1 o2 : Obj} (h : BB w0 G T n q wr) (p : UInt8 × Bs) (hfr : wr.cell? ⟨T, p.1.toNat, none⟩ = some (.slice none 0 0)) (hT : T < wr.heap.size)
    (hg : ((wr.alloc o1).alloc o2).grownBy w2 (some G)) (V : Value) :
    w2.frozen? ⟨T, 256, none⟩ = false ∧ (Lib.bytesWorld (w2.setCell ⟨T, 256, none⟩ V) 5 ⟨p.2.toArray⟩).cell? ⟨T, p.1.toNat, none⟩ = some (.slice none 0 0) ∧ (Lib.bytesWorld (w2.setCell ⟨T, 256, none⟩ V) 5 ⟨p.2.toArray⟩).frozen? ⟨T, p.1.toNat, none⟩ = false := by
  have hb := bb_block hT h.hne hg
  have hs2 : wr.heap.size ≤ w2.heap.size := by have := hg.size; simp at this; omega
  have hsz3 : (w2.setCell ⟨T, 256, none⟩ V).heap.size = w2.heap.size := World.size_setCell _ _ _
  have hcT : ∀ j, w2.cell? ⟨T, j, none⟩ = wr.cell? ⟨T, j, none⟩ := fun j => World.cell?_of_block (w := wr) (hb T hT (Ne.symm h.hne))
  have hfT : ∀ j, w2.frozen? ⟨T, j, none⟩ = wr.frozen? ⟨T, j, none⟩ := fun j => World.frozen?_of_block (w := wr) (hb T hT (Ne.symm h.hne))
  have hu := p.1.toNat_lt
  refine ⟨(hfT _).trans (h.free _), ?_, ?_⟩
  · rw [Lib.bytesWorld_old _ _ _ _ (by rw [hsz3]; show T < _; omega), World.cell?_setCell_other _ _ _ _ (ne_off (by omega)), hcT]
    exact hfr
  · rw [World.frozen?_of_block (w := w2.setCell ⟨T, 256, none⟩ V) (Lib.bytesWorld_at_old _ _ _ _ (by rw [hsz3]; show T < _; omega)), World.frozen?_setCell, hfT]
    exact h.free _
/-- What the pairs say of a byte. -/
def tabOf (ps : List (UInt8 × Bs)) (c : UInt8) : Option Bs := (ps.find? fun p => p.1 == c).map (·.2)
theorem bb_rep {w0 w : World} {G T n : Nat} (ps : List (UInt8 × Bs)) (hnd : (ps.map (·.1)).Nodup) (h : BB w0 G T n (ps.drop 0) w) : BRep w0.heap.size T (ps.reverse.map (·.1)) (tabOf ps) w := by
  rw [List.drop_zero] at h
  refine ⟨h.hT, fun c hc => h.none_ c fun p hp e => ?_, fun c b hc => ?_, ?_, ?_, fun c => ?_⟩
  · unfold tabOf at hc
    rw [Option.map_eq_none_iff, List.find?_eq_none] at hc
    exact hc p hp (by simpa using e)
  · unfold tabOf at hc
    obtain ⟨p, hp, rfl⟩ := Option.map_eq_some_iff.1 hc
    have h1 := List.find?_some hp
    obtain ⟨gr, cap, h2, _, _, hb3, h3⟩ := h.some_ p (List.mem_of_find?_eq_some hp)
    have h4 : p.1 = c := by simpa using h1
    subst h4
    exact ⟨gr, cap, h2, hb3, h3⟩
  · refine ⟨G, n, ?_, (h.own.lt G rfl).1, fun j hj => ?_⟩
    · rw [h.row]; simp
    · have := h.own.cells (g := G) rfl j (S [(ps.reverse.map (·.1))[j]]) (by
        have hj2 : j < ps.reverse.length := by simpa using hj
        have e : (ps.reverse.map fun p => S [p.1])[j]? = some (S [(ps.reverse[j]'hj2).1]) := by
          rw [List.getElem?_map, List.getElem?_eq_getElem hj2]; rfl
        rw [e, List.getElem_map])
      rw [add_at] at this
      exact this
  · rw [List.map_reverse]; exact (List.reverse_perm _).symm.nodup hnd
  · unfold tabOf
    rw [Option.isSome_map, List.find?_isSome]
    simp
theorem conv_one (w : World) (c : UInt8) : (convert 34 9 (.slice (some ⟨w.heap.size, 0, none⟩) 1 1)).run Tryz.prog (w.alloc (.cells #[.int .u8 (c.toNat : Int)] 5)) = .ok (S [c]) (w.alloc (.cells #[.int .u8 (c.toNat : Int)] 5)) := by
  rw [run_convert_bytes_arg _ 34 5 Tryz.underlying34 Tryz.underlying5 w.heap.size 0 1 1 [(c.toNat : Int)] rfl (fun i hi => by
    obtain rfl : i = 0 := by omega
    simp) _ Tryz.underlying9]
  congr 2
  simp [strOfNums]

set_option maxHeartbeats 4000000 in
set_option maxRecDepth 100000 in
theorem build_any (ps : List (UInt8 × Bs)) (hps : 2 ≤ ps.length) (hp2 : ps.length ≤ 10) (hnd : (ps.map (·.1)).Nodup) (hone : ∃ p ∈ ps, p.2.length ≠ 1) (hsh : ∀ p ∈ ps, p.2.length ≤ 3)
    (R g cap : Nat) (w : World) (hR : w.cell? ⟨R, 4, none⟩ = some (.slice (some ⟨g, 0, none⟩) (2 * ps.length) cap)) (hP : PairsAt g ps w) :
    Calls Tryz.prog 220 #[.pointer (some ⟨R, 0, none⟩)] w fun e w' => ∃ T, e = .returned (.iface 206 (.pointer (some ⟨T, 0, none⟩))) ∧ Fr w w' ∧ BRep w.heap.size T (ps.reverse.map (·.1)) (tabOf ps) w' := by
  have HP := Lib.hid hP
  clear hP
  have hlb : ((2 * ps.length : Nat) : Int) = 2 * (ps.length : Int) := by omega
  have hl2 : ((2 * (ps.length : Int)) == 2) = false := by simp; omega
  obtain ⟨i0, hi, hz0, hz1, hz2⟩ := info_parts str_info
  go_enter Tryz.func220, Tryz.ntmps220
  go_wp2
  go_loopw [4, 5] (fun f i wr => ∃ k : Nat, k ≤ ps.length ∧ i = .int .i64 (2 * k : Int) ∧ wr = w ∧ f = .bool ((ps.take k).all (fun p => p.2.length == 1))) (fun _ i _ => 2 * ps.length - (intOf i).toNat)
  case atStart => exact ⟨0, Nat.zero_le _, rfl, rfl, by simp⟩
  case round =>
    obtain ⟨k, hk, rfl, rfl, rfl⟩ := hrel
    by_cases hlt : k < ps.length
    · have hc := HP.out k hlt
      obtain ⟨hc1, hc2⟩ := hc
      have hix := ba_get [ps[k].1]
      have hw1 : IntKind.i64.wrap (2 * (k : Int) + 2) = 2 * (k : Int) + 2 := i64_wrap _ (by omega) (by omega)
      have hw2 : IntKind.i64.wrap (2 * (k : Int) + 1) = 2 * (k : Int) + 1 := i64_wrap _ (by omega) (by omega)
      have hn1 : (2 * (k : Int)).toNat = 2 * k := by omega
      have hn2 : (2 * (k : Int) + 1).toNat = 2 * k + 1 := by omega
      by_cases h1 : ps[k].2.length = 1
      · have hne : ((ps[k].2.length : Int) != 1) = false := by simp; omega
        have hd : (ps.take (k + 1)).all (fun p => p.2.length == 1) = (ps.take k).all (fun p => p.2.length == 1) := by
          rw [List.take_succ_eq_append_getElem hlt, List.all_append]
          simp [h1]
        have HD := Lib.hid hd
        clear hd
        go_wp2
        exact ⟨⟨k + 1, by omega, by congr 1, by first | rfl | trivial, by rw [HD.out]⟩, by simp [intOf]; omega⟩
      · have hne : ((ps[k].2.length : Int) != 1) = true := by simp; omega
        have hd : (ps.take (k + 1)).all (fun p => p.2.length == 1) = false := by
          rw [List.take_succ_eq_append_getElem hlt, List.all_append]
          simp [h1]
        have HD := Lib.hid hd
        clear hd
        go_wp2
        exact ⟨⟨k + 1, by omega, by congr 1, by first | rfl | trivial, by rw [HD.out]⟩, by simp [intOf]; omega⟩
    · obtain rfl : k = ps.length := by omega
      have hd : (ps.take ps.length).all (fun p => p.2.length == 1) = false := by
        rw [List.take_length]
        obtain ⟨p, hp, hp2⟩ := hone
        rw [List.all_eq_false]
        exact ⟨p, hp, by simpa using hp2⟩
      have hdiv : (2 * (ps.length : Int)).tdiv 2 = ps.length := by
        rw [Int.mul_comm, Int.mul_tdiv_cancel _ (by decide)]
      rw [hd]
      clear hd
      go_wp2_with (at_make; refine wpList_make_own _ rfl _ _ _ rfl wr.heap.size 9 i0 (.string ⟨#[]⟩) 1 Tryz.underlying23 hi hz0 hz1 .i64 .i64 _ ps.length rfl rfl (by omega) (by rw [hz2]; omega) (by unfold maxLen; omega) (Nat.le_refl _) ?_; intro wm hown hgrow; obtain ⟨W, hW, hW0, hW1, hW2, hW3, hW4⟩ := rep_store wm (.slice (some ⟨wr.heap.size, 0, none⟩) 0 ps.length) rfl)
      have hb0 : BB wr wr.heap.size wm.heap.size ps.length [] W := by
        refine ⟨⟨(Below.mk hgrow.os hgrow.tape hgrow.output hgrow.size fun k hk => hgrow.block k hk (by simp)).trans (hW3.mono hgrow.size)⟩, hgrow.size, Nat.ne_of_lt (hown.lt _ rfl).2, hW2, fun c _ => hW0 _ (by have := c.toNat_lt; omega), fun p hp => by simp at hp, hW1, ?_⟩
        exact hown.kept (row := none) ⟨hW3.os, hW3.tape, hW3.output, hW3.size, fun k hk _ => hW3.block k hk⟩ (.inr (by simp [Value.ownBlock]))
      have HB0 := Lib.hid hb0
      clear hb0 hW hW0 hW1 hW2 hW3 hW4 hown hgrow hk hlt
      generalize wr.heap.size = G at *
      generalize wm.heap.size = T at *
      have kc := fun (w : World) (s : ByteArray) => Lib.run_convert_string_bytes (P := Tryz.prog) w 9 34 5 s Tryz.underlying9 Tryz.underlying34 Tryz.underlying5
      have heq := eql_sl_nil
      obtain ⟨w0, rfl⟩ : ∃ w0 : World, w0 = wr := ⟨_, rfl⟩
      go_loopw [12] (fun i w => ∃ k : Nat, k ≤ ps.length ∧ i = .int .i64 (2 * k - 2 : Int) ∧ Hid (BB w0 G T ps.length (ps.drop k) w)) (fun i _ => (intOf i + 2).toNat)
      case atStart => exact ⟨ps.length, Nat.le_refl _, rfl, by rw [List.drop_length]; exact HB0⟩
      case round =>
        obtain ⟨k, hk, rfl, HB⟩ := hrel
        by_cases hlt : 0 < k
        · have hkl : k - 1 < ps.length := by omega
          obtain ⟨hc1, hc2⟩ := HP.out (k - 1) hkl
          have hd : ps.drop (k - 1) = ps[k - 1] :: ps.drop k := by
            rw [List.drop_eq_getElem_cons hkl]; congr 2; omega
          have hfresh : ∀ p ∈ ps.drop k, p.1 ≠ ps[k - 1].1 := by
            have hn := hnd
            rw [← List.take_append_drop (k - 1) ps, List.map_append, List.nodup_append, hd, List.map_cons, List.nodup_cons] at hn
            intro p hp h
            exact hn.2.1.1 (by rw [← h]; exact List.mem_map_of_mem hp)
          have hc3 := HB.out.none_ _ hfresh
          have hrow := HB.out.row
          have hown := HB.out.own
          have hfz := HB.out.free
          have hTG := HB.out.hne
          have hlen : (ps.drop k).length = ps.length - k := by simp
          rw [hlen] at hrow hown
          have hD := Lib.hid hd
          have hk1 := HB.out.fr.cell hc1
          have hk2 := HB.out.fr.cell hc2
          clear hd hc1 hc2
          generalize hq : ps.drop k = q at *
          generalize hp : ps[k - 1] = p at *
          have e1 : (2 * (k : Int) - 2).toNat = 2 * (k - 1) := by omega
          have e2 : (2 * (k : Int) - 2 + 1).toNat = 2 * (k - 1) + 1 := by omega
          have e3 : 0 ≤ 2 * (k : Int) - 2 := by omega
          have hix := ba_get [p.1]
          have hu := u8_lt p.1
          have HFR := Lib.hid hfresh
          clear hq hp hfresh
          have hcv := conv_one wr p.1
          have hTl := World.block_lt_of_cell? wr _ hrow
          go_wp2_with (at_builtin; refine wpList_append_fits _ rfl _ _ _ rfl w0.heap.size 9 i0 1 Tryz.underlying23 hi hz1 G (ps.length - k) ps.length (q.reverse.map fun p => S [p.1]) rfl ((hown.alloc _).alloc _) ⟨wr.heap.size + 1, 0, none⟩ 1 1 [S [p.1]] rfl rfl (World.news_of_block (cs := #[S [p.1]]) (t := 9) (fr := (0, 0)) (by have := heap_alloc_new (wr.alloc (.cells #[.int .u8 (p.1.toNat : Int)] 5)) (.cells #[S [p.1]] 9); simpa using this)) (by simp [Value.oneCell']) (by omega) ?_; intro w2 hown2 hgrow2; have hr2 : w2.cell? ⟨T, 256, none⟩ = some (.slice (some ⟨G, 0, none⟩) (ps.length - k) ps.length) := (World.cell?_of_block (w := wr) (bb_block hTl hTG hgrow2 T hTl (Ne.symm hTG))).trans hrow; obtain ⟨hm1, hm2, hm3⟩ := bb_mid HB.out p hc3 hTl hgrow2 (.slice (some ⟨G, 0, none⟩) (ps.length - k + 1) ps.length))
          exact ⟨⟨k - 1, by omega, by congr 1; omega, by rw [hD.out]; exact Lib.hid (bb_step HB.out p HFR.out hTl (hown.lt G rfl).2 hgrow2 (ps.length - k + 1) (by omega) hown2 _)⟩, by simp [intOf]; omega⟩
        · obtain rfl : k = 0 := by omega
          have hz : (2 * ((0 : Nat) : Int) - 2) = -2 := by omega
          rw [hz]
          go_wp2
          go_ret
          exact ⟨T, rfl, HB.out.fr, bb_rep ps hnd HB.out⟩
end Go.Proofs.YtogpmgjdmoglkaaGreatDoor
