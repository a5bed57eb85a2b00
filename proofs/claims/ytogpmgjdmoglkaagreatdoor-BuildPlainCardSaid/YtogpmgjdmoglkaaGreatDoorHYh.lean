/- Arguments, opened: types. -/
import Derived.Test.YtogpmgjdmoglkaaGreatDoorHYf
import Derived.Test.YtogpmgjdmoglkaaGreatDoorHZc
set_option linter.unusedVariables false
set_option linter.unusedSimpArgs false
namespace Go.Proofs.YtogpmgjdmoglkaaGreatDoor
open Go.ChangeShapes Go.WideShapes Go.ChangeAt Go.RowKit Go.Deep Go.Joins Pu

section
variable {H : Type} {enc : TypeId × Value → H}
theorem str_len (s : ByteArray) : s.data.toList.length = s.size := by rw [Array.length_toList]; rfl
theorem weights_all {P : Program} {e : TypeId} {d : DataW H} : ∀ {l : List (DataW H)}, d ∈ l → ∀ n ∈ d.weights P e, n ∈ DataW.weightsAll P e l
  | [], h, _, _ => by cases h
  | x :: r, h, n, hn => by
    rw [DataW.weightsAll]
    rcases List.mem_cons.1 h with rfl | h
    · exact List.mem_append_left _ hn
    · exact List.mem_append_right _ (weights_all h n hn)
set_option maxRecDepth 100000 in
theorem open_params {W : World} {n : Nat} {v : Value} {y : DataW H × List MemPlace} (h : DataW.trod enc Tryz.prog W 0 (fun _ => true) true n 31 [v] = some y) (hw : ∀ k ∈ y.1.weights Tryz.prog 31, k ≤ reachBytes) :
    ∃ (ps : List (Bs × Bs)) (A : Option Addr) (cap : Nat), v = .slice A ps.length cap ∧ ps.length ≤ cap ∧ ps.length ≤ 140737488355328 ∧ (∀ p ∈ ps, p.1.length ≤ 140737488355328 ∧ p.2.length ≤ 140737488355328) ∧ Row2 (.slice A ps.length cap) ps W := by
  have ct : Tryz.prog.cellsOf 82 = 2 := by kernel_rfl
  have c9 : Tryz.prog.cellsOf 9 = 1 := by kernel_rfl
  have hb : Tryz.prog.bytesOf 82 = 32 := by kernel_rfl
  rcases open_slice_pairs Tryz.underlying31 Tryz.underlying82 ct rfl rfl c9 c9 h with ⟨hcs, hx⟩ | ⟨a, len, cap, m, n2, V0, V1, D0, D1, P0, P1, hcs, _, hl, hm, hmm, hx, hc⟩
  · simp at hcs
    subst hcs
    exact ⟨[], none, 0, rfl, Nat.le_refl _, by decide, ⟨(fun p hp => by cases hp), Row2.nil W⟩⟩
  · simp at hcs
    subst hcs
    simp only [if_true] at hmm
    have hy : y.1 = .slice ((List.range len).map fun i => .agg [D0 i, D1 i]) ((List.range (m - len)).map fun j => .agg [D0 (len + j), D1 (len + j)]) := by rw [hx]
    rw [hy] at hw
    subst hmm
    have hun : Tryz.prog.underlying 31 = some (.slice 82) := Tryz.underlying31
    have hwn : len * 32 ≤ reachBytes := by
      have := hw ((((List.range len).map fun i => (DataW.agg [D0 i, D1 i] : DataW H)).length + ((List.range (m - len)).map fun j => (DataW.agg [D0 (len + j), D1 (len + j)] : DataW H)).length) * Tryz.prog.bytesOf 82) (by
        rw [DataW.weights, hun]; exact List.mem_cons_self ..)
      rw [hb] at this
      simp at this; omega
    have each : ∀ i, i < len → ∃ q : ByteArray × ByteArray, V0 i = .string q.1 ∧ V1 i = .string q.2 ∧ q.1.size ≤ reachBytes ∧ q.2.size ≤ reachBytes := fun i hi => by
      obtain ⟨_, _, h3, h4⟩ := hc i (by omega)
      obtain ⟨s0, e0, f0, l0⟩ := DataW.trod_string Tryz.underlying9 h3
      obtain ⟨s1, e1, f1, l1⟩ := DataW.trod_string Tryz.underlying9 h4
      have g0 : D0 i = .lit (.string s0.data.toList) := (Prod.mk.inj f0).1
      have g1 : D1 i = .lit (.string s1.data.toList) := (Prod.mk.inj f1).1
      have hmem : (DataW.agg [D0 i, D1 i] : DataW H) ∈ (List.range len).map fun i => (DataW.agg [D0 i, D1 i] : DataW H) := List.mem_map.2 ⟨i, List.mem_range.2 hi, rfl⟩
      have hall : ∀ k ∈ (DataW.agg [D0 i, D1 i] : DataW H).weights Tryz.prog 82, k ≤ reachBytes := fun k hk => hw k (by
        rw [DataW.weights, hun]
        exact List.mem_cons_of_mem _ (List.mem_append_left _ (weights_all hmem k hk)))
      have hus : Tryz.prog.underlying 82 = some _ := Tryz.underlying82
      rw [g0, g1] at hall
      have k0 := hall s0.data.toList.length (by rw [DataW.weights, hus]; simp [DataW.weightsEach, DataW.weights])
      have k1 := hall s1.data.toList.length (by rw [DataW.weights, hus]; simp [DataW.weightsEach, DataW.weights])
      rw [str_len] at k0 k1
      exact ⟨(s0, s1), by simpa using e0, by simpa using e1, k0, k1⟩
    obtain ⟨Q, hQ⟩ := choose_lt each
    have hlen : ((List.range len).map fun i => ((Q i).1.data.toList, (Q i).2.data.toList)).length = len := by simp
    refine ⟨(List.range len).map fun i => ((Q i).1.data.toList, (Q i).2.data.toList), some a, m, by rw [hlen], by rw [hlen]; exact hl, by rw [hlen]; unfold reachBytes at hwn; omega, fun p hp => ?_, some a, m, by rw [hlen], fun j hj => ?_⟩
    · simp only [List.mem_map, List.mem_range] at hp
      obtain ⟨i, hi, rfl⟩ := hp
      obtain ⟨_, _, l0, l1⟩ := hQ i hi
      unfold reachBytes at l0 l1
      simp only [str_len]
      omega
    · rw [hlen] at hj
      obtain ⟨e0, e1, _, _⟩ := hQ j hj
      obtain ⟨h1, h2, _, _⟩ := hc j (by omega)
      have ha := addr_none (by have := (hc 0 (by omega)).1; simpa using this : W.cell? (a.add 0) = some (V0 0))
      rw [ha, Addr.add_lit] at h1 h2
      refine ⟨a.block, a.off, by rw [← ha], ?_, ?_⟩
      · rw [h1, e0, str_S]; simp
      · rw [show a.off + j * 2 + 1 = a.off + (j * 2 + 1) from rfl, h2, e1, str_S]; simp
set_option maxRecDepth 100000 in
theorem open_mime {W : World} {base : Nat} {v : Value} {d : DataW H} {p : List MemPlace} (hval : Value.okWide Tryz.prog W .any base 33 v) (h : DataW.Trod enc Tryz.prog W 0 (fun _ => true) true 33 v d p) (hw : ∀ k ∈ d.weights Tryz.prog 33, k ≤ reachBytes) :
    ∃ (m : Mime) (A : Option Addr) (cap : Nat), v = mimeV m (.slice A m.params.length cap) ∧ m.params.length ≤ cap ∧ LongM m ∧ Row2 (.slice A m.params.length cap) m.params W := by
  obtain ⟨v0, v1, v2, y0, y1, y2, n, rfl, rfl, _, h0, h1, h2⟩ := open_agg3 Tryz.underlying33 (by kernel_rfl) (by kernel_rfl) hval h
  obtain ⟨s0, e0, f0, l0⟩ := DataW.trod_string Tryz.underlying9 h0
  obtain ⟨s1, e1, f1, l1⟩ := DataW.trod_string Tryz.underlying9 h1
  have hus : Tryz.prog.underlying 33 = some _ := Tryz.underlying33
  rw [DataW.weights, hus, f0, f1] at hw
  simp only [List.map_cons, List.map_nil, DataW.weightsEach, DataW.weights, List.mem_append, List.mem_singleton] at hw
  have k0 := hw s0.data.toList.length (by simp)
  have k1 := hw s1.data.toList.length (by simp)
  obtain ⟨ps, A, cap, rfl, hc, hn, hp, hr⟩ := open_params h2 (fun k hk => hw k (by simp [hk]))
  simp at e0 e1
  subst e0 e1
  rw [str_len] at k0 k1
  unfold reachBytes at k0 k1
  refine ⟨⟨s0.data.toList, s1.data.toList, ps⟩, A, cap, ?_, hc, ⟨by simp only [str_len]; omega, by simp only [str_len]; omega, hn, hp⟩, hr⟩
  unfold mimeV
  rw [str_S, str_S]
end
end Go.Proofs.YtogpmgjdmoglkaaGreatDoor
