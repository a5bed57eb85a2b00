/- Arguments, opened: URLs. -/
import Derived.Test.YtogpmgjdmoglkaaGreatDoorHYi
import Derived.Test.YtogpmgjdmoglkaaGreatDoorHYj
set_option linter.unusedVariables false
set_option linter.unusedSimpArgs false
namespace Go.Proofs.YtogpmgjdmoglkaaGreatDoor
open Go.ChangeShapes Go.WideShapes Go.ChangeAt Go.RowKit Go.Deep Go.Joins Pu
section
variable {H : Type} {enc : TypeId × Value → H}
set_option maxRecDepth 100000 in
theorem open_strs11 {W : World} {n : Nat} {v : Value} {y : DataW H × List MemPlace} (h : DataW.trod enc Tryz.prog W 0 (fun _ => true) true n 23 [v] = some y) (hw : ∀ k ∈ y.1.weights Tryz.prog 23, k ≤ reachBytes) :
    ∃ ps : List Bs, ps.length ≤ 140737488355328 ∧ (∀ p ∈ ps, p.length ≤ 140737488355328) ∧ Row1 v (Ss ps) W := by
  have c9 : Tryz.prog.cellsOf 9 = 1 := by kernel_rfl
  have hb : Tryz.prog.bytesOf 9 = 16 := by kernel_rfl
  rcases open_slice1 Tryz.underlying23 c9 h with ⟨hcs, hx⟩ | ⟨a, len, cap, m, n2, V, D, P, hcs, _, hl, hm, hmm, hx, hc⟩
  · simp at hcs
    subst hcs
    exact ⟨[], by decide, (fun p hp => by cases hp), Row1.nil W⟩
  · simp at hcs
    subst hcs
    simp only [if_true] at hmm
    have hy : y.1 = .slice ((List.range len).map D) ((List.range (m - len)).map fun j => D (len + j)) := by rw [hx]
    rw [hy] at hw
    subst hmm
    have hun : Tryz.prog.underlying 23 = some (.slice 9) := Tryz.underlying23
    have hwn : len * 16 ≤ reachBytes := by
      have := hw ((((List.range len).map D).length + ((List.range (m - len)).map fun j => D (len + j)).length) * Tryz.prog.bytesOf 9) (by
        rw [DataW.weights, hun]; exact List.mem_cons_self ..)
      rw [hb] at this
      simp at this; omega
    have each : ∀ i, i < len → ∃ q : ByteArray, V i = .string q ∧ q.size ≤ reachBytes := fun i hi => by
      obtain ⟨_, h3⟩ := hc i (by omega)
      obtain ⟨s0, e0, f0, l0⟩ := DataW.trod_string Tryz.underlying9 h3
      have g0 : D i = .lit (.string s0.data.toList) := (Prod.mk.inj f0).1
      have hmem : D i ∈ (List.range len).map D := List.mem_map.2 ⟨i, List.mem_range.2 hi, rfl⟩
      have k0 := hw s0.data.toList.length (by
        rw [DataW.weights, hun]
        refine List.mem_cons_of_mem _ (List.mem_append_left _ (weights_all hmem _ ?_))
        rw [g0]; simp [DataW.weights])
      rw [str_len] at k0
      exact ⟨s0, by simpa using e0, k0⟩
    obtain ⟨Q, hQ⟩ := choose_lt each
    have hlen : ((List.range len).map fun i => (Q i).data.toList).length = len := by simp
    have hlen2 : (Ss ((List.range len).map fun i => (Q i).data.toList)).length = len := by simp
    refine ⟨(List.range len).map fun i => (Q i).data.toList, by rw [hlen]; unfold reachBytes at hwn; omega, fun p hp => ?_, some a, m, by rw [hlen2], fun j hj => ?_⟩
    · simp only [List.mem_map, List.mem_range] at hp
      obtain ⟨i, hi, rfl⟩ := hp
      obtain ⟨_, l0⟩ := hQ i hi
      unfold reachBytes at l0
      simp only [str_len]
      omega
    · rw [hlen2] at hj
      obtain ⟨e0, _⟩ := hQ j hj
      obtain ⟨h1, _⟩ := hc j (by omega)
      have ha := addr_none (by have := (hc 0 (by omega)).1; simpa using this : W.cell? (a.add 0) = some (V 0))
      rw [ha, Addr.add_lit] at h1
      refine ⟨a.block, a.off, by rw [← ha], ?_⟩
      rw [h1, e0, str_S]; simp
theorem open_s {W : World} {n : Nat} {v : Value} {y : DataW H × List MemPlace} (h : DataW.trod enc Tryz.prog W 0 (fun _ => true) true n 9 [v] = some y) (hw : ∀ k ∈ y.1.weights Tryz.prog 9, k ≤ reachBytes) :
    ∃ s : Bs, v = S s ∧ s.length ≤ 140737488355328 := by
  obtain ⟨s, e0, f0, l0⟩ := DataW.trod_string Tryz.underlying9 h
  subst f0
  have := hw s.data.toList.length (by simp [DataW.weights])
  unfold reachBytes at this
  simp at e0
  exact ⟨s.data.toList, by rw [e0, str_S], by omega⟩
theorem list13 {α : Type} {l : List α} (h : l.length = 13) : ∃ a0 a1 a2 a3 a4 a5 a6 a7 a8 a9 a10 a11 a12, l = [a0, a1, a2, a3, a4, a5, a6, a7, a8, a9, a10, a11, a12] := by
  match l, h with
  | [a0, a1, a2, a3, a4, a5, a6, a7, a8, a9, a10, a11, a12], _ => exact ⟨a0, a1, a2, a3, a4, a5, a6, a7, a8, a9, a10, a11, a12, rfl⟩
set_option maxRecDepth 100000 in
set_option maxHeartbeats 4000000 in
theorem open_url {W : World} {base : Nat} {v : Value} {d : DataW H} {p : List MemPlace} (hval : Value.okWide Tryz.prog W .any base 25 v) (h : DataW.Trod enc Tryz.prog W 0 (fun _ => true) true 25 v d p) (hw : ∀ k ∈ d.weights Tryz.prog 25, k ≤ reachBytes) :
    ∃ (u : Url) (pv : Value), v = urlV u pv ∧ LongU u ∧ Row1 pv (Ss u.path) W := by
  have hus := Tryz.underlying25
  obtain ⟨cs, rfl, hsz⟩ := okWide_struct hus hval
  have hC : Tryz.prog.cellsOf 25 = 13 := by kernel_rfl
  obtain ⟨v0, v1, v2, v3, v4, v5, v6, v7, v8, v9, v10, v11, v12, hcs⟩ := list13 (l := cs.toList) (by rw [Array.length_toList]; exact hsz.trans hC)
  obtain rfl : cs = #[v0, v1, v2, v3, v4, v5, v6, v7, v8, v9, v10, v11, v12] := by rw [← hcs]
  clear hcs hsz hval
  obtain ⟨fuel, hf⟩ := h
  obtain ⟨xs, n, _, hx, _, hxl, hxs⟩ := DataW.trod_struct hus hf
  obtain ⟨y0, y1, y2, y3, y4, y5, y6, y7, y8, y9, y10, y11, y12, rfl⟩ := list13 (l := xs) (hxl.trans rfl)
  obtain ⟨rfl, _⟩ := Prod.mk.inj hx
  clear hx hxl hf
  rw [DataW.weights, show Tryz.prog.underlying 25 = some _ from hus] at hw
  have c_string : Tryz.prog.cellsOf 9 = 1 := by kernel_rfl
  have c_bool : Tryz.prog.cellsOf 4 = 1 := by kernel_rfl
  have c_int : Tryz.prog.cellsOf 3 = 1 := by kernel_rfl
  have c_strs : Tryz.prog.cellsOf 23 = 1 := by kernel_rfl
  have t0 : DataW.trod enc Tryz.prog W 0 (fun _ => true) true n 9 [v0] = some y0 := by
    have hh := hxs 0 _ rfl
    simpa [Value.cells, c_string] using hh
  have t1 : DataW.trod enc Tryz.prog W 0 (fun _ => true) true n 9 [v1] = some y1 := by
    have hh := hxs 1 _ rfl
    simpa [Value.cells, c_string] using hh
  have t2 : DataW.trod enc Tryz.prog W 0 (fun _ => true) true n 9 [v2] = some y2 := by
    have hh := hxs 2 _ rfl
    simpa [Value.cells, c_string] using hh
  have t3 : DataW.trod enc Tryz.prog W 0 (fun _ => true) true n 9 [v3] = some y3 := by
    have hh := hxs 3 _ rfl
    simpa [Value.cells, c_string] using hh
  have t4 : DataW.trod enc Tryz.prog W 0 (fun _ => true) true n 4 [v4] = some y4 := by
    have hh := hxs 4 _ rfl
    simpa [Value.cells, c_bool] using hh
  have t5 : DataW.trod enc Tryz.prog W 0 (fun _ => true) true n 3 [v5] = some y5 := by
    have hh := hxs 5 _ rfl
    simpa [Value.cells, c_int] using hh
  have t6 : DataW.trod enc Tryz.prog W 0 (fun _ => true) true n 4 [v6] = some y6 := by
    have hh := hxs 6 _ rfl
    simpa [Value.cells, c_bool] using hh
  have t7 : DataW.trod enc Tryz.prog W 0 (fun _ => true) true n 9 [v7] = some y7 := by
    have hh := hxs 7 _ rfl
    simpa [Value.cells, c_string] using hh
  have t8 : DataW.trod enc Tryz.prog W 0 (fun _ => true) true n 23 [v8] = some y8 := by
    have hh := hxs 8 _ rfl
    simpa [Value.cells, c_strs] using hh
  have t9 : DataW.trod enc Tryz.prog W 0 (fun _ => true) true n 4 [v9] = some y9 := by
    have hh := hxs 9 _ rfl
    simpa [Value.cells, c_bool] using hh
  have t10 : DataW.trod enc Tryz.prog W 0 (fun _ => true) true n 4 [v10] = some y10 := by
    have hh := hxs 10 _ rfl
    simpa [Value.cells, c_bool] using hh
  have t11 : DataW.trod enc Tryz.prog W 0 (fun _ => true) true n 9 [v11] = some y11 := by
    have hh := hxs 11 _ rfl
    simpa [Value.cells, c_string] using hh
  have t12 : DataW.trod enc Tryz.prog W 0 (fun _ => true) true n 9 [v12] = some y12 := by
    have hh := hxs 12 _ rfl
    simpa [Value.cells, c_string] using hh
  clear hxs
  simp only [List.map_cons, List.map_nil, DataW.weightsEach, List.mem_append] at hw
  obtain ⟨s0, rfl, l0⟩ := open_s t0 (fun k hk => hw k (by simp [hk]))
  obtain ⟨s1, rfl, l1⟩ := open_s t1 (fun k hk => hw k (by simp [hk]))
  obtain ⟨s2, rfl, l2⟩ := open_s t2 (fun k hk => hw k (by simp [hk]))
  obtain ⟨s3, rfl, l3⟩ := open_s t3 (fun k hk => hw k (by simp [hk]))
  obtain ⟨b4, e4, _⟩ := DataW.trod_bool Tryz.underlying4 t4
  simp at e4
  subst e4
  obtain ⟨n5, e5, _, wf5⟩ := DataW.trod_int Tryz.underlying3 t5
  simp at e5
  subst e5
  obtain ⟨b6, e6, _⟩ := DataW.trod_bool Tryz.underlying4 t6
  simp at e6
  subst e6
  obtain ⟨s7, rfl, l7⟩ := open_s t7 (fun k hk => hw k (by simp [hk]))
  obtain ⟨ps, hn, hps, hrow⟩ := open_strs11 t8 (fun k hk => hw k (by simp [hk]))
  obtain ⟨b9, e9, _⟩ := DataW.trod_bool Tryz.underlying4 t9
  simp at e9
  subst e9
  obtain ⟨b10, e10, _⟩ := DataW.trod_bool Tryz.underlying4 t10
  simp at e10
  subst e10
  obtain ⟨s11, rfl, l11⟩ := open_s t11 (fun k hk => hw k (by simp [hk]))
  obtain ⟨s12, rfl, l12⟩ := open_s t12 (fun k hk => hw k (by simp [hk]))
  have hport : -9223372036854775808 ≤ n5 ∧ n5 ≤ 9223372036854775807 := by simpa [Lit.wf, IntKind.min, IntKind.max, IntKind.signed, IntKind.bits] using wf5
  exact ⟨⟨s0, s1, s2, s3, b4, n5, b6, s7, ps, b9, b10, s11, s12⟩, v8, rfl, ⟨l0, l1, l2, l3, l7, l11, l12, hport.1, hport.2, hn, hps⟩, hrow⟩
end
end Go.Proofs.YtogpmgjdmoglkaaGreatDoor
