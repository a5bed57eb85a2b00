/- Walks: the document's URL, written without its fragment. -/
import Derived.Test.YtogpmgjdmoglkaaGreatDoorHVq
set_option linter.unusedVariables false
set_option linter.unusedSimpArgs false
namespace Go.Proofs.YtogpmgjdmoglkaaGreatDoor
open Go.RowKit Pu

/-- What stands ahead of the path. -/
def printA (sch us ps ho : Bs) (hh : Bool) (po : Int) (d : Bool) : Bs :=
  sch ++ 58 :: (if hh then [47, 47] ++ us ++ (if ps = [] then [] else 58 :: ps) ++ (if us = [] ∧ ps = [] then [] else [64]) ++ ho ++ (if po = -1 then [] else 58 :: Lib.itoa po) else if d then [47, 46] else [])
theorem printA_eq (u : Url) : urlBare u = printA u.scheme u.user u.pass u.host u.hasHost u.port (dotB u) ++ (urlPath u ++ (if u.hasQuery then 63 :: u.query else [])) := by
  unfold urlBare printA
  rw [dot_of]
  unfold urlAuth
  cases h : u.hasHost
  · simp
  · have : dotB u = false := by unfold dotB; simp [h]
    simp [this]
theorem printA_len (u : Url) (h : Short u) : (printA u.scheme u.user u.pass u.host u.hasHost u.port (dotB u)).length ≤ 6000000000 := by
  have h1 := urlAuth_le u h
  have h2 := h.scheme
  have e : printA u.scheme u.user u.pass u.host u.hasHost u.port (dotB u) = u.scheme ++ 58 :: (urlAuth u ++ urlDot u) := by
    unfold printA
    rw [dot_of]
    unfold urlAuth
    cases h : u.hasHost
    · simp
    · have : dotB u = false := by unfold dotB; simp [h]
      simp [this]
  rw [e]
  have h3 : (urlDot u).length ≤ 2 := by unfold urlDot; split <;> simp
  simp; omega
set_option maxRecDepth 100000 in
set_option maxHeartbeats 40000000 in
theorem rprint_yes (u : Url) (h : Short u) (hhe : u.hasHost = true) (pv : Value) (w : World) (hp : Row1 pv (Ss u.path) w) : Calls Tryz.prog 25 #[urlV u pv, .bool false] w fun e w' => e = .returned (S (urlBare u)) ∧ Fr w w' := by
  have HP : Hid (∀ w2, Fr w w2 → Calls Tryz.prog 61 #[urlV u pv] w2 fun e w' => e = .returned (S (urlPath u)) ∧ Fr w2 w') := Lib.hid fun w2 hf => rpath_any u h pv w2 (hp.fr hf)
  have hPl := urlPath_le u h
  have hXl := printA_len u h
  rw [printA_eq u]
  have h1 := h.scheme; have h2 := h.user; have h3 := h.pass; have h4 := h.host; have h5 := h.query; have h7 := h.p0; have h8 := h.p1
  have hit := itoa_le u.port h7 h8
  have HPo : Hid (∀ w, Calls Tryz.prog 60 #[.int .i64 u.port] w fun e w' => e = .returned (S (Lib.itoa u.port)) ∧ Fr w w') := Lib.hid fun w => port_any u.port h7 h8 w
  have HX : Hid (∀ us ps po, u.user = us → u.pass = ps → u.port = po → ∀ d, dotB u = d → printA u.scheme u.user u.pass u.host u.hasHost u.port (dotB u) = printA u.scheme us ps u.host true po d) := Lib.hid (by rintro us ps po rfl rfl rfl d rfl; rw [hhe])
  have HD := Lib.hid (show ∀ oo, u.opq = oo → dotB u = decide (u.hasHost = false ∧ oo = false ∧ 1 < u.path.length ∧ u.path.head? = some []) from by rintro oo rfl; rfl)
  generalize urlPath u = Pt at *
  have hcc := fun (a b : Bs) => cat2 a b
  generalize printA u.scheme u.user u.pass u.host u.hasHost u.port (dotB u) = X at *
  unfold urlV at HP ⊢
  rw [hhe] at HP HD ⊢
  have F0 : Fr w (w.alloc (Obj.cells #[S u.scheme, S u.user, S u.pass, S u.host, .bool true, .int .i64 u.port, .bool u.opq, S u.text, pv, .bool u.hasQuery, .bool u.hasFrag, S u.query, S u.frag] 25)) := (Fr.refl w).alloc _
  have B0 : Blk w.heap.size #[S u.scheme, S u.user, S u.pass, S u.host, .bool true, .int .i64 u.port, .bool u.opq, S u.text, pv, .bool u.hasQuery, .bool u.hasFrag, S u.query, S u.frag] 25 (w.alloc (Obj.cells #[S u.scheme, S u.user, S u.pass, S u.host, .bool true, .int .i64 u.port, .bool u.opq, S u.text, pv, .bool u.hasQuery, .bool u.hasFrag, S u.query, S u.frag] 25)) := ⟨heap_alloc_new w _⟩
  have k0 : (w.alloc (Obj.cells #[S u.scheme, S u.user, S u.pass, S u.host, .bool true, .int .i64 u.port, .bool u.opq, S u.text, pv, .bool u.hasQuery, .bool u.hasFrag, S u.query, S u.frag] 25)).cell? ⟨w.heap.size, 0, none⟩ = some (S u.scheme) := B0.cell rfl
  have k4 : (w.alloc (Obj.cells #[S u.scheme, S u.user, S u.pass, S u.host, .bool true, .int .i64 u.port, .bool u.opq, S u.text, pv, .bool u.hasQuery, .bool u.hasFrag, S u.query, S u.frag] 25)).cell? ⟨w.heap.size, 4, none⟩ = some (.bool true) := B0.cell rfl
  clear h
  go_enter Tryz.func25, Tryz.ntmps25
  go_upto_if 10 with fail
  generalize hW0 : w.alloc (Obj.cells #[S u.scheme, S u.user, S u.pass, S u.host, .bool true, .int .i64 u.port, .bool u.opq, S u.text, pv, .bool u.hasQuery, .bool u.hasFrag, S u.query, S u.frag] 25) = W0 at *
  clear hW0
  go_cut [5] from 11 to 62 (fun v wx => v = S X ∧ Fr w wx ∧ Blk w.heap.size #[S u.scheme, S u.user, S u.pass, S u.host, .bool true, .int .i64 u.port, .bool u.opq, S u.text, pv, .bool u.hasQuery, .bool u.hasFrag, S u.query, S u.frag] 25 wx)
  case first =>
    have k1 : W0.cell? ⟨w.heap.size, 1, none⟩ = some (S u.user) := B0.cell rfl
    have k2 : W0.cell? ⟨w.heap.size, 2, none⟩ = some (S u.pass) := B0.cell rfl
    have k3 : W0.cell? ⟨w.heap.size, 3, none⟩ = some (S u.host) := B0.cell rfl
    have k5 : W0.cell? ⟨w.heap.size, 5, none⟩ = some (.int .i64 u.port) := B0.cell rfl
    have k6 : W0.cell? ⟨w.heap.size, 6, none⟩ = some (.bool u.opq) := B0.cell rfl
    have k8 : W0.cell? ⟨w.heap.size, 8, none⟩ = some pv := B0.cell rfl
    have HX2 := Lib.hid (fun us ps po e1 e2 e3 => HX.out us ps po e1 e2 e3 _ rfl)
    clear HX HD k6 k8 HP
    obtain ⟨us, hus⟩ : ∃ b, u.user = b := ⟨_, rfl⟩
    obtain ⟨ps, hps⟩ : ∃ b, u.pass = b := ⟨_, rfl⟩
    obtain ⟨po, hpo⟩ : ∃ b, u.port = b := ⟨_, rfl⟩
    have HX3 := Lib.hid (HX2.out us ps po hus hps hpo)
    rw [hus] at k1 h2
    rw [hps] at k2 h3
    rw [hpo] at k5 HPo hit h7 h8
    clear HX2 hus hps hpo hhe
    by_cases hpa : ps = []
    · subst hpa
      by_cases hus : us = []
      · subst hus
        by_cases hpo : po = -1
        · subst hpo
          go_wp2
          go_meet
          exact ⟨by rw [HX3.out]; simp [printA], F0, B0⟩
        · have hpo2 : (po != -1) = true := by simp [hpo]
          go_wp2_with fail
          refine (HPo.out _).mono ?_
          rintro e w2 ⟨rfl, f1⟩
          go_wp2
          go_meet
          exact ⟨by rw [HX3.out]; simp [printA, hpo], F0.trans f1, B0.fr f1⟩
      · have hus2 : (us == []) = false := by rw [beq_eq_false_iff_ne]; exact hus
        have hus3 : (us != []) = true := by rw [bne_iff_ne]; exact hus
        by_cases hpo : po = -1
        · subst hpo
          go_wp2
          go_meet
          exact ⟨by rw [HX3.out]; simp [printA, hus], F0, B0⟩
        · have hpo2 : (po != -1) = true := by simp [hpo]
          go_wp2_with fail
          refine (HPo.out _).mono ?_
          rintro e w2 ⟨rfl, f1⟩
          go_wp2
          go_meet
          exact ⟨by rw [HX3.out]; simp [printA, hus, hpo], F0.trans f1, B0.fr f1⟩
    · have hpa2 : (ps == []) = false := by rw [beq_eq_false_iff_ne]; exact hpa
      have hpa3 : (ps != []) = true := by rw [bne_iff_ne]; exact hpa
      by_cases hus : us = []
      · subst hus
        by_cases hpo : po = -1
        · subst hpo
          go_wp2
          go_meet
          exact ⟨by rw [HX3.out]; simp [printA, hpa], F0, B0⟩
        · have hpo2 : (po != -1) = true := by simp [hpo]
          go_wp2_with fail
          refine (HPo.out _).mono ?_
          rintro e w2 ⟨rfl, f1⟩
          go_wp2
          go_meet
          exact ⟨by rw [HX3.out]; simp [printA, hpa, hpo], F0.trans f1, B0.fr f1⟩
      · have hus2 : (us == []) = false := by rw [beq_eq_false_iff_ne]; exact hus
        have hus3 : (us != []) = true := by rw [bne_iff_ne]; exact hus
        have hup : (us ++ ps == []) = false := by rw [beq_eq_false_iff_ne]; simp [hpa]
        have hup2 : (us ++ ps != []) = true := by rw [bne_iff_ne]; simp [hpa]
        by_cases hpo : po = -1
        · subst hpo
          go_wp2
          go_meet
          exact ⟨by rw [HX3.out]; simp [printA, hpa, hus], F0, B0⟩
        · have hpo2 : (po != -1) = true := by simp [hpo]
          go_wp2_with fail
          refine (HPo.out _).mono ?_
          rintro e w2 ⟨rfl, f1⟩
          go_wp2
          go_meet
          exact ⟨by rw [HX3.out]; simp [printA, hpa, hus, hpo], F0.trans f1, B0.fr f1⟩
  case rest =>
    obtain ⟨rfl, f2, bB2⟩ := hcut
    have hrr : wc.rangeAt w.heap.size 0 [S u.scheme, S u.user, S u.pass, S u.host, .bool true, .int .i64 u.port, .bool u.opq, S u.text, pv, .bool u.hasQuery, .bool u.hasFrag, S u.query, S u.frag] := fun j v hv => by rw [Nat.zero_add]; exact bB2.cell (by simpa using hv)
    have HB2 := Lib.hid bB2
    clear HX HD HPo B0 F0 k0 k4 bB2
    obtain ⟨hqb, hqe⟩ : ∃ b, u.hasQuery = b := ⟨_, rfl⟩
    obtain ⟨hfb, hfe⟩ : ∃ b, u.hasFrag = b := ⟨_, rfl⟩
    have HQ := Lib.hid hqe
    have HFr := Lib.hid hfe
    clear hqe hfe
    cases hqb <;> cases hfb
    all_goals
      go_wp2_with (first
        | (refine wpList_load_mid rfl 25 (.tmp 2) rfl w.heap.size 0 rfl [S u.scheme, S u.user, S u.pass, S u.host, .bool true, .int .i64 u.port, .bool u.opq, S u.text, pv, .bool u.hasQuery, .bool u.hasFrag, S u.query, S u.frag] _ hrr Tryz.underlying25 rfl (by kernel_rfl) ?_)
        | (go_at_call 61; refine (HP.out _ f2).mono ?_; rintro e w2 ⟨rfl, hf2⟩; have k9 : w2.cell? ⟨w.heap.size, 9, none⟩ = some (.bool u.hasQuery) := (HB2.out.fr hf2).cell rfl; rw [HQ.out] at k9; have k10 : w2.cell? ⟨w.heap.size, 10, none⟩ = some (.bool u.hasFrag) := (HB2.out.fr hf2).cell rfl; rw [HFr.out] at k10; have k11 : w2.cell? ⟨w.heap.size, 11, none⟩ = some (S u.query) := (HB2.out.fr hf2).cell rfl))
    all_goals go_ret
    all_goals
      have hq := HQ.out
      refine ⟨ret_s ?_, f2.trans hf2⟩
      first
        | (exact absurd (hq.symm.trans h) (by decide))
        | (exact absurd hq h)
        | (simp; done)
        | (rw [hq]; simp; done)
set_option maxRecDepth 100000 in
set_option maxHeartbeats 40000000 in
theorem rprint_no (u : Url) (h : Short u) (hhe : u.hasHost = false) (pv : Value) (w : World) (hp : Row1 pv (Ss u.path) w) : Calls Tryz.prog 25 #[urlV u pv, .bool false] w fun e w' => e = .returned (S (urlBare u)) ∧ Fr w w' := by
  have HP : Hid (∀ w2, Fr w w2 → Calls Tryz.prog 61 #[urlV u pv] w2 fun e w' => e = .returned (S (urlPath u)) ∧ Fr w2 w') := Lib.hid fun w2 hf => rpath_any u h pv w2 (hp.fr hf)
  have hPl := urlPath_le u h
  have hXl := printA_len u h
  rw [printA_eq u]
  have h1 := h.scheme; have h2 := h.user; have h3 := h.pass; have h4 := h.host; have h5 := h.query; have h7 := h.p0; have h8 := h.p1
  have hit := itoa_le u.port h7 h8
  have HPo : Hid (∀ w, Calls Tryz.prog 60 #[.int .i64 u.port] w fun e w' => e = .returned (S (Lib.itoa u.port)) ∧ Fr w w') := Lib.hid fun w => port_any u.port h7 h8 w
  have HX : Hid (∀ us ps po, u.user = us → u.pass = ps → u.port = po → ∀ d, dotB u = d → printA u.scheme u.user u.pass u.host u.hasHost u.port (dotB u) = printA u.scheme us ps u.host false po d) := Lib.hid (by rintro us ps po rfl rfl rfl d rfl; rw [hhe])
  have HD := Lib.hid (show ∀ oo, u.opq = oo → dotB u = decide (u.hasHost = false ∧ oo = false ∧ 1 < u.path.length ∧ u.path.head? = some []) from by rintro oo rfl; rfl)
  generalize urlPath u = Pt at *
  have hcc := fun (a b : Bs) => cat2 a b
  generalize printA u.scheme u.user u.pass u.host u.hasHost u.port (dotB u) = X at *
  unfold urlV at HP ⊢
  rw [hhe] at HP HD ⊢
  have F0 : Fr w (w.alloc (Obj.cells #[S u.scheme, S u.user, S u.pass, S u.host, .bool false, .int .i64 u.port, .bool u.opq, S u.text, pv, .bool u.hasQuery, .bool u.hasFrag, S u.query, S u.frag] 25)) := (Fr.refl w).alloc _
  have B0 : Blk w.heap.size #[S u.scheme, S u.user, S u.pass, S u.host, .bool false, .int .i64 u.port, .bool u.opq, S u.text, pv, .bool u.hasQuery, .bool u.hasFrag, S u.query, S u.frag] 25 (w.alloc (Obj.cells #[S u.scheme, S u.user, S u.pass, S u.host, .bool false, .int .i64 u.port, .bool u.opq, S u.text, pv, .bool u.hasQuery, .bool u.hasFrag, S u.query, S u.frag] 25)) := ⟨heap_alloc_new w _⟩
  have k0 : (w.alloc (Obj.cells #[S u.scheme, S u.user, S u.pass, S u.host, .bool false, .int .i64 u.port, .bool u.opq, S u.text, pv, .bool u.hasQuery, .bool u.hasFrag, S u.query, S u.frag] 25)).cell? ⟨w.heap.size, 0, none⟩ = some (S u.scheme) := B0.cell rfl
  have k4 : (w.alloc (Obj.cells #[S u.scheme, S u.user, S u.pass, S u.host, .bool false, .int .i64 u.port, .bool u.opq, S u.text, pv, .bool u.hasQuery, .bool u.hasFrag, S u.query, S u.frag] 25)).cell? ⟨w.heap.size, 4, none⟩ = some (.bool false) := B0.cell rfl
  clear h
  go_enter Tryz.func25, Tryz.ntmps25
  go_upto_if 10 with fail
  generalize hW0 : w.alloc (Obj.cells #[S u.scheme, S u.user, S u.pass, S u.host, .bool false, .int .i64 u.port, .bool u.opq, S u.text, pv, .bool u.hasQuery, .bool u.hasFrag, S u.query, S u.frag] 25) = W0 at *
  clear hW0
  go_cut [5] from 11 to 62 (fun v wx => v = S X ∧ Fr w wx ∧ Blk w.heap.size #[S u.scheme, S u.user, S u.pass, S u.host, .bool false, .int .i64 u.port, .bool u.opq, S u.text, pv, .bool u.hasQuery, .bool u.hasFrag, S u.query, S u.frag] 25 wx)
  case first =>
    have k1 : W0.cell? ⟨w.heap.size, 1, none⟩ = some (S u.user) := B0.cell rfl
    have k2 : W0.cell? ⟨w.heap.size, 2, none⟩ = some (S u.pass) := B0.cell rfl
    have k3 : W0.cell? ⟨w.heap.size, 3, none⟩ = some (S u.host) := B0.cell rfl
    have k5 : W0.cell? ⟨w.heap.size, 5, none⟩ = some (.int .i64 u.port) := B0.cell rfl
    have k6 : W0.cell? ⟨w.heap.size, 6, none⟩ = some (.bool u.opq) := B0.cell rfl
    have k8 : W0.cell? ⟨w.heap.size, 8, none⟩ = some pv := B0.cell rfl
    have HX2 := Lib.hid (fun d e => HX.out _ _ _ rfl rfl rfl d e)
    have HD2 := Lib.hid (HD.out u.opq rfl)
    clear HX HD k1 k2 k3 k5 HP HPo hit h7 h8 hhe
    obtain ⟨oo, ooe⟩ : ∃ b, u.opq = b := ⟨_, rfl⟩
    rw [ooe] at k6 HD2
    clear ooe
    cases oo with
    | true =>
      have HX3 := Lib.hid (HX2.out false (by rw [HD2.out]; simp))
      clear HX2 HD2
      go_wp2
      go_meet
      exact ⟨by rw [HX3.out]; simp [printA], F0, B0⟩
    | false =>
      have hp2 := hp.fr F0
      obtain ⟨A, cap, rfl, hc⟩ := hp2
      rw [show (Ss u.path).length = u.path.length from by simp] at *
      by_cases hl1 : 1 < u.path.length
      · obtain ⟨b, off, rfl, hc0⟩ := hc 0 (by simp; omega)
        have hc1 : W0.cell? ⟨b, off, none⟩ = some (S (u.path[0]'(by omega))) := by have := hc0; simpa using this
        have h1z : (1 : Int) < (u.path.length : Int) := by omega
        have h0z : (0 : Int) < (u.path.length : Int) := by omega
        have hh0 : u.path.head? = some (u.path[0]'(by omega)) := by rw [List.head?_eq_getElem?, List.getElem?_eq_getElem (by omega)]
        rw [hh0] at HD2
        obtain ⟨x0, hx0⟩ : ∃ x, u.path[0]'(by omega) = x := ⟨_, rfl⟩
        rw [hx0] at hc1 HD2
        clear hx0 hc hc0 hh0
        cases x0 with
        | nil =>
          have HX3 := Lib.hid (HX2.out true (by rw [HD2.out]; simp [hl1]))
          clear HX2 HD2
          go_wp2
          go_meet
          exact ⟨by rw [HX3.out]; simp [printA], F0, B0⟩
        | cons c r =>
          have HX3 := Lib.hid (HX2.out false (by rw [HD2.out]; simp))
          clear HX2 HD2
          go_wp2
          go_meet
          exact ⟨by rw [HX3.out]; simp [printA], F0, B0⟩
      · have h1b : decide ((1 : Int) < (u.path.length : Int)) = false := decide_eq_false (by omega)
        have HX3 := Lib.hid (HX2.out false (by rw [HD2.out]; simp [hl1]))
        clear HX2 HD2
        go_wp2
        go_meet
        exact ⟨by rw [HX3.out]; simp [printA], F0, B0⟩
  case rest =>
    obtain ⟨rfl, f2, bB2⟩ := hcut
    have hrr : wc.rangeAt w.heap.size 0 [S u.scheme, S u.user, S u.pass, S u.host, .bool false, .int .i64 u.port, .bool u.opq, S u.text, pv, .bool u.hasQuery, .bool u.hasFrag, S u.query, S u.frag] := fun j v hv => by rw [Nat.zero_add]; exact bB2.cell (by simpa using hv)
    have HB2 := Lib.hid bB2
    clear HX HD HPo B0 F0 k0 k4 bB2
    obtain ⟨hqb, hqe⟩ : ∃ b, u.hasQuery = b := ⟨_, rfl⟩
    obtain ⟨hfb, hfe⟩ : ∃ b, u.hasFrag = b := ⟨_, rfl⟩
    have HQ := Lib.hid hqe
    have HFr := Lib.hid hfe
    clear hqe hfe
    cases hqb <;> cases hfb
    all_goals
      go_wp2_with (first
        | (refine wpList_load_mid rfl 25 (.tmp 2) rfl w.heap.size 0 rfl [S u.scheme, S u.user, S u.pass, S u.host, .bool false, .int .i64 u.port, .bool u.opq, S u.text, pv, .bool u.hasQuery, .bool u.hasFrag, S u.query, S u.frag] _ hrr Tryz.underlying25 rfl (by kernel_rfl) ?_)
        | (go_at_call 61; refine (HP.out _ f2).mono ?_; rintro e w2 ⟨rfl, hf2⟩; have k9 : w2.cell? ⟨w.heap.size, 9, none⟩ = some (.bool u.hasQuery) := (HB2.out.fr hf2).cell rfl; rw [HQ.out] at k9; have k10 : w2.cell? ⟨w.heap.size, 10, none⟩ = some (.bool u.hasFrag) := (HB2.out.fr hf2).cell rfl; rw [HFr.out] at k10; have k11 : w2.cell? ⟨w.heap.size, 11, none⟩ = some (S u.query) := (HB2.out.fr hf2).cell rfl))
    all_goals go_ret
    all_goals
      have hq := HQ.out
      refine ⟨ret_s ?_, f2.trans hf2⟩
      first
        | (exact absurd (hq.symm.trans h) (by decide))
        | (exact absurd hq h)
        | (simp; done)
        | (rw [hq]; simp; done)
theorem rprint_any (u : Url) (h : Short u) (pv : Value) (w : World) (hp : Row1 pv (Ss u.path) w) : Calls Tryz.prog 25 #[urlV u pv, .bool false] w fun e w' => e = .returned (S (urlBare u)) ∧ Fr w w' := by
  cases hh : u.hasHost with
  | true => exact rprint_yes u h hh pv w hp
  | false => exact rprint_no u h hh pv w hp
end Go.Proofs.YtogpmgjdmoglkaaGreatDoor
