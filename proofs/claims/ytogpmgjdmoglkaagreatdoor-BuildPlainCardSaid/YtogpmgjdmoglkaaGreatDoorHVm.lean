/- Walks: data.Process. -/
import Derived.Test.YtogpmgjdmoglkaaGreatDoorHVl
import Derived.Test.YtogpmgjdmoglkaaGreatDoorHWz
set_option linter.unusedVariables false
set_option linter.unusedSimpArgs false
namespace Go.Proofs.YtogpmgjdmoglkaaGreatDoor
open Go.RowKit Pu

theorem OwnS.put {w0 w6 w7 : World} {v : Value} {xs : Bs} (h : OwnS w6 v xs w7) (f : Fr w0 w6) {nb : Nat} (hnb : w0.heap.size ≤ nb) (hlt : nb < w6.heap.size) (vs : List Value) : OwnS w0 v xs (w7.setCells nb 0 vs) :=
  ⟨by
    refine ⟨h.own.1, ?_⟩
    rcases h.own.2 with hv | ⟨g, cap, cur, hv, hg, hat, rest⟩
    · exact .inl hv
    · exact .inr ⟨g, cap, cur, hv, by have := f.size; omega, by rw [setCells_other (by omega)]; exact hat, rest⟩,
   (f.trans h.fr).setAll hnb vs 0⟩
theorem OwnS.base {w0 w6 w7 : World} {v : Value} {xs : Bs} (h : OwnS w6 v xs w7) (f : Fr w0 w6) : OwnS w0 v xs w7 :=
  ⟨by
    refine ⟨h.own.1, ?_⟩
    rcases h.own.2 with hv | ⟨g, cap, cur, hv, hg, hat, rest⟩
    · exact .inl hv
    · exact .inr ⟨g, cap, cur, hv, by have := f.size; omega, hat, rest⟩, f.trans h.fr⟩
theorem OwnM.base {w0 w6 w7 : World} {v : Value} {ps : List (Bs × Bs)} (h : OwnM w6 v ps w7) (f : Fr w0 w6) : OwnM w0 v ps w7 :=
  ⟨by
    refine ⟨h.own.1, ?_⟩
    rcases h.own.2 with hv | ⟨g, cap, cur, hv, hg, hat, rest⟩
    · exact .inl hv
    · exact .inr ⟨g, cap, cur, hv, by have := f.size; omega, hat, rest⟩, f.trans h.fr⟩
/-- What data.Process answers: the error's number, the type, the bytes. -/
def procOf (u : Url) : Nat × Mime × Bs := if u.scheme = sData then (match process u with | some (m, b) => (0, m, b) | none => (2, {}, [])) else (1, {}, [])
/-- The answer, as the model gives it. -/
def ProcPost (u : Url) (w : World) (e : Ending) (w' : World) : Prop := ∃ v x, e = .returned (.tuple #[mimeV (procOf u).2.1 v, x, .int .i64 (procOf u).1]) ∧ OwnM w v (procOf u).2.1.params w' ∧ OwnS w x (procOf u).2.2 w'
theorem post_err (u : Url) (w w' : World) (n : Nat) (h : procOf u = (n, {}, [])) (hf : Fr w w') : ProcPost u w (.returned (.tuple #[.agg #[S [], S [], .slice none 0 0], .slice none 0 0, .int .i64 n])) w' :=
  ⟨.slice none 0 0, .slice none 0 0, by rw [h]; rfl, by rw [h]; exact (OwnM.nil w).step hf, by rw [h]; exact (OwnS.nil w).step hf⟩
theorem post_ok (u : Url) (w w' : World) (m : Mime) (b : Bs) (h : procOf u = (0, m, b)) (v x : Value) (hv : OwnM w v m.params w') (hx : OwnS w x b w') : ProcPost u w (.returned (.tuple #[.agg #[S m.type, S m.sub, v], x, .int .i64 0])) w' :=
  ⟨v, x, by rw [h]; rfl, by rw [h]; exact hv, by rw [h]; exact hx⟩
theorem bare_data (u : Url) (h : u.scheme = sData) : Lib.trimPrefix (urlBare u) [100, 97, 116, 97, 58] = (urlBare u).drop 5 := by
  have : Lib.hasPrefix (urlBare u) [100, 97, 116, 97, 58] = true := by
    unfold urlBare; rw [h]; simp [Lib.hasPrefix, sData, List.isPrefixOf]
  unfold Lib.trimPrefix
  rw [this]; rfl
theorem based_len (h : Bs) : (based h).1.length ≤ h.length := by
  have h1 := trimR_len isSp (h.take (h.length - 6))
  have h2 : (h.take (h.length - 6)).length ≤ h.length := by simp
  unfold based
  split
  · exact Nat.le_refl _
  · split
    · split
      · simp; simp at h1; omega
      · exact Nat.le_refl _
    · exact Nat.le_refl _
theorem hp59 (h : Bs) : Lib.hasPrefix h [59] = decide (h.head? = some 59) := by
  cases h with
  | nil => rfl
  | cons c r =>
    simp only [Lib.hasPrefix, List.isPrefixOf, List.head?_cons, Bool.and_true]
    rw [Bool.eq_iff_iff]; simp
    exact eq_comm
theorem blank5_in : hasIn [32, 9, 10, 12, 13] = Pu.blank5 := by
  funext c; simp [hasIn, Pu.blank5]; rw [Bool.eq_iff_iff]; simp [or_assoc]

theorem Blk.rangeAll {P : Nat} {cs : Array Value} {T : TypeId} {w : World} (h : Blk P cs T w) : w.rangeAt P 0 cs.toList := fun j v hv => by rw [Nat.zero_add]; exact h.cell (by simpa using hv)
theorem tpre_any (s p : Bs) (w : World) : Calls Tryz.prog 42 #[S s, S p] w fun e w' => e = .returned (S (Lib.trimPrefix s p)) ∧ w' = w := Tryz.strings_TrimPrefix ⟨s.toArray⟩ ⟨p.toArray⟩ w
set_option maxRecDepth 100000 in
set_option maxHeartbeats 60000000 in
theorem process_any (u : Url) (h : Short u) (hb : (urlBare u).length ≤ 10000000) (pv : Value) (w : World) (hE : Env w) (hp : Row1 pv (Ss u.path) w) : Calls Tryz.prog 16 #[urlV u pv] w (ProcPost u w) := by
  have hsz : (Tryz.prog.info? 33).map (·.size) = some 3 := by kernel_rfl
  have r0 := Tryz.results16
  have hMs : (w.alloc (Obj.cells #[S u.scheme, S u.user, S u.pass, S u.host, .bool u.hasHost, .int .i64 u.port, .bool u.opq, S u.text, pv, .bool u.hasQuery, .bool u.hasFrag, S u.query, S u.frag] 25)).heap.size = w.heap.size + 1 := by simp
  have B0 : Blk (w.heap.size + 1) #[S [], S [], .slice none 0 0] 33 ((w.alloc (Obj.cells #[S u.scheme, S u.user, S u.pass, S u.host, .bool u.hasHost, .int .i64 u.port, .bool u.opq, S u.text, pv, .bool u.hasQuery, .bool u.hasFrag, S u.query, S u.frag] 25)).alloc (Obj.cells #[Value.string ⟨#[]⟩, Value.string ⟨#[]⟩, Value.slice none 0 0] 33)) := ⟨by rw [← hMs]; exact heap_alloc_new _ _⟩
  have F0 : Fr w ((w.alloc (Obj.cells #[S u.scheme, S u.user, S u.pass, S u.host, .bool u.hasHost, .int .i64 u.port, .bool u.opq, S u.text, pv, .bool u.hasQuery, .bool u.hasFrag, S u.query, S u.frag] 25)).alloc (Obj.cells #[Value.string ⟨#[]⟩, Value.string ⟨#[]⟩, Value.slice none 0 0] 33)) := ((Fr.refl w).alloc _).alloc _
  have HB : Hid (∀ w2, Env w2 → Fr w w2 → Calls Tryz.prog 43 #[urlV u pv] w2 fun e w' => e = .returned (S (urlBare u)) ∧ Fr w2 w') := Lib.hid fun w2 h2 h3 => bare_any u h pv w2 h2 (hp.fr h3)
  have hrange := fun (W : World) (cs : Array Value) (h : Blk (w.heap.size + 1) cs 33 W) (h3 : cs.size = 3) => run_loadVar_row (P := Tryz.prog) W (w.heap.size + 1) 33 33 cs (0, 0) _ h.at_ Tryz.underlying33 rfl (by rw [h3]; exact hsz)
  clear hp hMs
  by_cases hsc : u.scheme = sData
  · have hne : (u.scheme == [100, 97, 116, 97]) = true := by rw [hsc]; rfl
    have HT := Lib.hid (bare_data u hsc)
    have hproc : procOf u = match dataOf ((urlBare u).drop 5) with | some (m, b) => (0, m, b) | none => (2, {}, []) := by unfold procOf; rw [if_pos hsc]; rfl
    clear hsc
    unfold urlV at HB ⊢
    go_enter Tryz.func16, Tryz.ntmps16
    go_wp2_with fail
    generalize ((w.alloc (Obj.cells #[S u.scheme, S u.user, S u.pass, S u.host, .bool u.hasHost, .int .i64 u.port, .bool u.opq, S u.text, pv, .bool u.hasQuery, .bool u.hasFrag, S u.query, S u.frag] 25)).alloc (Obj.cells #[Value.string ⟨#[]⟩, Value.string ⟨#[]⟩, Value.slice none 0 0] 33)) = W0 at *
    refine (HB.out _ (hE.fr F0) F0).mono ?_
    rintro e W1 ⟨rfl, f1⟩
    replace B0 := B0.fr f1
    replace F0 := F0.trans f1
    clear f1 HB
    have htp := tpre_any (urlBare u) [100, 97, 116, 97, 58]
    rw [HT.out] at htp
    have hdl : ((urlBare u).drop 5).length ≤ 10000000 := by simp; omega
    generalize urlBare u = ub at *
    generalize ub.drop 5 = s at *
    clear HT
    go_wp2_with fail
    refine (htp _).mono ?_
    rintro e W2 ⟨rfl, rfl⟩
    have HC : Hid (∀ w2, Env w2 → Calls Tryz.prog 34 #[S s, S [44]] w2 fun e w' => e = .returned (.tuple #[S (cutB 44 s).1, S (cutB 44 s).2.1, .bool (cutB 44 s).2.2]) ∧ Fr w2 w') := Lib.hid fun w2 h => cut_any 44 s (by omega) w2 h
    have hcl := cutB_lens 44 s
    have hpr2 : dataOf s = if (cutB 44 s).2.2 = false then none else if (based (trimB Pu.blank5 (cutB 44 s).1)).2 then (decB (unesc (cutB 44 s).2.1)).map fun x => (mimeOr (based (trimB Pu.blank5 (cutB 44 s).1)).1, x) else some (mimeOr (based (trimB Pu.blank5 (cutB 44 s).1)).1, unesc (cutB 44 s).2.1) := rfl
    rw [hpr2] at hproc
    clear hpr2
    generalize hcv : cutB 44 s = cv at *
    obtain ⟨hd, rest, ok⟩ := cv
    clear hcv
    simp only at hcl hproc HC
    go_wp2_with fail
    refine (HC.out _ (hE.fr F0)).mono ?_
    rintro e W3 ⟨rfl, f1⟩
    replace B0 := B0.fr f1
    replace F0 := F0.trans f1
    clear f1 HC
    cases ok
    · have hpr : procOf u = (2, {}, []) := by rw [hproc]; rfl
      clear hproc
      have hth := B0.there 3 (by simp)
      go_wp2_with (refine wpList_store_mid rfl 33 (.tmp 2) (.tmp 25) rfl (w.heap.size + 1) 0 #[S [], S [], .slice none 0 0] rfl rfl hth hsz (by simp [Value.oneCell']) ?_)
      have B5 := B0.url [S [], S [], .slice none 0 0] rfl
      have F5 := F0.setAll (by omega) [S [], S [], .slice none 0 0] 0 (R := w.heap.size + 1)
      have hld := hrange _ _ B5 rfl
      have hpost := post_err u w _ 2 hpr F5
      exact bodyPost_ret (by simp [results, r0, asAddr, hld]) rfl hpost
    · have hul := unesc_le rest
      have hpr0 : procOf u = match (if (based (trimB Pu.blank5 hd)).2 = true then (decB (unesc rest)).map fun x => (mimeOr (based (trimB Pu.blank5 hd)).1, x) else some (mimeOr (based (trimB Pu.blank5 hd)).1, unesc rest)) with | some (m, b) => (0, m, b) | none => (2, {}, []) := hproc
      clear hproc
      go_wp2_with fail
      refine (unesc_any rest (by omega) _).mono ?_
      rintro e W4 ⟨x, rfl, ob⟩
      have hMb : w.heap.size + 1 < W3.heap.size := B0.lt
      have Fb := F0
      have B := B0.fr ob.fr
      have F := F0.trans ob.fr
      clear B0 F0
      go_wp2_with fail
      refine (trim_call [32, 9, 10, 12, 13] hd (by simp) (by decide) (by omega) _).mono ?_
      rw [blank5_in]
      rintro e W5 ⟨rfl, f1⟩
      replace ob := ob.step f1
      replace B := B.fr f1
      replace F := F.trans f1
      clear f1
      have htl := trimB_len Pu.blank5 hd
      generalize trimB Pu.blank5 hd = th at *
      go_wp2_with fail
      have hbl := based_len th
      refine (based_any th (by omega) _).mono ?_
      generalize hbv : based th = bv at *
      obtain ⟨hh, is⟩ := bv
      clear hbv
      simp only at hbl hpr0
      rintro e W6 ⟨rfl, f1⟩
      replace ob := ob.step f1
      replace B := B.fr f1
      replace F := F.trans f1
      clear f1
      have hhl : hh.length ≤ 10000000 := by omega
      cases is
      · have hpr : procOf u = (0, mimeOr hh, unesc rest) := by rw [hpr0]; rfl
        clear hpr0
        generalize hbs : unesc rest = bs at *
        clear hbs
        obtain ⟨A, cap, rfl⟩ := ob.slice
        have HOK : Hid (∀ v W', OwnM w v (mimeOr hh).params W' → OwnS w _ bs W' → ProcPost u w (.returned (.tuple #[.agg #[S (mimeOr hh).type, S (mimeOr hh).sub, v], .slice A bs.length cap, .int .i64 0])) W') := Lib.hid fun v W' h1 h2 => post_ok u w W' (mimeOr hh) bs hpr v _ h1 h2
        have hpx := prefix_any hh [59]
        rw [hp59] at hpx
        by_cases h59 : hh.head? = some 59
        · rw [decide_eq_true h59] at hpx
          have ec := cat2 sText hh
          have n1 : ¬ 9223372036854775807 < 10 + hh.length := by omega
          go_wp2_with fail
          refine (hpx _).mono ?_
          rintro e Wp ⟨rfl, rfl⟩
          go_wp2_with fail
          cases hm : mparse (sText ++ hh) with
          | some m =>
            have hmo : mimeOr hh = m := by unfold mimeOr; rw [if_pos h59, hm]; rfl
            rw [hmo] at HOK
            clear hmo
            refine (mparse_any (sText ++ hh) (by first | omega | (simp [sText]; omega)) _ (hE.fr F)).mono ?_
            rw [hm]
            simp only [Option.getD_some, Option.isSome_some]
            rintro e W8 ⟨v8, rfl, ov⟩
            obtain ⟨A8, cap8, rfl⟩ := ov.slice
            clear hm
            unfold mimeV
            have hMW := B.lt
            have Bm : Blk W8.heap.size #[S m.type, S m.sub, .slice A8 m.params.length cap8] 33 (W8.alloc (Obj.cells #[S m.type, S m.sub, .slice A8 m.params.length cap8] 33)) := ⟨heap_alloc_new W8 _⟩
            have FA : Fr W8 (W8.alloc (Obj.cells #[S m.type, S m.sub, .slice A8 m.params.length cap8] 33)) := (Fr.refl W8).alloc _
            have B8 := (B.fr ov.fr).fr FA
            have hthM := B8.there 3 (by simp)
            have hrm := Bm.rangeAll
            go_wp2_with (first
              | (refine wpList_load_mid rfl 33 (.tmp 10) rfl W8.heap.size 0 rfl [S m.type, S m.sub, .slice A8 m.params.length cap8] _ hrm Tryz.underlying33 rfl hsz ?_)
              | (refine wpList_store_mid rfl 33 (.tmp 2) (.tmp 56) rfl (w.heap.size + 1) 0 #[S m.type, S m.sub, .slice A8 m.params.length cap8] rfl rfl hthM hsz (by simp [Value.oneCell']) ?_))
            have B9 := B8.url [S m.type, S m.sub, .slice A8 m.params.length cap8] rfl
            have hld := hrange _ _ B9 rfl
            have hpost := HOK.out (.slice A8 m.params.length cap8) ((W8.alloc (Obj.cells #[S m.type, S m.sub, .slice A8 m.params.length cap8] 33)).setCells (w.heap.size + 1) 0 [S m.type, S m.sub, .slice A8 m.params.length cap8]) ((ov.step FA).put F (by omega) hMW [S m.type, S m.sub, .slice A8 m.params.length cap8]) ((ob.step (ov.fr.trans FA)).put Fb (by omega) hMb [S m.type, S m.sub, .slice A8 m.params.length cap8])
            exact bodyPost_ret (by simp [results, r0, asAddr, hld]) rfl hpost
          | none =>
            have hmo : mimeOr hh = fallback := by unfold mimeOr; rw [if_pos h59, hm]; rfl
            rw [hmo] at HOK
            clear hmo
            refine (mparse_any (sText ++ hh) (by first | omega | (simp [sText]; omega)) _ (hE.fr F)).mono ?_
            rw [hm]
            simp only [Option.getD_none, Option.isSome_none]
            rintro e W8 ⟨v8, rfl, ov⟩
            obtain ⟨A8, cap8, rfl⟩ := ov.slice
            clear hm
            unfold mimeV
            have hMW := B.lt
            go_wp2_with fail
            have Bm0 : Blk W8.heap.size #[S [], S [], .slice A8 0 cap8] 33 (W8.alloc (Obj.cells #[S [], S [], .slice A8 0 cap8] 33)) := ⟨heap_alloc_new W8 _⟩
            have FA : Fr W8 (W8.alloc (Obj.cells #[S [], S [], .slice A8 0 cap8] 33)) := (Fr.refl W8).alloc _
            have hfa := fallback_any
            unfold mimeV at hfa
            generalize fallback = fb at hfa HOK
            refine (hfa _).mono ?_
            rintro e W9 ⟨vf, rfl, of⟩
            obtain ⟨Af, capf, rfl⟩ := of.slice
            have hm0 := Bm0.lt
            have Bm1 := Bm0.fr of.fr
            have hth9 := Bm1.there 3 (by simp)
            have Bm := Bm1.url [S fb.type, S fb.sub, .slice Af fb.params.length capf] rfl
            have FS : Fr W8 (W9.setCells W8.heap.size 0 [S fb.type, S fb.sub, .slice Af fb.params.length capf]) := (FA.trans of.fr).setAll (Nat.le_refl _) _ 0
            have B8 := (B.fr ov.fr).fr FS
            have hput := of.put FA (Nat.le_refl _) hm0 [S fb.type, S fb.sub, .slice Af fb.params.length capf]
            obtain ⟨Wn, hWn⟩ : ∃ Wn, Wn = W9.setCells W8.heap.size 0 [S fb.type, S fb.sub, .slice Af fb.params.length capf] := ⟨_, rfl⟩
            rw [← hWn] at Bm FS B8 hput
            go_upto_region 17 with (refine wpList_store_mid rfl 33 (.tmp 10) (.tmp 55) rfl W8.heap.size 0 #[S fb.type, S fb.sub, .slice Af fb.params.length capf] rfl rfl ?_ hsz (by simp [Value.oneCell']) ?_; exact hth9)
            rw [← hWn]
            have hthM := B8.there 3 (by simp)
            have hrm := Bm.rangeAll
            clear hWn hth9 Bm1
            go_wp2_with (first
              | (refine wpList_load_mid rfl 33 (.tmp 10) rfl W8.heap.size 0 rfl [S fb.type, S fb.sub, .slice Af fb.params.length capf] _ hrm Tryz.underlying33 rfl hsz ?_)
              | (refine wpList_store_mid rfl 33 (.tmp 2) (.tmp 56) rfl (w.heap.size + 1) 0 #[S fb.type, S fb.sub, .slice Af fb.params.length capf] rfl rfl hthM hsz (by simp [Value.oneCell']) ?_))
            have B9 := B8.url [S fb.type, S fb.sub, .slice Af fb.params.length capf] rfl
            have hld := hrange _ _ B9 rfl
            have hpost := HOK.out (.slice Af fb.params.length capf) (Wn.setCells (w.heap.size + 1) 0 [S fb.type, S fb.sub, .slice Af fb.params.length capf]) ((hput.put (F.trans ov.fr) (by omega) (by have := ov.fr.size; omega) [S fb.type, S fb.sub, .slice Af fb.params.length capf])) ((ob.step (ov.fr.trans FS)).put Fb (by omega) hMb [S fb.type, S fb.sub, .slice Af fb.params.length capf])
            clear B9
            generalize Wn.setCells (w.heap.size + 1) 0 [S fb.type, S fb.sub, .slice Af fb.params.length capf] = W10 at hld hpost ⊢
            exact bodyPost_ret (by simp [results, r0, asAddr, hld]) rfl hpost
        · rw [decide_eq_false h59] at hpx
          go_wp2_with fail
          refine (hpx _).mono ?_
          rintro e Wp ⟨rfl, rfl⟩
          go_wp2_with fail
          cases hm : mparse (hh) with
          | some m =>
            have hmo : mimeOr hh = m := by unfold mimeOr; rw [if_neg h59, hm]; rfl
            rw [hmo] at HOK
            clear hmo
            refine (mparse_any (hh) (by first | omega | (simp [sText]; omega)) _ (hE.fr F)).mono ?_
            rw [hm]
            simp only [Option.getD_some, Option.isSome_some]
            rintro e W8 ⟨v8, rfl, ov⟩
            obtain ⟨A8, cap8, rfl⟩ := ov.slice
            clear hm
            unfold mimeV
            have hMW := B.lt
            have Bm : Blk W8.heap.size #[S m.type, S m.sub, .slice A8 m.params.length cap8] 33 (W8.alloc (Obj.cells #[S m.type, S m.sub, .slice A8 m.params.length cap8] 33)) := ⟨heap_alloc_new W8 _⟩
            have FA : Fr W8 (W8.alloc (Obj.cells #[S m.type, S m.sub, .slice A8 m.params.length cap8] 33)) := (Fr.refl W8).alloc _
            have B8 := (B.fr ov.fr).fr FA
            have hthM := B8.there 3 (by simp)
            have hrm := Bm.rangeAll
            go_wp2_with (first
              | (refine wpList_load_mid rfl 33 (.tmp 10) rfl W8.heap.size 0 rfl [S m.type, S m.sub, .slice A8 m.params.length cap8] _ hrm Tryz.underlying33 rfl hsz ?_)
              | (refine wpList_store_mid rfl 33 (.tmp 2) (.tmp 56) rfl (w.heap.size + 1) 0 #[S m.type, S m.sub, .slice A8 m.params.length cap8] rfl rfl hthM hsz (by simp [Value.oneCell']) ?_))
            have B9 := B8.url [S m.type, S m.sub, .slice A8 m.params.length cap8] rfl
            have hld := hrange _ _ B9 rfl
            have hpost := HOK.out (.slice A8 m.params.length cap8) ((W8.alloc (Obj.cells #[S m.type, S m.sub, .slice A8 m.params.length cap8] 33)).setCells (w.heap.size + 1) 0 [S m.type, S m.sub, .slice A8 m.params.length cap8]) ((ov.step FA).put F (by omega) hMW [S m.type, S m.sub, .slice A8 m.params.length cap8]) ((ob.step (ov.fr.trans FA)).put Fb (by omega) hMb [S m.type, S m.sub, .slice A8 m.params.length cap8])
            exact bodyPost_ret (by simp [results, r0, asAddr, hld]) rfl hpost
          | none =>
            have hmo : mimeOr hh = fallback := by unfold mimeOr; rw [if_neg h59, hm]; rfl
            rw [hmo] at HOK
            clear hmo
            refine (mparse_any (hh) (by first | omega | (simp [sText]; omega)) _ (hE.fr F)).mono ?_
            rw [hm]
            simp only [Option.getD_none, Option.isSome_none]
            rintro e W8 ⟨v8, rfl, ov⟩
            obtain ⟨A8, cap8, rfl⟩ := ov.slice
            clear hm
            unfold mimeV
            have hMW := B.lt
            go_wp2_with fail
            have Bm0 : Blk W8.heap.size #[S [], S [], .slice A8 0 cap8] 33 (W8.alloc (Obj.cells #[S [], S [], .slice A8 0 cap8] 33)) := ⟨heap_alloc_new W8 _⟩
            have FA : Fr W8 (W8.alloc (Obj.cells #[S [], S [], .slice A8 0 cap8] 33)) := (Fr.refl W8).alloc _
            have hfa := fallback_any
            unfold mimeV at hfa
            generalize fallback = fb at hfa HOK
            refine (hfa _).mono ?_
            rintro e W9 ⟨vf, rfl, of⟩
            obtain ⟨Af, capf, rfl⟩ := of.slice
            have hm0 := Bm0.lt
            have Bm1 := Bm0.fr of.fr
            have hth9 := Bm1.there 3 (by simp)
            have Bm := Bm1.url [S fb.type, S fb.sub, .slice Af fb.params.length capf] rfl
            have FS : Fr W8 (W9.setCells W8.heap.size 0 [S fb.type, S fb.sub, .slice Af fb.params.length capf]) := (FA.trans of.fr).setAll (Nat.le_refl _) _ 0
            have B8 := (B.fr ov.fr).fr FS
            have hput := of.put FA (Nat.le_refl _) hm0 [S fb.type, S fb.sub, .slice Af fb.params.length capf]
            obtain ⟨Wn, hWn⟩ : ∃ Wn, Wn = W9.setCells W8.heap.size 0 [S fb.type, S fb.sub, .slice Af fb.params.length capf] := ⟨_, rfl⟩
            rw [← hWn] at Bm FS B8 hput
            go_upto_region 17 with (refine wpList_store_mid rfl 33 (.tmp 10) (.tmp 55) rfl W8.heap.size 0 #[S fb.type, S fb.sub, .slice Af fb.params.length capf] rfl rfl ?_ hsz (by simp [Value.oneCell']) ?_; exact hth9)
            rw [← hWn]
            have hthM := B8.there 3 (by simp)
            have hrm := Bm.rangeAll
            clear hWn hth9 Bm1
            go_wp2_with (first
              | (refine wpList_load_mid rfl 33 (.tmp 10) rfl W8.heap.size 0 rfl [S fb.type, S fb.sub, .slice Af fb.params.length capf] _ hrm Tryz.underlying33 rfl hsz ?_)
              | (refine wpList_store_mid rfl 33 (.tmp 2) (.tmp 56) rfl (w.heap.size + 1) 0 #[S fb.type, S fb.sub, .slice Af fb.params.length capf] rfl rfl hthM hsz (by simp [Value.oneCell']) ?_))
            have B9 := B8.url [S fb.type, S fb.sub, .slice Af fb.params.length capf] rfl
            have hld := hrange _ _ B9 rfl
            have hpost := HOK.out (.slice Af fb.params.length capf) (Wn.setCells (w.heap.size + 1) 0 [S fb.type, S fb.sub, .slice Af fb.params.length capf]) ((hput.put (F.trans ov.fr) (by omega) (by have := ov.fr.size; omega) [S fb.type, S fb.sub, .slice Af fb.params.length capf])) ((ob.step (ov.fr.trans FS)).put Fb (by omega) hMb [S fb.type, S fb.sub, .slice Af fb.params.length capf])
            clear B9
            generalize Wn.setCells (w.heap.size + 1) 0 [S fb.type, S fb.sub, .slice Af fb.params.length capf] = W10 at hld hpost ⊢
            exact bodyPost_ret (by simp [results, r0, asAddr, hld]) rfl hpost
      · have hbl2 : (unesc rest).length ≤ 10000000 := by omega
        generalize hraw : unesc rest = raw at *
        clear hraw
        obtain ⟨A0, cap0, rfl⟩ := ob.slice
        have hstr := ob.str
        go_wp2_with fail
        refine (bdecode_any raw (by omega) _ (hE.fr F)).mono ?_
        have hMb2 := B.lt
        have Fb2 := F
        cases hdb : decB raw with
        | none =>
          have hpr : procOf u = (2, {}, []) := by rw [hpr0, hdb]; rfl
          clear hpr0 hstr
          simp only [Option.getD_none, Option.isSome_none]
          rintro e W7 ⟨y, rfl, oy⟩
          have B0 := B.fr oy.fr
          have F0 := F.trans oy.fr
          obtain ⟨A1, cap1, rfl⟩ := oy.slice
          have hth := B0.there 3 (by simp)
          go_wp2_with (refine wpList_store_mid rfl 33 (.tmp 2) (.tmp 43) rfl (w.heap.size + 1) 0 #[S [], S [], .slice none 0 0] rfl rfl hth hsz (by simp [Value.oneCell']) ?_)
          have B5 := B0.url [S [], S [], .slice none 0 0] rfl
          have F5 := F0.setAll (by omega) [S [], S [], .slice none 0 0] 0 (R := w.heap.size + 1)
          have hld := hrange _ _ B5 rfl
          have hpost := post_err u w _ 2 hpr F5
          exact bodyPost_ret (by simp [results, r0, asAddr, hld]) rfl hpost
        | some bs =>
          have hpr : procOf u = (0, mimeOr hh, bs) := by rw [hpr0, hdb]; rfl
          clear hpr0 hstr hdb
          simp only [Option.getD_some, Option.isSome_some]
          clear ob hMb Fb
          rintro e W7 ⟨y, rfl, ob⟩
          have hMb := hMb2
          have Fb := Fb2
          replace B := B.fr ob.fr
          replace F := F.trans ob.fr
          obtain ⟨A, cap, rfl⟩ := ob.slice
          have HOK : Hid (∀ v W', OwnM w v (mimeOr hh).params W' → OwnS w _ bs W' → ProcPost u w (.returned (.tuple #[.agg #[S (mimeOr hh).type, S (mimeOr hh).sub, v], .slice A bs.length cap, .int .i64 0])) W') := Lib.hid fun v W' h1 h2 => post_ok u w W' (mimeOr hh) bs hpr v _ h1 h2
          have hpx := prefix_any hh [59]
          rw [hp59] at hpx
          by_cases h59 : hh.head? = some 59
          · rw [decide_eq_true h59] at hpx
            have ec := cat2 sText hh
            have n1 : ¬ 9223372036854775807 < 10 + hh.length := by omega
            go_wp2_with fail
            refine (hpx _).mono ?_
            rintro e Wp ⟨rfl, rfl⟩
            go_wp2_with fail
            cases hm : mparse (sText ++ hh) with
            | some m =>
              have hmo : mimeOr hh = m := by unfold mimeOr; rw [if_pos h59, hm]; rfl
              rw [hmo] at HOK
              clear hmo
              refine (mparse_any (sText ++ hh) (by first | omega | (simp [sText]; omega)) _ (hE.fr F)).mono ?_
              rw [hm]
              simp only [Option.getD_some, Option.isSome_some]
              rintro e W8 ⟨v8, rfl, ov⟩
              obtain ⟨A8, cap8, rfl⟩ := ov.slice
              clear hm
              unfold mimeV
              have hMW := B.lt
              have Bm : Blk W8.heap.size #[S m.type, S m.sub, .slice A8 m.params.length cap8] 33 (W8.alloc (Obj.cells #[S m.type, S m.sub, .slice A8 m.params.length cap8] 33)) := ⟨heap_alloc_new W8 _⟩
              have FA : Fr W8 (W8.alloc (Obj.cells #[S m.type, S m.sub, .slice A8 m.params.length cap8] 33)) := (Fr.refl W8).alloc _
              have B8 := (B.fr ov.fr).fr FA
              have hthM := B8.there 3 (by simp)
              have hrm := Bm.rangeAll
              go_wp2_with (first
                | (refine wpList_load_mid rfl 33 (.tmp 10) rfl W8.heap.size 0 rfl [S m.type, S m.sub, .slice A8 m.params.length cap8] _ hrm Tryz.underlying33 rfl hsz ?_)
                | (refine wpList_store_mid rfl 33 (.tmp 2) (.tmp 56) rfl (w.heap.size + 1) 0 #[S m.type, S m.sub, .slice A8 m.params.length cap8] rfl rfl hthM hsz (by simp [Value.oneCell']) ?_))
              have B9 := B8.url [S m.type, S m.sub, .slice A8 m.params.length cap8] rfl
              have hld := hrange _ _ B9 rfl
              have hpost := HOK.out (.slice A8 m.params.length cap8) ((W8.alloc (Obj.cells #[S m.type, S m.sub, .slice A8 m.params.length cap8] 33)).setCells (w.heap.size + 1) 0 [S m.type, S m.sub, .slice A8 m.params.length cap8]) ((ov.step FA).put F (by omega) hMW [S m.type, S m.sub, .slice A8 m.params.length cap8]) ((ob.step (ov.fr.trans FA)).put Fb (by omega) hMb [S m.type, S m.sub, .slice A8 m.params.length cap8])
              exact bodyPost_ret (by simp [results, r0, asAddr, hld]) rfl hpost
            | none =>
              have hmo : mimeOr hh = fallback := by unfold mimeOr; rw [if_pos h59, hm]; rfl
              rw [hmo] at HOK
              clear hmo
              refine (mparse_any (sText ++ hh) (by first | omega | (simp [sText]; omega)) _ (hE.fr F)).mono ?_
              rw [hm]
              simp only [Option.getD_none, Option.isSome_none]
              rintro e W8 ⟨v8, rfl, ov⟩
              obtain ⟨A8, cap8, rfl⟩ := ov.slice
              clear hm
              unfold mimeV
              have hMW := B.lt
              go_wp2_with fail
              have Bm0 : Blk W8.heap.size #[S [], S [], .slice A8 0 cap8] 33 (W8.alloc (Obj.cells #[S [], S [], .slice A8 0 cap8] 33)) := ⟨heap_alloc_new W8 _⟩
              have FA : Fr W8 (W8.alloc (Obj.cells #[S [], S [], .slice A8 0 cap8] 33)) := (Fr.refl W8).alloc _
              have hfa := fallback_any
              unfold mimeV at hfa
              generalize fallback = fb at hfa HOK
              refine (hfa _).mono ?_
              rintro e W9 ⟨vf, rfl, of⟩
              obtain ⟨Af, capf, rfl⟩ := of.slice
              have hm0 := Bm0.lt
              have Bm1 := Bm0.fr of.fr
              have hth9 := Bm1.there 3 (by simp)
              have Bm := Bm1.url [S fb.type, S fb.sub, .slice Af fb.params.length capf] rfl
              have FS : Fr W8 (W9.setCells W8.heap.size 0 [S fb.type, S fb.sub, .slice Af fb.params.length capf]) := (FA.trans of.fr).setAll (Nat.le_refl _) _ 0
              have B8 := (B.fr ov.fr).fr FS
              have hput := of.put FA (Nat.le_refl _) hm0 [S fb.type, S fb.sub, .slice Af fb.params.length capf]
              obtain ⟨Wn, hWn⟩ : ∃ Wn, Wn = W9.setCells W8.heap.size 0 [S fb.type, S fb.sub, .slice Af fb.params.length capf] := ⟨_, rfl⟩
              rw [← hWn] at Bm FS B8 hput
              go_upto_region 17 with (refine wpList_store_mid rfl 33 (.tmp 10) (.tmp 55) rfl W8.heap.size 0 #[S fb.type, S fb.sub, .slice Af fb.params.length capf] rfl rfl ?_ hsz (by simp [Value.oneCell']) ?_; exact hth9)
              rw [← hWn]
              have hthM := B8.there 3 (by simp)
              have hrm := Bm.rangeAll
              clear hWn hth9 Bm1
              go_wp2_with (first
                | (refine wpList_load_mid rfl 33 (.tmp 10) rfl W8.heap.size 0 rfl [S fb.type, S fb.sub, .slice Af fb.params.length capf] _ hrm Tryz.underlying33 rfl hsz ?_)
                | (refine wpList_store_mid rfl 33 (.tmp 2) (.tmp 56) rfl (w.heap.size + 1) 0 #[S fb.type, S fb.sub, .slice Af fb.params.length capf] rfl rfl hthM hsz (by simp [Value.oneCell']) ?_))
              have B9 := B8.url [S fb.type, S fb.sub, .slice Af fb.params.length capf] rfl
              have hld := hrange _ _ B9 rfl
              have hpost := HOK.out (.slice Af fb.params.length capf) (Wn.setCells (w.heap.size + 1) 0 [S fb.type, S fb.sub, .slice Af fb.params.length capf]) ((hput.put (F.trans ov.fr) (by omega) (by have := ov.fr.size; omega) [S fb.type, S fb.sub, .slice Af fb.params.length capf])) ((ob.step (ov.fr.trans FS)).put Fb (by omega) hMb [S fb.type, S fb.sub, .slice Af fb.params.length capf])
              clear B9
              generalize Wn.setCells (w.heap.size + 1) 0 [S fb.type, S fb.sub, .slice Af fb.params.length capf] = W10 at hld hpost ⊢
              exact bodyPost_ret (by simp [results, r0, asAddr, hld]) rfl hpost
          · rw [decide_eq_false h59] at hpx
            go_wp2_with fail
            refine (hpx _).mono ?_
            rintro e Wp ⟨rfl, rfl⟩
            go_wp2_with fail
            cases hm : mparse (hh) with
            | some m =>
              have hmo : mimeOr hh = m := by unfold mimeOr; rw [if_neg h59, hm]; rfl
              rw [hmo] at HOK
              clear hmo
              refine (mparse_any (hh) (by first | omega | (simp [sText]; omega)) _ (hE.fr F)).mono ?_
              rw [hm]
              simp only [Option.getD_some, Option.isSome_some]
              rintro e W8 ⟨v8, rfl, ov⟩
              obtain ⟨A8, cap8, rfl⟩ := ov.slice
              clear hm
              unfold mimeV
              have hMW := B.lt
              have Bm : Blk W8.heap.size #[S m.type, S m.sub, .slice A8 m.params.length cap8] 33 (W8.alloc (Obj.cells #[S m.type, S m.sub, .slice A8 m.params.length cap8] 33)) := ⟨heap_alloc_new W8 _⟩
              have FA : Fr W8 (W8.alloc (Obj.cells #[S m.type, S m.sub, .slice A8 m.params.length cap8] 33)) := (Fr.refl W8).alloc _
              have B8 := (B.fr ov.fr).fr FA
              have hthM := B8.there 3 (by simp)
              have hrm := Bm.rangeAll
              go_wp2_with (first
                | (refine wpList_load_mid rfl 33 (.tmp 10) rfl W8.heap.size 0 rfl [S m.type, S m.sub, .slice A8 m.params.length cap8] _ hrm Tryz.underlying33 rfl hsz ?_)
                | (refine wpList_store_mid rfl 33 (.tmp 2) (.tmp 56) rfl (w.heap.size + 1) 0 #[S m.type, S m.sub, .slice A8 m.params.length cap8] rfl rfl hthM hsz (by simp [Value.oneCell']) ?_))
              have B9 := B8.url [S m.type, S m.sub, .slice A8 m.params.length cap8] rfl
              have hld := hrange _ _ B9 rfl
              have hpost := HOK.out (.slice A8 m.params.length cap8) ((W8.alloc (Obj.cells #[S m.type, S m.sub, .slice A8 m.params.length cap8] 33)).setCells (w.heap.size + 1) 0 [S m.type, S m.sub, .slice A8 m.params.length cap8]) ((ov.step FA).put F (by omega) hMW [S m.type, S m.sub, .slice A8 m.params.length cap8]) ((ob.step (ov.fr.trans FA)).put Fb (by omega) hMb [S m.type, S m.sub, .slice A8 m.params.length cap8])
              exact bodyPost_ret (by simp [results, r0, asAddr, hld]) rfl hpost
            | none =>
              have hmo : mimeOr hh = fallback := by unfold mimeOr; rw [if_neg h59, hm]; rfl
              rw [hmo] at HOK
              clear hmo
              refine (mparse_any (hh) (by first | omega | (simp [sText]; omega)) _ (hE.fr F)).mono ?_
              rw [hm]
              simp only [Option.getD_none, Option.isSome_none]
              rintro e W8 ⟨v8, rfl, ov⟩
              obtain ⟨A8, cap8, rfl⟩ := ov.slice
              clear hm
              unfold mimeV
              have hMW := B.lt
              go_wp2_with fail
              have Bm0 : Blk W8.heap.size #[S [], S [], .slice A8 0 cap8] 33 (W8.alloc (Obj.cells #[S [], S [], .slice A8 0 cap8] 33)) := ⟨heap_alloc_new W8 _⟩
              have FA : Fr W8 (W8.alloc (Obj.cells #[S [], S [], .slice A8 0 cap8] 33)) := (Fr.refl W8).alloc _
              have hfa := fallback_any
              unfold mimeV at hfa
              generalize fallback = fb at hfa HOK
              refine (hfa _).mono ?_
              rintro e W9 ⟨vf, rfl, of⟩
              obtain ⟨Af, capf, rfl⟩ := of.slice
              have hm0 := Bm0.lt
              have Bm1 := Bm0.fr of.fr
              have hth9 := Bm1.there 3 (by simp)
              have Bm := Bm1.url [S fb.type, S fb.sub, .slice Af fb.params.length capf] rfl
              have FS : Fr W8 (W9.setCells W8.heap.size 0 [S fb.type, S fb.sub, .slice Af fb.params.length capf]) := (FA.trans of.fr).setAll (Nat.le_refl _) _ 0
              have B8 := (B.fr ov.fr).fr FS
              have hput := of.put FA (Nat.le_refl _) hm0 [S fb.type, S fb.sub, .slice Af fb.params.length capf]
              obtain ⟨Wn, hWn⟩ : ∃ Wn, Wn = W9.setCells W8.heap.size 0 [S fb.type, S fb.sub, .slice Af fb.params.length capf] := ⟨_, rfl⟩
              rw [← hWn] at Bm FS B8 hput
              go_upto_region 17 with (refine wpList_store_mid rfl 33 (.tmp 10) (.tmp 55) rfl W8.heap.size 0 #[S fb.type, S fb.sub, .slice Af fb.params.length capf] rfl rfl ?_ hsz (by simp [Value.oneCell']) ?_; exact hth9)
              rw [← hWn]
              have hthM := B8.there 3 (by simp)
              have hrm := Bm.rangeAll
              clear hWn hth9 Bm1
              go_wp2_with (first
                | (refine wpList_load_mid rfl 33 (.tmp 10) rfl W8.heap.size 0 rfl [S fb.type, S fb.sub, .slice Af fb.params.length capf] _ hrm Tryz.underlying33 rfl hsz ?_)
                | (refine wpList_store_mid rfl 33 (.tmp 2) (.tmp 56) rfl (w.heap.size + 1) 0 #[S fb.type, S fb.sub, .slice Af fb.params.length capf] rfl rfl hthM hsz (by simp [Value.oneCell']) ?_))
              have B9 := B8.url [S fb.type, S fb.sub, .slice Af fb.params.length capf] rfl
              have hld := hrange _ _ B9 rfl
              have hpost := HOK.out (.slice Af fb.params.length capf) (Wn.setCells (w.heap.size + 1) 0 [S fb.type, S fb.sub, .slice Af fb.params.length capf]) ((hput.put (F.trans ov.fr) (by omega) (by have := ov.fr.size; omega) [S fb.type, S fb.sub, .slice Af fb.params.length capf])) ((ob.step (ov.fr.trans FS)).put Fb (by omega) hMb [S fb.type, S fb.sub, .slice Af fb.params.length capf])
              clear B9
              generalize Wn.setCells (w.heap.size + 1) 0 [S fb.type, S fb.sub, .slice Af fb.params.length capf] = W10 at hld hpost ⊢
              exact bodyPost_ret (by simp [results, r0, asAddr, hld]) rfl hpost
  · have hne : (u.scheme == [100, 97, 116, 97]) = false := beq_eq_false_iff_ne.2 hsc
    have hproc : procOf u = (1, {}, []) := by unfold procOf; rw [if_neg hsc]
    have HP := Lib.hid (fun w' hf => post_err u w w' 1 hproc hf)
    clear hsc hproc HB
    unfold urlV
    go_enter Tryz.func16, Tryz.ntmps16
    go_wp2
    have hpost := HP.out _ F0
    have hld := hrange _ _ B0 rfl
    exact bodyPost_ret (by simp [results, r0, asAddr, hld]) rfl hpost
end Go.Proofs.YtogpmgjdmoglkaaGreatDoor
