/- Walks: parse.Parse on the opaque way. -/
import Derived.Test.YtogpmgjdmoglkaaGreatDoorHWv
import Derived.Test.YtogpmgjdmoglkaaGreatDoorHPu
set_option linter.unusedVariables false
set_option linter.unusedSimpArgs false
namespace Go.Proofs.YtogpmgjdmoglkaaGreatDoor
open Go.RowKit Pu

/-- A method of the parser's leaves other blocks as they are. -/
structure Kept (P : Nat) (w w' : World) : Prop where
  blk : ∀ Q cs T, Q ≠ P → Blk Q cs T w → Blk Q cs T w'
  fr : ∀ w0, Fr w0 w → w0.heap.size ≤ P → Fr w0 w'
theorem Kept.of_fr {P : Nat} {w w' : World} (h : Fr w w') : Kept P w w' := ⟨fun _ _ _ _ hb => hb.fr h, fun _ hw _ => hw.trans h⟩
theorem Kept.trans {P : Nat} {a b c : World} (h : Kept P a b) (k : Kept P b c) : Kept P a c := ⟨fun Q cs T hne hb => k.blk Q cs T hne (h.blk Q cs T hne hb), fun w0 hw hs => k.fr w0 (h.fr w0 hw hs) hs⟩
theorem Kept.set {P : Nat} (w : World) (j : Nat) (v : Value) : Kept P w (w.setCell ⟨P, j, none⟩ v) := ⟨fun Q cs T hne hb => hb.other (Ne.symm hne) j v, fun w0 hw hs => hw.set hs v⟩
theorem finish_par (P : Nat) (u : Url) (pv base : Value) (rest q f : Bs) (hu : u.query = []) (hl2 : u.scheme.length ≤ 1000000) (hq : q.length ≤ 1000000) (hfl : f.length ≤ 1000000) (hsp : special u.scheme = false) (w : World) (h : Par P (pcells u pv base rest q f false) w) :
    Calls Tryz.prog 38 #[.pointer (some ⟨P, 0, none⟩)] w fun e w' => e = .returned (.tuple #[]) ∧ Par P (pcells { u with query := esc 2 q, frag := esc 1 f } pv base rest q f false) w' ∧ Kept P w w' := by
  cases q with
  | nil =>
    refine (finish_nil P u.scheme f hl2 hfl hsp w (h.cell rfl) (h.cell rfl) (h.cell rfl) _ (h.cell (j := 12) rfl) fun j => h.free j).mono ?_
    rintro e w' ⟨rfl, wb, hf, rfl⟩
    refine ⟨rfl, ?_, (Kept.of_fr hf).trans (Kept.set _ _ _)⟩
    have h2 := (h.fr hf).set 12 (S (esc 1 f))
    have e1 : (pcells u pv base rest [] f false).setIfInBounds 12 (S (esc 1 f)) = pcells { u with query := esc 2 [], frag := esc 1 f } pv base rest [] f false := by
      show pcells { u with frag := esc 1 f } pv base rest [] f false = _
      have : esc 2 [] = u.query := by rw [hu]; rfl
      rw [this]
    rw [e1] at h2
    exact h2
  | cons c q =>
    refine (finish_cons P u.scheme f c q hl2 hq hfl hsp w (h.cell rfl) (h.cell rfl) (h.cell rfl) _ _ (h.cell (j := 11) rfl) (h.cell (j := 12) rfl) fun j => h.free j).mono ?_
    rintro e w' ⟨rfl, wb, wc, hf, hg, rfl⟩
    exact ⟨rfl, (((h.fr hf).set 11 (S (esc 2 (c :: q)))).fr hg).set 12 (S (esc 1 f)), (Kept.of_fr hf).trans ((Kept.set wb 11 _).trans ((Kept.of_fr hg).trans (Kept.set wc 12 _)))⟩
theorem encL_len (l : Bs) : (encL (decL l)).length ≤ 4 * l.length := by
  have h1 := encL_le (decL l)
  have h2 := decL_len l
  omega
theorem cleanL_len (l : Bs) : (cleanL l).length ≤ 4 * l.length := by
  have h := encL_len l
  have h1 : (trimB low32 (encL (decL l))).length ≤ (encL (decL l)).length := by
    unfold trimB trimR trimL
    have a1 := dropWhile_le low32 ((encL (decL l)).dropWhile low32).reverse
    have a2 := dropWhile_le low32 (encL (decL l))
    simp at a1 ⊢
    omega
  have h2 : (cleanL l).length ≤ (trimB low32 (encL (decL l))).length := List.length_filter_le _ _
  omega

set_option maxRecDepth 100000 in
set_option maxHeartbeats 1000000 in
theorem parse_opq (s : Bs) (hl : s.length ≤ 65536) (f1 f2 q1 q2 : Bs) (fh qh : Bool) (sch rest : Bs) (hF : cutB 35 (cleanP s) = (f1, f2, fh)) (hQ : cutB 63 f1 = (q1, q2, qh)) (hS : schemeP q1 = (sch, rest, true))
    (hsp : special sch = false) (hpre : Lib.hasPrefix rest [47] = false) (w : World) (hE : Env w) :
    Calls Tryz.prog 14 #[S s, .pointer none] w fun e w' => e = .returned (.tuple #[urlV { scheme := sch, port := -1, opq := true, text := opaqueOf rest (qh || fh), hasQuery := qh, hasFrag := fh, query := esc 2 q2, frag := esc 1 f2 } (.slice none 0 0), .int .i64 0]) ∧ Fr w w' := by
  have hlc : (cleanP s).length ≤ 4 * 65536 := by
    have := cleanL_len s
    rw [cleanP_eq]; omega
  have hl1 : ¬ (65536 : Int) < (s.length : Int) := by omega
  have HF := Lib.hid hF
  have HQ := Lib.hid hQ
  have HS := Lib.hid hS
  clear hF hQ hS
  go_enter Tryz.func14, Tryz.ntmps14
  go_wp2_with fail
  have f0 : Fr w ((w.alloc (.cells #[.string ⟨#[]⟩, .string ⟨#[]⟩, .string ⟨#[]⟩, .string ⟨#[]⟩, .bool false, .int .i64 0, .bool false, .string ⟨#[]⟩, .slice none 0 0, .bool false, .bool false, .string ⟨#[]⟩, .string ⟨#[]⟩] 25)).alloc (.cells #[.string ⟨#[]⟩, .string ⟨#[]⟩, .string ⟨#[]⟩, .string ⟨#[]⟩, .bool false, .int .i64 (-1), .bool false, .string ⟨#[]⟩, .slice none 0 0, .bool false, .bool false, .string ⟨#[]⟩, .string ⟨#[]⟩, .pointer none, .string ⟨#[]⟩, .string ⟨#[]⟩, .string ⟨#[]⟩, .bool false] 63)) := ((Fr.refl w).alloc _).alloc _
  have bR : Blk w.heap.size #[.string ⟨#[]⟩, .string ⟨#[]⟩, .string ⟨#[]⟩, .string ⟨#[]⟩, .bool false, .int .i64 0, .bool false, .string ⟨#[]⟩, .slice none 0 0, .bool false, .bool false, .string ⟨#[]⟩, .string ⟨#[]⟩] 25 ((w.alloc (.cells #[.string ⟨#[]⟩, .string ⟨#[]⟩, .string ⟨#[]⟩, .string ⟨#[]⟩, .bool false, .int .i64 0, .bool false, .string ⟨#[]⟩, .slice none 0 0, .bool false, .bool false, .string ⟨#[]⟩, .string ⟨#[]⟩] 25)).alloc (.cells #[.string ⟨#[]⟩, .string ⟨#[]⟩, .string ⟨#[]⟩, .string ⟨#[]⟩, .bool false, .int .i64 (-1), .bool false, .string ⟨#[]⟩, .slice none 0 0, .bool false, .bool false, .string ⟨#[]⟩, .string ⟨#[]⟩, .pointer none, .string ⟨#[]⟩, .string ⟨#[]⟩, .string ⟨#[]⟩, .bool false] 63)) := ⟨by rw [Lib.alloc_old _ _ _ (by simp)]; exact heap_alloc_new w _⟩
  have bP : Par (w.heap.size + 1) (pcells { port := -1 } (.slice none 0 0) (.pointer none) [] [] [] false) ((w.alloc (.cells #[.string ⟨#[]⟩, .string ⟨#[]⟩, .string ⟨#[]⟩, .string ⟨#[]⟩, .bool false, .int .i64 0, .bool false, .string ⟨#[]⟩, .slice none 0 0, .bool false, .bool false, .string ⟨#[]⟩, .string ⟨#[]⟩] 25)).alloc (.cells #[.string ⟨#[]⟩, .string ⟨#[]⟩, .string ⟨#[]⟩, .string ⟨#[]⟩, .bool false, .int .i64 (-1), .bool false, .string ⟨#[]⟩, .slice none 0 0, .bool false, .bool false, .string ⟨#[]⟩, .string ⟨#[]⟩, .pointer none, .string ⟨#[]⟩, .string ⟨#[]⟩, .string ⟨#[]⟩, .bool false] 63)) := ⟨by
    have := heap_alloc_new (w.alloc (.cells #[.string ⟨#[]⟩, .string ⟨#[]⟩, .string ⟨#[]⟩, .string ⟨#[]⟩, .bool false, .int .i64 0, .bool false, .string ⟨#[]⟩, .slice none 0 0, .bool false, .bool false, .string ⟨#[]⟩, .string ⟨#[]⟩] 25)) (.cells #[.string ⟨#[]⟩, .string ⟨#[]⟩, .string ⟨#[]⟩, .string ⟨#[]⟩, .bool false, .int .i64 (-1), .bool false, .string ⟨#[]⟩, .slice none 0 0, .bool false, .bool false, .string ⟨#[]⟩, .string ⟨#[]⟩, .pointer none, .string ⟨#[]⟩, .string ⟨#[]⟩, .string ⟨#[]⟩, .bool false] 63)
    rw [show (w.alloc (.cells #[.string ⟨#[]⟩, .string ⟨#[]⟩, .string ⟨#[]⟩, .string ⟨#[]⟩, .bool false, .int .i64 0, .bool false, .string ⟨#[]⟩, .slice none 0 0, .bool false, .bool false, .string ⟨#[]⟩, .string ⟨#[]⟩] 25)).heap.size = w.heap.size + 1 from by simp] at this
    exact this⟩
  generalize ((w.alloc (.cells #[.string ⟨#[]⟩, .string ⟨#[]⟩, .string ⟨#[]⟩, .string ⟨#[]⟩, .bool false, .int .i64 0, .bool false, .string ⟨#[]⟩, .slice none 0 0, .bool false, .bool false, .string ⟨#[]⟩, .string ⟨#[]⟩] 25)).alloc (.cells #[.string ⟨#[]⟩, .string ⟨#[]⟩, .string ⟨#[]⟩, .string ⟨#[]⟩, .bool false, .int .i64 (-1), .bool false, .string ⟨#[]⟩, .slice none 0 0, .bool false, .bool false, .string ⟨#[]⟩, .string ⟨#[]⟩, .pointer none, .string ⟨#[]⟩, .string ⟨#[]⟩, .string ⟨#[]⟩, .bool false] 63)) = w0 at *
  refine (clean_any s hl w0 (hE.fr f0)).mono ?_
  rintro e w1 ⟨rfl, hf1⟩
  have f1' := f0.trans hf1
  have bR1 := bR.fr hf1
  have bP1 := bP.fr hf1
  clear f0 bR bP hf1
  go_wp2_with fail
  refine (cut_any 35 (cleanP s) (by omega) w1 (hE.fr f1')).mono ?_
  rintro e w2 ⟨rfl, hf2⟩
  rw [HF.out]
  have f2' := f1'.trans hf2
  have bR2 := bR1.fr hf2
  have bP2 := bP1.fr hf2
  have hP : w.heap.size ≤ w.heap.size + 1 := by omega
  have hRP : w.heap.size ≠ w.heap.size + 1 := by omega
  generalize hPe : w.heap.size + 1 = P at *
  generalize hRe : w.heap.size = R at *
  have hw : w.heap.size ≤ P := by omega
  have hRP' : P ≠ R := Ne.symm hRP
  have c16 : w2.cell? ⟨P, 16, none⟩ = some (S []) := bP2.cell rfl
  have c10 : w2.cell? ⟨P, 10, none⟩ = some (.bool false) := bP2.cell rfl
  have z16 := bP2.free 16
  have z10 := bP2.free 10
  clear f1' bR1 bP1 hf2
  go_wp2_with fail
  have f3' : Fr w ((w2.setCell ⟨P, 16, none⟩ (S f2)).setCell ⟨P, 10, none⟩ (.bool fh)) := (f2'.set hw _).set hw _
  have bP3 : Par P (pcells { port := -1, hasFrag := fh } (.slice none 0 0) (.pointer none) [] [] f2 false) ((w2.setCell ⟨P, 16, none⟩ (S f2)).setCell ⟨P, 10, none⟩ (.bool fh)) := (bP2.set 16 (S f2)).set 10 (.bool fh)
  have bR3 := (bR2.other hRP' 16 (S f2)).other hRP' 10 (.bool fh)
  generalize ((w2.setCell ⟨P, 16, none⟩ (S f2)).setCell ⟨P, 10, none⟩ (.bool fh)) = w3 at *
  clear c16 c10 z16 z10 f2' bP2 bR2
  have hl1' : f1.length ≤ (cleanP s).length := by have := cutB_len 35 (cleanP s); rw [HF.out] at this; exact this.1
  refine (cut_any 63 f1 (by omega) w3 (hE.fr f3')).mono ?_
  rintro e w4 ⟨rfl, hf4⟩
  rw [HQ.out]
  have f4' := f3'.trans hf4
  have bP4 := bP3.fr hf4
  have bR4 := bR3.fr hf4
  have c15 : w4.cell? ⟨P, 15, none⟩ = some (S []) := bP4.cell rfl
  have c9 : w4.cell? ⟨P, 9, none⟩ = some (.bool false) := bP4.cell rfl
  have z15 := bP4.free 15
  have z9 := bP4.free 9
  clear f3' bR3 bP3 hf4
  go_wp2_with fail
  have f5' : Fr w ((w4.setCell ⟨P, 15, none⟩ (S q2)).setCell ⟨P, 9, none⟩ (.bool qh)) := (f4'.set hw _).set hw _
  have bP5 : Par P (pcells { port := -1, hasFrag := fh, hasQuery := qh } (.slice none 0 0) (.pointer none) [] q2 f2 false) ((w4.setCell ⟨P, 15, none⟩ (S q2)).setCell ⟨P, 9, none⟩ (.bool qh)) := (bP4.set 15 (S q2)).set 9 (.bool qh)
  have bR5 := (bR4.other hRP' 15 (S q2)).other hRP' 9 (.bool qh)
  generalize ((w4.setCell ⟨P, 15, none⟩ (S q2)).setCell ⟨P, 9, none⟩ (.bool qh)) = w5 at *
  clear c15 c9 z15 z9 f4' bP4 bR4
  have hl2' : q1.length ≤ f1.length := by have := cutB_len 63 f1; rw [HQ.out] at this; exact this.1
  refine (scheme_any q1 (by omega) w5 (hE.fr f5')).mono ?_
  rintro e w6 ⟨rfl, hf6⟩
  rw [HS.out]
  have f6' := f5'.trans hf6
  have bP6 := bP5.fr hf6
  have bR6 := bR5.fr hf6
  have c0 : w6.cell? ⟨P, 0, none⟩ = some (S []) := bP6.cell rfl
  have c14 : w6.cell? ⟨P, 14, none⟩ = some (S []) := bP6.cell rfl
  have z0 := bP6.free 0
  have z14 := bP6.free 14
  clear f5' bR5 bP5 hf6
  go_wp2_with fail
  have f7' : Fr w ((w6.setCell ⟨P, 0, none⟩ (S sch)).setCell ⟨P, 14, none⟩ (S rest)) := (f6'.set hw _).set hw _
  have bP7 : Par P (pcells { scheme := sch, port := -1, hasFrag := fh, hasQuery := qh } (.slice none 0 0) (.pointer none) rest q2 f2 false) ((w6.setCell ⟨P, 0, none⟩ (S sch)).setCell ⟨P, 14, none⟩ (S rest)) := (bP6.set 0 (S sch)).set 14 (S rest)
  have bR7 := (bR6.other hRP' 0 (S sch)).other hRP' 14 (S rest)
  generalize ((w6.setCell ⟨P, 0, none⟩ (S sch)).setCell ⟨P, 14, none⟩ (S rest)) = w7 at *
  clear c0 c14 z0 z14 f6' bP6 bR6
  have hls : sch.length ≤ 1000000 ∧ rest.length ≤ 1000000 := by
    have h1 := cutB_len 58 q1
    have h2 := HS.out
    unfold schemeP schemeOf at h2
    split at h2
    · simp only [Prod.mk.injEq] at h2
      rename_i n r he
      split at he
      · injection he with he
        simp only [Prod.mk.injEq] at he
        rw [← h2.1, ← h2.2.1, ← he.1, ← he.2]
        simp [lower]
        omega
      · cases he
    · simp at h2
  refine (schemed_opaque P sch rest hls.2 hls.1 hsp hpre qh fh w7 (bP7.cell rfl) (bP7.cell rfl) (bP7.cell rfl) (bP7.cell rfl) (.bool false) (S []) (bP7.cell rfl) (bP7.cell rfl) (fun j => bP7.free j)).mono ?_
  rintro e w8 ⟨rfl, wb, hf8, rfl⟩
  have f8' : Fr w ((wb.setCell ⟨P, 6, none⟩ (.bool true)).setCell ⟨P, 7, none⟩ (S (opaqueOf rest (qh || fh)))) := ((f7'.trans hf8).set hw _).set hw _
  have bP8 : Par P (pcells { scheme := sch, port := -1, opq := true, text := opaqueOf rest (qh || fh), hasFrag := fh, hasQuery := qh } (.slice none 0 0) (.pointer none) rest q2 f2 false) ((wb.setCell ⟨P, 6, none⟩ (.bool true)).setCell ⟨P, 7, none⟩ (S (opaqueOf rest (qh || fh)))) := ((bP7.fr hf8).set 6 (.bool true)).set 7 (S (opaqueOf rest (qh || fh)))
  have bR8 := ((bR7.fr hf8).other hRP' 6 (.bool true)).other hRP' 7 (S (opaqueOf rest (qh || fh)))
  generalize ((wb.setCell ⟨P, 6, none⟩ (.bool true)).setCell ⟨P, 7, none⟩ (S (opaqueOf rest (qh || fh)))) = w8 at *
  clear f7' bP7 bR7 hf8
  have c17 : w8.cell? ⟨P, 17, none⟩ = some (.bool false) := bP8.cell rfl
  go_wp2_with fail
  have hl3 : q2.length ≤ f1.length ∧ f2.length ≤ (cleanP s).length := by
    have h1 := cutB_len 63 f1
    have h2 := cutB_len 35 (cleanP s)
    rw [HQ.out] at h1
    rw [HF.out] at h2
    exact ⟨h1.2, h2.2⟩
  refine (finish_par P { scheme := sch, port := -1, opq := true, text := opaqueOf rest (qh || fh), hasFrag := fh, hasQuery := qh } (.slice none 0 0) (.pointer none) rest q2 f2 rfl hls.1 (by omega) (by omega) hsp w8 bP8).mono ?_
  rintro e w9 ⟨rfl, bP9, hk⟩
  have f9' := hk.fr w f8' hw
  have bR9 := hk.blk R _ _ hRP bR8
  clear f8' bP8 bR8 c17 hk
  have hr := bP9.range
  have ht := bR9.there 13 (by simp)
  generalize hU : ({ scheme := sch, port := -1, opq := true, text := opaqueOf rest (qh || fh), hasQuery := qh, hasFrag := fh, query := esc 2 q2, frag := esc 1 f2 } : Url) = U at *
  have hr2 : w9.rangeAt P 0 (urlL U (.slice none 0 0)) := by first | exact hr | (rw [← hU]; exact hr)
  clear hr
  clear bP9 HF HQ HS
  have hsz : (urlL U (.slice none 0 0)).toArray.size = 13 := rfl
  have hone : (urlL U (.slice none 0 0)).toArray.all (·.oneCell') = true := by simp [urlL, Value.oneCell']
  have hi13 : (Tryz.prog.info? 25).map (·.size) = some 13 := by kernel_rfl
  generalize hC : (urlL U (.slice none 0 0)).toArray = C at *
  go_wp2_with (first
    | (refine wpList_load_mid rfl 25 (.tmp 75) rfl P 0 rfl (urlL U (.slice none 0 0)) _ hr2 Tryz.underlying25 rfl (by kernel_rfl) ?_; rw [hC])
    | (refine wpList_store_mid rfl 25 (.tmp 4) (.tmp 76) rfl R 0 C rfl rfl (by rw [hsz]; exact ht) (by rw [hsz]; exact hi13) hone ?_))
  have bR10 : Blk R C 25 (w9.setCells R 0 C.toList) := by
    have := bR9.url C.toList (by simp [hsz])
    simpa using this
  have hld := run_loadVar_row (P := Tryz.prog) (w9.setCells R 0 C.toList) R 25 25 C (0, 0) _ bR10.at_ Tryz.underlying25 rfl (by rw [hsz]; exact hi13)
  refine bodyPost_ret (v := .tuple #[.agg C, .int .i64 0]) (by simp [results, Tryz.results14, asAddr, hld]) rfl ⟨?_, ?_⟩
  · rw [← hC, ← hU]; rfl
  · exact f9'.setAll (by omega) _ _
end Go.Proofs.YtogpmgjdmoglkaaGreatDoor
/- Walks: parse.Parse at data: texts. -/
set_option linter.unusedVariables false
set_option linter.unusedSimpArgs false
namespace Go.Proofs.YtogpmgjdmoglkaaGreatDoor
open Go.RowKit Pu

theorem parse_data (s r : Bs) (hl : s.length ≤ 65536) (hc : cleanL s = sData ++ 58 :: r) (h : r.head? ≠ some 47) (w : World) (hE : Env w) :
    Calls Tryz.prog 14 #[S s, .pointer none] w fun e w' => e = .returned (.tuple #[urlV (dataUrl r) (.slice none 0 0), .int .i64 0]) ∧ Fr w w' := by
  have e : sData ++ 58 :: r = [100, 97, 116, 97, 58] ++ r := rfl
  have h1 := cutB_pre 35 [100, 97, 116, 97, 58] r (by decide)
  have h2 := cutB_pre 63 [100, 97, 116, 97, 58] (cutB 35 r).1 (by decide)
  have hh : (cutB 63 (cutB 35 r).1).1.head? ≠ some 47 := fun hh => h (cutB_head 35 r 47 (cutB_head 63 _ 47 hh))
  rw [e] at hc
  have hp : Lib.hasPrefix (cutB 63 (cutB 35 r).1).1 [47] = false := by
    cases hq : (cutB 63 (cutB 35 r).1).1 with
    | nil => rfl
    | cons c t =>
      rw [hq] at hh
      simp [Lib.hasPrefix, List.isPrefixOf]
      intro e2; exact hh (by rw [← e2]; rfl)
  exact parse_opq s hl _ _ _ _ _ _ sData _ (by rw [cleanP_eq, hc]; exact h1) h2 (by rfl) (by decide) hp w hE
end Go.Proofs.YtogpmgjdmoglkaaGreatDoor
