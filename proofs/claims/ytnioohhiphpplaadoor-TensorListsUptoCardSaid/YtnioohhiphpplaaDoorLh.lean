/- The walk of Book.whole. -/
import Derived.Test.YtnioohhiphpplaaDoorLg
set_option linter.unusedVariables false
set_option linter.unusedSimpArgs false
namespace Go.Proofs.YtnioohhiphpplaaDoor.Dp
open Go.RowKit Go.Proofs.YtnioohhiphpplaaDoor.Pplays Go.Proofs.YtnioohhiphpplaaDoorW.PrintWords Go.Proofs.YtnioohhiphpplaaDoorW.PrintLast Go.Proofs.YtnioohhiphpplaaDoorW.PrintMore Go.Proofs.YtnioohhiphpplaaDoor.M Go.Proofs.YtnioohhiphpplaaDoor.Wk Go.Lib
namespace Wk
theorem bk_cells {w : World} {GB : Nat} {N M Wv X T U : Value} {last : Int} (h : w.heap[GB]? = some (.cells (bkc N M Wv X T U last) 45 (0, 0))) : w.cell? ⟨GB, 0, none⟩ = some N ∧ w.cell? ⟨GB, 1, none⟩ = some M ∧ w.cell? ⟨GB, 2, none⟩ = some Wv ∧ w.cell? ⟨GB, 3, none⟩ = some X ∧ w.cell? ⟨GB, 4, none⟩ = some T ∧ w.cell? ⟨GB, 5, none⟩ = some U :=
 ⟨(blk_cell h 0).trans rfl, (blk_cell h 1).trans rfl, (blk_cell h 2).trans rfl, (blk_cell h 3).trans rfl, (blk_cell h 4).trans rfl, (blk_cell h 5).trans rfl⟩
theorem Col.cell {α : Type} {kd : Kd α} {eo ei : Nat} {w : World} {A : Option Addr} {n c : Nat} {fs : List Tr} {xss : List (List α)} (h : Col kd eo ei w (.slice A n c) fs xss) {i : Nat} (hi : i < xss.length) : ∃ g B m xs, A = some ⟨g, 0, none⟩ ∧ n = xss.length ∧ xss[i]? = some xs ∧ w.cell? ⟨g, i, none⟩ = some (.slice B xs.length m) ∧ xs.length ≤ m ∧ kd.C w B xs.length xs := by
 have hf : i < fs.length := by rw [h.len]; exact hi
 obtain ⟨g, cap, hv, _, _, _⟩ := Kd.R_form h.out (by omega)
 have hl := h.len
 injection hv with h1 h2 h3
 subst h1 h2 h3
 obtain ⟨e0, -⟩ := Kd.R_celln (none, 0, 0) h.out (i : Int) (by omega) (by omega)
 obtain ⟨⟨B, m, k⟩, hfi⟩ : ∃ f, fs[i]? = some f := ⟨_, List.getElem?_eq_getElem hf⟩
 obtain ⟨xs, hxi⟩ : ∃ x, xss[i]? = some x := ⟨_, List.getElem?_eq_getElem hi⟩
 rw [Int.toNat_natCast, show rdOf (none, 0, 0) fs (i : Int) = (B, m, k) by unfold rdOf; rw [Int.toNat_natCast, List.getD_eq_getElem?_getD, hfi]; rfl] at e0
 obtain ⟨p1, p2, p3⟩ := Kd.R_reads' (h.row i _ xs hfi hxi)
 subst p1
 exact ⟨g, B, k, xs, rfl, hl, hxi, e0, p2, p3⟩
set_option maxHeartbeats 8000000 in
set_option maxRecDepth 100000 in
theorem whole_calls {GB base top Bd : Nat} (w : World) (hB : Bk w GB base top Bd) (hd : Bd ≤ 1099511627776) :
  Calls Tryd.prog 17 #[.pointer (some ⟨GB, 0, none⟩)] w fun e w' => e = .returned (.bool true) ∧ Below w.heap.size w w' := by
 have hu45 := Tryd.underlying45
 obtain ⟨N, M, Wv, X, T, U, last, fN, fM, fW, fX, fT, fU, xN, xW, xT, h⟩ := hB
 have HK := Lib.hid h.blk
 obtain ⟨N1, N2, rfl, N3, N4⟩ := h.pN.cN.reads
 obtain ⟨M1, M2, rfl, M3, M4⟩ := h.pN.cM.reads
 obtain ⟨T1, T2, rfl, T3, T4⟩ := h.pT.cN.reads
 obtain ⟨U1, U2, rfl, U3, U4⟩ := h.pT.cM.reads
 obtain ⟨W1, W2, rfl, W3, W4⟩ := h.pW.cN.reads
 obtain ⟨X1, X2, rfl, X3, X4⟩ := h.pW.cM.reads
 have H := Lib.hid h
 have HN : Hid (∀ w1, Below w.heap.size w w1 → Calls Tryd.prog 38 #[.slice N1 xN.length N2, .slice M1 xN.length M2] w1 fun e w' => e = .returned (.bool true) ∧ Below w1.heap.size w1 w') := Lib.hid (fun w1 hb => (augurref00_EqNarrows.calls (xN.length + 16777280 + 1 + 1) _ _ _ _ _ _ true w1 (Kd.C_below N4 hb) N3 (Kd.C_below M4 hb) M3 (eqNarrows_is (m := 16777280) (by have := h.nN; omega) (by omega) h.rN (Nat.lt_succ_self _))).mono (fun _ _ hh => ⟨hh.1, hh.2.below⟩))
 have HT : Hid (∀ w1, Below w.heap.size w w1 → Calls Tryd.prog 44 #[.slice T1 xT.length T2, .slice U1 xT.length U2] w1 fun e w' => e = .returned (.bool true) ∧ Below w1.heap.size w1 w') := Lib.hid (fun w1 hb => (augurlaw03_eqTables.calls (xT.length + 16777280 + 1 + 1) _ _ _ _ _ _ true w1 (Kd.C_below T4 hb) T3 (Kd.C_below U4 hb) U3 (eqTables_is (m := 16777280) (by have := h.nT; omega) (by omega) h.rT (Nat.lt_succ_self _))).mono (fun _ _ hh => ⟨hh.1, hh.2.below⟩))
 obtain ⟨n, hn⟩ : ∃ n, n = xW.length := ⟨_, rfl⟩
 have HNW := Lib.hid hn
 have hn2 : n ≤ 1099511627776 := by rw [hn]; have := h.nW; omega
 rw [← hn] at HK H
 clear h N3 N4 M3 M4 T3 T4 U3 U4 W3 W4 X3 X4 hn
 go_enter Tryd.func17, Tryd.ntmps17
 go_upto_region 1 with (fail)
 obtain ⟨c0, c1, c2, c3, c4, c5⟩ := bk_cells HK.out
 have HB0 : Hid (Below w.heap.size w w.drew) := Lib.hid (below_drew (Below.refl _ _))
 go_region_held3 (fun w' => w'.cell? ⟨GB, 0, none⟩ = some (.slice N1 xN.length N2) ∧ w'.cell? ⟨GB, 1, none⟩ = some (.slice M1 xN.length M2) ∧ w'.cell? ⟨GB, 2, none⟩ = some (.slice W1 n W2) ∧ w'.cell? ⟨GB, 3, none⟩ = some (.slice X1 n X2) ∧ w'.cell? ⟨GB, 4, none⟩ = some (.slice T1 xT.length T2) ∧ w'.cell? ⟨GB, 5, none⟩ = some (.slice U1 xT.length U2)) (first | exact bk_cells (blk_drew HK.out) | exact bk_cells (blk_below (blk_drew HK.out) hq) | fail) (first | (go_at_call 38; go_loud (refine (HN.out _ HB0.out).mono ?_); rintro e wq ⟨rfl, hq⟩) | fail)
 rename_i hheld1
 clear hheld1
 have BK := Lib.hid (below_step HB0.out hq)
 clear hq HB0 c0 c1 c2 c3 c4 c5
 go_upto_region 2 with (fail)
 obtain ⟨c0, c1, c2, c3, c4, c5⟩ := bk_cells (blk_below HK.out BK.out)
 have HB0 : Hid (Below w.heap.size w wq.drew) := Lib.hid (below_drew1 BK.out)
 go_region_held3 (fun w' => w'.cell? ⟨GB, 0, none⟩ = some (.slice N1 xN.length N2) ∧ w'.cell? ⟨GB, 1, none⟩ = some (.slice M1 xN.length M2) ∧ w'.cell? ⟨GB, 2, none⟩ = some (.slice W1 n W2) ∧ w'.cell? ⟨GB, 3, none⟩ = some (.slice X1 n X2) ∧ w'.cell? ⟨GB, 4, none⟩ = some (.slice T1 xT.length T2) ∧ w'.cell? ⟨GB, 5, none⟩ = some (.slice U1 xT.length U2)) (first | exact bk_cells (blk_below HK.out HB0.out) | exact bk_cells (blk_below (blk_below HK.out HB0.out) hq) | fail) (first | (go_at_call 44; go_loud (refine (HT.out _ HB0.out).mono ?_); rintro e wp ⟨rfl, hq⟩) | fail)
 rename_i hheld1
 clear hheld1
 have BL := Lib.hid (below_step HB0.out hq)
 clear hq HB0 c0 c1 c2 c3 c4 c5 BK
 go_upto_region 3 with (fail)
 obtain ⟨c0, c1, c2, c3, c4, c5⟩ := bk_cells (blk_below HK.out BL.out)
 have HB0 : Hid (Below w.heap.size w wp.drew) := Lib.hid (below_drew1 BL.out)
 go_region_held3 (fun w' => w'.cell? ⟨GB, 0, none⟩ = some (.slice N1 xN.length N2) ∧ w'.cell? ⟨GB, 1, none⟩ = some (.slice M1 xN.length M2) ∧ w'.cell? ⟨GB, 2, none⟩ = some (.slice W1 n W2) ∧ w'.cell? ⟨GB, 3, none⟩ = some (.slice X1 n X2) ∧ w'.cell? ⟨GB, 4, none⟩ = some (.slice T1 xT.length T2) ∧ w'.cell? ⟨GB, 5, none⟩ = some (.slice U1 xT.length U2)) (first | exact bk_cells (blk_below HK.out HB0.out) | fail) (fail)
 rename_i hheld1
 clear hheld1 c0 c1 c2 c3 c4 c5 BL HN HT
 go_wp2
 go_loopw [5, 6] (fun s y wr => s = .bool true ∧ ∃ i : Nat, y = .int .i64 (i : Int) ∧ i ≤ n ∧ Below w.heap.size w wr) (fun _ y _ => n - (intOf y).toNat)
 case atStart => exact ⟨rfl, 0, rfl, Nat.zero_le _, HB0.out⟩
 case round =>
  clear HB0
  rename World => wa
  obtain ⟨rfl, i, rfl, hi, hb⟩ := hrel
  have HB := Lib.hid hb
  obtain ⟨c0, c1, c2, c3, c4, c5⟩ := bk_cells (blk_below HK.out hb)
  clear hb
  by_cases hlt : i < n
  ·have d1 : decide ((i : Int) < (n : Int)) = true := decide_eq_true (by omega)
   have d2 : decide (i < n) = true := decide_eq_true hlt
   have hlt' : i < xW.length := by rw [← HNW.out]; exact hlt
   have hPW := H.out.pW.below HB.out
   obtain ⟨g, B, m, xs, rfl, e1, e2, e3, e4, e5⟩ := hPW.cN.cell hlt'
   obtain ⟨g2, B2, m2, xs2, rfl, f1, f2, f3, f4, f5⟩ := hPW.cM.cell hlt'
   rw [e2] at f2
   cases f2
   have hxl : xs.length ≤ 16777280 := H.out.rW xs (List.mem_of_getElem? e2)
   have hbd := below_drew (Below.refl wa.heap.size wa)
   have HC : Hid (Calls Tryd.prog 8 #[.slice B xs.length m, .slice B2 xs.length m2] wa.drew fun e w' => e = .returned (.bool true) ∧ Below wa.drew.heap.size wa.drew w') := Lib.hid ((augurref00_EqWide.calls (xs.length + 1) _ _ _ _ _ _ true wa.drew (Kd.C_below e5 hbd) e4 (Kd.C_below f5 hbd) f4 (eqWide_is (by omega) (Nat.lt_succ_self _))).mono (fun _ _ hh => ⟨hh.1, hh.2.below⟩))
   have e3' := pw_cell_below hbd e3
   have f3' := pw_cell_below hbd f3
   have HE := Lib.hid e3'
   have HF := Lib.hid f3'
   have HLT := Lib.hid hlt
   have HB0 : Hid (Below w.heap.size w wa.drew) := Lib.hid (below_drew1 HB.out)
   have q0 : (0 : Int) ≤ (i : Int) := by omega
   have q1 : (i : Int) < (n : Int) := by omega
   clear hPW hlt' e1 e2 e4 e5 f1 f4 f5 hxl hbd e3' f3' hi hlt
   go_upto_region 7 with (fail)
   go_region_held3 (fun w' => w'.cell? ⟨GB, 0, none⟩ = some (.slice N1 xN.length N2) ∧ w'.cell? ⟨GB, 1, none⟩ = some (.slice M1 xN.length M2) ∧ w'.cell? ⟨GB, 2, none⟩ = some (.slice (some ⟨g, 0, none⟩) n W2) ∧ w'.cell? ⟨GB, 3, none⟩ = some (.slice (some ⟨g2, 0, none⟩) n X2) ∧ w'.cell? ⟨GB, 4, none⟩ = some (.slice T1 xT.length T2) ∧ w'.cell? ⟨GB, 5, none⟩ = some (.slice U1 xT.length U2) ∧ w'.cell? ⟨g, i, none⟩ = some (.slice B xs.length m) ∧ w'.cell? ⟨g2, i, none⟩ = some (.slice B2 xs.length m2)) (first | exact ⟨c0, c1, c2, c3, c4, c5, HE.out, HF.out⟩ | exact ⟨pw_cell_below hq c0, pw_cell_below hq c1, pw_cell_below hq c2, pw_cell_below hq c3, pw_cell_below hq c4, pw_cell_below hq c5, pw_cell_below hq HE.out, pw_cell_below hq HF.out⟩ | fail) (first | (go_at_call 8; go_loud (refine HC.out.mono ?_); rintro e wp ⟨rfl, hq⟩) | fail)
   rename_i hheld1
   clear hheld1
   have BL := Lib.hid (below_step HB0.out hq)
   clear hq
   go_wp2
   try rw [up1 (by have := HLT.out; omega)]
   go_roundw
   case rel => exact ⟨rfl, i + 1, rfl, HLT.out, BL.out⟩
   case measure => have := HLT.out; simp [intOf]; omega
  ·have d1 : decide ((i : Int) < (n : Int)) = false := decide_eq_false (by omega)
   have d2 : decide (i < n) = false := decide_eq_false hlt
   clear hi hlt
   go_wp2
   go_ret
   exact ⟨rfl, HB.out⟩
end Wk
end Go.Proofs.YtnioohhiphpplaaDoor.Dp
