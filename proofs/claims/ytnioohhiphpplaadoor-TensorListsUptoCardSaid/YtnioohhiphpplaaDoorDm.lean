/- The walk of tensor.MatVec, for every matrix and vector of at most 2^43 numbers. -/
import Derived.Test.YtnioohhiphpplaaDoorDx
import Derived.Deep.DeepCutAuto
import Derived.Deep.CutBlock
set_option linter.unusedVariables false
set_option linter.unusedSimpArgs false
namespace Go.Proofs.YtnioohhiphpplaaDoor.Wk
open Go.RowKit Go.Proofs.YtnioohhiphpplaaDoorW.PrintWords Go.Proofs.YtnioohhiphpplaaDoorW.PrintLast Go.Proofs.YtnioohhiphpplaaDoorW.PrintMore Go.Proofs.YtnioohhiphpplaaDoor.M Go.Proofs.YtnioohhiphpplaaDoor.Dp
theorem info57 : (Tryd.prog.info? 57).map (fun i => (i.zero, i.size, i.bytes)) = some (some (.int .i8 0), 1, 1) := by kernel_rfl
theorem rowW_is {D v : List Int} {C r : Nat} (hC : v.length = C) (h : (r + 1) * C ≤ D.length) : dotW (nth (rowOf D C r)) (nth v) (rowOf D C r).length = rowW D v C r := by
 have hl : (rowOf D C r).length = C := by unfold rowOf; rw [List.length_drop, List.length_take, Nat.min_eq_left h, Nat.succ_mul]; omega
 rw [hl]
 unfold rowW
 refine dotW_congr (fun c hc => ⟨?_, rfl⟩)
 unfold rowOf nth
 rw [List.getD_eq_getElem?_getD, List.getD_eq_getElem?_getD, List.getElem?_drop, List.getElem?_take, if_pos (by rw [Nat.succ_mul]; omega)]
theorem row_bounds' {rows cols : Int} {D : List Int} (m0 : 1 ≤ rows) (m1 : 1 ≤ cols) (m2 : rows.toNat * cols.toNat = D.length) {r : Int} (h0 : 0 ≤ r) (h1 : r < rows) :
  0 ≤ r * cols ∧ r * cols ≤ (r + 1) * cols ∧ (r + 1) * cols ≤ D.length ∧ (r + 1) * cols - r * cols = cols ∧ r * cols ≤ D.length := by
 have e0 : 0 ≤ r * cols := Int.mul_nonneg h0 (by omega)
 have e1 : (r + 1) * cols = r * cols + cols := by rw [Int.add_mul, Int.one_mul]
 have e2 : (r + 1) * cols ≤ rows * cols := Int.mul_le_mul_of_nonneg_right (by omega) (by omega)
 have e3 : rows * cols = (D.length : Int) := by
  rw [← m2, Int.natCast_mul, Int.toNat_of_nonneg (by omega), Int.toNat_of_nonneg (by omega)]
 omega
def MvRel (w : World) (g cap : Nat) (rows cols : Int) (A0 : Option Addr) (c0 : Nat) (D v : List Int) (x : Value) (wr : World) : Prop :=
 ∃ i : Nat, x = .int .i64 i ∧ i ≤ rows.toNat ∧ Kd.R (Kd.int .i64) 2 wr w.heap.size (fun _ => True) (.slice (some ⟨g, 0, none⟩) rows.toNat cap) (tb (rowW D v cols.toNat) i ++ List.replicate (rows.toNat - i) 0) ∧
  wr.heap[w.heap.size]? = some (.cells #[.int .i64 rows, .int .i64 cols, .slice A0 D.length c0] 35 (0, 0)) ∧ Below w.heap.size w wr
theorem prod_calls {A0 A1 : Option Addr} {n m c0 c1 : Nat} {a b : List Int} (w : World) (h0 : a.length = n) (h1 : b.length = m) (hr0 : Kd.C (Kd.int .i8) w A0 a.length a) (hc0 : n ≤ c0) (hr1 : Kd.C (Kd.int .i8) w A1 b.length b) (hc1 : m ≤ c1)
  (ha : Small a) (hb : Small b) (hl : n ≤ m) (hn : (n : Int) ≤ 140737488351232) :
  Calls Tryd.prog 52 #[.slice A0 n c0, .slice A1 m c1] w fun e w' => e = .returned (.int .i64 (dotW (nth a) (nth b) a.length)) ∧ ∃ d, w' = w.drewN d := by
 subst h0 h1
 refine (Pplays.tensor_products_int8_int8.calls (a.length + 1) A0 c0 a A1 c1 b _ w hr0 hc0 hr1 hc1 (prod8_is ha hb hl (by omega) (by omega))).mono ?_
 rintro e w' ⟨rfl, h⟩
 exact ⟨rfl, h.out⟩
set_option maxHeartbeats 4000000 in
theorem mv_calls {rows cols : Int} {A0 A1 : Option Addr} {c0 c1 : Nat} {D v : List Int} (w : World) (hr0 : Kd.C (Kd.int .i8) w A0 D.length D) (hc0 : D.length ≤ c0) (hr1 : Kd.C (Kd.int .i8) w A1 v.length v) (hc1 : v.length ≤ c1)
  (hm : checkV rows cols D = 0) (hv : (v.length : Int) = cols) (hD : Small D) (hV : Small v) (hn : (D.length : Int) ≤ 140737488351232) (hrows : rows ≤ 35184372088832) :
  Calls Tryd.prog 22 #[.agg #[.int .i64 rows, .int .i64 cols, .slice A0 D.length c0], .slice A1 v.length c1] w fun e w' =>
   ∃ v0, e = .returned (.tuple #[v0, .int .i64 0]) ∧ Kd.R (Kd.int .i64) 2 w' w.heap.size (fun _ => True) v0 (tb (rowW D v cols.toNat) rows.toNat) ∧ Below w.heap.size w w' := by
 have HR0 := Lib.hid hr0
 have HR1 := Lib.hid hr1
 have HM := Lib.hid hm
 have HV := Lib.hid hv
 obtain ⟨m0, m1, m2⟩ := check_zero hm
 have hneq : ((v.length : Int) != cols) = false := bne_eq_false_iff_eq.2 hv
 clear hr0 hr1 hv hm
 go_enter Tryd.func22, Tryd.ntmps22
 go_wp2_with fail
 refine (Pplays.tensor_Check.calls (D.length + 80) rows cols A0 c0 D 0 _ (Kd.C_alloc HR0.out _) hc0 (by rw [check_is (by omega) (by omega)]; rw [HM.out])).mono ?_
 rintro e w1 ⟨rfl, hb⟩
 have BK : w1.heap[w.heap.size]? = some (.cells #[.int .i64 rows, .int .i64 cols, .slice A0 D.length c0] 35 (0, 0)) := blk_below (blk_new w _) hb
 have HBK := Lib.hid BK
 have HB : Hid (Below w.heap.size w w1) := Lib.hid (below_step (below_alloc (Below.refl _ _) _) hb)
 have hlt : w.heap.size < w1.heap.size := blk_lt BK
 have k0 : w1.cell? ⟨w.heap.size, 0, none⟩ = some (.int .i64 rows) := (blk_cell BK 0).trans rfl
 have k1 : w1.cell? ⟨w.heap.size, 1, none⟩ = some (.int .i64 cols) := (blk_cell BK 1).trans rfl
 have k2 : w1.cell? ⟨w.heap.size, 2, none⟩ = some (.slice A0 D.length c0) := (blk_cell BK 2).trans rfl
 clear hb BK
 go_wp2_with ((with_reducible refine gate_dst (N := 22) rfl ?_); refine Kd.R_make (Kd.int .i64) (w0 := w) w.heap.size 2 rfl (N := 22) rfl 22 _ _ rfl rows rfl rfl Tryd.underlying22 (.int .i64 0) 8 info2 rfl (by decide) (by omega) 0 (ok := fun _ => True) (okp := fun _ => True) rfl (fun _ hk => hk) trivial (by omega) (by omega) HB.out (Nat.le_of_lt hlt) ?_; intro v0 w2 hR hb2 hg2 hfresh; obtain ⟨g, cap, hv0, ge, gl, cl, hcl⟩ := Kd.R_form hR (by simp; omega); rw [List.length_replicate] at hv0; subst hv0; have HBK2 : Hid (w2.heap[w.heap.size]? = some (.cells #[.int .i64 rows, .int .i64 cols, .slice A0 D.length c0] 35 (0, 0))) := Lib.hid (blk_grown HBK.out hg2 (by simp)); have HRR := Lib.hid hR; have HB2 := Lib.hid hb2; have GE := Lib.hid ge; clear hR hb2 hg2 hfresh hcl gl k0 k1 k2 HBK HB hlt ge)
 go_loopw [25] (fun x wr => MvRel w g cap rows cols A0 c0 D v x wr) (fun x _ => rows.toNat - (intOf x).toNat)
 case atStart => exact ⟨0, rfl, by omega, HRR.out, HBK2.out, HB2.out⟩
 case round =>
  clear HRR HBK2 HB2
  obtain ⟨i, rfl, hi, hR, hBK, hB⟩ := hrel
  have HR := Lib.hid hR
  have HBK := Lib.hid hBK
  have HB := Lib.hid hB
  clear hR hBK hB
  by_cases hlt : i < rows.toNat
  ·have hrb := row_bounds' (D := D) m0 m1 m2 (r := (i : Int)) (by omega) (by omega)
   obtain ⟨q, hq⟩ : ∃ q : Int, (i : Int) * cols = q := ⟨_, rfl⟩
   obtain ⟨q2, hq2⟩ : ∃ q : Int, ((i : Int) + 1) * cols = q := ⟨_, rfl⟩
   rw [hq, hq2] at hrb
   obtain ⟨b0, b1, b2, b3, b4⟩ := hrb
   have hrow : rowOf D cols.toNat i = (D.take q2.toNat).drop q.toNat := by
    rw [← hq, ← hq2, rowOf_int (by omega) (by omega), Int.toNat_natCast]
   have w1 : wrap64 ((i : Int) * cols) = q := by rw [hq]; exact w64' (by omega) (by omega)
   have w2 : wrap64 (((i : Int) + 1) * cols) = q2 := by rw [hq2]; exact w64' (by omega) (by omega)
   have k0 : wr.cell? ⟨w.heap.size, 0, none⟩ = some (.int .i64 rows) := (blk_cell HBK.out 0).trans rfl
   have k1 : wr.cell? ⟨w.heap.size, 1, none⟩ = some (.int .i64 cols) := (blk_cell HBK.out 1).trans rfl
   have k2 : wr.cell? ⟨w.heap.size, 2, none⟩ = some (.slice A0 D.length c0) := (blk_cell HBK.out 2).trans rfl
   obtain ⟨i0, hi0, _, hsz, _⟩ := info_parts info57
   obtain ⟨A, hcut, hA, hC⟩ := print_mid_of (P := Tryd.prog) (Value.int .i8) 0 33 57 .i64 .i64 Tryd.underlying33 hi0 hsz A0 c0 D q q2 b0 (by omega) (by omega) hc0
   obtain ⟨hx, hf⟩ := Kd.R_celln 0 HR.out (i : Int) (by omega) (by omega)
   rw [Int.toNat_natCast] at hx hf
   clear hi0 hsz hq hq2
   have HA := Lib.hid hA
   have HC := Lib.hid hC
   have HROW := Lib.hid hrow
   have hlen : ((D.take q2.toNat).drop q.toNat).length = v.length := by
    have := HV.out
    rw [List.length_drop, List.length_take]; omega
   have HLEN := Lib.hid hlen
   clear hA hC hrow hlen b1
   go_wp2_with fail
   refine (prod_calls (a := rowOf D cols.toNat i) (b := v) wr (by rw [HROW.out, List.length_drop, List.length_take]; omega) rfl (by rw [HROW.out]; exact Kd.C_below (Kd.C_of_reads (h1 := fun _ => rfl) (HA.out _ (Kd.reads_of_C HR0.out))) HB.out) (by have := HC.out; rw [List.length_drop, List.length_take] at this; omega) (Kd.C_below HR1.out HB.out) hc1 (by rw [HROW.out]; exact (hD.take _).drop _) hV (by have := HLEN.out; rw [List.length_drop, List.length_take] at this; omega) (by omega)).mono ?_
   rintro e w3 ⟨rfl, nd, rfl⟩
   go_wp2
   go_roundw
   case rel =>
    have hle : (i + 1) * cols.toNat ≤ D.length := by rw [← m2]; exact Nat.mul_le_mul_right _ hlt
    have hrw := rowW_is (D := D) (v := v) (C := cols.toNat) (r := i) (by have := HV.out; omega) hle
    have hp := Kd.R_putn (Kd.R_drewN HR.out nd) (i : Int) (rowW D v cols.toNat i)
    have hne : w.heap.size ≠ g := fun e => Kd.R_ne HR.out HBK.out (by decide) (by rw [e]; rfl)
    rw [Int.toNat_natCast] at hp
    refine ⟨i + 1, rfl, by omega, ?_, blk_far (blk_drewN HBK.out nd) hne _, below_set (pw_below_drewN HB.out nd) GE.out⟩
    have e : (tb (rowW D v cols.toNat) i ++ List.replicate (rows.toNat - i) 0).set i (rowW D v cols.toNat i) = tb (rowW D v cols.toNat) (i + 1) ++ List.replicate (rows.toNat - (i + 1)) 0 := tb_set hlt
    rw [← e, hrw]; exact hp
   case measure => simp [intOf]; omega
  ·have hi' : i = rows.toNat := by omega
   subst hi'
   have HR2 : Hid (Kd.R (Kd.int .i64) 2 wr w.heap.size (fun _ => True) (.slice (some ⟨g, 0, none⟩) rows.toNat cap) (tb (rowW D v cols.toNat) rows.toNat)) := Lib.hid (by have := HR.out; rwa [Nat.sub_self, List.replicate_zero, List.append_nil] at this)
   go_wp2
   go_ret2
   exact ⟨_, rfl, HR2.out, HB.out⟩
theorem mv_bad {rows cols : Int} {A0 A1 : Option Addr} {n c0 c1 : Nat} {D : List Int} (w : World) (hr0 : Kd.C (Kd.int .i8) w A0 D.length D) (hc0 : D.length ≤ c0) (hn : D.length ≤ 140737488351232)
  (hm : ¬ (checkV rows cols D = 0 ∧ (n : Int) = cols)) :
  Calls Tryd.prog 22 #[.agg #[.int .i64 rows, .int .i64 cols, .slice A0 D.length c0], .slice A1 n c1] w fun e w' => e = .returned (.tuple #[.slice none 0 0, .int .i64 30]) ∧ Below w.heap.size w w' := by
 have HR0 := Lib.hid hr0
 have HM := Lib.hid hm
 obtain ⟨E, hE⟩ : ∃ E, checkV rows cols D = E := ⟨_, rfl⟩
 have hcall := Pplays.tensor_Check.calls (D.length + 80) rows cols A0 c0 D E (w.alloc (.cells #[.int .i64 rows, .int .i64 cols, .slice A0 D.length c0] 35)) (Kd.C_alloc HR0.out _) hc0 (by rw [check_is (by omega) (by omega), hE])
 rw [hE] at hm
 have HE := Lib.hid hE
 clear hr0 HM hE
 by_cases h0 : E = 0
 ·have d0 : (E != 0) = false := bne_eq_false_iff_eq.2 h0
  have hne : ((n : Int) != cols) = true := bne_iff_ne.2 (fun h => hm ⟨h0, h⟩)
  have H0 := Lib.hid h0
  clear h0 hm
  go_enter Tryd.func22, Tryd.ntmps22
  go_wp2_with fail
  refine hcall.mono ?_
  rintro e w1 ⟨rfl, hb⟩
  have BK : w1.heap[w.heap.size]? = some (.cells #[.int .i64 rows, .int .i64 cols, .slice A0 D.length c0] 35 (0, 0)) := blk_below (blk_new w _) hb
  have k1 : w1.cell? ⟨w.heap.size, 1, none⟩ = some (.int .i64 cols) := (blk_cell BK 1).trans rfl
  have HB : Hid (Below w.heap.size w w1) := Lib.hid (below_step (below_alloc (Below.refl _ _) _) hb)
  clear hb BK hcall
  go_wp2_with fail
  go_ret2
  exact ⟨rfl, HB.out⟩
 ·have d0 : (E != 0) = true := bne_iff_ne.2 h0
  clear h0 hm
  go_enter Tryd.func22, Tryd.ntmps22
  go_wp2_with fail
  refine hcall.mono ?_
  rintro e w1 ⟨rfl, hb⟩
  have HB : Hid (Below w.heap.size w w1) := Lib.hid (below_step (below_alloc (Below.refl _ _) _) hb)
  clear hb hcall
  go_wp2_with fail
  go_ret2
  exact ⟨rfl, HB.out⟩
end Go.Proofs.YtnioohhiphpplaaDoor.Wk
