/- The walk of kept: the lists handed in stand as they were made. -/
import Derived.Test.YtnioohhiphpplaaDoorDi
set_option linter.unusedVariables false
set_option linter.unusedSimpArgs false
namespace Go.Proofs.YtnioohhiphpplaaDoor.Dp
open Go.RowKit Go.Proofs.YtnioohhiphpplaaDoor.Pplays Go.Proofs.YtnioohhiphpplaaDoorW.PrintWords Go.Proofs.YtnioohhiphpplaaDoorW.PrintLast Go.Proofs.YtnioohhiphpplaaDoorW.PrintMore Go.Proofs.YtnioohhiphpplaaDoor.M Go.Lib
namespace Wk
theorem pad_length (l : List Int) : (pad l).length = l.length + 64 := by unfold pad; rw [List.length_append, marks_length]
theorem padT_length (l : List S87) : (padT l).length = l.length + 64 := by unfold padT; rw [List.length_append, marksT_length]
theorem padV_length (l : List (List Int)) : (padV l).length = l.length := List.length_map _
def Rd {α : Type} (kd : Kd α) (w : World) (v : Value) (xs : List α) : Prop := ∃ p c, v = .slice p xs.length c ∧ xs.length ≤ c ∧ kd.C w p xs.length xs
theorem Rd.below {α : Type} {kd : Kd α} {w w1 : World} {v : Value} {xs : List α} (h : Rd kd w v xs) (hb : Below w.heap.size w w1) : Rd kd w1 v xs := by
 obtain ⟨p, c, h1, h2, h3⟩ := h
 exact ⟨p, c, h1, h2, Kd.C_below h3 hb⟩
structure InC (w : World) (a1 b1 d1 x1 t1 v1 : Value) (a b d x : List Int) (t : List S87) (vs : List (List Int)) : Prop where
 hA : Rd (Kd.int .i8) w a1 (pad a)
 hB : Rd (Kd.int .i8) w b1 (pad b)
 hD : Rd (Kd.int .i8) w d1 (pad d)
 hX : Rd (Kd.int .i64) w x1 (pad x)
 hT : Rd k87 w t1 (padT t)
 hV : Kd.V (Kd.slice 57 (Kd.int .i8)) 33 w w.heap.size (fun _ => True) v1 (padV vs)
section
variable {w w1 : World} {a1 b1 d1 x1 t1 v1 : Value} {a b d x : List Int} {t : List S87} {vs : List (List Int)}
theorem InC.below (h : InC w a1 b1 d1 x1 t1 v1 a b d x t vs) (hb : Below w.heap.size w w1) : InC w1 a1 b1 d1 x1 t1 v1 a b d x t vs :=
 ⟨h.hA.below hb, h.hB.below hb, h.hD.below hb, h.hX.below hb, h.hT.below hb, Kd.V_below h.hV hb⟩
theorem InR.read {base : Nat} (h : InR w base a1 b1 d1 x1 t1 v1 a b d x t vs) : InC w a1 b1 d1 x1 t1 v1 a b d x t vs :=
 ⟨Kd.R_reads h.hA, Kd.R_reads h.hB, Kd.R_reads h.hD, Kd.R_reads h.hX, Kd.R_reads h.hT, Kd.S_V h.hV⟩
theorem InC.vec (h : InC w a1 b1 d1 x1 t1 v1 a b d x t vs) : Rd (Kd.slice 57 (Kd.int .i8)) w v1 (padV vs) := by
 obtain ⟨p, c, e, h1, h2⟩ := h.hV
 exact ⟨p, c, e, h1, Kd.F_now h2⟩
end
set_option maxHeartbeats 4000000 in
theorem kept_calls {a1 b1 d1 x1 t1 v1 : Value} {A B D X T V : Option Addr} {cA cB cD cX cT cV : Nat} {a b d x : List Int} {t : List S87} {vs : List (List Int)} (kd rw cl n : Int) (w : World) (hI : InC w a1 b1 d1 x1 t1 v1 a b d x t vs) (hO : OpAt w A B D X T V cA cB cD cX cT cV a b d x t vs) :
  Calls Tryd.prog 15 #[.agg #[a1, b1, d1, x1, t1, v1], .agg (opBox A B D X T V cA cB cD cX cT cV a b d x t vs kd rw cl n)] w fun e w' => e = .returned (.bool true) ∧ Below w.heap.size w w' := by
 have hu39 := Tryd.underlying39
 have hu47 := Tryd.underlying47
 have LA : Hid ((pad a).length ≤ 16777280) := Lib.hid (by rw [pad_length]; have := hO.nA; omega)
 have LB : Hid ((pad b).length ≤ 16777280) := Lib.hid (by rw [pad_length]; have := hO.nB; omega)
 have LD : Hid ((pad d).length ≤ 16777280) := Lib.hid (by rw [pad_length]; have := hO.nD; omega)
 have LX : Hid ((pad x).length ≤ 16777280) := Lib.hid (by rw [pad_length]; have := hO.nX; omega)
 have LT : Hid ((padT t).length ≤ 16777280) := Lib.hid (by rw [padT_length]; have := hO.nT; omega)
 have LV : Hid ((padV vs).length ≤ 16777280) := Lib.hid (by rw [padV_length]; have := hO.nV; omega)
 have LR : Hid (∀ r ∈ padV vs, r.length ≤ 16777280) := Lib.hid (by
  intro r hr
  obtain ⟨q, hq, rfl⟩ := List.mem_map.1 hr
  have := hO.nr q hq
  rw [pad_length]; omega)
 have HO := Lib.hid hO
 obtain ⟨IA, iA, rfl, QA, RA⟩ := hI.hA
 obtain ⟨IB, iB, rfl, QB, RB⟩ := hI.hB
 obtain ⟨ID, iD, rfl, QD, RD⟩ := hI.hD
 obtain ⟨IX, iX, rfl, QX, RX⟩ := hI.hX
 obtain ⟨IT, iT, rfl, QT, RT⟩ := hI.hT
 obtain ⟨IV, iV, rfl, QV, RV⟩ := hI.vec
 replace QA := Lib.hid QA
 replace QB := Lib.hid QB
 replace QD := Lib.hid QD
 replace QX := Lib.hid QX
 replace QT := Lib.hid QT
 replace QV := Lib.hid QV
 replace RA := Lib.hid RA
 replace RB := Lib.hid RB
 replace RD := Lib.hid RD
 replace RX := Lib.hid RX
 replace RT := Lib.hid RT
 replace RV := Lib.hid RV
 clear hI hO
 unfold opBox
 go_enter Tryd.func15, Tryd.ntmps15
 go_upto_region 1 with (fail)
 obtain ⟨G, hG⟩ : ∃ y, y = w.heap.size := ⟨_, rfl⟩
 obtain ⟨W, hW⟩ : ∃ y, y = ((w.alloc (.cells #[.slice IA (pad a).length iA, .slice IB (pad b).length iB, .slice ID (pad d).length iD, .slice IX (pad x).length iX, .slice IT (padT t).length iT, .slice IV (padV vs).length iV] 47)).alloc (.cells #[.int .i64 kd, .int .i64 rw, .int .i64 cl, .slice D d.length cD, .slice A a.length cA, .slice B b.length cB, .slice X x.length cX, .slice V vs.length cV, .slice T t.length cT, .int .i64 n] 39)) := ⟨_, rfl⟩
 have hb1 : W.heap[G]? = some (.cells #[.slice IA (pad a).length iA, .slice IB (pad b).length iB, .slice ID (pad d).length iD, .slice IX (pad x).length iX, .slice IT (padT t).length iT, .slice IV (padV vs).length iV] 47 (0, 0)) := by rw [hW, hG]; exact blk_alloc (blk_new _ _) _
 have hb2 : W.heap[G + 1]? = some (.cells #[.int .i64 kd, .int .i64 rw, .int .i64 cl, .slice D d.length cD, .slice A a.length cA, .slice B b.length cB, .slice X x.length cX, .slice V vs.length cV, .slice T t.length cT, .int .i64 n] 39 (0, 0)) := by rw [hW, hG]; exact blk_new2 w _ _
 have hbl : Below w.heap.size w W := by rw [hW]; exact below_alloc (below_alloc (Below.refl _ _) _) _
 rw [← hW, ← hG]
 clear hW
 have k0 : W.cell? ⟨G + 1, 0, none⟩ = some (.int .i64 kd) := (blk_cell hb2 0).trans rfl
 have k1 : W.cell? ⟨G + 1, 1, none⟩ = some (.int .i64 rw) := (blk_cell hb2 1).trans rfl
 have k2 : W.cell? ⟨G + 1, 2, none⟩ = some (.int .i64 cl) := (blk_cell hb2 2).trans rfl
 have k3 : W.cell? ⟨G + 1, 3, none⟩ = some (.slice D d.length cD) := (blk_cell hb2 3).trans rfl
 have k4 : W.cell? ⟨G + 1, 4, none⟩ = some (.slice A a.length cA) := (blk_cell hb2 4).trans rfl
 have k5 : W.cell? ⟨G + 1, 5, none⟩ = some (.slice B b.length cB) := (blk_cell hb2 5).trans rfl
 have k6 : W.cell? ⟨G + 1, 6, none⟩ = some (.slice X x.length cX) := (blk_cell hb2 6).trans rfl
 have k7 : W.cell? ⟨G + 1, 7, none⟩ = some (.slice V vs.length cV) := (blk_cell hb2 7).trans rfl
 have k8 : W.cell? ⟨G + 1, 8, none⟩ = some (.slice T t.length cT) := (blk_cell hb2 8).trans rfl
 have k9 : W.cell? ⟨G + 1, 9, none⟩ = some (.int .i64 n) := (blk_cell hb2 9).trans rfl
 have HG := Lib.hid hG
 have BX := Lib.hid hb1
 have BL := Lib.hid hbl
 clear hG hb1 hb2 hbl
 go_wp2_with fail
 refine (in_calls kd rw cl n W (HO.out.below BL.out)).mono ?_
 rintro e wa ⟨a2, b2, d2, x2, t2, v2, rfl, hR, hB⟩
 have hI2 := hR.read
 obtain ⟨JA, jA, rfl, UA, SA⟩ := hI2.hA
 obtain ⟨JB, jB, rfl, UB, SB⟩ := hI2.hB
 obtain ⟨JD, jD, rfl, UD, SD⟩ := hI2.hD
 obtain ⟨JX, jX, rfl, UX, SX⟩ := hI2.hX
 obtain ⟨JT, jT, rfl, UT, ST⟩ := hI2.hT
 obtain ⟨JV, jV, rfl, UV, SV⟩ := hI2.vec
 replace UA := Lib.hid UA
 replace UB := Lib.hid UB
 replace UD := Lib.hid UD
 replace UX := Lib.hid UX
 replace UT := Lib.hid UT
 replace UV := Lib.hid UV
 replace SA := Lib.hid SA
 replace SB := Lib.hid SB
 replace SD := Lib.hid SD
 replace SX := Lib.hid SX
 replace ST := Lib.hid ST
 replace SV := Lib.hid SV
 have HB := Lib.hid hB
 clear hR hI2 hB k0 k1 k2 k3 k4 k5 k6 k7 k8 k9
 go_upto_region 2 with (fail)
 obtain ⟨g, hg⟩ : ∃ y, y = wa.heap.size := ⟨_, rfl⟩
 obtain ⟨wc, hwc⟩ : ∃ y, y = wa.alloc (.cells #[.slice JA (pad a).length jA, .slice JB (pad b).length jB, .slice JD (pad d).length jD, .slice JX (pad x).length jX, .slice JT (padT t).length jT, .slice JV (padV vs).length jV] 47) := ⟨_, rfl⟩
 have b2 : wc.heap[g]? = some (.cells #[.slice JA (pad a).length jA, .slice JB (pad b).length jB, .slice JD (pad d).length jD, .slice JX (pad x).length jX, .slice JT (padT t).length jT, .slice JV (padV vs).length jV] 47 (0, 0)) := by rw [hwc, hg]; exact blk_new _ _
 have cb2 : Below wa.heap.size wa wc := by rw [hwc]; exact below_alloc (Below.refl _ _) _
 rw [← hwc, ← hg]
 have B1 := Lib.hid (blk_below (blk_below BX.out HB.out) cb2)
 have B2 := Lib.hid b2
 have CB1 := Lib.hid (below_then (below_then BL.out BL.out.size HB.out) (below_then BL.out BL.out.size HB.out).size cb2)
 have CB2 := Lib.hid cb2
 clear hg hwc b2 cb2 HB
 have n0 : wc.cell? ⟨G, 0, none⟩ = some (.slice IA (pad a).length iA) := (blk_cell B1.out 0).trans rfl
 have m0 : wc.cell? ⟨g, 0, none⟩ = some (.slice JA (pad a).length jA) := (blk_cell B2.out 0).trans rfl
 go_wp2_with fail
 refine (augurref00_EqNarrow.calls ((pad a).length + 1) _ _ _ _ _ _ true wc (Kd.C_below RA.out CB1.out) QA.out (Kd.C_below SA.out CB2.out) UA.out (eqNarrow_is (by have := LA.out; omega) (Nat.lt_succ_self _))).mono ?_
 rintro e w1 ⟨rfl, hd⟩
 have B11 := Lib.hid (blk_below B1.out hd.below)
 have B21 := Lib.hid (blk_below B2.out hd.below)
 have CB11 := Lib.hid (below_then CB1.out CB1.out.size hd.below)
 have CB21 := Lib.hid (below_then CB2.out CB2.out.size hd.below)
 clear B1 B2 CB1 CB2 hd n0 m0
 have n1 : w1.cell? ⟨G, 1, none⟩ = some (.slice IB (pad b).length iB) := (blk_cell B11.out 1).trans rfl
 have m1 : w1.cell? ⟨g, 1, none⟩ = some (.slice JB (pad b).length jB) := (blk_cell B21.out 1).trans rfl
 go_wp2_with fail
 refine (augurref00_EqNarrow.calls ((pad b).length + 1) _ _ _ _ _ _ true w1 (Kd.C_below RB.out CB11.out) QB.out (Kd.C_below SB.out CB21.out) UB.out (eqNarrow_is (by have := LB.out; omega) (Nat.lt_succ_self _))).mono ?_
 rintro e w2 ⟨rfl, hd⟩
 have B12 := Lib.hid (blk_below B11.out hd.below)
 have B22 := Lib.hid (blk_below B21.out hd.below)
 have CB12 := Lib.hid (below_then CB11.out CB11.out.size hd.below)
 have CB22 := Lib.hid (below_then CB21.out CB21.out.size hd.below)
 clear B11 B21 CB11 CB21 hd n1 m1
 have n2 : w2.cell? ⟨G, 2, none⟩ = some (.slice ID (pad d).length iD) := (blk_cell B12.out 2).trans rfl
 have m2 : w2.cell? ⟨g, 2, none⟩ = some (.slice JD (pad d).length jD) := (blk_cell B22.out 2).trans rfl
 go_wp2_with fail
 refine (augurref00_EqNarrow.calls ((pad d).length + 1) _ _ _ _ _ _ true w2 (Kd.C_below RD.out CB12.out) QD.out (Kd.C_below SD.out CB22.out) UD.out (eqNarrow_is (by have := LD.out; omega) (Nat.lt_succ_self _))).mono ?_
 rintro e w3 ⟨rfl, hd⟩
 have B13 := Lib.hid (blk_below B12.out hd.below)
 have B23 := Lib.hid (blk_below B22.out hd.below)
 have CB13 := Lib.hid (below_then CB12.out CB12.out.size hd.below)
 have CB23 := Lib.hid (below_then CB22.out CB22.out.size hd.below)
 clear B12 B22 CB12 CB22 hd n2 m2
 have n3 : w3.cell? ⟨G, 3, none⟩ = some (.slice IX (pad x).length iX) := (blk_cell B13.out 3).trans rfl
 have m3 : w3.cell? ⟨g, 3, none⟩ = some (.slice JX (pad x).length jX) := (blk_cell B23.out 3).trans rfl
 go_wp2_with fail
 refine (augurref00_EqWide.calls ((pad x).length + 1) _ _ _ _ _ _ true w3 (Kd.C_below RX.out CB13.out) QX.out (Kd.C_below SX.out CB23.out) UX.out (eqWide_is (by have := LX.out; omega) (Nat.lt_succ_self _))).mono ?_
 rintro e w4 ⟨rfl, hd⟩
 have B14 := Lib.hid (blk_below B13.out hd.below)
 have B24 := Lib.hid (blk_below B23.out hd.below)
 have CB14 := Lib.hid (below_then CB13.out CB13.out.size hd.below)
 have CB24 := Lib.hid (below_then CB23.out CB23.out.size hd.below)
 clear B13 B23 CB13 CB23 hd n3 m3
 have n4 : w4.cell? ⟨G, 4, none⟩ = some (.slice IT (padT t).length iT) := (blk_cell B14.out 4).trans rfl
 have m4 : w4.cell? ⟨g, 4, none⟩ = some (.slice JT (padT t).length jT) := (blk_cell B24.out 4).trans rfl
 go_wp2_with fail
 refine (augurref00_EqTurns.calls ((padT t).length + 1) _ _ _ _ _ _ true w4 (Kd.C_below RT.out CB14.out) QT.out (Kd.C_below ST.out CB24.out) UT.out (eqTurns_is (by have := LT.out; omega) (Nat.lt_succ_self _))).mono ?_
 rintro e w5 ⟨rfl, hd⟩
 have B15 := Lib.hid (blk_below B14.out hd.below)
 have B25 := Lib.hid (blk_below B24.out hd.below)
 have CB15 := Lib.hid (below_then CB14.out CB14.out.size hd.below)
 have CB25 := Lib.hid (below_then CB24.out CB24.out.size hd.below)
 clear B14 B24 CB14 CB24 hd n4 m4
 have n5 : w5.cell? ⟨G, 5, none⟩ = some (.slice IV (padV vs).length iV) := (blk_cell B15.out 5).trans rfl
 have m5 : w5.cell? ⟨g, 5, none⟩ = some (.slice JV (padV vs).length jV) := (blk_cell B25.out 5).trans rfl
 go_wp2_with fail
 refine (augurref00_EqNarrows.calls ((padV vs).length + 16777280 + 1 + 1) _ _ _ _ _ _ true w5 (Kd.C_below RV.out CB15.out) QV.out (Kd.C_below SV.out CB25.out) UV.out (eqNarrows_is (m := 16777280) (by have := LV.out; omega) (by omega) LR.out (Nat.lt_succ_self _))).mono ?_
 rintro e w6 ⟨rfl, hd⟩
 have B16 := Lib.hid (blk_below B15.out hd.below)
 have B26 := Lib.hid (blk_below B25.out hd.below)
 have CB16 := Lib.hid (below_then CB15.out CB15.out.size hd.below)
 have CB26 := Lib.hid (below_then CB25.out CB25.out.size hd.below)
 clear B15 B25 CB15 CB25 hd n5 m5
 go_wp2
 go_ret
 exact ⟨rfl, CB16.out⟩
end Wk
end Go.Proofs.YtnioohhiphpplaaDoor.Dp
