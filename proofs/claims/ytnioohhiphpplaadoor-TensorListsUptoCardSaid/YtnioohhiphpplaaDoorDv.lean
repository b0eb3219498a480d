/- The walk of mixed: Softmax, Blend, Turns, Rotate. -/
import Derived.Test.YtnioohhiphpplaaDoorDo
set_option linter.unusedVariables false
set_option linter.unusedSimpArgs false
namespace Go.Proofs.YtnioohhiphpplaaDoor.Dp
open Go.RowKit Go.Proofs.YtnioohhiphpplaaDoor.Pplays Go.Proofs.YtnioohhiphpplaaDoorW.PrintWords Go.Proofs.YtnioohhiphpplaaDoorW.PrintLast Go.Proofs.YtnioohhiphpplaaDoorW.PrintMore Go.Proofs.YtnioohhiphpplaaDoor.M Go.Proofs.YtnioohhiphpplaaDoor.Wk Go.Lib
namespace Wk
theorem vec_calls {IA IB ID IX IT IV A B D X T V : Option Addr} {iA iB iD iX iT iV cA cB cD cX cT cV : Nat} {a b d x : List Int} {t : List S87} {vs : List (List Int)} (kd rw cl n : Int) (w : World) (hI : InC w (.slice IA (pad a).length iA) (.slice IB (pad b).length iB) (.slice ID (pad d).length iD) (.slice IX (pad x).length iX) (.slice IT (padT t).length iT) (.slice IV (padV vs).length iV) a b d x t vs) (hO : OpAt w A B D X T V cA cB cD cX cT cV a b d x t vs) :
  Calls Tryd.prog 14 #[.agg #[.slice IA (pad a).length iA, .slice IB (pad b).length iB, .slice ID (pad d).length iD, .slice IX (pad x).length iX, .slice IT (padT t).length iT, .slice IV (padV vs).length iV], .agg #[.int .i64 kd, .int .i64 rw, .int .i64 cl, .slice D d.length cD, .slice A a.length cA, .slice B b.length cB, .slice X x.length cX, .slice V vs.length cV, .slice T t.length cT, .int .i64 n]] w fun e w' =>
   ∃ v0, e = .returned v0 ∧ Rd (Kd.slice 57 (Kd.int .i8)) w' v0 vs ∧ Below w.heap.size w w' := by
 obtain ⟨pA, qA, eA, hA, gA⟩ := hI.hA
 obtain ⟨pB, qB, eB, hB, gB⟩ := hI.hB
 obtain ⟨pD, qD, eD, hD, gD⟩ := hI.hD
 obtain ⟨pX, qX, eX, hX, gX⟩ := hI.hX
 obtain ⟨pT, qT, eT, hT, gT⟩ := hI.hT
 cases eA; cases eB; cases eD; cases eX; cases eT
 refine (augurlaw03_In_vectors.calls (vs.length + 1) IA iA (pad a) IB iB (pad b) ID iD (pad d) IX iX (pad x) IT iT (padT t) (fun _ => True) IV iV (padV vs) kd rw cl D cD d A cA a B cB b X cX x V cV vs T cT t n vs w gA hA gB hB gD hD gX hX gT hT hI.hV hO.hD hO.lD hO.hA hO.lA hO.hB hO.lB hO.hX hO.lX hO.hV hO.lV hO.hT hO.lT ?_).mono ?_
 ·have h := vectors_l0 (vs := vs) (a := pad a) (b := pad b) (d := pad d) (x := pad x) (t := padT t) (m0 := kd) (m1 := rw) (m2 := cl) (nn := n) (e0 := d) (e1 := a) (e2 := b) (e3 := x) (e4 := t) hO.nV vs.length (vs.length + 1) 0 (by omega) (by omega)
  exact h
 ·rintro e w' ⟨v0, rfl, h1, h2⟩
  exact ⟨v0, rfl, Kd.N_reads h1, h2⟩
theorem box_cells {w : World} {G : Nat} {IA IB ID IX IT IV A B D X T V : Option Addr} {iA iB iD iX iT iV cA cB cD cX cT cV : Nat} {a b d x : List Int} {t : List S87} {vs : List (List Int)} {kd rw cl n : Int}
  (h1 : w.heap[G]? = some (.cells (opBox A B D X T V cA cB cD cX cT cV a b d x t vs kd rw cl n) 39 (0, 0))) (h2 : w.heap[G + 1]? = some (.cells (inBox IA IB ID IX IT IV iA iB iD iX iT iV a b d x t vs) 47 (0, 0))) :
  w.cell? ⟨G, 0, none⟩ = some (.int .i64 kd) ∧ w.cell? ⟨G, 1, none⟩ = some (.int .i64 rw) ∧ w.cell? ⟨G, 2, none⟩ = some (.int .i64 cl) ∧ w.cell? ⟨G, 3, none⟩ = some (.slice D d.length cD) ∧ w.cell? ⟨G, 4, none⟩ = some (.slice A a.length cA) ∧ w.cell? ⟨G, 5, none⟩ = some (.slice B b.length cB) ∧ w.cell? ⟨G, 6, none⟩ = some (.slice X x.length cX) ∧ w.cell? ⟨G, 7, none⟩ = some (.slice V vs.length cV) ∧ w.cell? ⟨G, 8, none⟩ = some (.slice T t.length cT) ∧ w.cell? ⟨G, 9, none⟩ = some (.int .i64 n) ∧ w.cell? ⟨G + 1, 0, none⟩ = some (.slice IA (pad a).length iA) ∧ w.cell? ⟨G + 1, 1, none⟩ = some (.slice IB (pad b).length iB) ∧ w.cell? ⟨G + 1, 2, none⟩ = some (.slice ID (pad d).length iD) ∧ w.cell? ⟨G + 1, 3, none⟩ = some (.slice IX (pad x).length iX) ∧ w.cell? ⟨G + 1, 4, none⟩ = some (.slice IT (padT t).length iT) ∧ w.cell? ⟨G + 1, 5, none⟩ = some (.slice IV (padV vs).length iV) :=
 ⟨(blk_cell h1 0).trans rfl, (blk_cell h1 1).trans rfl, (blk_cell h1 2).trans rfl, (blk_cell h1 3).trans rfl, (blk_cell h1 4).trans rfl, (blk_cell h1 5).trans rfl, (blk_cell h1 6).trans rfl, (blk_cell h1 7).trans rfl, (blk_cell h1 8).trans rfl, (blk_cell h1 9).trans rfl, (blk_cell h2 0).trans rfl, (blk_cell h2 1).trans rfl, (blk_cell h2 2).trans rfl, (blk_cell h2 3).trans rfl, (blk_cell h2 4).trans rfl, (blk_cell h2 5).trans rfl⟩
set_option maxHeartbeats 8000000 in
set_option maxRecDepth 100000 in
theorem mixed_calls {a1 b1 d1 x1 t1 v1 : Value} {A B D X T V : Option Addr} {cA cB cD cX cT cV : Nat} {a b d x : List Int} {t : List S87} {vs : List (List Int)} (kd rw cl n : Int) (w : World) (ht : Terms w) (hI : InC w a1 b1 d1 x1 t1 v1 a b d x t vs) (hO : OpAt w A B D X T V cA cB cD cX cT cV a b d x t vs) (hF : OpFit a b d x vs) :
  Calls Tryd.prog 24 #[.agg (opBox A B D X T V cA cB cD cX cT cV a b d x t vs kd rw cl n), .agg #[a1, b1, d1, x1, t1, v1]] w fun e w' => e = .returned (.bool true) ∧ Below w.heap.size w w' := by
 have hu39 := Tryd.underlying39
 have hu47 := Tryd.underlying47
 have HO := Lib.hid hO
 have HF := Lib.hid hF
 have HT := Lib.hid ht
 obtain ⟨IA, iA, rfl, QA, RA⟩ := hI.hA
 obtain ⟨IB, iB, rfl, QB, RB⟩ := hI.hB
 obtain ⟨ID, iD, rfl, QD, RD⟩ := hI.hD
 obtain ⟨IX, iX, rfl, QX, RX⟩ := hI.hX
 obtain ⟨IT, iT, rfl, QT, RT⟩ := hI.hT
 obtain ⟨IV, iV, rfl, QV, RV⟩ := hI.vec
 have HI := Lib.hid hI
 have MA : Hid (a.length ≤ iA ∧ Kd.C (Kd.int .i8) w IA a.length a) := Lib.hid ⟨by rw [pad_length] at QA; omega, by have := Kd.C_take RA (m := a.length) (by rw [pad_length]; omega); rwa [show (pad a).take a.length = a from List.take_left] at this⟩
 have MX : Hid (x.length ≤ iX ∧ Kd.C (Kd.int .i64) w IX x.length x) := Lib.hid ⟨by rw [pad_length] at QX; omega, by have := Kd.C_take RX (m := x.length) (by rw [pad_length]; omega); rwa [show (pad x).take x.length = x from List.take_left] at this⟩
 have MT : Hid (t.length ≤ iT ∧ Kd.C k87 w IT t.length t) := Lib.hid ⟨by rw [padT_length] at QT; omega, by have := Kd.C_take RT (m := t.length) (by rw [padT_length]; omega); rwa [show (padT t).take t.length = t from List.take_left] at this⟩
 clear hI hO hF ht QA QB QD QX QT QV RA RB RD RX RT RV
 unfold opBox
 go_enter Tryd.func24, Tryd.ntmps24
 go_upto_region 1 with (fail)
 obtain ⟨G, hG⟩ : ∃ y, y = w.heap.size := ⟨_, rfl⟩
 obtain ⟨W, hW⟩ : ∃ y, y = ((w.alloc (.cells #[.int .i64 kd, .int .i64 rw, .int .i64 cl, .slice D d.length cD, .slice A a.length cA, .slice B b.length cB, .slice X x.length cX, .slice V vs.length cV, .slice T t.length cT, .int .i64 n] 39)).alloc (.cells #[.slice IA (pad a).length iA, .slice IB (pad b).length iB, .slice ID (pad d).length iD, .slice IX (pad x).length iX, .slice IT (padT t).length iT, .slice IV (padV vs).length iV] 47)) := ⟨_, rfl⟩
 have hb1 : W.heap[G]? = some (.cells (opBox A B D X T V cA cB cD cX cT cV a b d x t vs kd rw cl n) 39 (0, 0)) := by rw [hW, hG]; exact blk_alloc (blk_new _ _) _
 have hb2 : W.heap[G + 1]? = some (.cells (inBox IA IB ID IX IT IV iA iB iD iX iT iV a b d x t vs) 47 (0, 0)) := by rw [hW, hG]; exact blk_new2 w _ _
 have hbl : Below w.heap.size w W := by rw [hW]; exact below_alloc (below_alloc (Below.refl _ _) _) _
 rw [← hW, ← hG]
 clear hW
 have HG := Lib.hid hG
 have B1 := Lib.hid hb1
 have B2 := Lib.hid hb2
 have BL := Lib.hid hbl
 clear hG hb1 hb2 hbl
 obtain ⟨k0, -, -, -, k4, -, k6, -, k8, k9, i0, -, -, i3, i4, -⟩ := box_cells B1.out B2.out
 have qa : a.length ≤ iA := MA.out.1
 have qx : x.length ≤ iX := MX.out.1
 have qt : t.length ≤ iT := MT.out.1
 have qa2 : (a.length : Int) ≤ (iA : Int) := by omega
 have qx2 : (x.length : Int) ≤ (iX : Int) := by omega
 have qt2 : (t.length : Int) ≤ (iT : Int) := by omega
 have qa0 : (0 : Int) ≤ (a.length : Int) := by omega
 have qx0 : (0 : Int) ≤ (x.length : Int) := by omega
 have qt0 : (0 : Int) ≤ (t.length : Int) := by omega
 go_upto_block 0 with (fail)
 clear k0
 by_cases h1 : kd = 6
 ·subst h1
  go_wp2_with fail
  refine Calls.mono (soft_prog (HT.out.below BL.out) (Kd.C_below MX.out.2 BL.out) MX.out.1 HO.out.nX) ?_
  rintro e wb ⟨v1, rfl, hv1, hb⟩
  have BW := Lib.hid (below_step BL.out hb)
  have j6 : wb.cell? ⟨G, 6, none⟩ = some (.slice X x.length cX) := (blk_cell (blk_below B1.out hb) 6).trans rfl
  clear k4 k6 k8 k9 i0 i3 i4 qa qx qt qa2 qx2 qt2 qa0 qx0 qt0
  go_wp2_with fail
  refine Calls.mono (soft_ref (Kd.C_below HO.out.hX BW.out) HO.out.lX HO.out.nX) ?_
  rintro e wc ⟨v2, rfl, hv2, hc⟩
  have BW2 := Lib.hid (below_step BW.out hc)
  obtain ⟨P1, z1, rfl, hz1, hC1⟩ := hv1.below hc
  obtain ⟨P2, z2, rfl, hz2, hC2⟩ := hv2
  go_wp2_with fail
  refine (augurref00_EqWide.calls _ _ _ _ _ _ _ true wc hC1 hz1 hC2 hz2 (eqWide_is (by have := HO.out.nX; unfold softV; rw [tb_length]; omega) (Nat.lt_succ_self _))).mono ?_
  rintro e wd ⟨rfl, hd⟩
  have BW3 := Lib.hid (below_step BW2.out hd.below)
  clear hC1 hC2 hz1 hz2 hd hc
  go_wp2
  go_ret
  exact ⟨rfl, BW3.out⟩
 by_cases h2 : kd = 7
 ·subst h2
  obtain ⟨xs, err, hxl, hbl⟩ := blend_two HO.out.nX HO.out.nV HO.out.nr HF.out.sV
  have HBL := Lib.hid hbl
  clear hbl
  have BD : Hid (Below w.heap.size w W.drew) := Lib.hid (below_drew1 BL.out)
  go_upto_region 8 with (fail)
  go_region_held3 (fun w' => w'.cell? ⟨G, 0, none⟩ = some (.int .i64 7) ∧ w'.cell? ⟨G, 1, none⟩ = some (.int .i64 rw) ∧ w'.cell? ⟨G, 2, none⟩ = some (.int .i64 cl) ∧ w'.cell? ⟨G, 3, none⟩ = some (.slice D d.length cD) ∧ w'.cell? ⟨G, 4, none⟩ = some (.slice A a.length cA) ∧ w'.cell? ⟨G, 5, none⟩ = some (.slice B b.length cB) ∧ w'.cell? ⟨G, 6, none⟩ = some (.slice X x.length cX) ∧ w'.cell? ⟨G, 7, none⟩ = some (.slice V vs.length cV) ∧ w'.cell? ⟨G, 8, none⟩ = some (.slice T t.length cT) ∧ w'.cell? ⟨G, 9, none⟩ = some (.int .i64 n) ∧ w'.cell? ⟨G + 1, 0, none⟩ = some (.slice IA (pad a).length iA) ∧ w'.cell? ⟨G + 1, 1, none⟩ = some (.slice IB (pad b).length iB) ∧ w'.cell? ⟨G + 1, 2, none⟩ = some (.slice ID (pad d).length iD) ∧ w'.cell? ⟨G + 1, 3, none⟩ = some (.slice IX (pad x).length iX) ∧ w'.cell? ⟨G + 1, 4, none⟩ = some (.slice IT (padT t).length iT) ∧ w'.cell? ⟨G + 1, 5, none⟩ = some (.slice IV (padV vs).length iV)) (first | exact box_cells (blk_drew B1.out) (blk_drew B2.out) | exact box_cells (blk_below (blk_drew B1.out) hq) (blk_below (blk_drew B2.out) hq) | exact box_cells (blk_below (blk_drew B1.out) hb) (blk_below (blk_drew B2.out) hb) | exact box_cells (blk_below (blk_below (blk_drew B1.out) hq) hb) (blk_below (blk_below (blk_drew B2.out) hq) hb) | fail) (first | (go_at_call 14; go_loud (refine (vec_calls 7 rw cl n _ (HI.out.below BD.out) (HO.out.below BD.out)).mono ?_); rintro e wq ⟨vq, rfl, hvq, hq⟩; obtain ⟨PQ, zq, rfl, hzq, hCq⟩ := hvq) | (go_at_call 32; go_loud (refine Calls.mono (HBL.out _ _ _ _ _ (Kd.C_below MX.out.2 (below_step BD.out hq)) MX.out.1 hCq hzq).1 ?_); rintro e wb ⟨v1, rfl, hv1, hb⟩) | fail)
  rename_i hheld1
  clear hheld1 BD hCq hzq
  replace hb : Below W.heap.size W wb := below_step (below_step (below_drew (Below.refl W.heap.size W)) hq) hb
  clear hq
  have BW := Lib.hid (below_step BL.out hb)
  have j6 : wb.cell? ⟨G, 6, none⟩ = some (.slice X x.length cX) := (blk_cell (blk_below B1.out hb) 6).trans rfl
  have j7 : wb.cell? ⟨G, 7, none⟩ = some (.slice V vs.length cV) := (blk_cell (blk_below B1.out hb) 7).trans rfl
  clear k4 k6 k8 k9 i0 i3 i4 qa qx qt qa2 qx2 qt2 qa0 qx0 qt0
  go_wp2_with fail
  refine Calls.mono (HBL.out _ _ _ _ _ (Kd.C_below HO.out.hX BW.out) HO.out.lX (Kd.C_below HO.out.hV BW.out) HO.out.lV).2 ?_
  rintro e wc ⟨v2, rfl, hv2, hc⟩
  have BW2 := Lib.hid (below_step BW.out hc)
  obtain ⟨P1, z1, rfl, hz1, hC1⟩ := hv1.below hc
  obtain ⟨P2, z2, rfl, hz2, hC2⟩ := hv2
  go_wp2_with fail
  refine (augurref00_EqNarrow.calls _ _ _ _ _ _ _ true wc hC1 hz1 hC2 hz2 (eqNarrow_is (by omega) (Nat.lt_succ_self _))).mono ?_
  rintro e wd ⟨rfl, hd⟩
  have BW3 := Lib.hid (below_step BW2.out hd.below)
  clear hC1 hC2 hz1 hz2 hd hc
  go_wp2
  go_ret
  exact ⟨rfl, BW3.out⟩
 by_cases h3 : kd = 8
 ·subst h3
  obtain ⟨xs, err, hxl, hxr, htn⟩ := turns_two n HO.out.nT
  have HTN := Lib.hid htn
  have HXR := Lib.hid hxr
  clear htn hxr
  have BD : Hid (Below w.heap.size w W.drew) := Lib.hid (below_drew1 BL.out)
  go_upto_region 13 with (fail)
  go_region_held3 (fun w' => w'.cell? ⟨G, 0, none⟩ = some (.int .i64 8) ∧ w'.cell? ⟨G, 1, none⟩ = some (.int .i64 rw) ∧ w'.cell? ⟨G, 2, none⟩ = some (.int .i64 cl) ∧ w'.cell? ⟨G, 3, none⟩ = some (.slice D d.length cD) ∧ w'.cell? ⟨G, 4, none⟩ = some (.slice A a.length cA) ∧ w'.cell? ⟨G, 5, none⟩ = some (.slice B b.length cB) ∧ w'.cell? ⟨G, 6, none⟩ = some (.slice X x.length cX) ∧ w'.cell? ⟨G, 7, none⟩ = some (.slice V vs.length cV) ∧ w'.cell? ⟨G, 8, none⟩ = some (.slice T t.length cT) ∧ w'.cell? ⟨G, 9, none⟩ = some (.int .i64 n) ∧ w'.cell? ⟨G + 1, 0, none⟩ = some (.slice IA (pad a).length iA) ∧ w'.cell? ⟨G + 1, 1, none⟩ = some (.slice IB (pad b).length iB) ∧ w'.cell? ⟨G + 1, 2, none⟩ = some (.slice ID (pad d).length iD) ∧ w'.cell? ⟨G + 1, 3, none⟩ = some (.slice IX (pad x).length iX) ∧ w'.cell? ⟨G + 1, 4, none⟩ = some (.slice IT (padT t).length iT) ∧ w'.cell? ⟨G + 1, 5, none⟩ = some (.slice IV (padV vs).length iV)) (first | exact box_cells (blk_drew B1.out) (blk_drew B2.out) | exact box_cells (blk_below (blk_drew B1.out) hb) (blk_below (blk_drew B2.out) hb) | fail) (first | (go_at_call 33; go_loud (refine Calls.mono (HTN.out _ _ _ (Kd.C_below MT.out.2 BD.out) MT.out.1).1 ?_); rintro e wb ⟨v1, rfl, hv1, hb⟩) | fail)
  rename_i hheld1
  clear hheld1 BD
  replace hb : Below W.heap.size W wb := below_step (below_drew (Below.refl W.heap.size W)) hb
  have BW := Lib.hid (below_step BL.out hb)
  have j8 : wb.cell? ⟨G, 8, none⟩ = some (.slice T t.length cT) := (blk_cell (blk_below B1.out hb) 8).trans rfl
  have j9 : wb.cell? ⟨G, 9, none⟩ = some (.int .i64 n) := (blk_cell (blk_below B1.out hb) 9).trans rfl
  clear k4 k6 k8 k9 i0 i3 i4 qa qx qt qa2 qx2 qt2 qa0 qx0 qt0
  go_wp2_with fail
  refine Calls.mono (HTN.out _ _ _ (Kd.C_below HO.out.hT BW.out) HO.out.lT).2 ?_
  rintro e wc ⟨v2, rfl, hv2, hc⟩
  have BW2 := Lib.hid (below_step BW.out hc)
  obtain ⟨P1, z1, rfl, hz1, hC1⟩ := hv1.below hc
  obtain ⟨P2, z2, rfl, hz2, hC2⟩ := hv2
  go_wp2_with fail
  refine (augurlaw03_eqTables.calls _ _ _ _ _ _ _ true wc hC1 hz1 hC2 hz2 (eqTables_is (m := 16777216) (by omega) (by omega) HXR.out (Nat.lt_succ_self _))).mono ?_
  rintro e wd ⟨rfl, hd⟩
  have BW3 := Lib.hid (below_step BW2.out hd.below)
  clear hC1 hC2 hz1 hz2 hd hc
  go_wp2
  go_ret
  exact ⟨rfl, BW3.out⟩
 by_cases h4 : kd = 9
 ·subst h4
  have BD : Hid (Below w.heap.size w W.drew) := Lib.hid (below_drew1 BL.out)
  go_upto_region 18 with (fail)
  go_region_held3 (fun w' => w'.cell? ⟨G, 0, none⟩ = some (.int .i64 9) ∧ w'.cell? ⟨G, 1, none⟩ = some (.int .i64 rw) ∧ w'.cell? ⟨G, 2, none⟩ = some (.int .i64 cl) ∧ w'.cell? ⟨G, 3, none⟩ = some (.slice D d.length cD) ∧ w'.cell? ⟨G, 4, none⟩ = some (.slice A a.length cA) ∧ w'.cell? ⟨G, 5, none⟩ = some (.slice B b.length cB) ∧ w'.cell? ⟨G, 6, none⟩ = some (.slice X x.length cX) ∧ w'.cell? ⟨G, 7, none⟩ = some (.slice V vs.length cV) ∧ w'.cell? ⟨G, 8, none⟩ = some (.slice T t.length cT) ∧ w'.cell? ⟨G, 9, none⟩ = some (.int .i64 n) ∧ w'.cell? ⟨G + 1, 0, none⟩ = some (.slice IA (pad a).length iA) ∧ w'.cell? ⟨G + 1, 1, none⟩ = some (.slice IB (pad b).length iB) ∧ w'.cell? ⟨G + 1, 2, none⟩ = some (.slice ID (pad d).length iD) ∧ w'.cell? ⟨G + 1, 3, none⟩ = some (.slice IX (pad x).length iX) ∧ w'.cell? ⟨G + 1, 4, none⟩ = some (.slice IT (padT t).length iT) ∧ w'.cell? ⟨G + 1, 5, none⟩ = some (.slice IV (padV vs).length iV)) (first | exact box_cells (blk_drew B1.out) (blk_drew B2.out) | exact box_cells (blk_below (blk_drew B1.out) hb) (blk_below (blk_drew B2.out) hb) | fail) (first | (go_at_call 35; go_loud (refine Calls.mono (rot_prog (Kd.C_below MA.out.2 BD.out) MA.out.1 (Kd.C_below MT.out.2 BD.out) MT.out.1 HF.out.sA HO.out.nA HO.out.nT) ?_); rintro e wb ⟨v1, rfl, hv1, hb⟩) | fail)
  rename_i hheld1
  clear hheld1 BD
  replace hb : Below W.heap.size W wb := below_step (below_drew (Below.refl W.heap.size W)) hb
  have BW := Lib.hid (below_step BL.out hb)
  have j4 : wb.cell? ⟨G, 4, none⟩ = some (.slice A a.length cA) := (blk_cell (blk_below B1.out hb) 4).trans rfl
  have j8 : wb.cell? ⟨G, 8, none⟩ = some (.slice T t.length cT) := (blk_cell (blk_below B1.out hb) 8).trans rfl
  clear k4 k6 k8 k9 i0 i3 i4 qa qx qt qa2 qx2 qt2 qa0 qx0 qt0
  go_wp2_with fail
  refine Calls.mono (rot_ref (Kd.C_below HO.out.hA BW.out) HO.out.lA (Kd.C_below HO.out.hT BW.out) HO.out.lT HF.out.sA HO.out.nA HO.out.nT) ?_
  rintro e wc ⟨v2, rfl, hv2, hc⟩
  have BW2 := Lib.hid (below_step BW.out hc)
  obtain ⟨P1, z1, rfl, hz1, hC1⟩ := hv1.below hc
  obtain ⟨P2, z2, rfl, hz2, hC2⟩ := hv2
  go_wp2_with fail
  refine (augurref00_EqNarrow.calls _ _ _ _ _ _ _ true wc hC1 hz1 hC2 hz2 (eqNarrow_is (by have := rot_length (v := a) (ts := t) HO.out.nA; omega) (Nat.lt_succ_self _))).mono ?_
  rintro e wd ⟨rfl, hd⟩
  have BW3 := Lib.hid (below_step BW2.out hd.below)
  clear hC1 hC2 hz1 hz2 hd hc
  go_wp2
  go_ret
  exact ⟨rfl, BW3.out⟩
 go_wp2
 go_ret
 exact ⟨rfl, BL.out⟩
end Wk
end Go.Proofs.YtnioohhiphpplaaDoor.Dp
