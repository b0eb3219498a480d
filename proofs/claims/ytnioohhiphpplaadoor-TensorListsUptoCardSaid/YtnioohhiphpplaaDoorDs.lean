/- The walks of the document's Step and Rotate; Rotate plainly. -/
import Derived.Test.YtnioohhiphpplaaDoorDd
set_option linter.unusedVariables false
set_option linter.unusedSimpArgs false
namespace Go.Proofs.YtnioohhiphpplaaDoor.Wk
open Go.RowKit Go.Proofs.YtnioohhiphpplaaDoor.Pplays Go.Proofs.YtnioohhiphpplaaDoorW.PrintWords Go.Proofs.YtnioohhiphpplaaDoorW.PrintLast Go.Proofs.YtnioohhiphpplaaDoorW.PrintMore Go.Proofs.YtnioohhiphpplaaDoor.M Go.Proofs.YtnioohhiphpplaaDoor.Dp
def tuX (a b c s : Int) : Int := shiftF (wrap64 (wrap64 (a * c) - wrap64 (b * s))) 14
def tuY (a b c s : Int) : Int := shiftF (wrap64 (wrap64 (a * s) + wrap64 (b * c))) 14
theorem refshift_calls {v : Int} (hv : rng v) (s : Int) (w : World) : Calls Tryd.prog 70 #[.int .i64 v, .int .i64 s] w fun e w' => e = .returned (.int .i64 (shiftF v s)) ∧ Drawn0 w w' :=
 augurref01_Shift.calls 80 v s _ w (refshift_is hv 80 (by omega))
theorem refclamp_calls {m : Int} (hm : rng m) (v : Int) (w : World) : Calls Tryd.prog 72 #[.int .i64 v, .int .i64 m] w fun e w' => e = .returned (.int .i64 (clampF v m)) ∧ Drawn0 w w' :=
 augurref01_Clamp.calls 1 v m _ w (refclamp_is hm 0)
theorem refclamp8_calls (v : Int) (w : World) : Calls Tryd.prog 71 #[.int .i64 v] w fun e w' => e = .returned (.int .i8 (clampF v 127)) ∧ Drawn0 w w' :=
 augurref01_Clamp8.calls 1 v _ w (by rw [refclamp8_is, c127_w])
theorem step_calls (a b c s : Int) (w : World) :
  Calls Tryd.prog 78 #[.agg #[.int .i64 a, .int .i64 b], .agg #[.int .i64 c, .int .i64 s]] w fun e w' => e = .returned (.agg #[.int .i64 (clampF (tuX a b c s) 16384), .int .i64 (clampF (tuY a b c s) 16384)]) ∧ Below w.heap.size w w' := by
 go_enter Tryd.func78, Tryd.ntmps78
 go_wp2_with fail
 have e0 := blk_new w (.cells #[.int .i64 a, .int .i64 b] 87)
 have e1 := blk_new (w.alloc (.cells #[.int .i64 a, .int .i64 b] 87)) (.cells #[.int .i64 c, .int .i64 s] 87)
 have e2 := blk_new ((w.alloc (.cells #[.int .i64 a, .int .i64 b] 87)).alloc (.cells #[.int .i64 c, .int .i64 s] 87)) (.cells #[.int .i64 0, .int .i64 0] 87)
 have f0 := blk_below (blk_below e0 (below_alloc (Below.refl _ _) (.cells #[.int .i64 c, .int .i64 s] 87))) (below_alloc (Below.refl _ _) (.cells #[.int .i64 0, .int .i64 0] 87))
 have f1 := blk_below e1 (below_alloc (Below.refl _ _) (.cells #[.int .i64 0, .int .i64 0] 87))
 rw [World.size_alloc] at e1 e2 f1
 rw [World.size_alloc] at e2
 have hB := below_alloc (below_alloc (below_alloc (Below.refl w.heap.size w) (.cells #[.int .i64 a, .int .i64 b] 87)) (.cells #[.int .i64 c, .int .i64 s] 87)) (.cells #[.int .i64 0, .int .i64 0] 87)
 obtain ⟨W, hW⟩ : ∃ W, ((w.alloc (.cells #[.int .i64 a, .int .i64 b] 87)).alloc (.cells #[.int .i64 c, .int .i64 s] 87)).alloc (.cells #[.int .i64 0, .int .i64 0] 87) = W := ⟨_, rfl⟩
 rw [hW] at f0 f1 e2 hB ⊢
 clear hW e0 e1
 have F0 := Lib.hid f0
 have F1 := Lib.hid f1
 have F2 := Lib.hid e2
 have HB := Lib.hid hB
 clear f0 f1 e2 hB
 refine (refshift_calls (wrap_rng _) 14 _).mono ?_
 rintro e w1 ⟨rfl, hd⟩
 rw [show shiftF (wrap64 (wrap64 (a * c) - wrap64 (b * s))) 14 = tuX a b c s from rfl]
 obtain ⟨tx, htx⟩ : ∃ tx, tuX a b c s = tx := ⟨_, rfl⟩
 rw [htx]
 have HTX := Lib.hid htx
 have G0 := blk_below F0.out hd.below
 have G1 := blk_below F1.out hd.below
 have G2 := Lib.hid (blk_below F2.out hd.below)
 have HB1 := Lib.hid (HB.out.trans (hd.below.mono HB.out.size))
 have k0 : w1.cell? ⟨w.heap.size, 0, none⟩ = some (.int .i64 a) := (blk_cell G0 0).trans rfl
 have k1 : w1.cell? ⟨w.heap.size, 1, none⟩ = some (.int .i64 b) := (blk_cell G0 1).trans rfl
 have k2 : w1.cell? ⟨w.heap.size + 1, 0, none⟩ = some (.int .i64 c) := (blk_cell G1 0).trans rfl
 have k3 : w1.cell? ⟨w.heap.size + 1, 1, none⟩ = some (.int .i64 s) := (blk_cell G1 1).trans rfl
 clear hd G0 G1 F0 F1 F2 HB htx
 go_wp2_with fail
 refine (refshift_calls (wrap_rng _) 14 _).mono ?_
 rintro e w2 ⟨rfl, hd⟩
 rw [show shiftF (wrap64 (wrap64 (a * s) + wrap64 (b * c))) 14 = tuY a b c s from rfl]
 obtain ⟨ty, hty⟩ : ∃ ty, tuY a b c s = ty := ⟨_, rfl⟩
 rw [hty]
 have HTY := Lib.hid hty
 have G3 := Lib.hid (blk_below G2.out hd.below)
 have HB2 := Lib.hid (HB1.out.trans (hd.below.mono HB1.out.size))
 clear hd G2 HB1 k0 k1 k2 k3 hty
 go_wp2_with fail
 refine (refclamp_calls (m := 16384) (by unfold rng; omega) _ _).mono ?_
 rintro e w3 ⟨rfl, hd⟩
 have G4 := Lib.hid (blk_below G3.out hd.below)
 have HB3 := Lib.hid (HB2.out.trans (hd.below.mono HB2.out.size))
 clear hd G3 HB2
 go_wp2_with fail
 refine (refclamp_calls (m := 16384) (by unfold rng; omega) _ _).mono ?_
 rintro e w4 ⟨rfl, hd⟩
 have G5 := blk_below G4.out hd.below
 have HB4 := Lib.hid (HB3.out.trans (hd.below.mono HB3.out.size))
 have HG5 := Lib.hid G5
 have k0 : w4.cell? ⟨w.heap.size + 1 + 1, 0, none⟩ = some (.int .i64 0) := (blk_cell G5 0).trans rfl
 have k1 : w4.cell? ⟨w.heap.size + 1 + 1, 1, none⟩ = some (.int .i64 0) := (blk_cell G5 1).trans rfl
 have f0 := blk_frozen G5 0
 have f1 := blk_frozen G5 1
 obtain ⟨cx, hcx⟩ : ∃ x, clampF tx 16384 = x := ⟨_, rfl⟩
 obtain ⟨cy, hcy⟩ : ∃ x, clampF ty 16384 = x := ⟨_, rfl⟩
 rw [hcx, hcy]
 have HCX := Lib.hid hcx
 have HCY := Lib.hid hcy
 clear hd G4 HB3 G5 hcx hcy
 go_wp2_with fail
 have b1 := blk_put HG5.out 0 (.int .i64 cx) rfl
 have b2 := blk_put (w := w4.setCell ⟨w.heap.size + 1 + 1, 0, none⟩ (.int .i64 cx)) b1 1 (.int .i64 cy) rfl
 refine bodyPost_ret (results_cell_row rfl _ _ (w.heap.size + 1 + 1) 87 #[.int .i64 cx, .int .i64 cy] (0, 0) _ rfl b2 Tryd.underlying87 rfl (by kernel_rfl)) rfl ?_
 refine ⟨by rw [HTX.out, HTY.out, HCX.out, HCY.out], ?_⟩
 exact below_set (below_set HB4.out (by show _ ≤ w.heap.size + 1 + 1; omega)) (by show _ ≤ w.heap.size + 1 + 1; omega)
end Go.Proofs.YtnioohhiphpplaaDoor.Wk
