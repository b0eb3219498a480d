/- The walk of CopyMat. -/
import Derived.Test.YtnioohhiphpplaaDoorLh
import Derived.Test.YtnioohhiphpplaaDoorSq
set_option linter.unusedVariables false
set_option linter.unusedSimpArgs false
namespace Go.Proofs.YtnioohhiphpplaaDoor.Dp
open Go.RowKit Go.Proofs.YtnioohhiphpplaaDoor.Pplays Go.Proofs.YtnioohhiphpplaaDoorW.PrintWords Go.Proofs.YtnioohhiphpplaaDoorW.PrintLast Go.Proofs.YtnioohhiphpplaaDoorW.PrintMore Go.Proofs.YtnioohhiphpplaaDoor.M Go.Proofs.YtnioohhiphpplaaDoor.Wk Go.Lib
namespace Wk
set_option maxHeartbeats 4000000 in
set_option maxRecDepth 100000 in
theorem mat_calls {A : Option Addr} {l : List Int} {c : Nat} (rw cl : Int) (w : World) (h : Kd.C (Kd.int .i8) w A l.length l) (hc : l.length ≤ c) (hl : l.length ≤ 16777216) :
  Calls Tryd.prog 40 #[.agg #[.int .i64 rw, .int .i64 cl, .slice A l.length c]] w fun e w' => ∃ A2 c2, e = .returned (.agg #[.int .i64 rw, .int .i64 cl, .slice A2 l.length c2]) ∧ Kd.R (Kd.int .i8) 57 w' w.heap.size (fun _ => True) (.slice A2 l.length c2) l ∧ Below w.heap.size w w' := by
 have hu35 := Tryd.underlying35
 go_enter Tryd.func40, Tryd.ntmps40
 go_upto_region 1 with (fail)
 obtain ⟨G, hG⟩ : ∃ y, y = w.heap.size := ⟨_, rfl⟩
 obtain ⟨W, hW⟩ : ∃ y, y = ((w.alloc (.cells #[.int .i64 rw, .int .i64 cl, .slice A l.length c] 35)).alloc (.cells #[.int .i64 0, .int .i64 0, .slice none 0 0] 35)) := ⟨_, rfl⟩
 have hb1 : W.heap[G]? = some (.cells #[.int .i64 rw, .int .i64 cl, .slice A l.length c] 35 (0, 0)) := by rw [hW, hG]; exact blk_alloc (blk_new _ _) _
 have hb2 : W.heap[G + 1]? = some (.cells #[.int .i64 0, .int .i64 0, .slice none 0 0] 35 (0, 0)) := by rw [hW, hG]; exact blk_new2 w _ _
 have hbl : Below w.heap.size w W.drew := by rw [hW]; exact below_drew1 (below_alloc (below_alloc (Below.refl _ _) _) _)
 rw [← hW, ← hG]
 have HG := Lib.hid (show w.heap.size ≤ G + 1 by omega)
 clear hW hG
 have k0 : W.drew.cell? ⟨G, 0, none⟩ = some (.int .i64 rw) := (blk_cell hb1 0).trans rfl
 have k1 : W.drew.cell? ⟨G, 1, none⟩ = some (.int .i64 cl) := (blk_cell hb1 1).trans rfl
 have k2 : W.drew.cell? ⟨G, 2, none⟩ = some (.slice A l.length c) := (blk_cell hb1 2).trans rfl
 have HB2 : Hid (W.drew.heap[G + 1]? = some (.cells #[.int .i64 0, .int .i64 0, .slice none 0 0] 35 (0, 0))) := Lib.hid hb2
 have HBL := Lib.hid hbl
 have HC := Lib.hid (copyN_calls W.drew (Kd.C_below h hbl) hc hl)
 clear hb1 hb2 hbl h hc hl
 refine start_ (n := 9) (S := fun w' => w'.cell? ⟨G, 0, none⟩ = some (.int .i64 rw) ∧ w'.cell? ⟨G, 1, none⟩ = some (.int .i64 cl) ∧ w'.cell? ⟨G, 2, none⟩ = some (.slice A l.length c)) (ds := [8]) #[false, false, false, false, false, false, false, false, false] (by kernel_rfl) rfl rfl ⟨k0, k1, k2⟩ (fun hHeld => ?_)
 refine pu_ 0 3 ?_
 refine pu_ 2 5 ?_
 refine pu_ 4 7 ?_
 refine tk_ 1 4 hHeld ?_
 refine tk_ 3 6 hHeld ?_
 refine tk_ 5 8 hHeld ?_
 refine on_ 6 (some 9) (fun K hK => ?_)
 refine gs_ Tryd.func41 #[.slice A l.length c] ?_
 with_reducible refine (HC.out).mono ?_
 rintro e w4 ⟨v4, rfl, hR4, hb4⟩
 refine ⟨_, rfl, ?_⟩
 obtain ⟨A4, c4, e4⟩ := Kd.R_slice hR4
 subst e4
 have HR4 := Lib.hid (Kd.R_lower hR4 HBL.out.size)
 have HB4 := Lib.hid (below_step HBL.out hb4)
 have k0x := pw_cell_below hb4 k0
 have k1x := pw_cell_below hb4 k1
 have k2x := pw_cell_below hb4 k2
 have hb2 : w4.heap[G + 1]? = some (.cells #[.int .i64 0, .int .i64 0, .slice none 0 0] 35 (0, 0)) := blk_below HB2.out hb4
 have HB24 := Lib.hid hb2
 have m0 : w4.cell? ⟨G + 1, 0, none⟩ = some (.int .i64 0) := (blk_cell hb2 0).trans rfl
 have m1 : w4.cell? ⟨G + 1, 1, none⟩ = some (.int .i64 0) := (blk_cell hb2 1).trans rfl
 have m2 : w4.cell? ⟨G + 1, 2, none⟩ = some (.slice none 0 0) := (blk_cell hb2 2).trans rfl
 have f0 := blk_frozen hb2 0
 have f1 := blk_frozen hb2 1
 have f2 := blk_frozen hb2 2
 clear hR4 hb4 hb2
 refine hK.out _ _ ⟨k0x, k1x, k2x⟩ (fun hHeld => ?_)
 clear hK K
 refine nm_ 9 ?_
 refine pu_ 7 10 ?_
 refine ls_ 8 none (fun K hK => ?_)
 refine sk_ (hK.out _ _ ?_)
 clear hK K
 refine dn_ ?_
 go_upto_region 2 with (fail)
 obtain ⟨wf, hwf⟩ : ∃ y, y = ((w4.setCell ⟨G + 1, 0, none⟩ (.int .i64 rw)).setCell ⟨G + 1, 1, none⟩ (.int .i64 cl)).setCell ⟨G + 1, 2, none⟩ (.slice A4 l.length c4) := ⟨_, rfl⟩
 have hk : KeepBut w4 wf (G + 1) none := by rw [hwf]; exact (((KeepBut.refl _ _ _).set_ _ _).set_ _ _).set_ _ _
 have hb5 : wf.heap[G + 1]? = some (.cells #[.int .i64 rw, .int .i64 cl, .slice A4 l.length c4] 35 (0, 0)) := by rw [hwf]; exact blk_put (blk_put (blk_put HB24.out 0 _ rfl) 1 _ rfl) 2 _ rfl
 have hbf : Below w.heap.size w wf := by rw [hwf]; exact below_set (below_set (below_set HB4.out HG.out) HG.out) HG.out
 rw [← hwf]
 have hR := R_kb HR4.out HB24.out (by intro q hq; rw [List.mem_singleton.1 hq]; decide) hk
 clear hwf
 refine bodyPost_ret (results_cell_row rfl _ _ (G + 1) 35 #[.int .i64 rw, .int .i64 cl, .slice A4 l.length c4] (0, 0) _ rfl hb5 Tryd.underlying35 rfl (by kernel_rfl)) rfl ?_
 exact ⟨A4, c4, rfl, hR, hbf⟩
end Wk
end Go.Proofs.YtnioohhiphpplaaDoor.Dp
