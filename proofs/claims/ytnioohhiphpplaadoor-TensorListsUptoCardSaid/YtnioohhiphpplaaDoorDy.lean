/- The walk of plays: one call, on twins of what is handed in. -/
import Derived.Test.YtnioohhiphpplaaDoorDv
set_option linter.unusedVariables false
set_option linter.unusedSimpArgs false
namespace Go.Proofs.YtnioohhiphpplaaDoor.Dp
open Go.RowKit Go.Proofs.YtnioohhiphpplaaDoor.Pplays Go.Proofs.YtnioohhiphpplaaDoorW.PrintWords Go.Proofs.YtnioohhiphpplaaDoorW.PrintLast Go.Proofs.YtnioohhiphpplaaDoorW.PrintMore Go.Proofs.YtnioohhiphpplaaDoor.M Go.Proofs.YtnioohhiphpplaaDoor.Wk Go.Lib
namespace Wk
structure PlAt (w : World) (G g : Nat) (bx bi : Array Value) (W : World) : Prop where
 box : W.heap[G]? = some (.cells bx 39 (0, 0))
 inb : W.heap[g]? = some (.cells bi 47 (0, 0))
 bel : Below w.heap.size w W
theorem PlAt.step {w : World} {G g : Nat} {bx bi : Array Value} {W W1 : World} (h : PlAt w G g bx bi W) (hb : Below W.heap.size W W1) : PlAt w G g bx bi W1 := ⟨blk_below h.box hb, blk_below h.inb hb, below_step h.bel hb⟩
set_option maxHeartbeats 8000000 in
set_option maxRecDepth 100000 in
theorem plays_calls {A B D X T V : Option Addr} {cA cB cD cX cT cV : Nat} {a b d x : List Int} {t : List S87} {vs : List (List Int)} (kd rw cl n : Int) (w : World) (ht : Terms w) (hO : OpAt w A B D X T V cA cB cD cX cT cV a b d x t vs) (hF : OpFit a b d x vs) :
  Calls Tryd.prog 11 #[.agg (opBox A B D X T V cA cB cD cX cT cV a b d x t vs kd rw cl n)] w fun e w' => e = .returned (.bool true) ∧ Below w.heap.size w w' := by
 have hu39 := Tryd.underlying39
 have hu47 := Tryd.underlying47
 have HO := Lib.hid hO
 have HF := Lib.hid hF
 have HT := Lib.hid ht
 clear hO hF ht
 unfold opBox
 go_enter Tryd.func11, Tryd.ntmps11
 go_upto_region 1 with (fail)
 obtain ⟨G, hG⟩ : ∃ y, y = w.heap.size := ⟨_, rfl⟩
 obtain ⟨W, hW⟩ : ∃ y, y = w.alloc (.cells #[.int .i64 kd, .int .i64 rw, .int .i64 cl, .slice D d.length cD, .slice A a.length cA, .slice B b.length cB, .slice X x.length cX, .slice V vs.length cV, .slice T t.length cT, .int .i64 n] 39) := ⟨_, rfl⟩
 have hb1 : W.heap[G]? = some (.cells #[.int .i64 kd, .int .i64 rw, .int .i64 cl, .slice D d.length cD, .slice A a.length cA, .slice B b.length cB, .slice X x.length cX, .slice V vs.length cV, .slice T t.length cT, .int .i64 n] 39 (0, 0)) := by rw [hW, hG]; exact blk_new _ _
 have hbl : Below w.heap.size w W := by rw [hW]; exact below_alloc (Below.refl _ _) _
 rw [← hW, ← hG]
 clear hW
 have k0 : W.cell? ⟨G, 0, none⟩ = some (.int .i64 kd) := (blk_cell hb1 0).trans rfl
 have k1 : W.cell? ⟨G, 1, none⟩ = some (.int .i64 rw) := (blk_cell hb1 1).trans rfl
 have k2 : W.cell? ⟨G, 2, none⟩ = some (.int .i64 cl) := (blk_cell hb1 2).trans rfl
 have k3 : W.cell? ⟨G, 3, none⟩ = some (.slice D d.length cD) := (blk_cell hb1 3).trans rfl
 have k4 : W.cell? ⟨G, 4, none⟩ = some (.slice A a.length cA) := (blk_cell hb1 4).trans rfl
 have k5 : W.cell? ⟨G, 5, none⟩ = some (.slice B b.length cB) := (blk_cell hb1 5).trans rfl
 have k6 : W.cell? ⟨G, 6, none⟩ = some (.slice X x.length cX) := (blk_cell hb1 6).trans rfl
 have k7 : W.cell? ⟨G, 7, none⟩ = some (.slice V vs.length cV) := (blk_cell hb1 7).trans rfl
 have k8 : W.cell? ⟨G, 8, none⟩ = some (.slice T t.length cT) := (blk_cell hb1 8).trans rfl
 have k9 : W.cell? ⟨G, 9, none⟩ = some (.int .i64 n) := (blk_cell hb1 9).trans rfl
 have HG := Lib.hid hG
 have BX := Lib.hid hb1
 have BL := Lib.hid hbl
 clear hG hb1 hbl
 go_wp2_with fail
 refine (in_calls kd rw cl n W (HO.out.below BL.out)).mono ?_
 rintro e wa ⟨a2, b2, d2, x2, t2, v2, rfl, hR, hB⟩
 have hI2 := hR.read
 obtain ⟨IA, iA, rfl, UA, SA⟩ := hI2.hA
 obtain ⟨IB, iB, rfl, UB, SB⟩ := hI2.hB
 obtain ⟨ID, iD, rfl, UD, SD⟩ := hI2.hD
 obtain ⟨IX, iX, rfl, UX, SX⟩ := hI2.hX
 obtain ⟨IT, iT, rfl, UT, ST⟩ := hI2.hT
 obtain ⟨IV, iV, rfl, UV, SV⟩ := hI2.vec
 have HI := Lib.hid hI2
 have HB := Lib.hid hB
 clear hR hI2 hB UA UB UD UX UT UV SA SB SD SX ST SV k0 k1 k2 k3 k4 k5 k6 k7 k8 k9
 go_upto_region 2 with (fail)
 obtain ⟨g, hg⟩ : ∃ y, y = wa.heap.size := ⟨_, rfl⟩
 obtain ⟨wb, hwb⟩ : ∃ y, y = wa.alloc (.cells #[.slice IA (pad a).length iA, .slice IB (pad b).length iB, .slice ID (pad d).length iD, .slice IX (pad x).length iX, .slice IT (padT t).length iT, .slice IV (padV vs).length iV] 47) := ⟨_, rfl⟩
 have b2 : wb.heap[g]? = some (.cells #[.slice IA (pad a).length iA, .slice IB (pad b).length iB, .slice ID (pad d).length iD, .slice IX (pad x).length iX, .slice IT (padT t).length iT, .slice IV (padV vs).length iV] 47 (0, 0)) := by rw [hwb, hg]; exact blk_new _ _
 have cb2 : Below wa.heap.size wa wb := by rw [hwb]; exact below_alloc (Below.refl _ _) _
 rw [← hwb, ← hg]
 have HA : Hid (PlAt w G g #[.int .i64 kd, .int .i64 rw, .int .i64 cl, .slice D d.length cD, .slice A a.length cA, .slice B b.length cB, .slice X x.length cX, .slice V vs.length cV, .slice T t.length cT, .int .i64 n] #[.slice IA (pad a).length iA, .slice IB (pad b).length iB, .slice ID (pad d).length iD, .slice IX (pad x).length iX, .slice IT (padT t).length iT, .slice IV (padV vs).length iV] wb) := Lib.hid ⟨blk_below (blk_below BX.out HB.out) cb2, b2, below_step (below_step BL.out HB.out) cb2⟩
 have HI2 := Lib.hid (HI.out.below cb2)
 clear hg hwb b2 cb2 HB HI BX
 have k0 : wb.cell? ⟨G, 0, none⟩ = some (.int .i64 kd) := (blk_cell HA.out.box 0).trans rfl
 have k1 : wb.cell? ⟨G, 1, none⟩ = some (.int .i64 rw) := (blk_cell HA.out.box 1).trans rfl
 have k2 : wb.cell? ⟨G, 2, none⟩ = some (.int .i64 cl) := (blk_cell HA.out.box 2).trans rfl
 have k3 : wb.cell? ⟨G, 3, none⟩ = some (.slice D d.length cD) := (blk_cell HA.out.box 3).trans rfl
 have k4 : wb.cell? ⟨G, 4, none⟩ = some (.slice A a.length cA) := (blk_cell HA.out.box 4).trans rfl
 have k5 : wb.cell? ⟨G, 5, none⟩ = some (.slice B b.length cB) := (blk_cell HA.out.box 5).trans rfl
 have k6 : wb.cell? ⟨G, 6, none⟩ = some (.slice X x.length cX) := (blk_cell HA.out.box 6).trans rfl
 have k7 : wb.cell? ⟨G, 7, none⟩ = some (.slice V vs.length cV) := (blk_cell HA.out.box 7).trans rfl
 have k8 : wb.cell? ⟨G, 8, none⟩ = some (.slice T t.length cT) := (blk_cell HA.out.box 8).trans rfl
 have k9 : wb.cell? ⟨G, 9, none⟩ = some (.int .i64 n) := (blk_cell HA.out.box 9).trans rfl
 have i0 : wb.cell? ⟨g, 0, none⟩ = some (.slice IA (pad a).length iA) := (blk_cell HA.out.inb 0).trans rfl
 have i1 : wb.cell? ⟨g, 1, none⟩ = some (.slice IB (pad b).length iB) := (blk_cell HA.out.inb 1).trans rfl
 have i2 : wb.cell? ⟨g, 2, none⟩ = some (.slice ID (pad d).length iD) := (blk_cell HA.out.inb 2).trans rfl
 have i3 : wb.cell? ⟨g, 3, none⟩ = some (.slice IX (pad x).length iX) := (blk_cell HA.out.inb 3).trans rfl
 have i4 : wb.cell? ⟨g, 4, none⟩ = some (.slice IT (padT t).length iT) := (blk_cell HA.out.inb 4).trans rfl
 have i5 : wb.cell? ⟨g, 5, none⟩ = some (.slice IV (padV vs).length iV) := (blk_cell HA.out.inb 5).trans rfl
 go_upto_region 3 with (fail)
 go_upto_if 10 with (fail)
 go_cut [4] (fun s4 wx => s4 = .bool true ∧ Below wb.heap.size wb wx)
 case first =>
  by_cases hk : kd < 6
  ·have hk' : decide (kd < 6) = true := decide_eq_true hk
   rw [hk']
   clear hk
   go_wp2_with fail
   refine (plain_calls kd rw cl n wb HI2.out (HO.out.below HA.out.bel) HF.out).mono ?_
   rintro e wd ⟨rfl, hd⟩
   go_wp2
   go_meet
   exact ⟨rfl, hd⟩
  ·have hk' : decide (kd < 6) = false := decide_eq_false hk
   rw [hk']
   clear hk
   go_wp2_with fail
   refine (mixed_calls kd rw cl n wb (HT.out.below HA.out.bel) HI2.out (HO.out.below HA.out.bel) HF.out).mono ?_
   rintro e wd ⟨rfl, hd⟩
   go_wp2
   go_meet
   exact ⟨rfl, hd⟩
 case rest =>
  obtain ⟨rfl, hcb⟩ := hcut
  have HA2 := Lib.hid (HA.out.step hcb)
  have HI3 := Lib.hid (HI2.out.below hcb)
  clear hcb k0 k1 k2 k3 k4 k5 k6 k7 k8 k9 i0 i1 i2 i3 i4 i5 HA HI2
  have k0 : wc.cell? ⟨G, 0, none⟩ = some (.int .i64 kd) := (blk_cell HA2.out.box 0).trans rfl
  have k1 : wc.cell? ⟨G, 1, none⟩ = some (.int .i64 rw) := (blk_cell HA2.out.box 1).trans rfl
  have k2 : wc.cell? ⟨G, 2, none⟩ = some (.int .i64 cl) := (blk_cell HA2.out.box 2).trans rfl
  have k3 : wc.cell? ⟨G, 3, none⟩ = some (.slice D d.length cD) := (blk_cell HA2.out.box 3).trans rfl
  have k4 : wc.cell? ⟨G, 4, none⟩ = some (.slice A a.length cA) := (blk_cell HA2.out.box 4).trans rfl
  have k5 : wc.cell? ⟨G, 5, none⟩ = some (.slice B b.length cB) := (blk_cell HA2.out.box 5).trans rfl
  have k6 : wc.cell? ⟨G, 6, none⟩ = some (.slice X x.length cX) := (blk_cell HA2.out.box 6).trans rfl
  have k7 : wc.cell? ⟨G, 7, none⟩ = some (.slice V vs.length cV) := (blk_cell HA2.out.box 7).trans rfl
  have k8 : wc.cell? ⟨G, 8, none⟩ = some (.slice T t.length cT) := (blk_cell HA2.out.box 8).trans rfl
  have k9 : wc.cell? ⟨G, 9, none⟩ = some (.int .i64 n) := (blk_cell HA2.out.box 9).trans rfl
  have i0 : wc.cell? ⟨g, 0, none⟩ = some (.slice IA (pad a).length iA) := (blk_cell HA2.out.inb 0).trans rfl
  have i1 : wc.cell? ⟨g, 1, none⟩ = some (.slice IB (pad b).length iB) := (blk_cell HA2.out.inb 1).trans rfl
  have i2 : wc.cell? ⟨g, 2, none⟩ = some (.slice ID (pad d).length iD) := (blk_cell HA2.out.inb 2).trans rfl
  have i3 : wc.cell? ⟨g, 3, none⟩ = some (.slice IX (pad x).length iX) := (blk_cell HA2.out.inb 3).trans rfl
  have i4 : wc.cell? ⟨g, 4, none⟩ = some (.slice IT (padT t).length iT) := (blk_cell HA2.out.inb 4).trans rfl
  have i5 : wc.cell? ⟨g, 5, none⟩ = some (.slice IV (padV vs).length iV) := (blk_cell HA2.out.inb 5).trans rfl
  go_wp2_with fail
  refine (kept_calls kd rw cl n wc HI3.out (HO.out.below HA2.out.bel)).mono ?_
  rintro e wd ⟨rfl, hd⟩
  have HD := Lib.hid (below_step HA2.out.bel hd)
  clear hd k0 k1 k2 k3 k4 k5 k6 k7 k8 k9 i0 i1 i2 i3 i4 i5
  go_wp2
  go_ret
  exact ⟨rfl, HD.out⟩
end Wk
end Go.Proofs.YtnioohhiphpplaaDoor.Dp
