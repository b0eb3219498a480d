/- The walk of stale: lists that are written over, and handed in again. -/
import Derived.Test.YtnioohhiphpplaaDoorLr
import Derived.Test.YtnioohhiphpplaaDoorSq
set_option linter.unusedVariables false
set_option linter.unusedSimpArgs false
namespace Go.Proofs.YtnioohhiphpplaaDoor.Dp
open Go.RowKit Go.Proofs.YtnioohhiphpplaaDoor.Pplays Go.Proofs.YtnioohhiphpplaaDoorW.PrintWords Go.Proofs.YtnioohhiphpplaaDoorW.PrintLast Go.Proofs.YtnioohhiphpplaaDoorW.PrintMore Go.Proofs.YtnioohhiphpplaaDoor.M Go.Proofs.YtnioohhiphpplaaDoor.Wk Go.Lib
namespace Wk
def z10 : Array Value := #[.int .i64 0, .int .i64 0, .int .i64 0, .slice none 0 0, .slice none 0 0, .slice none 0 0, .slice none 0 0, .slice none 0 0, .slice none 0 0, .int .i64 0]
def qbx (kd rw cl n : Int) (D A B X V T : Value) : Array Value := #[.int .i64 kd, .int .i64 rw, .int .i64 cl, D, A, B, X, V, T, .int .i64 n]
structure QF (W0 : World) (Gb : Nat) (bx : Array Value) (a b d x : List Int) (t : List S87) (d1 a1 b1 x1 t1 : Value) (g : Nat) (j : Nat) (al : Bool) (W : World) : Prop where
 box : W.heap[Gb]? = some (.cells bx 39 (0, 0))
 bel : Below W0.heap.size W0 W
 hD : 0 < j → Kd.R (Kd.int .i8) 57 W W0.heap.size (fun _ => True) d1 d
 hA : 1 < j → Kd.R (Kd.int .i8) 57 W W0.heap.size (fun _ => True) a1 a
 hB : 2 < j → Kd.R (Kd.int .i8) 57 W W0.heap.size (fun _ => True) b1 b
 hX : 3 < j → Kd.R (Kd.int .i64) 2 W W0.heap.size (fun _ => True) x1 x
 hT : 4 < j → Kd.R k87 87 W W0.heap.size (fun _ => True) t1 t
 hg : al = true → W.heap[g]? = some (.cells z10 39 (0, 0)) ∧ W0.heap.size ≤ g
 apA : 1 < j → Go.Proofs.YtnioohhiphpplaaDoor.Wk.Apart d1 a1
 apB : 2 < j → Go.Proofs.YtnioohhiphpplaaDoor.Wk.Apart d1 b1 ∧ Go.Proofs.YtnioohhiphpplaaDoor.Wk.Apart a1 b1
section
variable {W0 : World} {Gb : Nat} {bx : Array Value} {a b d x : List Int} {t : List S87} {d1 a1 b1 x1 t1 : Value} {g j : Nat} {aq : Bool} {W W1 : World}
theorem QF.step (h : QF W0 Gb bx a b d x t d1 a1 b1 x1 t1 g j aq W) (hb : Below W.heap.size W W1) : QF W0 Gb bx a b d x t d1 a1 b1 x1 t1 g j aq W1 :=
 ⟨blk_below h.box hb, below_step h.bel hb, fun hj => Kd.R_below (h.hD hj) hb, fun hj => Kd.R_below (h.hA hj) hb, fun hj => Kd.R_below (h.hB hj) hb, fun hj => Kd.R_below (h.hX hj) hb, fun hj => Kd.R_below (h.hT hj) hb, fun hl => ⟨blk_below (h.hg hl).1 hb, (h.hg hl).2⟩, h.apA, h.apB⟩
theorem QF.alo (h : QF W0 Gb bx a b d x t d1 a1 b1 x1 t1 g j false W) (hb : Below W.heap.size W W1) {g2 : Nat} (hg : g2 = W.heap.size) (hx : W1.heap[g2]? = some (.cells z10 39 (0, 0))) : QF W0 Gb bx a b d x t d1 a1 b1 x1 t1 g2 j true W1 :=
 { h.step hb with hg := fun _ => ⟨hx, by rw [hg]; exact h.bel.size⟩ }
end
def set10 (w : World) (g : Nat) (a b c d e f h i j k : Value) : World := (((((((((w.setCell ⟨g, 0, none⟩ a).setCell ⟨g, 1, none⟩ b).setCell ⟨g, 2, none⟩ c).setCell ⟨g, 3, none⟩ d).setCell ⟨g, 4, none⟩ e).setCell ⟨g, 5, none⟩ f).setCell ⟨g, 6, none⟩ h).setCell ⟨g, 7, none⟩ i).setCell ⟨g, 8, none⟩ j).setCell ⟨g, 9, none⟩ k
section
variable {w w0 : World} {g : Nat} {a b c d e f h i j k : Value}
theorem set10_keep (w : World) (g : Nat) (a b c d e f h i j k : Value) : KeepBut w (set10 w g a b c d e f h i j k) g none := ((((((((((KeepBut.refl _ _ _).set_ _ _).set_ _ _).set_ _ _).set_ _ _).set_ _ _).set_ _ _).set_ _ _).set_ _ _).set_ _ _).set_ _ _
theorem set10_blk (hz : w.heap[g]? = some (.cells z10 39 (0, 0))) : (set10 w g a b c d e f h i j k).heap[g]? = some (.cells #[a, b, c, d, e, f, h, i, j, k] 39 (0, 0)) := by
 have h0 := blk_put hz 0 a (rfl : z10.setIfInBounds 0 a = #[a, .int .i64 0, .int .i64 0, .slice none 0 0, .slice none 0 0, .slice none 0 0, .slice none 0 0, .slice none 0 0, .slice none 0 0, .int .i64 0])
 have h1 := blk_put h0 1 b (rfl : (#[a, .int .i64 0, .int .i64 0, .slice none 0 0, .slice none 0 0, .slice none 0 0, .slice none 0 0, .slice none 0 0, .slice none 0 0, .int .i64 0] : Array Value).setIfInBounds 1 b = #[a, b, .int .i64 0, .slice none 0 0, .slice none 0 0, .slice none 0 0, .slice none 0 0, .slice none 0 0, .slice none 0 0, .int .i64 0])
 have h2 := blk_put h1 2 c (rfl : (#[a, b, .int .i64 0, .slice none 0 0, .slice none 0 0, .slice none 0 0, .slice none 0 0, .slice none 0 0, .slice none 0 0, .int .i64 0] : Array Value).setIfInBounds 2 c = #[a, b, c, .slice none 0 0, .slice none 0 0, .slice none 0 0, .slice none 0 0, .slice none 0 0, .slice none 0 0, .int .i64 0])
 have h3 := blk_put h2 3 d (rfl : (#[a, b, c, .slice none 0 0, .slice none 0 0, .slice none 0 0, .slice none 0 0, .slice none 0 0, .slice none 0 0, .int .i64 0] : Array Value).setIfInBounds 3 d = #[a, b, c, d, .slice none 0 0, .slice none 0 0, .slice none 0 0, .slice none 0 0, .slice none 0 0, .int .i64 0])
 have h4 := blk_put h3 4 e (rfl : (#[a, b, c, d, .slice none 0 0, .slice none 0 0, .slice none 0 0, .slice none 0 0, .slice none 0 0, .int .i64 0] : Array Value).setIfInBounds 4 e = #[a, b, c, d, e, .slice none 0 0, .slice none 0 0, .slice none 0 0, .slice none 0 0, .int .i64 0])
 have h5 := blk_put h4 5 f (rfl : (#[a, b, c, d, e, .slice none 0 0, .slice none 0 0, .slice none 0 0, .slice none 0 0, .int .i64 0] : Array Value).setIfInBounds 5 f = #[a, b, c, d, e, f, .slice none 0 0, .slice none 0 0, .slice none 0 0, .int .i64 0])
 have h6 := blk_put h5 6 h (rfl : (#[a, b, c, d, e, f, .slice none 0 0, .slice none 0 0, .slice none 0 0, .int .i64 0] : Array Value).setIfInBounds 6 h = #[a, b, c, d, e, f, h, .slice none 0 0, .slice none 0 0, .int .i64 0])
 have h7 := blk_put h6 7 i (rfl : (#[a, b, c, d, e, f, h, .slice none 0 0, .slice none 0 0, .int .i64 0] : Array Value).setIfInBounds 7 i = #[a, b, c, d, e, f, h, i, .slice none 0 0, .int .i64 0])
 have h8 := blk_put h7 8 j (rfl : (#[a, b, c, d, e, f, h, i, .slice none 0 0, .int .i64 0] : Array Value).setIfInBounds 8 j = #[a, b, c, d, e, f, h, i, j, .int .i64 0])
 have h9 := blk_put h8 9 k (rfl : (#[a, b, c, d, e, f, h, i, j, .int .i64 0] : Array Value).setIfInBounds 9 k = #[a, b, c, d, e, f, h, i, j, k])
 exact h9
theorem set10_below (hb : Below w0.heap.size w0 w) (hg : w0.heap.size ≤ g) : Below w0.heap.size w0 (set10 w g a b c d e f h i j k) := below_set (below_set (below_set (below_set (below_set (below_set (below_set (below_set (below_set (below_set hb hg) hg) hg) hg) hg) hg) hg) hg) hg) hg
end
def st5_T : Bool × List (List Nat × List Nat) := (true, [([], []), ([0], [0]), ([], []), ([2], [2]), ([3], [3]), ([], []), ([5], [5]), ([6, 4], [6]), ([], []), ([8], [8]), ([9, 7], [9]), ([], []), ([11], [11]), ([12, 10], [12]), ([], []), ([14], [14]), ([15, 13], [15]), ([], []), ([17], [17]), ([1, 4, 7, 10, 13, 16, 18], [1, 4, 7, 10, 13, 16, 18]), ([], []), ([20, 19, 16, 0, 1, 2, 3, 4, 5, 6, 7, 8, 9, 10, 11, 12, 13, 14, 15, 16, 17, 18, 19, 20], [19, 20])])
theorem st5_tab : rtab .any (opsOf Tryd.f16 5) = st5_T := by kernel_rfl
theorem st5_bits : waitsOk st5_T.2 [0, 1, 0, 4, 12, 0, 32, 124, 0, 256, 1020, 0, 2048, 8188, 0, 16384, 65532, 0, 131072, 524287, 0, 2097151] = true := by kernel_rfl
structure SlAt (w : World) (G g : Nat) (bx bi : Array Value) (W : World) : Prop where
 box : W.heap[G]? = some (.cells bx 39 (0, 0))
 inb : W.heap[g]? = some (.cells bi 47 (0, 0))
 bel : Below w.heap.size w W
theorem SlAt.step {w : World} {G g : Nat} {bx bi : Array Value} {W W1 : World} (h : SlAt w G g bx bi W) (hb : Below W.heap.size W W1) : SlAt w G g bx bi W1 := ⟨blk_below h.box hb, blk_below h.inb hb, below_step h.bel hb⟩
set_option maxHeartbeats 8000000 in
set_option maxRecDepth 100000 in
theorem stale_calls {A B D X T V : Option Addr} {cA cB cD cX cT cV : Nat} {a b d x : List Int} {t : List S87} {vs : List (List Int)} (kd rw cl n : Int) (w : World) (ht : Terms w) (hO : OpAt w A B D X T V cA cB cD cX cT cV a b d x t vs) (hF : OpFit a b d x vs) :
  Calls Tryd.prog 16 #[.agg (opBox A B D X T V cA cB cD cX cT cV a b d x t vs kd rw cl n)] w fun e w' => e = .returned (.bool true) ∧ Below w.heap.size w w' := by
 have hu39 := Tryd.underlying39
 have hu47 := Tryd.underlying47
 have hu35 := Tryd.underlying35
 have HO := Lib.hid hO
 have HF := Lib.hid hF
 have HT := Lib.hid ht
 clear hO hF ht
 obtain ⟨bx, hbx⟩ : ∃ y, y = opBox A B D X T V cA cB cD cX cT cV a b d x t vs kd rw cl n := ⟨_, rfl⟩
 have HBX := Lib.hid hbx
 clear hbx
 unfold opBox
 go_enter Tryd.func16, Tryd.ntmps16
 go_upto_region 1 with (fail)
 obtain ⟨G, hG⟩ : ∃ y, y = w.heap.size := ⟨_, rfl⟩
 obtain ⟨W, hW⟩ : ∃ y, y = w.alloc (.cells #[.int .i64 kd, .int .i64 rw, .int .i64 cl, .slice D d.length cD, .slice A a.length cA, .slice B b.length cB, .slice X x.length cX, .slice V vs.length cV, .slice T t.length cT, .int .i64 n] 39) := ⟨_, rfl⟩
 have hb1 : W.heap[G]? = some (.cells bx 39 (0, 0)) := by rw [hW, hG, HBX.out]; exact blk_new _ _
 have hbl : Below w.heap.size w W := by rw [hW]; exact below_alloc (Below.refl _ _) _
 rw [← hW, ← hG]
 clear hW
 have HG := Lib.hid hG
 have BX := Lib.hid hb1
 have BL := Lib.hid hbl
 clear hG hb1 hbl
 go_wp2_with fail
 refine (booked_calls W).mono ?_
 rintro e wk ⟨rfl, hb⟩
 have BK := Lib.hid (blk_below BX.out hb)
 have BLK := Lib.hid (below_step BL.out hb)
 clear hb BX BL
 have k0 : wk.cell? ⟨G, 0, none⟩ = some (.int .i64 kd) := (blk_cell BK.out 0).trans (by rw [HBX.out]; rfl)
 have k1 : wk.cell? ⟨G, 1, none⟩ = some (.int .i64 rw) := (blk_cell BK.out 1).trans (by rw [HBX.out]; rfl)
 have k2 : wk.cell? ⟨G, 2, none⟩ = some (.int .i64 cl) := (blk_cell BK.out 2).trans (by rw [HBX.out]; rfl)
 have k3 : wk.cell? ⟨G, 3, none⟩ = some (.slice D d.length cD) := (blk_cell BK.out 3).trans (by rw [HBX.out]; rfl)
 have k4 : wk.cell? ⟨G, 4, none⟩ = some (.slice A a.length cA) := (blk_cell BK.out 4).trans (by rw [HBX.out]; rfl)
 have k5 : wk.cell? ⟨G, 5, none⟩ = some (.slice B b.length cB) := (blk_cell BK.out 5).trans (by rw [HBX.out]; rfl)
 have k6 : wk.cell? ⟨G, 6, none⟩ = some (.slice X x.length cX) := (blk_cell BK.out 6).trans (by rw [HBX.out]; rfl)
 have k7 : wk.cell? ⟨G, 7, none⟩ = some (.slice V vs.length cV) := (blk_cell BK.out 7).trans (by rw [HBX.out]; rfl)
 have k8 : wk.cell? ⟨G, 8, none⟩ = some (.slice T t.length cT) := (blk_cell BK.out 8).trans (by rw [HBX.out]; rfl)
 have k9 : wk.cell? ⟨G, 9, none⟩ = some (.int .i64 n) := (blk_cell BK.out 9).trans (by rw [HBX.out]; rfl)
 go_upto_region 2 with (fail)
 go_wp2_with fail
 refine (in_calls kd rw cl n wk (HO.out.below BLK.out)).mono ?_
 rintro e wa ⟨a2, b2, d2, x2, t2, v2, rfl, hR, hB⟩
 have hI2 := hR.read
 obtain ⟨IA, iA, rfl, -, -⟩ := hI2.hA
 obtain ⟨IB, iB, rfl, -, -⟩ := hI2.hB
 obtain ⟨ID, iD, rfl, -, -⟩ := hI2.hD
 obtain ⟨IX, iX, rfl, -, -⟩ := hI2.hX
 obtain ⟨IT, iT, rfl, -, -⟩ := hI2.hT
 obtain ⟨IV, iV, rfl, -, -⟩ := hI2.vec
 have HI := Lib.hid hI2
 have HR := Lib.hid hR
 have HB := Lib.hid hB
 clear hR hI2 hB k0 k1 k2 k3 k4 k5 k6 k7 k8 k9
 go_upto_region 3 with (fail)
 obtain ⟨g, hg⟩ : ∃ y, y = wa.heap.size := ⟨_, rfl⟩
 obtain ⟨bi, hbi⟩ : ∃ y : Array Value, y = #[.slice IA (pad a).length iA, .slice IB (pad b).length iB, .slice ID (pad d).length iD, .slice IX (pad x).length iX, .slice IT (padT t).length iT, .slice IV (padV vs).length iV] := ⟨_, rfl⟩
 obtain ⟨wb, hwb⟩ : ∃ y, y = wa.alloc (.cells #[.slice IA (pad a).length iA, .slice IB (pad b).length iB, .slice ID (pad d).length iD, .slice IX (pad x).length iX, .slice IT (padT t).length iT, .slice IV (padV vs).length iV] 47) := ⟨_, rfl⟩
 have b2 : wb.heap[g]? = some (.cells bi 47 (0, 0)) := by rw [hwb, hg, hbi]; exact blk_new _ _
 have cb2 : Below wa.heap.size wa wb := by rw [hwb]; exact below_alloc (Below.refl _ _) _
 rw [← hwb, ← hg]
 have HBI := Lib.hid hbi
 have HWK : Hid (w.heap.size ≤ wk.heap.size) := Lib.hid BLK.out.size
 have HGg : Hid (G < g) := Lib.hid (by have h1 := blk_lt BK.out; have h2 := HB.out.size; omega)
 have HA : Hid (SlAt w G g bx bi wb) := Lib.hid ⟨blk_below (blk_below BK.out HB.out) cb2, b2, below_step (below_step BLK.out HB.out) cb2⟩
 have HI2 := Lib.hid (HI.out.below cb2)
 have HR2 := Lib.hid (HR.out.below cb2)
 have HHG : Hid (w.heap.size ≤ G) := Lib.hid (by rw [HG.out]; exact Nat.le_refl _)
 clear hg hwb b2 cb2 HB HI HR BK hbi BLK HG
 have k0 : wb.cell? ⟨G, 0, none⟩ = some (.int .i64 kd) := (blk_cell HA.out.box 0).trans (by rw [HBX.out]; rfl)
 have k1 : wb.cell? ⟨G, 1, none⟩ = some (.int .i64 rw) := (blk_cell HA.out.box 1).trans (by rw [HBX.out]; rfl)
 have k2 : wb.cell? ⟨G, 2, none⟩ = some (.int .i64 cl) := (blk_cell HA.out.box 2).trans (by rw [HBX.out]; rfl)
 have k3 : wb.cell? ⟨G, 3, none⟩ = some (.slice D d.length cD) := (blk_cell HA.out.box 3).trans (by rw [HBX.out]; rfl)
 have k4 : wb.cell? ⟨G, 4, none⟩ = some (.slice A a.length cA) := (blk_cell HA.out.box 4).trans (by rw [HBX.out]; rfl)
 have k5 : wb.cell? ⟨G, 5, none⟩ = some (.slice B b.length cB) := (blk_cell HA.out.box 5).trans (by rw [HBX.out]; rfl)
 have k6 : wb.cell? ⟨G, 6, none⟩ = some (.slice X x.length cX) := (blk_cell HA.out.box 6).trans (by rw [HBX.out]; rfl)
 have k7 : wb.cell? ⟨G, 7, none⟩ = some (.slice V vs.length cV) := (blk_cell HA.out.box 7).trans (by rw [HBX.out]; rfl)
 have k8 : wb.cell? ⟨G, 8, none⟩ = some (.slice T t.length cT) := (blk_cell HA.out.box 8).trans (by rw [HBX.out]; rfl)
 have k9 : wb.cell? ⟨G, 9, none⟩ = some (.int .i64 n) := (blk_cell HA.out.box 9).trans (by rw [HBX.out]; rfl)
 have i0 : wb.cell? ⟨g, 0, none⟩ = some (.slice IA (pad a).length iA) := (blk_cell HA.out.inb 0).trans (by rw [HBI.out]; rfl)
 have i1 : wb.cell? ⟨g, 1, none⟩ = some (.slice IB (pad b).length iB) := (blk_cell HA.out.inb 1).trans (by rw [HBI.out]; rfl)
 have i2 : wb.cell? ⟨g, 2, none⟩ = some (.slice ID (pad d).length iD) := (blk_cell HA.out.inb 2).trans (by rw [HBI.out]; rfl)
 have i3 : wb.cell? ⟨g, 3, none⟩ = some (.slice IX (pad x).length iX) := (blk_cell HA.out.inb 3).trans (by rw [HBI.out]; rfl)
 have i4 : wb.cell? ⟨g, 4, none⟩ = some (.slice IT (padT t).length iT) := (blk_cell HA.out.inb 4).trans (by rw [HBI.out]; rfl)
 have i5 : wb.cell? ⟨g, 5, none⟩ = some (.slice IV (padV vs).length iV) := (blk_cell HA.out.inb 5).trans (by rw [HBI.out]; rfl)
 go_wp2_with fail
 refine (plain_calls kd rw cl n wb HI2.out (HO.out.below HA.out.bel) HF.out).mono ?_
 rintro e wc ⟨rfl, hd⟩
 have HA3 := Lib.hid (HA.out.step hd)
 have HI3 := Lib.hid (HI2.out.below hd)
 have HR3 := Lib.hid (HR2.out.below hd)
 clear hd k0 k1 k2 k3 k4 k5 k6 k7 k8 k9 i0 i1 i2 i3 i4 i5 HA HI2 HR2
 have k0 : wc.cell? ⟨G, 0, none⟩ = some (.int .i64 kd) := (blk_cell HA3.out.box 0).trans (by rw [HBX.out]; rfl)
 have k1 : wc.cell? ⟨G, 1, none⟩ = some (.int .i64 rw) := (blk_cell HA3.out.box 1).trans (by rw [HBX.out]; rfl)
 have k2 : wc.cell? ⟨G, 2, none⟩ = some (.int .i64 cl) := (blk_cell HA3.out.box 2).trans (by rw [HBX.out]; rfl)
 have k3 : wc.cell? ⟨G, 3, none⟩ = some (.slice D d.length cD) := (blk_cell HA3.out.box 3).trans (by rw [HBX.out]; rfl)
 have k4 : wc.cell? ⟨G, 4, none⟩ = some (.slice A a.length cA) := (blk_cell HA3.out.box 4).trans (by rw [HBX.out]; rfl)
 have k5 : wc.cell? ⟨G, 5, none⟩ = some (.slice B b.length cB) := (blk_cell HA3.out.box 5).trans (by rw [HBX.out]; rfl)
 have k6 : wc.cell? ⟨G, 6, none⟩ = some (.slice X x.length cX) := (blk_cell HA3.out.box 6).trans (by rw [HBX.out]; rfl)
 have k7 : wc.cell? ⟨G, 7, none⟩ = some (.slice V vs.length cV) := (blk_cell HA3.out.box 7).trans (by rw [HBX.out]; rfl)
 have k8 : wc.cell? ⟨G, 8, none⟩ = some (.slice T t.length cT) := (blk_cell HA3.out.box 8).trans (by rw [HBX.out]; rfl)
 have k9 : wc.cell? ⟨G, 9, none⟩ = some (.int .i64 n) := (blk_cell HA3.out.box 9).trans (by rw [HBX.out]; rfl)
 have i0 : wc.cell? ⟨g, 0, none⟩ = some (.slice IA (pad a).length iA) := (blk_cell HA3.out.inb 0).trans (by rw [HBI.out]; rfl)
 have i1 : wc.cell? ⟨g, 1, none⟩ = some (.slice IB (pad b).length iB) := (blk_cell HA3.out.inb 1).trans (by rw [HBI.out]; rfl)
 have i2 : wc.cell? ⟨g, 2, none⟩ = some (.slice ID (pad d).length iD) := (blk_cell HA3.out.inb 2).trans (by rw [HBI.out]; rfl)
 have i3 : wc.cell? ⟨g, 3, none⟩ = some (.slice IX (pad x).length iX) := (blk_cell HA3.out.inb 3).trans (by rw [HBI.out]; rfl)
 have i4 : wc.cell? ⟨g, 4, none⟩ = some (.slice IT (padT t).length iT) := (blk_cell HA3.out.inb 4).trans (by rw [HBI.out]; rfl)
 have i5 : wc.cell? ⟨g, 5, none⟩ = some (.slice IV (padV vs).length iV) := (blk_cell HA3.out.inb 5).trans (by rw [HBI.out]; rfl)
 go_upto_region 4 with (fail)
 go_wp2_with fail
 refine (mixed_calls kd rw cl n wc (HT.out.below HA3.out.bel) HI3.out (HO.out.below HA3.out.bel) HF.out).mono ?_
 rintro e wd ⟨rfl, hd⟩
 have HA := Lib.hid (HA3.out.step hd)
 have HR := Lib.hid (HR3.out.below hd)
 clear hd k0 k1 k2 k3 k4 k5 k6 k7 k8 k9 i0 i1 i2 i3 i4 i5 HA3 HI3 HR3
 go_upto_region 5 with (fail)
 obtain ⟨W0, hW0⟩ : ∃ y, y = wd.drew := ⟨_, rfl⟩
 have hAd := HA.out.step (below_drew (Below.refl _ _))
 rw [← hW0] at hAd
 have hRd := HR.out.below (w1 := W0) (by rw [hW0]; exact below_drew (Below.refl _ _))
 have HAd := Lib.hid hAd
 have HRd := Lib.hid hRd
 have F0 : QF W0 G bx a b d x t .nilIface .nilIface .nilIface .nilIface .nilIface 0 0 false W0 := ⟨hAd.box, Below.refl _ _, fun h => absurd h (by decide), fun h => absurd h (by decide), fun h => absurd h (by decide), fun h => absurd h (by decide), fun h => absurd h (by decide), fun h => Bool.noConfusion h, fun h => absurd h (by decide), fun h => absurd h (by decide)⟩
 have HOd := Lib.hid (HO.out.below hAd.bel)
 have cd : ∀ (d1 a1 b1 x1 t1 : Value) (g j : Nat) (aq : Bool) (w1 : World), j = 0 → QF W0 G bx a b d x t d1 a1 b1 x1 t1 g j aq w1 → Calls Tryd.prog 40 #[.agg #[.int .i64 rw, .int .i64 cl, .slice D d.length cD]] w1 (fun e w' => ∃ v, e = .returned (.agg #[.int .i64 rw, .int .i64 cl, v]) ∧ QF W0 G bx a b d x t v a1 b1 x1 t1 g (j + 1) aq w') := fun d1 a1 b1 x1 t1 g j aq w1 hj h => (mat_calls rw cl w1 (Kd.C_below HOd.out.hD h.bel) HOd.out.lD HOd.out.nD).mono (by
  subst hj
  rintro e w' ⟨A2, c2, rfl, hr, hb⟩
  exact ⟨_, rfl, { h.step hb with hD := fun _ => Kd.R_lower hr h.bel.size, apA := fun hq => absurd hq (by decide), apB := fun hq => absurd hq (by decide), hA := fun hq => absurd hq (by decide), hB := fun hq => absurd hq (by decide), hX := fun hq => absurd hq (by decide), hT := fun hq => absurd hq (by decide) }⟩)
 have ca : ∀ (d1 a1 b1 x1 t1 : Value) (g j : Nat) (aq : Bool) (w1 : World), j = 1 → QF W0 G bx a b d x t d1 a1 b1 x1 t1 g j aq w1 → Calls Tryd.prog 41 #[.slice A a.length cA] w1 (fun e w' => ∃ v, e = .returned v ∧ QF W0 G bx a b d x t d1 v b1 x1 t1 g (j + 1) aq w') := fun d1 a1 b1 x1 t1 g j aq w1 hj h => (copyN_calls w1 (Kd.C_below HOd.out.hA h.bel) HOd.out.lA HOd.out.nA).mono (by
  subst hj
  rintro e w' ⟨v, rfl, hr, hb⟩
  exact ⟨v, rfl, { h.step hb with hD := fun _ => Kd.R_below (h.hD (by decide)) hb, hA := fun _ => Kd.R_lower hr h.bel.size, apA := fun _ => apart_new (h.hD (by decide)) hr, apB := fun hq => absurd hq (by decide), hB := fun hq => absurd hq (by decide), hX := fun hq => absurd hq (by decide), hT := fun hq => absurd hq (by decide) }⟩)
 have cb : ∀ (d1 a1 b1 x1 t1 : Value) (g j : Nat) (aq : Bool) (w1 : World), j = 2 → QF W0 G bx a b d x t d1 a1 b1 x1 t1 g j aq w1 → Calls Tryd.prog 41 #[.slice B b.length cB] w1 (fun e w' => ∃ v, e = .returned v ∧ QF W0 G bx a b d x t d1 a1 v x1 t1 g (j + 1) aq w') := fun d1 a1 b1 x1 t1 g j aq w1 hj h => (copyN_calls w1 (Kd.C_below HOd.out.hB h.bel) HOd.out.lB HOd.out.nB).mono (by
  subst hj
  rintro e w' ⟨v, rfl, hr, hb⟩
  exact ⟨v, rfl, { h.step hb with hD := fun _ => Kd.R_below (h.hD (by decide)) hb, hA := fun _ => Kd.R_below (h.hA (by decide)) hb, hB := fun _ => Kd.R_lower hr h.bel.size, apA := fun _ => h.apA (by decide), apB := fun _ => ⟨apart_new (h.hD (by decide)) hr, apart_new (h.hA (by decide)) hr⟩, hX := fun hq => absurd hq (by decide), hT := fun hq => absurd hq (by decide) }⟩)
 have cx : ∀ (d1 a1 b1 x1 t1 : Value) (g j : Nat) (aq : Bool) (w1 : World), j = 3 → QF W0 G bx a b d x t d1 a1 b1 x1 t1 g j aq w1 → Calls Tryd.prog 42 #[.slice X x.length cX] w1 (fun e w' => ∃ v, e = .returned v ∧ QF W0 G bx a b d x t d1 a1 b1 v t1 g (j + 1) aq w') := fun d1 a1 b1 x1 t1 g j aq w1 hj h => (copyW_calls w1 (Kd.C_below HOd.out.hX h.bel) HOd.out.lX HOd.out.nX).mono (by
  subst hj
  rintro e w' ⟨v, rfl, hr, hb⟩
  exact ⟨v, rfl, { h.step hb with hD := fun _ => Kd.R_below (h.hD (by decide)) hb, hA := fun _ => Kd.R_below (h.hA (by decide)) hb, hB := fun _ => Kd.R_below (h.hB (by decide)) hb, hX := fun _ => Kd.R_lower hr h.bel.size, apA := fun _ => h.apA (by decide), apB := fun _ => h.apB (by decide), hT := fun hq => absurd hq (by decide) }⟩)
 have ct : ∀ (d1 a1 b1 x1 t1 : Value) (g j : Nat) (aq : Bool) (w1 : World), j = 4 → QF W0 G bx a b d x t d1 a1 b1 x1 t1 g j aq w1 → Calls Tryd.prog 43 #[.slice T t.length cT] w1 (fun e w' => ∃ v, e = .returned v ∧ QF W0 G bx a b d x t d1 a1 b1 x1 v g (j + 1) aq w') := fun d1 a1 b1 x1 t1 g j aq w1 hj h => (copyT_calls w1 (Kd.C_below HOd.out.hT h.bel) HOd.out.lT HOd.out.nT).mono (by
  subst hj
  rintro e w' ⟨v, rfl, hr, hb⟩
  exact ⟨v, rfl, { h.step hb with hD := fun _ => Kd.R_below (h.hD (by decide)) hb, hA := fun _ => Kd.R_below (h.hA (by decide)) hb, hB := fun _ => Kd.R_below (h.hB (by decide)) hb, hX := fun _ => Kd.R_below (h.hX (by decide)) hb, hT := fun _ => Kd.R_lower hr h.bel.size, apA := fun _ => h.apA (by decide), apB := fun _ => h.apB (by decide) }⟩)
 have HCA := Lib.hid ca
 have HCB := Lib.hid cb
 have HCD := Lib.hid cd
 have HCX := Lib.hid cx
 have HCT := Lib.hid ct
 have HF0 := Lib.hid F0
 have HW0 := Lib.hid hW0
 clear ca cb cd cx ct F0 hAd hRd HA HR hW0 HOd
 refine start_ (n := 22) (S := fun w' => w'.heap[G]? = some (.cells bx 39 (0, 0))) (ds := []) #[false, false, false, false, false, false, false, false, false, false, false, false, false, false, false, false, false, false, false, false, false, false] (by kernel_rfl) rfl rfl (by rw [← HW0.out]; exact HF0.out.box) (fun hHeld => ?_)
 refine with_tabW st5_tab st5_bits (fun HT_ HW_ => ?_)
 rw [← HW0.out] at hHeld ⊢
 refine puT_ 0 26 ?_
 refine puT_ 2 28 ?_
 refine puT_ 5 31 ?_
 refine puT_ 8 34 ?_
 refine puT_ 11 37 ?_
 refine puT_ 14 40 ?_
 refine puT_ 17 43 ?_
 refine take_ (i := 1) (N := some 27) (v := ?_) (a' := ?_) #[true, true, true, false, false, true, false, false, true, false, false, true, false, false, true, false, false, true, false, false, false, false] rfl rfl (take_ofW HT_.out HW_.out (by kernel_rfl)) (fun _ _ _ h => h) (Or.inl ⟨by rfl, ?_⟩) hHeld ?_ ?_
 rotate_left
 ·intro w' hs
  have s0 : w'.cell? ⟨G, 0, none⟩ = some (.int .i64 kd) := (blk_cell hs 0).trans (by rw [HBX.out]; rfl)
  go_simp
  with_reducible rfl
 rotate_left
 ·simp only [Act.put, List.setIfInBounds_toArray, List.set_cons_zero, List.set_cons_succ]
  rfl
 refine take_ (i := 3) (N := some 29) (v := ?_) (a' := ?_) #[true, true, true, true, false, true, false, false, true, false, false, true, false, false, true, false, false, true, false, false, false, false] rfl rfl (take_ofW HT_.out HW_.out (by kernel_rfl)) (fun _ _ _ h => h) (Or.inl ⟨by rfl, ?_⟩) hHeld ?_ ?_
 rotate_left
 ·intro w' hs
  have s0 : w'.cell? ⟨G, 1, none⟩ = some (.int .i64 rw) := (blk_cell hs 1).trans (by rw [HBX.out]; rfl)
  have s1 : w'.cell? ⟨G, 2, none⟩ = some (.int .i64 cl) := (blk_cell hs 2).trans (by rw [HBX.out]; rfl)
  have s2 : w'.cell? ⟨G, 3, none⟩ = some (.slice D d.length cD) := (blk_cell hs 3).trans (by rw [HBX.out]; rfl)
  go_simp
  with_reducible rfl
 rotate_left
 ·simp only [Act.put, List.setIfInBounds_toArray, List.set_cons_zero, List.set_cons_succ]
  rfl
 refine take_ (i := 6) (N := some 32) (v := ?_) (a' := ?_) #[true, true, true, true, false, true, true, false, true, false, false, true, false, false, true, false, false, true, false, false, false, false] rfl rfl (take_ofW HT_.out HW_.out (by kernel_rfl)) (fun _ _ _ h => h) (Or.inl ⟨by rfl, ?_⟩) hHeld ?_ ?_
 rotate_left
 ·intro w' hs
  have s0 : w'.cell? ⟨G, 4, none⟩ = some (.slice A a.length cA) := (blk_cell hs 4).trans (by rw [HBX.out]; rfl)
  go_simp
  with_reducible rfl
 rotate_left
 ·simp only [Act.put, List.setIfInBounds_toArray, List.set_cons_zero, List.set_cons_succ]
  rfl
 refine take_ (i := 9) (N := some 35) (v := ?_) (a' := ?_) #[true, true, true, true, false, true, true, false, true, true, false, true, false, false, true, false, false, true, false, false, false, false] rfl rfl (take_ofW HT_.out HW_.out (by kernel_rfl)) (fun _ _ _ h => h) (Or.inl ⟨by rfl, ?_⟩) hHeld ?_ ?_
 rotate_left
 ·intro w' hs
  have s0 : w'.cell? ⟨G, 5, none⟩ = some (.slice B b.length cB) := (blk_cell hs 5).trans (by rw [HBX.out]; rfl)
  go_simp
  with_reducible rfl
 rotate_left
 ·simp only [Act.put, List.setIfInBounds_toArray, List.set_cons_zero, List.set_cons_succ]
  rfl
 refine take_ (i := 12) (N := some 38) (v := ?_) (a' := ?_) #[true, true, true, true, false, true, true, false, true, true, false, true, true, false, true, false, false, true, false, false, false, false] rfl rfl (take_ofW HT_.out HW_.out (by kernel_rfl)) (fun _ _ _ h => h) (Or.inl ⟨by rfl, ?_⟩) hHeld ?_ ?_
 rotate_left
 ·intro w' hs
  have s0 : w'.cell? ⟨G, 6, none⟩ = some (.slice X x.length cX) := (blk_cell hs 6).trans (by rw [HBX.out]; rfl)
  go_simp
  with_reducible rfl
 rotate_left
 ·simp only [Act.put, List.setIfInBounds_toArray, List.set_cons_zero, List.set_cons_succ]
  rfl
 refine take_ (i := 15) (N := some 41) (v := ?_) (a' := ?_) #[true, true, true, true, false, true, true, false, true, true, false, true, true, false, true, true, false, true, false, false, false, false] rfl rfl (take_ofW HT_.out HW_.out (by kernel_rfl)) (fun _ _ _ h => h) (Or.inl ⟨by rfl, ?_⟩) hHeld ?_ ?_
 rotate_left
 ·intro w' hs
  have s0 : w'.cell? ⟨G, 8, none⟩ = some (.slice T t.length cT) := (blk_cell hs 8).trans (by rw [HBX.out]; rfl)
  go_simp
  with_reducible rfl
 rotate_left
 ·simp only [Act.put, List.setIfInBounds_toArray, List.set_cons_zero, List.set_cons_succ]
  rfl
 refine take_ (i := 18) (N := some 44) (v := ?_) (a' := ?_) #[true, true, true, true, false, true, true, false, true, true, false, true, true, false, true, true, false, true, true, false, false, false] rfl rfl (take_ofW HT_.out HW_.out (by kernel_rfl)) (fun _ _ _ h => h) (Or.inl ⟨by rfl, ?_⟩) hHeld ?_ ?_
 rotate_left
 ·intro w' hs
  have s0 : w'.cell? ⟨G, 9, none⟩ = some (.int .i64 n) := (blk_cell hs 9).trans (by rw [HBX.out]; rfl)
  go_simp
  with_reducible rfl
 rotate_left
 ·simp only [Act.put, List.setIfInBounds_toArray, List.set_cons_zero, List.set_cons_succ]
  rfl
 refine join_ (σ := Value × Value × Value × Value × Value × Nat) 1 #[true, true, true, true, true, true, true, true, true, true, true, true, true, true, true, true, true, true, true, true, true, false] (fun s => [(30, .agg #[.int .i64 rw, .int .i64 cl, s.1]), (33, s.2.1), (36, s.2.2.1), (39, s.2.2.2.1), (42, s.2.2.2.2.1), (45, .agg #[.int .i64 kd, .int .i64 rw, .int .i64 cl, s.1, s.2.1, s.2.2.1, s.2.2.2.1, .slice none 0 0, s.2.2.2.2.1, .int .i64 n]), (7, .pointer (some ⟨s.2.2.2.2.2, 0, none⟩))]) (fun s w' => QF W0 G bx a b d x t s.1 s.2.1 s.2.2.1 s.2.2.2.1 s.2.2.2.2.1 s.2.2.2.2.2 5 true w') ?_ ?_
 rotate_left
 intro hE
 refine join_ (σ := Value × Value × Value × Value × Value × Nat) 3 #[true, true, true, true, true, true, true, true, true, true, true, true, true, true, true, true, true, true, true, false, false, false] (fun s => [(30, .agg #[.int .i64 rw, .int .i64 cl, s.1]), (33, s.2.1), (36, s.2.2.1), (39, s.2.2.2.1), (42, s.2.2.2.2.1)]) (fun s w' => QF W0 G bx a b d x t s.1 s.2.1 s.2.2.1 s.2.2.2.1 s.2.2.2.2.1 s.2.2.2.2.2 5 false w') ?_ ?_
 rotate_left
 intro hN5
 refine join_ (σ := Value × Value × Value × Value × Value × Nat) 3 #[true, true, true, true, true, true, true, true, true, true, true, true, true, true, true, true, false, true, true, false, true, false] (fun s => [(30, .agg #[.int .i64 rw, .int .i64 cl, s.1]), (33, s.2.1), (36, s.2.2.1), (39, s.2.2.2.1), (7, .pointer (some ⟨s.2.2.2.2.2, 0, none⟩))]) (fun s w' => QF W0 G bx a b d x t s.1 s.2.1 s.2.2.1 s.2.2.2.1 s.2.2.2.2.1 s.2.2.2.2.2 4 true w') ?_ ?_
 rotate_left
 intro hY4
 refine join_ (σ := Value × Value × Value × Value × Value × Nat) 4 #[true, true, true, true, true, true, true, true, true, true, true, true, true, true, true, true, false, true, true, false, false, false] (fun s => [(30, .agg #[.int .i64 rw, .int .i64 cl, s.1]), (33, s.2.1), (36, s.2.2.1), (39, s.2.2.2.1)]) (fun s w' => QF W0 G bx a b d x t s.1 s.2.1 s.2.2.1 s.2.2.2.1 s.2.2.2.2.1 s.2.2.2.2.2 4 false w') ?_ ?_
 rotate_left
 intro hN4
 refine join_ (σ := Value × Value × Value × Value × Value × Nat) 4 #[true, true, true, true, true, true, true, true, true, true, true, true, true, false, true, true, false, true, true, false, true, false] (fun s => [(30, .agg #[.int .i64 rw, .int .i64 cl, s.1]), (33, s.2.1), (36, s.2.2.1), (7, .pointer (some ⟨s.2.2.2.2.2, 0, none⟩))]) (fun s w' => QF W0 G bx a b d x t s.1 s.2.1 s.2.2.1 s.2.2.2.1 s.2.2.2.2.1 s.2.2.2.2.2 3 true w') ?_ ?_
 rotate_left
 intro hY3
 refine join_ (σ := Value × Value × Value × Value × Value × Nat) 5 #[true, true, true, true, true, true, true, true, true, true, true, true, true, false, true, true, false, true, true, false, false, false] (fun s => [(30, .agg #[.int .i64 rw, .int .i64 cl, s.1]), (33, s.2.1), (36, s.2.2.1)]) (fun s w' => QF W0 G bx a b d x t s.1 s.2.1 s.2.2.1 s.2.2.2.1 s.2.2.2.2.1 s.2.2.2.2.2 3 false w') ?_ ?_
 rotate_left
 intro hN3
 refine join_ (σ := Value × Value × Value × Value × Value × Nat) 5 #[true, true, true, true, true, true, true, true, true, true, false, true, true, false, true, true, false, true, true, false, true, false] (fun s => [(30, .agg #[.int .i64 rw, .int .i64 cl, s.1]), (33, s.2.1), (7, .pointer (some ⟨s.2.2.2.2.2, 0, none⟩))]) (fun s w' => QF W0 G bx a b d x t s.1 s.2.1 s.2.2.1 s.2.2.2.1 s.2.2.2.2.1 s.2.2.2.2.2 2 true w') ?_ ?_
 rotate_left
 intro hY2
 refine join_ (σ := Value × Value × Value × Value × Value × Nat) 6 #[true, true, true, true, true, true, true, true, true, true, false, true, true, false, true, true, false, true, true, false, false, false] (fun s => [(30, .agg #[.int .i64 rw, .int .i64 cl, s.1]), (33, s.2.1)]) (fun s w' => QF W0 G bx a b d x t s.1 s.2.1 s.2.2.1 s.2.2.2.1 s.2.2.2.2.1 s.2.2.2.2.2 2 false w') ?_ ?_
 rotate_left
 intro hN2
 refine join_ (σ := Value × Value × Value × Value × Value × Nat) 6 #[true, true, true, true, true, true, true, false, true, true, false, true, true, false, true, true, false, true, true, false, true, false] (fun s => [(30, .agg #[.int .i64 rw, .int .i64 cl, s.1]), (7, .pointer (some ⟨s.2.2.2.2.2, 0, none⟩))]) (fun s w' => QF W0 G bx a b d x t s.1 s.2.1 s.2.2.1 s.2.2.2.1 s.2.2.2.2.1 s.2.2.2.2.2 1 true w') ?_ ?_
 rotate_left
 intro hY1
 refine join_ (σ := Value × Value × Value × Value × Value × Nat) 7 #[true, true, true, true, true, true, true, false, true, true, false, true, true, false, true, true, false, true, true, false, false, false] (fun s => [(30, .agg #[.int .i64 rw, .int .i64 cl, s.1])]) (fun s w' => QF W0 G bx a b d x t s.1 s.2.1 s.2.2.1 s.2.2.2.1 s.2.2.2.2.1 s.2.2.2.2.2 1 false w') ?_ ?_
 rotate_left
 intro hN1
 refine join_ (σ := Value × Value × Value × Value × Value × Nat) 7 #[true, true, true, true, false, true, true, false, true, true, false, true, true, false, true, true, false, true, true, false, true, false] (fun s => [(7, .pointer (some ⟨s.2.2.2.2.2, 0, none⟩))]) (fun s w' => QF W0 G bx a b d x t s.1 s.2.1 s.2.2.1 s.2.2.2.1 s.2.2.2.2.1 s.2.2.2.2.2 0 true w') ?_ ?_
 rotate_left
 intro hY0
 ·obtain ⟨⟨d1, a1, b1, x1, t1, g1⟩, hF⟩ : ∃ s : Value × Value × Value × Value × Value × Nat, QF W0 G bx a b d x t s.1 s.2.1 s.2.2.1 s.2.2.2.1 s.2.2.2.2.1 s.2.2.2.2.2 0 false W0 := ⟨(.nilIface, .nilIface, .nilIface, .nilIface, .nilIface, 0), HF0.out⟩
  refine two_ (i := 4) (j := 20) (Ni := some 30) (Nj := some 7) #[true, true, true, true, true, true, true, false, true, true, false, true, true, false, true, true, false, true, true, false, false, false] #[true, true, true, true, false, true, true, false, true, true, false, true, true, false, true, true, false, true, true, false, true, false] rfl rfl rfl rfl (two_of HT_.out (by kernel_rfl)) (by decide) (by decide) (fun K hK => ?_) (fun K hK => ?_)
  ·refine gs_ Tryd.func40 #[.agg #[.int .i64 rw, .int .i64 cl, .slice D d.length cD]] ?_
   refine (HCD.out _ _ _ _ _ _  0 false _ rfl hF).mono ?_
   rintro e w1 ⟨v, rfl, hF1⟩
   exact ⟨_, rfl, hK.out _ _ hF1.box (fun _ => norm_ pa_ (hN1 (v, a1, b1, x1, t1, g1) _ hF1))⟩
  ·refine box_step (by rfl) (N := 7) rfl (cs := z10) (t := 39) ?_ ?_
   ·first | (go_simp; done) | (go_simp; rfl)
   intro g hg w1 hbx hb
   exact hK.out _ _ (hF.alo hb hg hbx).box (fun _ => norm_ (by show Act.put _ (some 7) _ = _; simp only [putAll, Act.put, List.setIfInBounds_toArray, List.set_cons_zero, List.set_cons_succ]) (hY0 (d1, a1, b1, x1, t1, g) _ (hF.alo hb hg hbx)))
 ·rintro ⟨d1, a1, b1, x1, t1, g1⟩ w10 hF
  refine na_ ?_
  replace hF : QF W0 G bx a b d x t d1 a1 b1 x1 t1 g1 5 true w10 := hF
  obtain ⟨hg0, hg1⟩ := hF.hg rfl
  obtain ⟨A0, c0, e0⟩ := Kd.R_slice (hF.hD (by decide))
  obtain ⟨A1, c1, e1⟩ := Kd.R_slice (hF.hA (by decide))
  obtain ⟨A2, c2, e2⟩ := Kd.R_slice (hF.hB (by decide))
  obtain ⟨A3, c3, e3⟩ := Kd.R_slice (hF.hX (by decide))
  obtain ⟨A4, c4, e4⟩ := Kd.R_slice (hF.hT (by decide))
  subst e0 e1 e2 e3 e4
  have hs0 : w10.cell? ⟨g1, 0, none⟩ = some (.int .i64 0) := (blk_cell hg0 0).trans rfl
  have hs1 : w10.cell? ⟨g1, 1, none⟩ = some (.int .i64 0) := (blk_cell hg0 1).trans rfl
  have hs2 : w10.cell? ⟨g1, 2, none⟩ = some (.int .i64 0) := (blk_cell hg0 2).trans rfl
  have hs3 : w10.cell? ⟨g1, 3, none⟩ = some (.slice none 0 0) := (blk_cell hg0 3).trans rfl
  have hs4 : w10.cell? ⟨g1, 4, none⟩ = some (.slice none 0 0) := (blk_cell hg0 4).trans rfl
  have hs5 : w10.cell? ⟨g1, 5, none⟩ = some (.slice none 0 0) := (blk_cell hg0 5).trans rfl
  have hs6 : w10.cell? ⟨g1, 6, none⟩ = some (.slice none 0 0) := (blk_cell hg0 6).trans rfl
  have hs7 : w10.cell? ⟨g1, 7, none⟩ = some (.slice none 0 0) := (blk_cell hg0 7).trans rfl
  have hs8 : w10.cell? ⟨g1, 8, none⟩ = some (.slice none 0 0) := (blk_cell hg0 8).trans rfl
  have hs9 : w10.cell? ⟨g1, 9, none⟩ = some (.int .i64 0) := (blk_cell hg0 9).trans rfl
  have hr0 := blk_frozen hg0 0
  have hr1 := blk_frozen hg0 1
  have hr2 := blk_frozen hg0 2
  have hr3 := blk_frozen hg0 3
  have hr4 := blk_frozen hg0 4
  have hr5 := blk_frozen hg0 5
  have hr6 := blk_frozen hg0 6
  have hr7 := blk_frozen hg0 7
  have hr8 := blk_frozen hg0 8
  have hr9 := blk_frozen hg0 9
  have HF := Lib.hid hF
  have HG0 := Lib.hid hg0
  have HG1 := Lib.hid hg1
  clear hF hg0 hg1 hHeld HF0
  refine onT_ 21 none (fun K hK => ?_)
  refine skip_ (w1 := ?_) (by rfl) rfl ?_ ?_
  rotate_left
  ·go_simp
   rfl
  clear hs0 hs1 hs2 hs3 hs4 hs5 hs6 hs7 hs8 hs9 hr0 hr1 hr2 hr3 hr4 hr5 hr6 hr7 hr8 hr9
  obtain ⟨w2, hw2⟩ : ∃ y, y = set10 w10 g1 (.int .i64 kd) (.int .i64 rw) (.int .i64 cl) (.slice A0 d.length c0) (.slice A1 a.length c1) (.slice A2 b.length c2) (.slice A3 x.length c3) (.slice none 0 0) (.slice A4 t.length c4) (.int .i64 n) := ⟨_, rfl⟩
  have hk2 : KeepBut w10 w2 g1 none := by rw [hw2]; exact set10_keep _ _ _ _ _ _ _ _ _ _ _ _
  have hg4 : w2.heap[g1]? = some (.cells (qbx kd rw cl n (.slice A0 d.length c0) (.slice A1 a.length c1) (.slice A2 b.length c2) (.slice A3 x.length c3) (.slice none 0 0) (.slice A4 t.length c4)) 39 (0, 0)) := by
   rw [hw2]
   exact set10_blk HG0.out
  have hne2 : G ≠ g1 := by have h1 := HG1.out; have h2 := blk_lt HAd.out.box; omega
  have hbx2 : w2.heap[G]? = some (.cells bx 39 (0, 0)) := hk2.blk HF.out.box hne2 (by simp)
  have hwg : w.heap.size ≤ g1 := Nat.le_trans HAd.out.bel.size HG1.out
  have hb2 : Below w.heap.size w w2 := by rw [hw2]; exact set10_below (below_step HAd.out.bel HF.out.bel) hwg
  unfold set10 at hw2
  rw [← hw2]
  clear hw2
  obtain ⟨ft, hto, hfl, hv⟩ := hv_begin (w := w) HRd.out HWK.out HAd.out.bel HF.out.bel (HF.out.hD (by decide)) (HF.out.hA (by decide)) (HF.out.hB (by decide)) (HF.out.hX (by decide)) (HF.out.hT (by decide)) (HF.out.apA (by decide)) (HF.out.apB (by decide)) HG0.out HAd.out.inb
  have hS := hv.keepq hk2 hg4 hb2
  have HS := Lib.hid hS
  have HFT := Lib.hid hfl
  have HTV := Lib.hid (Kd.R_lt hto)
  have HWG := Lib.hid hwg
  have HNE := Lib.hid hne2
  have HBX2 := Lib.hid hbx2
  have HW2 := Lib.hid hk2.1
  refine hK.out _ _ hbx2 (fun hHeld => ?_)
  clear hK K hHeld hk2 hg4 hne2 hbx2 hb2 HG0 HCA HCB HCD HCX HCT HF hv hto hfl hS hwg HRd HG1
  refine dnT_ ?_
  clear HT_ HW_
  have hwt : ∀ k, (Value.slice IV (padV vs).length iV).ownBlock = some k → k < w2.heap.size := fun k hk => Nat.lt_of_lt_of_le (HTV.out k hk) HW2.out
  have HTV2 := Lib.hid hwt
  clear hwt HTV HW2
  go_upto_block 0 with (fail)
  go_wp2
  go_loopw [8] (fun y wr => ∃ (i : Nat) (u : Value) (fq : List Tr), y = .int .i64 (i : Int) ∧ i ≤ vs.length ∧ fq.length = i ∧ Hv w g1 g (qbx kd rw cl n (.slice A0 d.length c0) (.slice A1 a.length c1) (.slice A2 b.length c2) (.slice A3 x.length c3) u (.slice A4 t.length c4)) bi (.slice A4 t.length c4) (.slice IT (padT t).length iT) u (.slice IV (padV vs).length iV) t (([(IA, (pad a).length, iA), (IB, (pad b).length, iB), (ID, (pad d).length, iD), (A1, a.length, c1), (A2, b.length, c2), (A0, d.length, c0)] ++ ft) ++ fq) [(IX, (pad x).length, iX), (A3, x.length, c3)] fq ft (([pad a, pad b, pad d, a, b, d] ++ padV vs) ++ vs.take i) [pad x, x] wr ∧ (∀ k, u.ownBlock = some k → w.heap.size ≤ k ∧ (Value.slice IV (padV vs).length iV).ownBlock ≠ some k) ∧ wr.heap[G]? = some (.cells bx 39 (0, 0)) ∧ w2.heap.size ≤ wr.heap.size) (fun y _ => vs.length - (intOf y).toNat)
  case atStart => exact ⟨0, .slice none 0 0, [], rfl, Nat.zero_le _, rfl, by rw [List.append_nil, List.take_zero, List.append_nil]; exact HS.out, fun k hk => (by cases hk), HBX2.out, Nat.le_refl _⟩
  case round =>
   rename World => wa
   obtain ⟨i, u, fq, rfl, hi, hfq, hS, hu, hgb, hsz⟩ := hrel
   obtain ⟨Au, cu, eu⟩ := Kd.R_slice hS.oq
   rw [hfq] at eu
   subst eu
   have k7 : wa.cell? ⟨G, 7, none⟩ = some (.slice V vs.length cV) := (blk_cell hgb 7).trans (by rw [HBX.out]; rfl)
   have ku : wa.cell? ⟨g1, 7, none⟩ = some (.slice Au i cu) := (blk_cell hS.qb 7).trans rfl
   have HSW := Lib.hid hS
   have HFQ := Lib.hid hfq
   have HU := Lib.hid hu
   have HGB := Lib.hid hgb
   have HSZ := Lib.hid hsz
   clear hS hfq hu hgb hsz HS HBX2
   by_cases hlt : i < vs.length
   ·have d1 : decide ((i : Int) < (vs.length : Int)) = true := decide_eq_true (by omega)
    have d2 : decide (i < vs.length) = true := decide_eq_true hlt
    obtain ⟨ad, A5, c5, e1, q0, q1, q2⟩ := at_L3 HO.out.hV (i : Int) (by omega) (by omega)
    obtain ⟨r, hr⟩ : ∃ y, rd_L3 vs (i : Int) = y := ⟨_, rfl⟩
    rw [hr] at q0 q1 q2
    have hri : vs[i]? = some r := by rw [rd_L3_get hlt, hr]
    have hrl : r.length ≤ 16777216 := HO.out.nr r (List.mem_of_getElem? hri)
    subst e1
    rw [Int.toNat_natCast] at q0
    have p1 : (0 : Int) ≤ (i : Int) := by omega
    have p2 : (i : Int) < (vs.length : Int) := by omega
    have HRI := Lib.hid hri
    have HLT := Lib.hid hlt
    have HSD := Lib.hid (HSW.out.below (below_drew (Below.refl _ _)))
    have HCP := Lib.hid (copyN_calls wa.drew (Kd.C_below q2 HSD.out.bel) q1 hrl)
    have Q0 := Lib.hid q0
    replace q0 := pw_cell_below HSW.out.bel q0
    have HGD : Hid (wa.drew.heap[G]? = some (.cells bx 39 (0, 0))) := Lib.hid HGB.out
    clear hr q1 q2 hri hrl hi hlt
    go_upto_region 9 with (fail)
    refine start_ (n := 12) (S := fun w' => w'.cell? ⟨g1, 7, none⟩ = some (.slice Au i cu) ∧ w'.cell? ⟨G, 7, none⟩ = some (.slice (some ad) vs.length cV) ∧ w'.cell? (ad.add i) = some (.slice A5 r.length c5)) (ds := [11]) #[false, false, false, false, false, false, false, false, false, false, false, false] (by kernel_rfl) rfl rfl ⟨ku, k7, q0⟩ (fun hHeld => ?_)
    refine pu_ 0 53 ?_
    refine pu_ 2 55 ?_
    refine pu_ 4 57 ?_
    refine tk_ 1 54 hHeld ?_
    refine tk_ 3 56 hHeld ?_
    refine pu_ 5 58 ?_
    refine tk_ 6 59 hHeld ?_
    refine on_ 7 (some 60) (fun K hK => ?_)
    refine gs_ Tryd.func41 #[.slice A5 r.length c5] ?_
    with_reducible refine (HCP.out).mono ?_
    rintro e w4 ⟨v4, rfl, hR4, hb4⟩
    refine ⟨_, rfl, ?_⟩
    obtain ⟨A6, c6, e6⟩ := Kd.R_slice hR4
    subst e6
    have HR4 := Lib.hid hR4
    have HB4 := Lib.hid hb4
    have kux := pw_cell_below hb4 ku
    have k7x := pw_cell_below hb4 k7
    have q0x := pw_cell_below hb4 q0
    clear hR4 hb4
    refine hK.out _ _ ⟨kux, k7x, q0x⟩ (fun hHeld => ?_)
    clear hK K
    refine nm_ 60 ?_
    refine on_ 8 (some 61) (fun K hK => ?_)
    refine value_ (w1 := ?_) (v := ?_) (by rfl) rfl ?_ ?_
    rotate_left 2
    ·go_simp
     constructor
     ·rfl
     ·rfl
    refine hK.out _ _ ⟨pw_cell_below (below_alloc (Below.refl w4.heap.size w4) _) kux, pw_cell_below (below_alloc (Below.refl w4.heap.size w4) _) k7x, pw_cell_below (below_alloc (Below.refl w4.heap.size w4) _) q0x⟩ (fun hHeld => ?_)
    clear hK K
    refine nm_ 61 ?_
    refine on_ 9 (some 62) (fun K hK => ?_)
    refine R_append2_step (P := Tryd.prog) (Kc := K) (d := slKd) rfl (W := w4) 0 ?cw (.tmp 54) (.tmp 61) 36 33 (.slice none 0 0) 24 rfl Tryd.underlying36 linfo33 rfl (by decide) (by omega) (.slice Au i cu) fq (A6, r.length, c6) [.slice A6 r.length c6] rfl rfl rfl (HSD.out.oq.below HB4.out) (Nat.zero_le _) ?cl ?_
    case cw => rfl
    case cl => rw [HFQ.out]; have := HLT.out; have := HO.out.nV; omega
    intro v5 w5 hR hRo hg hx
    obtain ⟨A7, c7, e7⟩ := Kd.R_slice hR
    rw [List.length_append, List.length_singleton, HFQ.out] at e7
    subst e7
    have hS5 := (HSD.out.new (f := (A6, r.length, c6)) HB4.out HR4.out).app hg HU.out hR
    have HS5 := Lib.hid hS5
    have HXX := Lib.hid hx
    have HS4 := Lib.hid hg.size
    have hg5 := blk_g (blk_below HGD.out HB4.out) hg (out_ne (HSD.out.oq.below HB4.out) (blk_below HGD.out HB4.out) (by decide))
    have HG5 := Lib.hid hg5
    clear hR hRo hg hx
    have kux5 : w5.cell? ⟨g1, 7, none⟩ = some (.slice Au i cu) := (blk_cell hS5.qb 7).trans rfl
    have rux5 := blk_frozen hS5.qb 7
    have k7x5 : w5.cell? ⟨G, 7, none⟩ = some (.slice (some ad) vs.length cV) := (blk_cell hg5 7).trans (by rw [HBX.out]; rfl)
    have q0x5 : w5.cell? (ad.add i) = some (.slice A5 r.length c5) := pw_cell_below HS5.out.bel Q0.out
    clear hS5 hg5
    refine hK.out _ _ ⟨kux5, k7x5, q0x5⟩ (fun hHeld => ?_)
    clear hK K
    refine nm_ 62 ?_
    refine pu_ 10 63 ?_
    refine ls_ 11 none (fun K hK => ?_)
    refine sk_ (hK.out _ _ ?_)
    clear hK K
    refine dn_ ?_
    go_wp2
    clear kux5 rux5 k7x5 q0x5 kux k7x q0x ku k7 q0
    have hS6 := HS5.out.setq HWG.out 7 (v := .slice A7 (i + 1) c7) (qc1 := qbx kd rw cl n (.slice A0 d.length c0) (.slice A1 a.length c1) (.slice A2 b.length c2) (.slice A3 x.length c3) (.slice A7 (i + 1) c7) (.slice A4 t.length c4)) rfl
    rw [List.append_assoc _ fq, List.append_assoc _ (vs.take i), take_step HRI.out] at hS6
    have hg6 := blk_g HG5.out (grownBy_set w5 ⟨g1, 7, none⟩ (.slice A7 (i + 1) c7)) (fun he => HNE.out (Option.some.inj he).symm)
    have hu6 : ∀ k, (Value.slice A7 (i + 1) c7).ownBlock = some k → w.heap.size ≤ k ∧ (Value.slice IV (padV vs).length iV).ownBlock ≠ some k := fun k hk => by
     rcases HXX.out.own with ho | ⟨q, hq1, hq2⟩
     ·exact HU.out k (ho ▸ hk)
     ·rw [hq1] at hk
      obtain rfl := Option.some.inj hk
      have h1 := HSD.out.bel.size
      have h2 := HB4.out.size
      refine ⟨by omega, fun he => ?_⟩
      have h3 := HTV2.out q he
      have h4 := HSZ.out
      have h5 : wa.heap.size = wa.drew.heap.size := rfl
      omega
    have hz6 : w2.heap.size ≤ (w5.setCell ⟨g1, 7, none⟩ (.slice A7 (i + 1) c7)).heap.size := by
     have h1 := (grownBy_set w5 ⟨g1, 7, none⟩ (.slice A7 (i + 1) c7)).size
     have h2 := HB4.out.size
     have h3 := HS4.out
     have h4 := HSZ.out
     have h5 : wa.heap.size = wa.drew.heap.size := rfl
     omega
    try rw [up1 (by have := HLT.out; have := HO.out.nV; omega)]
    go_roundw
    case rel => exact ⟨i + 1, _, fq ++ [(A6, r.length, c6)], by first | rfl | (rw [Int.natCast_add]; rfl), HLT.out, by rw [List.length_append, HFQ.out]; rfl, hS6, hu6, hg6, hz6⟩
    case measure => have := HLT.out; simp [intOf]; omega
   ·have d1 : decide ((i : Int) < (vs.length : Int)) = false := decide_eq_false (by omega)
    have d2 : decide (i < vs.length) = false := decide_eq_false hlt
    obtain rfl : i = vs.length := by omega
    clear hlt hi
    have hS := HSW.out
    rw [List.take_length] at hS
    have HS : Hid (Hv w g1 g (qbx kd rw cl n (.slice A0 d.length c0) (.slice A1 a.length c1) (.slice A2 b.length c2) (.slice A3 x.length c3) (.slice Au vs.length cu) (.slice A4 t.length c4)) bi (.slice A4 t.length c4) (.slice IT (padT t).length iT) (.slice Au vs.length cu) (.slice IV (padV vs).length iV) t ([(IA, (pad a).length, iA), (IB, (pad b).length, iB), (ID, (pad d).length, iD), (A1, a.length, c1), (A2, b.length, c2), (A0, d.length, c0)] ++ ft ++ fq) [(IX, (pad x).length, iX), (A3, x.length, c3)] fq ft (Gf a b d vs) [pad x, x] wa) := Lib.hid hS
    clear hS HSW HU HGB HSZ HTV2
    go_upto_block 2 with (fail)
    go_wp2
    clear d1 d2 ku k7
    go_loopw [9] (fun y wr => ∃ j : Nat, y = .int .i64 (j : Int) ∧ j ≤ a.length ∧ Hv w g1 g (qbx kd rw cl n (.slice A0 d.length c0) (.slice A1 a.length c1) (.slice A2 b.length c2) (.slice A3 x.length c3) (.slice Au vs.length cu) (.slice A4 t.length c4)) bi (.slice A4 t.length c4) (.slice IT (padT t).length iT) (.slice Au vs.length cu) (.slice IV (padV vs).length iV) t ([(IA, (pad a).length, iA), (IB, (pad b).length, iB), (ID, (pad d).length, iD), (A1, a.length, c1), (A2, b.length, c2), (A0, d.length, c0)] ++ ft ++ fq) [(IX, (pad x).length, iX), (A3, x.length, c3)] fq ft (Gf (hp hf8 a j) b d vs) [pad x, x] wr) (fun y _ => a.length - (intOf y).toNat)
    case atStart => exact ⟨0, rfl, Nat.zero_le _, by rw [hp_zero]; exact HS.out⟩
    case round =>
     rename World => wb1
     clear HS
     obtain ⟨j, rfl, hj, hS⟩ := hrel
     have HSJ := Lib.hid hS
     have kq : wb1.cell? ⟨g1, 4, none⟩ = some (.slice A1 a.length c1) := (blk_cell hS.qb 4).trans rfl
     clear hS
     by_cases hlt : j < a.length
     ·have d1 : decide ((j : Int) < (a.length : Int)) = true := decide_eq_true (by omega)
      have d2 : decide (j < a.length) = true := decide_eq_true hlt
      have HSD := Lib.hid (HSJ.out.below (below_drew (Below.refl _ _)))
      obtain ⟨gA, eA, -, e0, e1, hput⟩ := Row.cellAt (HSD.out.fm.row 3 (A1, a.length, c1) (hp hf8 a j) rfl rfl) (by rw [hp_length]; exact hlt)
      subst eA
      obtain ⟨z, hz⟩ : ∃ z, a[j]? = some z := ⟨_, List.getElem?_eq_getElem hlt⟩
      have ez : nth (hp hf8 a j) j = z := by unfold nth; rw [List.getD_eq_getElem?_getD, hp_at, hz]; rfl
      rw [ez] at e0
      have HZ := Lib.hid hz
      have HLT := Lib.hid hlt
      have q0 : (0 : Int) ≤ (j : Int) := by omega
      have q1 : (j : Int) < (a.length : Int) := by omega
      have q2 : (j : Int) < ((pad a).length : Int) := by rw [pad_length]; omega
      clear hz ez hlt hj
      obtain ⟨v, hv⟩ : ∃ v, IntKind.i8.wrap (Int.tdiv z 2) = v := ⟨_, rfl⟩
      have HVV : Hid (hf8 z = v) := Lib.hid hv
      have HP1 := Lib.hid (hput v)
      clear hput
      go_upto_region 13 with (fail)
      refine start_ (n := 11) (S := fun w' => w'.cell? ⟨g1, 4, none⟩ = some (.slice (some ⟨gA, 0, none⟩) a.length c1) ∧ w'.cell? ⟨gA, j, none⟩ = some (.int .i8 z)) (ds := [10]) #[false, false, false, false, false, false, false, false, false, false, false] (by kernel_rfl) rfl rfl ⟨kq, e0⟩ (fun hHeld => ?_)
      refine pu_ 0 71 ?_
      refine pu_ 2 73 ?_
      refine pu_ 3 74 ?_
      refine pu_ 5 76 ?_
      refine tk_ 1 72 hHeld ?_
      refine tk_ 4 75 hHeld ?_
      refine pu_ 6 77 ?_
      refine tk_ 7 78 hHeld ?_
      refine pu_ 8 79 ?_
      refine pu_ 9 80 ?_
      refine ls_ 10 none (fun K hK => ?_)
      refine sk_ (hK.out _ _ ?_)
      clear hK K
      refine dn_ ?_
      obtain ⟨w3, hw3⟩ : ∃ y, y = (wb1.setCell ⟨gA, j, none⟩ (.int .i8 v)).drew := ⟨_, rfl⟩
      rw [← hw3]
      replace hw3 : w3 = wb1.drew.setCell ⟨gA, j, none⟩ (.int .i8 v) := hw3
      rw [← hw3] at HP1
      have hS3 := HSD.out.put8 (i := 3) rfl rfl HP1.out.2 HP1.out.1
      clear hw3 e0 e1 kq hv
      have HSD3 := Lib.hid (hS3.below (below_drew (Below.refl _ _)))
      have kq : w3.cell? ⟨g1, 4, none⟩ = some (.slice (some ⟨gA, 0, none⟩) a.length c1) := (blk_cell hS3.qb 4).trans rfl
      have kt : w3.cell? ⟨g, 0, none⟩ = some (.slice IA (pad a).length iA) := (blk_cell hS3.tb 0).trans (by rw [HBI.out]; rfl)
      obtain ⟨gx, ex, -, f0, -, -⟩ := Row.cellAt (HSD3.out.fm.row 3 (some ⟨gA, 0, none⟩, a.length, c1) ((hp hf8 a j).set j v) rfl rfl) (by rw [List.length_set, hp_length]; exact HLT.out)
      cases ex
      have ev : nth ((hp hf8 a j).set j v) j = v := by unfold nth; rw [List.getD_eq_getElem?_getD, List.getElem?_set_self (by rw [hp_length]; exact HLT.out)]; rfl
      rw [ev] at f0
      have hrow : Row (Kd.int .i8) 57 w3.drew (.slice IA (pad a).length iA) (pad (hp hf8 a j)) := HSD3.out.fm.row 0 (IA, (pad a).length, iA) (pad (hp hf8 a j)) rfl rfl
      obtain ⟨gI, eI, -, e0, e1, hput⟩ := Row.cellAt (l := pad (hp hf8 a j)) hrow (Nat.lt_of_lt_of_le HLT.out (by rw [pad_length, hp_length]; exact Nat.le_add_right _ _))
      clear hrow
      subst eI
      obtain ⟨zi, hzi⟩ : ∃ zi, nth (pad (hp hf8 a j)) j = zi := ⟨_, rfl⟩
      rw [hzi] at e0
      clear hzi
      have HP2 := Lib.hid (hput v)
      clear hput ev hS3
      go_upto_region 14 with (fail)
      refine start_ (n := 10) (S := fun w' => w'.cell? ⟨g, 0, none⟩ = some (.slice (some ⟨gI, 0, none⟩) (pad a).length iA) ∧ w'.cell? ⟨g1, 4, none⟩ = some (.slice (some ⟨gA, 0, none⟩) a.length c1) ∧ w'.cell? ⟨gA, j, none⟩ = some (.int .i8 v) ∧ w'.cell? ⟨gI, j, none⟩ = some (.int .i8 zi)) (ds := [9]) #[false, false, false, false, false, false, false, false, false, false] (by kernel_rfl) rfl rfl ⟨kt, kq, f0, e0⟩ (fun hHeld => ?_)
      refine pu_ 0 81 ?_
      refine pu_ 2 83 ?_
      refine pu_ 3 84 ?_
      refine pu_ 5 86 ?_
      refine tk_ 1 82 hHeld ?_
      refine tk_ 4 85 hHeld ?_
      refine pu_ 6 87 ?_
      refine tk_ 7 88 hHeld ?_
      refine pu_ 8 89 ?_
      refine ls_ 9 none (fun K hK => ?_)
      refine sk_ (hK.out _ _ ?_)
      clear hK K
      refine dn_ ?_
      go_wp2
      obtain ⟨w4, hw4⟩ : ∃ y, y = (w3.setCell ⟨gI, j, none⟩ (.int .i8 v)).drew := ⟨_, rfl⟩
      rw [← hw4]
      replace hw4 : w4 = w3.drew.setCell ⟨gI, j, none⟩ (.int .i8 v) := hw4
      rw [← hw4] at HP2
      have hS4 := HSD3.out.put8 (i := 0) rfl rfl HP2.out.2 HP2.out.1
      rw [pad_set (by rw [hp_length]; exact HLT.out), ← HVV.out, hp_set HZ.out, Gf_A] at hS4
      try rw [up1 (by have := HLT.out; have := HO.out.nA; omega)]
      go_roundw
      case rel => exact ⟨j + 1, by first | rfl | (rw [Int.natCast_add]; rfl), HLT.out, hS4⟩
      case measure => have := HLT.out; simp [intOf]; omega
     ·have d1 : decide ((j : Int) < (a.length : Int)) = false := decide_eq_false (by omega)
      have d2 : decide (j < a.length) = false := decide_eq_false hlt
      obtain rfl : j = a.length := by omega
      clear hlt hj
      have hS := HSJ.out
      rw [hp_all] at hS
      obtain ⟨a9, hnew⟩ : ∃ y, y = a.map hf8 := ⟨_, rfl⟩
      rw [← hnew] at hS
      have HS := Lib.hid hS
      have HNa := Lib.hid hnew
      clear hS hnew HSJ
      go_upto_block 4 with (fail)
      go_wp2
      clear d1 d2 kq
      go_loopw [10] (fun y wr => ∃ j : Nat, y = .int .i64 (j : Int) ∧ j ≤ b.length ∧ Hv w g1 g (qbx kd rw cl n (.slice A0 d.length c0) (.slice A1 a.length c1) (.slice A2 b.length c2) (.slice A3 x.length c3) (.slice Au vs.length cu) (.slice A4 t.length c4)) bi (.slice A4 t.length c4) (.slice IT (padT t).length iT) (.slice Au vs.length cu) (.slice IV (padV vs).length iV) t ([(IA, (pad a).length, iA), (IB, (pad b).length, iB), (ID, (pad d).length, iD), (A1, a.length, c1), (A2, b.length, c2), (A0, d.length, c0)] ++ ft ++ fq) [(IX, (pad x).length, iX), (A3, x.length, c3)] fq ft (Gf a9 (hp hf8 b j) d vs) [pad x, x] wr) (fun y _ => b.length - (intOf y).toNat)
      case atStart => exact ⟨0, rfl, Nat.zero_le _, by rw [hp_zero]; exact HS.out⟩
      case round =>
       rename World => wb2
       clear HS
       obtain ⟨j, rfl, hj, hS⟩ := hrel
       have HSJ := Lib.hid hS
       have kq : wb2.cell? ⟨g1, 5, none⟩ = some (.slice A2 b.length c2) := (blk_cell hS.qb 5).trans rfl
       clear hS
       by_cases hlt : j < b.length
       ·have d1 : decide ((j : Int) < (b.length : Int)) = true := decide_eq_true (by omega)
        have d2 : decide (j < b.length) = true := decide_eq_true hlt
        have HSD := Lib.hid (HSJ.out.below (below_drew (Below.refl _ _)))
        obtain ⟨gA, eA, -, e0, e1, hput⟩ := Row.cellAt (HSD.out.fm.row 4 (A2, b.length, c2) (hp hf8 b j) rfl rfl) (by rw [hp_length]; exact hlt)
        subst eA
        obtain ⟨z, hz⟩ : ∃ z, b[j]? = some z := ⟨_, List.getElem?_eq_getElem hlt⟩
        have ez : nth (hp hf8 b j) j = z := by unfold nth; rw [List.getD_eq_getElem?_getD, hp_at, hz]; rfl
        rw [ez] at e0
        have HZ := Lib.hid hz
        have HLT := Lib.hid hlt
        have q0 : (0 : Int) ≤ (j : Int) := by omega
        have q1 : (j : Int) < (b.length : Int) := by omega
        have q2 : (j : Int) < ((pad b).length : Int) := by rw [pad_length]; omega
        clear hz ez hlt hj
        obtain ⟨v, hv⟩ : ∃ v, IntKind.i8.wrap (Int.tdiv z 2) = v := ⟨_, rfl⟩
        have HVV : Hid (hf8 z = v) := Lib.hid hv
        have HP1 := Lib.hid (hput v)
        clear hput
        go_upto_region 18 with (fail)
        refine start_ (n := 11) (S := fun w' => w'.cell? ⟨g1, 5, none⟩ = some (.slice (some ⟨gA, 0, none⟩) b.length c2) ∧ w'.cell? ⟨gA, j, none⟩ = some (.int .i8 z)) (ds := [10]) #[false, false, false, false, false, false, false, false, false, false, false] (by kernel_rfl) rfl rfl ⟨kq, e0⟩ (fun hHeld => ?_)
        refine pu_ 0 97 ?_
        refine pu_ 2 99 ?_
        refine pu_ 3 100 ?_
        refine pu_ 5 102 ?_
        refine tk_ 1 98 hHeld ?_
        refine tk_ 4 101 hHeld ?_
        refine pu_ 6 103 ?_
        refine tk_ 7 104 hHeld ?_
        refine pu_ 8 105 ?_
        refine pu_ 9 106 ?_
        refine ls_ 10 none (fun K hK => ?_)
        refine sk_ (hK.out _ _ ?_)
        clear hK K
        refine dn_ ?_
        obtain ⟨w3, hw3⟩ : ∃ y, y = (wb2.setCell ⟨gA, j, none⟩ (.int .i8 v)).drew := ⟨_, rfl⟩
        rw [← hw3]
        replace hw3 : w3 = wb2.drew.setCell ⟨gA, j, none⟩ (.int .i8 v) := hw3
        rw [← hw3] at HP1
        have hS3 := HSD.out.put8 (i := 4) rfl rfl HP1.out.2 HP1.out.1
        clear hw3 e0 e1 kq hv
        have HSD3 := Lib.hid (hS3.below (below_drew (Below.refl _ _)))
        have kq : w3.cell? ⟨g1, 5, none⟩ = some (.slice (some ⟨gA, 0, none⟩) b.length c2) := (blk_cell hS3.qb 5).trans rfl
        have kt : w3.cell? ⟨g, 1, none⟩ = some (.slice IB (pad b).length iB) := (blk_cell hS3.tb 1).trans (by rw [HBI.out]; rfl)
        obtain ⟨gx, ex, -, f0, -, -⟩ := Row.cellAt (HSD3.out.fm.row 4 (some ⟨gA, 0, none⟩, b.length, c2) ((hp hf8 b j).set j v) rfl rfl) (by rw [List.length_set, hp_length]; exact HLT.out)
        cases ex
        have ev : nth ((hp hf8 b j).set j v) j = v := by unfold nth; rw [List.getD_eq_getElem?_getD, List.getElem?_set_self (by rw [hp_length]; exact HLT.out)]; rfl
        rw [ev] at f0
        have hrow : Row (Kd.int .i8) 57 w3.drew (.slice IB (pad b).length iB) (pad (hp hf8 b j)) := HSD3.out.fm.row 1 (IB, (pad b).length, iB) (pad (hp hf8 b j)) rfl rfl
        obtain ⟨gI, eI, -, e0, e1, hput⟩ := Row.cellAt (l := pad (hp hf8 b j)) hrow (Nat.lt_of_lt_of_le HLT.out (by rw [pad_length, hp_length]; exact Nat.le_add_right _ _))
        clear hrow
        subst eI
        obtain ⟨zi, hzi⟩ : ∃ zi, nth (pad (hp hf8 b j)) j = zi := ⟨_, rfl⟩
        rw [hzi] at e0
        clear hzi
        have HP2 := Lib.hid (hput v)
        clear hput ev hS3
        go_upto_region 19 with (fail)
        refine start_ (n := 10) (S := fun w' => w'.cell? ⟨g, 1, none⟩ = some (.slice (some ⟨gI, 0, none⟩) (pad b).length iB) ∧ w'.cell? ⟨g1, 5, none⟩ = some (.slice (some ⟨gA, 0, none⟩) b.length c2) ∧ w'.cell? ⟨gA, j, none⟩ = some (.int .i8 v) ∧ w'.cell? ⟨gI, j, none⟩ = some (.int .i8 zi)) (ds := [9]) #[false, false, false, false, false, false, false, false, false, false] (by kernel_rfl) rfl rfl ⟨kt, kq, f0, e0⟩ (fun hHeld => ?_)
        refine pu_ 0 107 ?_
        refine pu_ 2 109 ?_
        refine pu_ 3 110 ?_
        refine pu_ 5 112 ?_
        refine tk_ 1 108 hHeld ?_
        refine tk_ 4 111 hHeld ?_
        refine pu_ 6 113 ?_
        refine tk_ 7 114 hHeld ?_
        refine pu_ 8 115 ?_
        refine ls_ 9 none (fun K hK => ?_)
        refine sk_ (hK.out _ _ ?_)
        clear hK K
        refine dn_ ?_
        go_wp2
        obtain ⟨w4, hw4⟩ : ∃ y, y = (w3.setCell ⟨gI, j, none⟩ (.int .i8 v)).drew := ⟨_, rfl⟩
        rw [← hw4]
        replace hw4 : w4 = w3.drew.setCell ⟨gI, j, none⟩ (.int .i8 v) := hw4
        rw [← hw4] at HP2
        have hS4 := HSD3.out.put8 (i := 1) rfl rfl HP2.out.2 HP2.out.1
        rw [pad_set (by rw [hp_length]; exact HLT.out), ← HVV.out, hp_set HZ.out, Gf_B] at hS4
        try rw [up1 (by have := HLT.out; have := HO.out.nB; omega)]
        go_roundw
        case rel => exact ⟨j + 1, by first | rfl | (rw [Int.natCast_add]; rfl), HLT.out, hS4⟩
        case measure => have := HLT.out; simp [intOf]; omega
       ·have d1 : decide ((j : Int) < (b.length : Int)) = false := decide_eq_false (by omega)
        have d2 : decide (j < b.length) = false := decide_eq_false hlt
        obtain rfl : j = b.length := by omega
        clear hlt hj
        have hS := HSJ.out
        rw [hp_all] at hS
        obtain ⟨b9, hnew⟩ : ∃ y, y = b.map hf8 := ⟨_, rfl⟩
        rw [← hnew] at hS
        have HS := Lib.hid hS
        have HNb := Lib.hid hnew
        clear hS hnew HSJ
        go_upto_block 6 with (fail)
        go_wp2
        clear d1 d2 kq
        go_loopw [11] (fun y wr => ∃ j : Nat, y = .int .i64 (j : Int) ∧ j ≤ d.length ∧ Hv w g1 g (qbx kd rw cl n (.slice A0 d.length c0) (.slice A1 a.length c1) (.slice A2 b.length c2) (.slice A3 x.length c3) (.slice Au vs.length cu) (.slice A4 t.length c4)) bi (.slice A4 t.length c4) (.slice IT (padT t).length iT) (.slice Au vs.length cu) (.slice IV (padV vs).length iV) t ([(IA, (pad a).length, iA), (IB, (pad b).length, iB), (ID, (pad d).length, iD), (A1, a.length, c1), (A2, b.length, c2), (A0, d.length, c0)] ++ ft ++ fq) [(IX, (pad x).length, iX), (A3, x.length, c3)] fq ft (Gf a9 b9 (hp hf8 d j) vs) [pad x, x] wr) (fun y _ => d.length - (intOf y).toNat)
        case atStart => exact ⟨0, rfl, Nat.zero_le _, by rw [hp_zero]; exact HS.out⟩
        case round =>
         rename World => wb3
         clear HS
         obtain ⟨j, rfl, hj, hS⟩ := hrel
         have HSJ := Lib.hid hS
         have kq : wb3.cell? ⟨g1, 3, none⟩ = some (.slice A0 d.length c0) := (blk_cell hS.qb 3).trans rfl
         clear hS
         by_cases hlt : j < d.length
         ·have d1 : decide ((j : Int) < (d.length : Int)) = true := decide_eq_true (by omega)
          have d2 : decide (j < d.length) = true := decide_eq_true hlt
          have HSD := Lib.hid (HSJ.out.below (below_drew (Below.refl _ _)))
          obtain ⟨gA, eA, -, e0, e1, hput⟩ := Row.cellAt (HSD.out.fm.row 5 (A0, d.length, c0) (hp hf8 d j) rfl rfl) (by rw [hp_length]; exact hlt)
          subst eA
          obtain ⟨z, hz⟩ : ∃ z, d[j]? = some z := ⟨_, List.getElem?_eq_getElem hlt⟩
          have ez : nth (hp hf8 d j) j = z := by unfold nth; rw [List.getD_eq_getElem?_getD, hp_at, hz]; rfl
          rw [ez] at e0
          have HZ := Lib.hid hz
          have HLT := Lib.hid hlt
          have q0 : (0 : Int) ≤ (j : Int) := by omega
          have q1 : (j : Int) < (d.length : Int) := by omega
          have q2 : (j : Int) < ((pad d).length : Int) := by rw [pad_length]; omega
          clear hz ez hlt hj
          obtain ⟨v, hv⟩ : ∃ v, IntKind.i8.wrap (Int.tdiv z 2) = v := ⟨_, rfl⟩
          have HVV : Hid (hf8 z = v) := Lib.hid hv
          have HP1 := Lib.hid (hput v)
          clear hput
          go_upto_region 23 with (fail)
          refine start_ (n := 13) (S := fun w' => w'.cell? ⟨g1, 3, none⟩ = some (.slice (some ⟨gA, 0, none⟩) d.length c0) ∧ w'.cell? ⟨gA, j, none⟩ = some (.int .i8 z)) (ds := [12]) #[false, false, false, false, false, false, false, false, false, false, false, false, false] (by kernel_rfl) rfl rfl ⟨kq, e0⟩ (fun hHeld => ?_)
          refine pu_ 0 124 ?_
          refine pu_ 1 125 ?_
          refine pu_ 3 127 ?_
          refine pu_ 4 128 ?_
          refine pu_ 5 129 ?_
          refine pu_ 7 131 ?_
          refine tk_ 2 126 hHeld ?_
          refine tk_ 6 130 hHeld ?_
          refine pu_ 8 132 ?_
          refine tk_ 9 133 hHeld ?_
          refine pu_ 10 134 ?_
          refine pu_ 11 135 ?_
          refine ls_ 12 none (fun K hK => ?_)
          refine sk_ (hK.out _ _ ?_)
          clear hK K
          refine dn_ ?_
          obtain ⟨w3, hw3⟩ : ∃ y, y = (wb3.setCell ⟨gA, j, none⟩ (.int .i8 v)).drew := ⟨_, rfl⟩
          rw [← hw3]
          replace hw3 : w3 = wb3.drew.setCell ⟨gA, j, none⟩ (.int .i8 v) := hw3
          rw [← hw3] at HP1
          have hS3 := HSD.out.put8 (i := 5) rfl rfl HP1.out.2 HP1.out.1
          clear hw3 e0 e1 kq hv
          have HSD3 := Lib.hid (hS3.below (below_drew (Below.refl _ _)))
          have kq : w3.cell? ⟨g1, 3, none⟩ = some (.slice (some ⟨gA, 0, none⟩) d.length c0) := (blk_cell hS3.qb 3).trans rfl
          have kt : w3.cell? ⟨g, 2, none⟩ = some (.slice ID (pad d).length iD) := (blk_cell hS3.tb 2).trans (by rw [HBI.out]; rfl)
          obtain ⟨gx, ex, -, f0, -, -⟩ := Row.cellAt (HSD3.out.fm.row 5 (some ⟨gA, 0, none⟩, d.length, c0) ((hp hf8 d j).set j v) rfl rfl) (by rw [List.length_set, hp_length]; exact HLT.out)
          cases ex
          have ev : nth ((hp hf8 d j).set j v) j = v := by unfold nth; rw [List.getD_eq_getElem?_getD, List.getElem?_set_self (by rw [hp_length]; exact HLT.out)]; rfl
          rw [ev] at f0
          have hrow : Row (Kd.int .i8) 57 w3.drew (.slice ID (pad d).length iD) (pad (hp hf8 d j)) := HSD3.out.fm.row 2 (ID, (pad d).length, iD) (pad (hp hf8 d j)) rfl rfl
          obtain ⟨gI, eI, -, e0, e1, hput⟩ := Row.cellAt (l := pad (hp hf8 d j)) hrow (Nat.lt_of_lt_of_le HLT.out (by rw [pad_length, hp_length]; exact Nat.le_add_right _ _))
          clear hrow
          subst eI
          obtain ⟨zi, hzi⟩ : ∃ zi, nth (pad (hp hf8 d j)) j = zi := ⟨_, rfl⟩
          rw [hzi] at e0
          clear hzi
          have HP2 := Lib.hid (hput v)
          clear hput ev hS3
          go_upto_region 24 with (fail)
          refine start_ (n := 11) (S := fun w' => w'.cell? ⟨g, 2, none⟩ = some (.slice (some ⟨gI, 0, none⟩) (pad d).length iD) ∧ w'.cell? ⟨g1, 3, none⟩ = some (.slice (some ⟨gA, 0, none⟩) d.length c0) ∧ w'.cell? ⟨gA, j, none⟩ = some (.int .i8 v) ∧ w'.cell? ⟨gI, j, none⟩ = some (.int .i8 zi)) (ds := [10]) #[false, false, false, false, false, false, false, false, false, false, false] (by kernel_rfl) rfl rfl ⟨kt, kq, f0, e0⟩ (fun hHeld => ?_)
          refine pu_ 0 136 ?_
          refine pu_ 2 138 ?_
          refine pu_ 3 139 ?_
          refine pu_ 4 140 ?_
          refine pu_ 6 142 ?_
          refine tk_ 1 137 hHeld ?_
          refine tk_ 5 141 hHeld ?_
          refine pu_ 7 143 ?_
          refine tk_ 8 144 hHeld ?_
          refine pu_ 9 145 ?_
          refine ls_ 10 none (fun K hK => ?_)
          refine sk_ (hK.out _ _ ?_)
          clear hK K
          refine dn_ ?_
          go_wp2
          obtain ⟨w4, hw4⟩ : ∃ y, y = (w3.setCell ⟨gI, j, none⟩ (.int .i8 v)).drew := ⟨_, rfl⟩
          rw [← hw4]
          replace hw4 : w4 = w3.drew.setCell ⟨gI, j, none⟩ (.int .i8 v) := hw4
          rw [← hw4] at HP2
          have hS4 := HSD3.out.put8 (i := 2) rfl rfl HP2.out.2 HP2.out.1
          rw [pad_set (by rw [hp_length]; exact HLT.out), ← HVV.out, hp_set HZ.out, Gf_D] at hS4
          try rw [up1 (by have := HLT.out; have := HO.out.nD; omega)]
          go_roundw
          case rel => exact ⟨j + 1, by first | rfl | (rw [Int.natCast_add]; rfl), HLT.out, hS4⟩
          case measure => have := HLT.out; simp [intOf]; omega
         ·have d1 : decide ((j : Int) < (d.length : Int)) = false := decide_eq_false (by omega)
          have d2 : decide (j < d.length) = false := decide_eq_false hlt
          obtain rfl : j = d.length := by omega
          clear hlt hj
          have hS := HSJ.out
          rw [hp_all] at hS
          obtain ⟨d9, hnew⟩ : ∃ y, y = d.map hf8 := ⟨_, rfl⟩
          rw [← hnew] at hS
          have HS := Lib.hid hS
          have HNd := Lib.hid hnew
          clear hS hnew HSJ
          go_upto_block 8 with (fail)
          go_wp2
          clear d1 d2 kq
          go_loopw [12] (fun y wr => ∃ j : Nat, y = .int .i64 (j : Int) ∧ j ≤ x.length ∧ Hv w g1 g (qbx kd rw cl n (.slice A0 d.length c0) (.slice A1 a.length c1) (.slice A2 b.length c2) (.slice A3 x.length c3) (.slice Au vs.length cu) (.slice A4 t.length c4)) bi (.slice A4 t.length c4) (.slice IT (padT t).length iT) (.slice Au vs.length cu) (.slice IV (padV vs).length iV) t ([(IA, (pad a).length, iA), (IB, (pad b).length, iB), (ID, (pad d).length, iD), (A1, a.length, c1), (A2, b.length, c2), (A0, d.length, c0)] ++ ft ++ fq) [(IX, (pad x).length, iX), (A3, x.length, c3)] fq ft (Gf a9 b9 d9 vs) [pad (hp hf64 x j), (hp hf64 x j)] wr) (fun y _ => x.length - (intOf y).toNat)
          case atStart => exact ⟨0, rfl, Nat.zero_le _, by rw [hp_zero]; exact HS.out⟩
          case round =>
           rename World => wb4
           clear HS
           obtain ⟨j, rfl, hj, hS⟩ := hrel
           have HSJ := Lib.hid hS
           have kq : wb4.cell? ⟨g1, 6, none⟩ = some (.slice A3 x.length c3) := (blk_cell hS.qb 6).trans rfl
           clear hS
           by_cases hlt : j < x.length
           ·have d1 : decide ((j : Int) < (x.length : Int)) = true := decide_eq_true (by omega)
            have d2 : decide (j < x.length) = true := decide_eq_true hlt
            have HSD := Lib.hid (HSJ.out.below (below_drew (Below.refl _ _)))
            obtain ⟨gA, eA, -, e0, e1, hput⟩ := Row.cellAt (HSD.out.fx.row 1 (A3, x.length, c3) (hp hf64 x j) rfl rfl) (by rw [hp_length]; exact hlt)
            subst eA
            obtain ⟨z, hz⟩ : ∃ z, x[j]? = some z := ⟨_, List.getElem?_eq_getElem hlt⟩
            have ez : nth (hp hf64 x j) j = z := by unfold nth; rw [List.getD_eq_getElem?_getD, hp_at, hz]; rfl
            rw [ez] at e0
            have HZ := Lib.hid hz
            have HLT := Lib.hid hlt
            have q0 : (0 : Int) ≤ (j : Int) := by omega
            have q1 : (j : Int) < (x.length : Int) := by omega
            have q2 : (j : Int) < ((pad x).length : Int) := by rw [pad_length]; omega
            clear hz ez hlt hj
            obtain ⟨v, hv⟩ : ∃ v, IntKind.i64.wrap (Int.tdiv z 2) = v := ⟨_, rfl⟩
            have HVV : Hid (hf64 z = v) := Lib.hid ((i64_w _).symm.trans hv)
            have HP1 := Lib.hid (hput v)
            clear hput
            go_upto_region 28 with (fail)
            refine start_ (n := 11) (S := fun w' => w'.cell? ⟨g1, 6, none⟩ = some (.slice (some ⟨gA, 0, none⟩) x.length c3) ∧ w'.cell? ⟨gA, j, none⟩ = some (.int .i64 z)) (ds := [10]) #[false, false, false, false, false, false, false, false, false, false, false] (by kernel_rfl) rfl rfl ⟨kq, e0⟩ (fun hHeld => ?_)
            refine pu_ 0 153 ?_
            refine pu_ 2 155 ?_
            refine pu_ 3 156 ?_
            refine pu_ 5 158 ?_
            refine tk_ 1 154 hHeld ?_
            refine tk_ 4 157 hHeld ?_
            refine pu_ 6 159 ?_
            refine tk_ 7 160 hHeld ?_
            refine pu_ 8 161 ?_
            refine pu_ 9 162 ?_
            refine ls_ 10 none (fun K hK => ?_)
            refine sk_ (hK.out _ _ ?_)
            clear hK K
            refine dn_ ?_
            obtain ⟨w3, hw3⟩ : ∃ y, y = (wb4.setCell ⟨gA, j, none⟩ (.int .i64 v)).drew := ⟨_, rfl⟩
            rw [← hw3]
            replace hw3 : w3 = wb4.drew.setCell ⟨gA, j, none⟩ (.int .i64 v) := hw3
            rw [← hw3] at HP1
            have hS3 := HSD.out.put64 (i := 1) rfl rfl HP1.out.2 HP1.out.1
            clear hw3 e0 e1 kq hv
            have HSD3 := Lib.hid (hS3.below (below_drew (Below.refl _ _)))
            have kq : w3.cell? ⟨g1, 6, none⟩ = some (.slice (some ⟨gA, 0, none⟩) x.length c3) := (blk_cell hS3.qb 6).trans rfl
            have kt : w3.cell? ⟨g, 3, none⟩ = some (.slice IX (pad x).length iX) := (blk_cell hS3.tb 3).trans (by rw [HBI.out]; rfl)
            obtain ⟨gx, ex, -, f0, -, -⟩ := Row.cellAt (HSD3.out.fx.row 1 (some ⟨gA, 0, none⟩, x.length, c3) ((hp hf64 x j).set j v) rfl rfl) (by rw [List.length_set, hp_length]; exact HLT.out)
            cases ex
            have ev : nth ((hp hf64 x j).set j v) j = v := by unfold nth; rw [List.getD_eq_getElem?_getD, List.getElem?_set_self (by rw [hp_length]; exact HLT.out)]; rfl
            rw [ev] at f0
            have hrow : Row (Kd.int .i64) 2 w3.drew (.slice IX (pad x).length iX) (pad (hp hf64 x j)) := HSD3.out.fx.row 0 (IX, (pad x).length, iX) (pad (hp hf64 x j)) rfl rfl
            obtain ⟨gI, eI, -, e0, e1, hput⟩ := Row.cellAt (l := pad (hp hf64 x j)) hrow (Nat.lt_of_lt_of_le HLT.out (by rw [pad_length, hp_length]; exact Nat.le_add_right _ _))
            clear hrow
            subst eI
            obtain ⟨zi, hzi⟩ : ∃ zi, nth (pad (hp hf64 x j)) j = zi := ⟨_, rfl⟩
            rw [hzi] at e0
            clear hzi
            have HP2 := Lib.hid (hput v)
            clear hput ev hS3
            go_upto_region 29 with (fail)
            refine start_ (n := 10) (S := fun w' => w'.cell? ⟨g, 3, none⟩ = some (.slice (some ⟨gI, 0, none⟩) (pad x).length iX) ∧ w'.cell? ⟨g1, 6, none⟩ = some (.slice (some ⟨gA, 0, none⟩) x.length c3) ∧ w'.cell? ⟨gA, j, none⟩ = some (.int .i64 v) ∧ w'.cell? ⟨gI, j, none⟩ = some (.int .i64 zi)) (ds := [9]) #[false, false, false, false, false, false, false, false, false, false] (by kernel_rfl) rfl rfl ⟨kt, kq, f0, e0⟩ (fun hHeld => ?_)
            refine pu_ 0 163 ?_
            refine pu_ 2 165 ?_
            refine pu_ 3 166 ?_
            refine pu_ 5 168 ?_
            refine tk_ 1 164 hHeld ?_
            refine tk_ 4 167 hHeld ?_
            refine pu_ 6 169 ?_
            refine tk_ 7 170 hHeld ?_
            refine pu_ 8 171 ?_
            refine ls_ 9 none (fun K hK => ?_)
            refine sk_ (hK.out _ _ ?_)
            clear hK K
            refine dn_ ?_
            go_wp2
            obtain ⟨w4, hw4⟩ : ∃ y, y = (w3.setCell ⟨gI, j, none⟩ (.int .i64 v)).drew := ⟨_, rfl⟩
            rw [← hw4]
            replace hw4 : w4 = w3.drew.setCell ⟨gI, j, none⟩ (.int .i64 v) := hw4
            rw [← hw4] at HP2
            have hS4 := HSD3.out.put64 (i := 0) rfl rfl HP2.out.2 HP2.out.1
            rw [pad_set (by rw [hp_length]; exact HLT.out), ← HVV.out, hp_set HZ.out] at hS4
            try rw [up1 (by have := HLT.out; have := HO.out.nX; omega)]
            go_roundw
            case rel => exact ⟨j + 1, by first | rfl | (rw [Int.natCast_add]; rfl), HLT.out, hS4⟩
            case measure => have := HLT.out; simp [intOf]; omega
           ·have d1 : decide ((j : Int) < (x.length : Int)) = false := decide_eq_false (by omega)
            have d2 : decide (j < x.length) = false := decide_eq_false hlt
            obtain rfl : j = x.length := by omega
            clear hlt hj
            have hS := HSJ.out
            rw [hp_all] at hS
            obtain ⟨x9, hnew⟩ : ∃ y, y = x.map hf64 := ⟨_, rfl⟩
            rw [← hnew] at hS
            have HS := Lib.hid hS
            have HNx := Lib.hid hnew
            clear hS hnew HSJ
            go_upto_block 10 with (fail)
            go_wp2
            clear d1 d2 kq
            go_loopw [13] (fun y wr => ∃ i : Nat, y = .int .i64 (i : Int) ∧ i ≤ vs.length ∧ Hv w g1 g (qbx kd rw cl n (.slice A0 d.length c0) (.slice A1 a.length c1) (.slice A2 b.length c2) (.slice A3 x.length c3) (.slice Au vs.length cu) (.slice A4 t.length c4)) bi (.slice A4 t.length c4) (.slice IT (padT t).length iT) (.slice Au vs.length cu) (.slice IV (padV vs).length iV) t ([(IA, (pad a).length, iA), (IB, (pad b).length, iB), (ID, (pad d).length, iD), (A1, a.length, c1), (A2, b.length, c2), (A0, d.length, c0)] ++ ft ++ fq) [(IX, (pad x).length, iX), (A3, x.length, c3)] fq ft (Gf a9 b9 d9 (hp (List.map hf8) vs i)) [pad x9, x9] wr) (fun y _ => vs.length - (intOf y).toNat)
            case atStart => exact ⟨0, rfl, Nat.zero_le _, by rw [hp_zero]; exact HS.out⟩
            case round =>
             rename World => wc
             clear HS
             obtain ⟨i, rfl, hi, hS⟩ := hrel
             have HSI := Lib.hid hS
             have kq : wc.cell? ⟨g1, 7, none⟩ = some (.slice Au vs.length cu) := (blk_cell hS.qb 7).trans rfl
             clear hS
             by_cases hlt : i < vs.length
             ·have d1 : decide ((i : Int) < (vs.length : Int)) = true := decide_eq_true (by omega)
              have d2 : decide (i < vs.length) = true := decide_eq_true hlt
              obtain ⟨r, hr⟩ : ∃ r, vs[i]? = some r := ⟨_, List.getElem?_eq_getElem hlt⟩
              obtain ⟨⟨Aq, mq, jq⟩, hfi⟩ : ∃ f, fq[i]? = some f := ⟨_, List.getElem?_eq_getElem (by rw [HFQ.out]; exact hlt)⟩
              obtain ⟨⟨At, mt, jt⟩, hti⟩ : ∃ f, ft[i]? = some f := ⟨_, List.getElem?_eq_getElem (by rw [HFT.out]; exact hlt)⟩
              have hrq : ([(IA, (pad a).length, iA), (IB, (pad b).length, iB), (ID, (pad d).length, iD), (A1, a.length, c1), (A2, b.length, c2), (A0, d.length, c0)] ++ ft ++ fq)[vs.length + i + 6]? = some (Aq, mq, jq) := by
               show (ft ++ fq)[vs.length + i]? = _
               rw [List.getElem?_append_right (by rw [HFT.out]; omega), HFT.out, Nat.add_sub_cancel_left]
               exact hfi
              have hrt : ([(IA, (pad a).length, iA), (IB, (pad b).length, iB), (ID, (pad d).length, iD), (A1, a.length, c1), (A2, b.length, c2), (A0, d.length, c0)] ++ ft ++ fq)[i + 6]? = some (At, mt, jt) := by
               show (ft ++ fq)[i]? = _
               rw [List.getElem?_append_left (by rw [HFT.out]; exact hlt)]
               exact hti
              have hui : (hp (List.map hf8) vs i)[i]? = some r := by rw [hp_at]; exact hr
              have hgq := Gf_qV (a := a9) (b := b9) (d := d9) hui
              rw [hp_length] at hgq
              obtain rfl : mq = r.length := (Kd.R_reads' (HSI.out.fm.row _ (Aq, mq, jq) r hrq hgq)).1
              obtain rfl : mt = (pad r).length := (Kd.R_reads' (HSI.out.fm.row _ (At, mt, jt) (pad r) hrt (Gf_tV hui))).1
              obtain ⟨gV, cV', hV, -, -⟩ := Row.outer HSI.out.oq hfi
              obtain ⟨rfl, -, rfl⟩ := Value.slice.inj hV
              obtain ⟨gT, cT', hV2, -, -⟩ := Row.outer HSI.out.ot hti
              obtain ⟨rfl, -, rfl⟩ := Value.slice.inj hV2
              have HFI := Lib.hid hfi
              have HTI := Lib.hid hti
              have HLC : Hid (∀ W cs xs, Hv w g1 g (qbx kd rw cl n (.slice A0 d.length c0) (.slice A1 a.length c1) (.slice A2 b.length c2) (.slice A3 x.length c3) (.slice (some ⟨gV, 0, none⟩) vs.length cu) (.slice A4 t.length c4)) bi (.slice A4 t.length c4) (.slice IT (padT t).length iT) (.slice (some ⟨gV, 0, none⟩) vs.length cu) (.slice (some ⟨gT, 0, none⟩) (padV vs).length iV) t ([(IA, (pad a).length, iA), (IB, (pad b).length, iB), (ID, (pad d).length, iD), (A1, a.length, c1), (A2, b.length, c2), (A0, d.length, c0)] ++ ft ++ fq) [(IX, (pad x).length, iX), (A3, x.length, c3)] fq ft cs xs W → W.cell? ⟨gV, i, none⟩ = some (.slice Aq r.length jq)) := Lib.hid (fun W cs xs hm => by
               obtain ⟨g, c', hv, h1, _⟩ := Row.outer hm.oq HFI.out
               obtain ⟨e1, -, -⟩ := Value.slice.inj hv
               cases e1
               exact h1)
              have HTC : Hid (∀ W cs xs, Hv w g1 g (qbx kd rw cl n (.slice A0 d.length c0) (.slice A1 a.length c1) (.slice A2 b.length c2) (.slice A3 x.length c3) (.slice (some ⟨gV, 0, none⟩) vs.length cu) (.slice A4 t.length c4)) bi (.slice A4 t.length c4) (.slice IT (padT t).length iT) (.slice (some ⟨gV, 0, none⟩) vs.length cu) (.slice (some ⟨gT, 0, none⟩) (padV vs).length iV) t ([(IA, (pad a).length, iA), (IB, (pad b).length, iB), (ID, (pad d).length, iD), (A1, a.length, c1), (A2, b.length, c2), (A0, d.length, c0)] ++ ft ++ fq) [(IX, (pad x).length, iX), (A3, x.length, c3)] fq ft cs xs W → W.cell? ⟨gT, i, none⟩ = some (.slice At (pad r).length jt)) := Lib.hid (fun W cs xs hm => by
               obtain ⟨g, c', hv, h1, _⟩ := Row.outer hm.ot HTI.out
               obtain ⟨e1, -, -⟩ := Value.slice.inj hv
               cases e1
               exact h1)
              have HRQ := Lib.hid hrq
              have HRT := Lib.hid hrt
              have HR := Lib.hid hr
              have HLI := Lib.hid hlt
              have HRL : Hid (r.length ≤ 16777216) := Lib.hid (HO.out.nr r (List.mem_of_getElem? hr))
              have p0 : (0 : Int) ≤ (i : Int) := by omega
              have p1 : (i : Int) < (vs.length : Int) := by omega
              have p2 : (i : Int) < ((padV vs).length : Int) := by rw [padV_length]; omega
              have kl := HLC.out wc _ _ HSI.out
              clear hr hfi hti hrq hrt hui hgq hV hV2 hi hlt
              go_upto_block 12 with (fail)
              go_wp2
              clear kq kl
              go_loopw [14] (fun y wr => ∃ j : Nat, y = .int .i64 (j : Int) ∧ j ≤ r.length ∧ Hv w g1 g (qbx kd rw cl n (.slice A0 d.length c0) (.slice A1 a.length c1) (.slice A2 b.length c2) (.slice A3 x.length c3) (.slice (some ⟨gV, 0, none⟩) vs.length cu) (.slice A4 t.length c4)) bi (.slice A4 t.length c4) (.slice IT (padT t).length iT) (.slice (some ⟨gV, 0, none⟩) vs.length cu) (.slice (some ⟨gT, 0, none⟩) (padV vs).length iV) t ([(IA, (pad a).length, iA), (IB, (pad b).length, iB), (ID, (pad d).length, iD), (A1, a.length, c1), (A2, b.length, c2), (A0, d.length, c0)] ++ ft ++ fq) [(IX, (pad x).length, iX), (A3, x.length, c3)] fq ft (Gf a9 b9 d9 ((hp (List.map hf8) vs i).set i (hp hf8 r j))) [pad x9, x9] wr) (fun y _ => r.length - (intOf y).toNat)
              case atStart => exact ⟨0, rfl, Nat.zero_le _, by rw [hp_zero, hp_same (by rw [hp_at]; exact HR.out)]; exact HSI.out⟩
              case round =>
               rename World => wd2
               clear HSI
               obtain ⟨j, rfl, hj, hS⟩ := hrel
               have HSJ := Lib.hid hS
               have kq : wd2.cell? ⟨g1, 7, none⟩ = some (.slice (some ⟨gV, 0, none⟩) vs.length cu) := (blk_cell hS.qb 7).trans rfl
               have kl := HLC.out wd2 _ _ hS
               clear hS
               by_cases hlt : j < r.length
               ·have d3 : decide ((j : Int) < (r.length : Int)) = true := decide_eq_true (by omega)
                have d4 : decide (j < r.length) = true := decide_eq_true hlt
                have hSD := HSJ.out.below (below_drew (Below.refl _ _))
                obtain ⟨us, hus⟩ : ∃ y, y = (hp (List.map hf8) vs i).set i (hp hf8 r j) := ⟨_, rfl⟩
                rw [← hus] at hSD
                have hul : us.length = vs.length := by rw [hus, List.length_set, hp_length]
                have hui : us[i]? = some (hp hf8 r j) := by rw [hus, List.getElem?_set_self (by rw [hp_length]; exact HLI.out)]
                have hgq : (Gf a9 b9 d9 us)[vs.length + i + 6]? = some (hp hf8 r j) := by have h := Gf_qV (a := a9) (b := b9) (d := d9) hui; rw [hul] at h; exact h
                have hrow : Row (Kd.int .i8) 57 wd2.drew (.slice Aq r.length jq) (hp hf8 r j) := hSD.fm.row _ (Aq, r.length, jq) _ HRQ.out hgq
                obtain ⟨gA, eA, -, e0, e1, hput⟩ := Row.cellAt (l := hp hf8 r j) hrow (by rw [hp_length]; exact hlt)
                clear hrow
                subst eA
                obtain ⟨z, hz⟩ : ∃ z, r[j]? = some z := ⟨_, List.getElem?_eq_getElem hlt⟩
                have ez : nth (hp hf8 r j) j = z := by unfold nth; rw [List.getD_eq_getElem?_getD, hp_at, hz]; rfl
                rw [ez] at e0
                have HSD := Lib.hid hSD
                have HUL := Lib.hid hul
                have HUI := Lib.hid hui
                have HUS := Lib.hid hus
                have HGQ := Lib.hid hgq
                have HZ := Lib.hid hz
                have HLT := Lib.hid hlt
                have q0 : (0 : Int) ≤ (j : Int) := by omega
                have q1 : (j : Int) < (r.length : Int) := by omega
                have q2 : (j : Int) < ((pad r).length : Int) := by rw [pad_length]; omega
                clear hz ez hlt hj hSD hul hui hus hgq
                obtain ⟨v, hv⟩ : ∃ v, IntKind.i8.wrap (Int.tdiv z 2) = v := ⟨_, rfl⟩
                have HVV : Hid (hf8 z = v) := Lib.hid hv
                have HP1 := Lib.hid (hput v)
                clear hput
                go_upto_region 36 with (fail)
                refine start_ (n := 17) (S := fun w' => w'.cell? ⟨g1, 7, none⟩ = some (.slice (some ⟨gV, 0, none⟩) vs.length cu) ∧ w'.cell? ⟨gV, i, none⟩ = some (.slice (some ⟨gA, 0, none⟩) r.length jq) ∧ w'.cell? ⟨gA, j, none⟩ = some (.int .i8 z)) (ds := [16]) #[false, false, false, false, false, false, false, false, false, false, false, false, false, false, false, false, false] (by kernel_rfl) rfl rfl ⟨kq, kl, e0⟩ (fun hHeld => ?_)
                refine pu_ 0 189 ?_
                refine pu_ 2 191 ?_
                refine pu_ 5 194 ?_
                refine pu_ 6 195 ?_
                refine pu_ 8 197 ?_
                refine pu_ 11 200 ?_
                refine tk_ 1 190 hHeld ?_
                refine pu_ 3 192 ?_
                refine tk_ 4 193 hHeld ?_
                refine tk_ 7 196 hHeld ?_
                refine pu_ 9 198 ?_
                refine tk_ 10 199 hHeld ?_
                refine pu_ 12 201 ?_
                refine tk_ 13 202 hHeld ?_
                refine pu_ 14 203 ?_
                refine pu_ 15 204 ?_
                refine ls_ 16 none (fun K hK => ?_)
                refine sk_ (hK.out _ _ ?_)
                clear hK K
                refine dn_ ?_
                obtain ⟨w3, hw3⟩ : ∃ y, y = (wd2.setCell ⟨gA, j, none⟩ (.int .i8 v)).drew := ⟨_, rfl⟩
                rw [← hw3]
                replace hw3 : w3 = wd2.drew.setCell ⟨gA, j, none⟩ (.int .i8 v) := hw3
                rw [← hw3] at HP1
                have hS3 := HSD.out.put8 (i := vs.length + i + 6) HRQ.out HGQ.out HP1.out.2 HP1.out.1
                clear hw3 e0 e1 kq kl hv
                have HSD3 := Lib.hid (hS3.below (below_drew (Below.refl _ _)))
                have kq : w3.cell? ⟨g1, 7, none⟩ = some (.slice (some ⟨gV, 0, none⟩) vs.length cu) := (blk_cell hS3.qb 7).trans rfl
                have kt : w3.cell? ⟨g, 5, none⟩ = some (.slice (some ⟨gT, 0, none⟩) (padV vs).length iV) := (blk_cell hS3.tb 5).trans (by rw [HBI.out]; rfl)
                have kl := HLC.out w3 _ _ hS3
                have klt := HTC.out w3 _ _ hS3
                have hg9 : ((Gf a9 b9 d9 us).set (vs.length + i + 6) ((hp hf8 r j).set j v))[vs.length + i + 6]? = some ((hp hf8 r j).set j v) := by rw [List.getElem?_set_self (List.getElem?_eq_some_iff.1 HGQ.out).1]
                have hrow : Row (Kd.int .i8) 57 w3.drew (.slice (some ⟨gA, 0, none⟩) r.length jq) ((hp hf8 r j).set j v) := HSD3.out.fm.row _ (some ⟨gA, 0, none⟩, r.length, jq) _ HRQ.out hg9
                obtain ⟨gx, ex, -, f0, -, -⟩ := Row.cellAt (l := (hp hf8 r j).set j v) hrow (by rw [List.length_set, hp_length]; exact HLT.out)
                cases ex
                have ev : nth ((hp hf8 r j).set j v) j = v := by unfold nth; rw [List.getD_eq_getElem?_getD, List.getElem?_set_self (by rw [hp_length]; exact HLT.out)]; rfl
                rw [ev] at f0
                have hgt : ((Gf a9 b9 d9 us).set (vs.length + i + 6) ((hp hf8 r j).set j v))[i + 6]? = some (pad (hp hf8 r j)) := by rw [List.getElem?_set_ne (by have := HLI.out; omega)]; exact Gf_tV HUI.out
                have HGT := Lib.hid hgt
                clear hrow hg9
                have hrow : Row (Kd.int .i8) 57 w3.drew (.slice At (pad r).length jt) (pad (hp hf8 r j)) := HSD3.out.fm.row _ (At, (pad r).length, jt) _ HRT.out hgt
                obtain ⟨gI, eI, -, e0, e1, hput⟩ := Row.cellAt (l := pad (hp hf8 r j)) hrow (Nat.lt_of_lt_of_le HLT.out (by rw [pad_length, hp_length]; exact Nat.le_add_right _ _))
                clear hrow hgt
                subst eI
                obtain ⟨zi, hzi⟩ : ∃ zi, nth (pad (hp hf8 r j)) j = zi := ⟨_, rfl⟩
                rw [hzi] at e0
                clear hzi
                have HP2 := Lib.hid (hput v)
                clear hput ev hS3
                go_upto_region 37 with (fail)
                refine start_ (n := 16) (S := fun w' => w'.cell? ⟨g, 5, none⟩ = some (.slice (some ⟨gT, 0, none⟩) (padV vs).length iV) ∧ w'.cell? ⟨gT, i, none⟩ = some (.slice (some ⟨gI, 0, none⟩) (pad r).length jt) ∧ w'.cell? ⟨g1, 7, none⟩ = some (.slice (some ⟨gV, 0, none⟩) vs.length cu) ∧ w'.cell? ⟨gV, i, none⟩ = some (.slice (some ⟨gA, 0, none⟩) r.length jq) ∧ w'.cell? ⟨gA, j, none⟩ = some (.int .i8 v) ∧ w'.cell? ⟨gI, j, none⟩ = some (.int .i8 zi)) (ds := [15]) #[false, false, false, false, false, false, false, false, false, false, false, false, false, false, false, false] (by kernel_rfl) rfl rfl ⟨kt, klt, kq, kl, f0, e0⟩ (fun hHeld => ?_)
                refine pu_ 0 205 ?_
                refine pu_ 2 207 ?_
                refine pu_ 5 210 ?_
                refine pu_ 6 211 ?_
                refine pu_ 8 213 ?_
                refine pu_ 11 216 ?_
                refine tk_ 1 206 hHeld ?_
                refine pu_ 3 208 ?_
                refine tk_ 4 209 hHeld ?_
                refine tk_ 7 212 hHeld ?_
                refine pu_ 9 214 ?_
                refine tk_ 10 215 hHeld ?_
                refine pu_ 12 217 ?_
                refine tk_ 13 218 hHeld ?_
                refine pu_ 14 219 ?_
                refine ls_ 15 none (fun K hK => ?_)
                refine sk_ (hK.out _ _ ?_)
                clear hK K
                refine dn_ ?_
                go_wp2
                obtain ⟨w4, hw4⟩ : ∃ y, y = (w3.setCell ⟨gI, j, none⟩ (.int .i8 v)).drew := ⟨_, rfl⟩
                rw [← hw4]
                replace hw4 : w4 = w3.drew.setCell ⟨gI, j, none⟩ (.int .i8 v) := hw4
                rw [← hw4] at HP2
                have hS4 := HSD3.out.put8 (i := i + 6) HRT.out HGT.out HP2.out.2 HP2.out.1
                have hfv := Gf_V a9 b9 d9 ((hp hf8 r j).set j v) us i (by rw [HUL.out]; exact HLI.out)
                rw [HUL.out] at hfv
                rw [pad_set (by rw [hp_length]; exact HLT.out), hfv, ← HVV.out, hp_set HZ.out, HUS.out, List.set_set] at hS4
                try rw [up1 (by have := HLT.out; have := HRL.out; omega)]
                go_roundw
                case rel => exact ⟨j + 1, by first | rfl | (rw [Int.natCast_add]; rfl), HLT.out, hS4⟩
                case measure => have := HLT.out; simp [intOf]; omega
               ·have d3 : decide ((j : Int) < (r.length : Int)) = false := decide_eq_false (by omega)
                have d4 : decide (j < r.length) = false := decide_eq_false hlt
                obtain rfl : j = r.length := by omega
                have hS := HSJ.out
                rw [hp_all, hp_set (f := List.map hf8) HR.out] at hS
                clear hlt hj
                go_wp2
                try rw [up1 (by have := HLI.out; have := HO.out.nV; omega)]
                go_roundw
                case rel => exact ⟨i + 1, by first | rfl | (rw [Int.natCast_add]; rfl), HLI.out, hS⟩
                case measure => have := HLI.out; simp [intOf]; omega
             ·have d1 : decide ((i : Int) < (vs.length : Int)) = false := decide_eq_false (by omega)
              have d2 : decide (i < vs.length) = false := decide_eq_false hlt
              obtain rfl : i = vs.length := by omega
              clear hlt hi
              have hS := HSI.out
              rw [hp_all] at hS
              obtain ⟨v9, hnew⟩ : ∃ y, y = vs.map (List.map hf8) := ⟨_, rfl⟩
              rw [← hnew] at hS
              have HS := Lib.hid hS
              have HNv := Lib.hid hnew
              clear hS hnew HSI
              have ha9 : a9.length = a.length := by rw [HNa.out, List.length_map]
              have hb9 : b9.length = b.length := by rw [HNb.out, List.length_map]
              have hd9 : d9.length = d.length := by rw [HNd.out, List.length_map]
              have hx9 : x9.length = x.length := by rw [HNx.out, List.length_map]
              have hv9 : v9.length = vs.length := by rw [HNv.out, List.length_map]
              have hct : Col (Kd.int .i8) 33 57 wc (.slice IV (padV vs).length iV) ft (padV v9) := Fm.col (rs := [(IA, (pad a).length, iA), (IB, (pad b).length, iB), (ID, (pad d).length, iD), (A1, a.length, c1), (A2, b.length, c2), (A0, d.length, c0)]) (cs := [pad a9, pad b9, pad d9, a9, b9, d9]) HS.out.fm rfl (by rw [HFT.out, padV_length, hv9]) HS.out.ot
              have hcq : Col (Kd.int .i8) 33 57 wc (.slice Au vs.length cu) fq v9 := Fm.colR (rs := [(IA, (pad a).length, iA), (IB, (pad b).length, iB), (ID, (pad d).length, iD), (A1, a.length, c1), (A2, b.length, c2), (A0, d.length, c0)] ++ ft) (cs := [pad a9, pad b9, pad d9, a9, b9, d9] ++ padV v9) HS.out.fm (by rw [List.length_append, List.length_append, HFT.out, padV_length, hv9]; rfl) HS.out.oq
              have hIC : InC wc (.slice IA (pad a).length iA) (.slice IB (pad b).length iB) (.slice ID (pad d).length iD) (.slice IX (pad x).length iX) (.slice IT (padT t).length iT) (.slice IV (padV vs).length iV) a9 b9 d9 x9 t v9 :=
               ⟨Kd.R_reads (HS.out.fm.row 0 (IA, (pad a).length, iA) (pad a9) rfl rfl), Kd.R_reads (HS.out.fm.row 1 (IB, (pad b).length, iB) (pad b9) rfl rfl), Kd.R_reads (HS.out.fm.row 2 (ID, (pad d).length, iD) (pad d9) rfl rfl), Kd.R_reads (HS.out.fx.row 0 (IX, (pad x).length, iX) (pad x9) rfl rfl), Kd.R_reads HS.out.ht, hct.V rfl _⟩
              obtain ⟨pV, jV, eV, hlV, hcV⟩ := hcq.reads
              rw [hv9] at eV
              obtain ⟨rfl, -, rfl⟩ := Value.slice.inj eV
              have rA := Kd.R_reads' (HS.out.fm.row 3 (A1, a.length, c1) a9 rfl rfl)
              have rB := Kd.R_reads' (HS.out.fm.row 4 (A2, b.length, c2) b9 rfl rfl)
              have rD := Kd.R_reads' (HS.out.fm.row 5 (A0, d.length, c0) d9 rfl rfl)
              have rX := Kd.R_reads' (HS.out.fx.row 1 (A3, x.length, c3) x9 rfl rfl)
              have rT := Kd.R_reads' HS.out.hq
              have hOA : OpAt wc A1 A2 A0 A3 A4 Au c1 c2 c0 c3 c4 cu a9 b9 d9 x9 t v9 :=
               ⟨rA.2.2, rB.2.2, rD.2.2, rX.2.2, rT.2.2, hcV, by rw [ha9]; exact rA.2.1, by rw [hb9]; exact rB.2.1, by rw [hd9]; exact rD.2.1, by rw [hx9]; exact rX.2.1, rT.2.1, hlV, by rw [ha9]; exact HO.out.nA, by rw [hb9]; exact HO.out.nB, by rw [hd9]; exact HO.out.nD, by rw [hx9]; exact HO.out.nX, HO.out.nT, by rw [hv9]; exact HO.out.nV, fun r hr => by
                rw [HNv.out] at hr
                obtain ⟨r0, hr0, rfl⟩ := List.mem_map.1 hr
                rw [List.length_map]
                exact HO.out.nr r0 hr0⟩
              have hFit : OpFit a9 b9 d9 x9 v9 := ⟨by rw [HNa.out]; exact hf8_small a, by rw [HNb.out]; exact hf8_small b, by rw [HNd.out]; exact hf8_small d, by rw [HNx.out]; exact hf64_rng x, fun r hr => by
               rw [HNv.out] at hr
               obtain ⟨r0, hr0, rfl⟩ := List.mem_map.1 hr
               exact hf8_small r0⟩
              have HIC := Lib.hid hIC
              have HOA := Lib.hid hOA
              have HFT9 := Lib.hid hFit
              have HL9 := Lib.hid (⟨ha9, hb9, hd9, hx9, hv9⟩ : _ ∧ _ ∧ _ ∧ _ ∧ _)
              have HQB := Lib.hid HS.out.qb
              have HTB := Lib.hid HS.out.tb
              have HBE := Lib.hid HS.out.bel
              clear ha9 hb9 hd9 hx9 hv9 hct hcq hIC eV hlV hcV rA rB rD rX rT hOA hFit HS
              have k0 : wc.cell? ⟨g1, 0, none⟩ = some (.int .i64 kd) := (blk_cell HQB.out 0).trans rfl
              have k1 : wc.cell? ⟨g1, 1, none⟩ = some (.int .i64 rw) := (blk_cell HQB.out 1).trans rfl
              have k2 : wc.cell? ⟨g1, 2, none⟩ = some (.int .i64 cl) := (blk_cell HQB.out 2).trans rfl
              have k3 : wc.cell? ⟨g1, 3, none⟩ = some (.slice A0 d.length c0) := (blk_cell HQB.out 3).trans rfl
              have k4 : wc.cell? ⟨g1, 4, none⟩ = some (.slice A1 a.length c1) := (blk_cell HQB.out 4).trans rfl
              have k5 : wc.cell? ⟨g1, 5, none⟩ = some (.slice A2 b.length c2) := (blk_cell HQB.out 5).trans rfl
              have k6 : wc.cell? ⟨g1, 6, none⟩ = some (.slice A3 x.length c3) := (blk_cell HQB.out 6).trans rfl
              have k7 : wc.cell? ⟨g1, 7, none⟩ = some (.slice Au vs.length cu) := (blk_cell HQB.out 7).trans rfl
              have k8 : wc.cell? ⟨g1, 8, none⟩ = some (.slice A4 t.length c4) := (blk_cell HQB.out 8).trans rfl
              have k9 : wc.cell? ⟨g1, 9, none⟩ = some (.int .i64 n) := (blk_cell HQB.out 9).trans rfl
              have i0 : wc.cell? ⟨g, 0, none⟩ = some (.slice IA (pad a).length iA) := (blk_cell HTB.out 0).trans (by rw [HBI.out]; rfl)
              have i1 : wc.cell? ⟨g, 1, none⟩ = some (.slice IB (pad b).length iB) := (blk_cell HTB.out 1).trans (by rw [HBI.out]; rfl)
              have i2 : wc.cell? ⟨g, 2, none⟩ = some (.slice ID (pad d).length iD) := (blk_cell HTB.out 2).trans (by rw [HBI.out]; rfl)
              have i3 : wc.cell? ⟨g, 3, none⟩ = some (.slice IX (pad x).length iX) := (blk_cell HTB.out 3).trans (by rw [HBI.out]; rfl)
              have i4 : wc.cell? ⟨g, 4, none⟩ = some (.slice IT (padT t).length iT) := (blk_cell HTB.out 4).trans (by rw [HBI.out]; rfl)
              have i5 : wc.cell? ⟨g, 5, none⟩ = some (.slice IV (padV vs).length iV) := (blk_cell HTB.out 5).trans (by rw [HBI.out]; rfl)
              go_upto_region 38 with (fail)
              clear d1 d2 kq
              go_wp2_with fail
              refine (calls_of_args (by rw [← HL9.out.1, ← HL9.out.2.1, ← HL9.out.2.2.1, ← HL9.out.2.2.2.1, ← HL9.out.2.2.2.2]; rfl) (plain_calls kd rw cl n wc HIC.out HOA.out HFT9.out)).mono ?_
              rintro e we ⟨rfl, hd⟩
              have HQE := Lib.hid (blk_below HQB.out hd)
              have HTE := Lib.hid (blk_below HTB.out hd)
              have HBF := Lib.hid (below_step HBE.out hd)
              have HICe := Lib.hid (HIC.out.below hd)
              have HOAe := Lib.hid (HOA.out.below hd)
              clear hd k0 k1 k2 k3 k4 k5 k6 k7 k8 k9 i0 i1 i2 i3 i4 i5
              have k0 : we.cell? ⟨g1, 0, none⟩ = some (.int .i64 kd) := (blk_cell HQE.out 0).trans rfl
              have k1 : we.cell? ⟨g1, 1, none⟩ = some (.int .i64 rw) := (blk_cell HQE.out 1).trans rfl
              have k2 : we.cell? ⟨g1, 2, none⟩ = some (.int .i64 cl) := (blk_cell HQE.out 2).trans rfl
              have k3 : we.cell? ⟨g1, 3, none⟩ = some (.slice A0 d.length c0) := (blk_cell HQE.out 3).trans rfl
              have k4 : we.cell? ⟨g1, 4, none⟩ = some (.slice A1 a.length c1) := (blk_cell HQE.out 4).trans rfl
              have k5 : we.cell? ⟨g1, 5, none⟩ = some (.slice A2 b.length c2) := (blk_cell HQE.out 5).trans rfl
              have k6 : we.cell? ⟨g1, 6, none⟩ = some (.slice A3 x.length c3) := (blk_cell HQE.out 6).trans rfl
              have k7 : we.cell? ⟨g1, 7, none⟩ = some (.slice Au vs.length cu) := (blk_cell HQE.out 7).trans rfl
              have k8 : we.cell? ⟨g1, 8, none⟩ = some (.slice A4 t.length c4) := (blk_cell HQE.out 8).trans rfl
              have k9 : we.cell? ⟨g1, 9, none⟩ = some (.int .i64 n) := (blk_cell HQE.out 9).trans rfl
              have i0 : we.cell? ⟨g, 0, none⟩ = some (.slice IA (pad a).length iA) := (blk_cell HTE.out 0).trans (by rw [HBI.out]; rfl)
              have i1 : we.cell? ⟨g, 1, none⟩ = some (.slice IB (pad b).length iB) := (blk_cell HTE.out 1).trans (by rw [HBI.out]; rfl)
              have i2 : we.cell? ⟨g, 2, none⟩ = some (.slice ID (pad d).length iD) := (blk_cell HTE.out 2).trans (by rw [HBI.out]; rfl)
              have i3 : we.cell? ⟨g, 3, none⟩ = some (.slice IX (pad x).length iX) := (blk_cell HTE.out 3).trans (by rw [HBI.out]; rfl)
              have i4 : we.cell? ⟨g, 4, none⟩ = some (.slice IT (padT t).length iT) := (blk_cell HTE.out 4).trans (by rw [HBI.out]; rfl)
              have i5 : we.cell? ⟨g, 5, none⟩ = some (.slice IV (padV vs).length iV) := (blk_cell HTE.out 5).trans (by rw [HBI.out]; rfl)
              go_upto_region 39 with (fail)
              go_wp2_with fail
              refine (calls_of_args (by rw [← HL9.out.1, ← HL9.out.2.1, ← HL9.out.2.2.1, ← HL9.out.2.2.2.1, ← HL9.out.2.2.2.2]; rfl) (mixed_calls kd rw cl n we (HT.out.below HBF.out) HICe.out HOAe.out HFT9.out)).mono ?_
              rintro e wf ⟨rfl, hd⟩
              have HBG := Lib.hid (below_step HBF.out hd)
              clear hd k0 k1 k2 k3 k4 k5 k6 k7 k8 k9 i0 i1 i2 i3 i4 i5
              go_wp2
              go_ret
              exact ⟨rfl, HBG.out⟩
 ·rintro ⟨d1, a1, b1, x1, t1, g1⟩ w10 hF
  refine na_ ?_
  replace hF : QF W0 G bx a b d x t d1 a1 b1 x1 t1 g1 5 false w10 := hF
  obtain ⟨A0, c0, e0⟩ := Kd.R_slice (hF.hD (by decide))
  obtain ⟨A1, c1, e1⟩ := Kd.R_slice (hF.hA (by decide))
  obtain ⟨A2, c2, e2⟩ := Kd.R_slice (hF.hB (by decide))
  obtain ⟨A3, c3, e3⟩ := Kd.R_slice (hF.hX (by decide))
  obtain ⟨A4, c4, e4⟩ := Kd.R_slice (hF.hT (by decide))
  subst e0 e1 e2 e3 e4
  refine puT_ 19 45 ?_
  refine onT_ 20 (some 7) (fun K hK => ?_)
  refine box_step (by rfl) (N := 7) rfl (cs := z10) (t := 39) ?_ ?_
  ·first | (go_simp; done) | (go_simp; rfl)
  intro g hg w1 hbx hb
  exact hK.out _ _ (hF.alo hb hg hbx).box (fun _ => norm_ (by show Act.put _ (some 7) _ = _; simp only [putAll, Act.put, List.setIfInBounds_toArray, List.set_cons_zero, List.set_cons_succ]) (hE (_, _, _, _, _, g) _ (hF.alo hb hg hbx)))
 ·rintro ⟨d1, a1, b1, x1, t1, g1⟩ w10 hF
  refine na_ ?_
  replace hF : QF W0 G bx a b d x t d1 a1 b1 x1 t1 g1 4 true w10 := hF
  refine onT_ 16 (some 42) (fun K hK => ?_)
  refine gs_ Tryd.func43 #[.slice T t.length cT] ?_
  refine (HCT.out _ _ _ _ _ _  4 true _ rfl hF).mono ?_
  rintro e w1 ⟨v, rfl, hF1⟩
  refine ⟨_, rfl, hK.out _ _ hF1.box (fun _ => ?_)⟩
  clear hK K hF
  obtain ⟨A0, c0, e0⟩ := Kd.R_slice (hF1.hD (by decide))
  obtain ⟨A1, c1, e1⟩ := Kd.R_slice (hF1.hA (by decide))
  obtain ⟨A2, c2, e2⟩ := Kd.R_slice (hF1.hB (by decide))
  obtain ⟨A3, c3, e3⟩ := Kd.R_slice (hF1.hX (by decide))
  obtain ⟨A4, c4, e4⟩ := Kd.R_slice (hF1.hT (by decide))
  subst e0 e1 e2 e3 e4
  refine puT_ 19 45 ?_
  exact norm_ pa_ (hE (_, _, _, _, _, g1) _ hF1)
 ·rintro ⟨d1, a1, b1, x1, t1, g1⟩ w10 hF
  refine na_ ?_
  replace hF : QF W0 G bx a b d x t d1 a1 b1 x1 t1 g1 4 false w10 := hF
  refine two_ (i := 16) (j := 20) (Ni := some 42) (Nj := some 7) #[true, true, true, true, true, true, true, true, true, true, true, true, true, true, true, true, true, true, true, false, false, false] #[true, true, true, true, true, true, true, true, true, true, true, true, true, true, true, true, false, true, true, false, true, false] rfl rfl rfl rfl (two_of HT_.out (by kernel_rfl)) (by decide) (by decide) (fun K hK => ?_) (fun K hK => ?_)
  ·refine gs_ Tryd.func43 #[.slice T t.length cT] ?_
   refine (HCT.out _ _ _ _ _ _  4 false _ rfl hF).mono ?_
   rintro e w1 ⟨v, rfl, hF1⟩
   exact ⟨_, rfl, hK.out _ _ hF1.box (fun _ => norm_ pa_ (hN5 (d1, a1, b1, x1, v, g1) _ hF1))⟩
  ·refine box_step (by rfl) (N := 7) rfl (cs := z10) (t := 39) ?_ ?_
   ·first | (go_simp; done) | (go_simp; rfl)
   intro g hg w1 hbx hb
   exact hK.out _ _ (hF.alo hb hg hbx).box (fun _ => norm_ (by show Act.put _ (some 7) _ = _; simp only [putAll, Act.put, List.setIfInBounds_toArray, List.set_cons_zero, List.set_cons_succ]) (hY4 (d1, a1, b1, x1, t1, g) _ (hF.alo hb hg hbx)))
 ·rintro ⟨d1, a1, b1, x1, t1, g1⟩ w10 hF
  refine na_ ?_
  replace hF : QF W0 G bx a b d x t d1 a1 b1 x1 t1 g1 3 true w10 := hF
  refine onT_ 13 (some 39) (fun K hK => ?_)
  refine gs_ Tryd.func42 #[.slice X x.length cX] ?_
  refine (HCX.out _ _ _ _ _ _  3 true _ rfl hF).mono ?_
  rintro e w1 ⟨v, rfl, hF1⟩
  exact ⟨_, rfl, hK.out _ _ hF1.box (fun _ => norm_ pa_ (hY4 (d1, a1, b1, v, t1, g1) _ hF1))⟩
 ·rintro ⟨d1, a1, b1, x1, t1, g1⟩ w10 hF
  refine na_ ?_
  replace hF : QF W0 G bx a b d x t d1 a1 b1 x1 t1 g1 3 false w10 := hF
  refine two_ (i := 13) (j := 20) (Ni := some 39) (Nj := some 7) #[true, true, true, true, true, true, true, true, true, true, true, true, true, true, true, true, false, true, true, false, false, false] #[true, true, true, true, true, true, true, true, true, true, true, true, true, false, true, true, false, true, true, false, true, false] rfl rfl rfl rfl (two_of HT_.out (by kernel_rfl)) (by decide) (by decide) (fun K hK => ?_) (fun K hK => ?_)
  ·refine gs_ Tryd.func42 #[.slice X x.length cX] ?_
   refine (HCX.out _ _ _ _ _ _  3 false _ rfl hF).mono ?_
   rintro e w1 ⟨v, rfl, hF1⟩
   exact ⟨_, rfl, hK.out _ _ hF1.box (fun _ => norm_ pa_ (hN4 (d1, a1, b1, v, t1, g1) _ hF1))⟩
  ·refine box_step (by rfl) (N := 7) rfl (cs := z10) (t := 39) ?_ ?_
   ·first | (go_simp; done) | (go_simp; rfl)
   intro g hg w1 hbx hb
   exact hK.out _ _ (hF.alo hb hg hbx).box (fun _ => norm_ (by show Act.put _ (some 7) _ = _; simp only [putAll, Act.put, List.setIfInBounds_toArray, List.set_cons_zero, List.set_cons_succ]) (hY3 (d1, a1, b1, x1, t1, g) _ (hF.alo hb hg hbx)))
 ·rintro ⟨d1, a1, b1, x1, t1, g1⟩ w10 hF
  refine na_ ?_
  replace hF : QF W0 G bx a b d x t d1 a1 b1 x1 t1 g1 2 true w10 := hF
  refine onT_ 10 (some 36) (fun K hK => ?_)
  refine gs_ Tryd.func41 #[.slice B b.length cB] ?_
  refine (HCB.out _ _ _ _ _ _  2 true _ rfl hF).mono ?_
  rintro e w1 ⟨v, rfl, hF1⟩
  exact ⟨_, rfl, hK.out _ _ hF1.box (fun _ => norm_ pa_ (hY3 (d1, a1, v, x1, t1, g1) _ hF1))⟩
 ·rintro ⟨d1, a1, b1, x1, t1, g1⟩ w10 hF
  refine na_ ?_
  replace hF : QF W0 G bx a b d x t d1 a1 b1 x1 t1 g1 2 false w10 := hF
  refine two_ (i := 10) (j := 20) (Ni := some 36) (Nj := some 7) #[true, true, true, true, true, true, true, true, true, true, true, true, true, false, true, true, false, true, true, false, false, false] #[true, true, true, true, true, true, true, true, true, true, false, true, true, false, true, true, false, true, true, false, true, false] rfl rfl rfl rfl (two_of HT_.out (by kernel_rfl)) (by decide) (by decide) (fun K hK => ?_) (fun K hK => ?_)
  ·refine gs_ Tryd.func41 #[.slice B b.length cB] ?_
   refine (HCB.out _ _ _ _ _ _  2 false _ rfl hF).mono ?_
   rintro e w1 ⟨v, rfl, hF1⟩
   exact ⟨_, rfl, hK.out _ _ hF1.box (fun _ => norm_ pa_ (hN3 (d1, a1, v, x1, t1, g1) _ hF1))⟩
  ·refine box_step (by rfl) (N := 7) rfl (cs := z10) (t := 39) ?_ ?_
   ·first | (go_simp; done) | (go_simp; rfl)
   intro g hg w1 hbx hb
   exact hK.out _ _ (hF.alo hb hg hbx).box (fun _ => norm_ (by show Act.put _ (some 7) _ = _; simp only [putAll, Act.put, List.setIfInBounds_toArray, List.set_cons_zero, List.set_cons_succ]) (hY2 (d1, a1, b1, x1, t1, g) _ (hF.alo hb hg hbx)))
 ·rintro ⟨d1, a1, b1, x1, t1, g1⟩ w10 hF
  refine na_ ?_
  replace hF : QF W0 G bx a b d x t d1 a1 b1 x1 t1 g1 1 true w10 := hF
  refine onT_ 7 (some 33) (fun K hK => ?_)
  refine gs_ Tryd.func41 #[.slice A a.length cA] ?_
  refine (HCA.out _ _ _ _ _ _  1 true _ rfl hF).mono ?_
  rintro e w1 ⟨v, rfl, hF1⟩
  exact ⟨_, rfl, hK.out _ _ hF1.box (fun _ => norm_ pa_ (hY2 (d1, v, b1, x1, t1, g1) _ hF1))⟩
 ·rintro ⟨d1, a1, b1, x1, t1, g1⟩ w10 hF
  refine na_ ?_
  replace hF : QF W0 G bx a b d x t d1 a1 b1 x1 t1 g1 1 false w10 := hF
  refine two_ (i := 7) (j := 20) (Ni := some 33) (Nj := some 7) #[true, true, true, true, true, true, true, true, true, true, false, true, true, false, true, true, false, true, true, false, false, false] #[true, true, true, true, true, true, true, false, true, true, false, true, true, false, true, true, false, true, true, false, true, false] rfl rfl rfl rfl (two_of HT_.out (by kernel_rfl)) (by decide) (by decide) (fun K hK => ?_) (fun K hK => ?_)
  ·refine gs_ Tryd.func41 #[.slice A a.length cA] ?_
   refine (HCA.out _ _ _ _ _ _  1 false _ rfl hF).mono ?_
   rintro e w1 ⟨v, rfl, hF1⟩
   exact ⟨_, rfl, hK.out _ _ hF1.box (fun _ => norm_ pa_ (hN2 (d1, v, b1, x1, t1, g1) _ hF1))⟩
  ·refine box_step (by rfl) (N := 7) rfl (cs := z10) (t := 39) ?_ ?_
   ·first | (go_simp; done) | (go_simp; rfl)
   intro g hg w1 hbx hb
   exact hK.out _ _ (hF.alo hb hg hbx).box (fun _ => norm_ (by show Act.put _ (some 7) _ = _; simp only [putAll, Act.put, List.setIfInBounds_toArray, List.set_cons_zero, List.set_cons_succ]) (hY1 (d1, a1, b1, x1, t1, g) _ (hF.alo hb hg hbx)))
 ·rintro ⟨d1, a1, b1, x1, t1, g1⟩ w10 hF
  refine na_ ?_
  replace hF : QF W0 G bx a b d x t d1 a1 b1 x1 t1 g1 0 true w10 := hF
  refine onT_ 4 (some 30) (fun K hK => ?_)
  refine gs_ Tryd.func40 #[.agg #[.int .i64 rw, .int .i64 cl, .slice D d.length cD]] ?_
  refine (HCD.out _ _ _ _ _ _  0 true _ rfl hF).mono ?_
  rintro e w1 ⟨v, rfl, hF1⟩
  exact ⟨_, rfl, hK.out _ _ hF1.box (fun _ => norm_ pa_ (hY1 (v, a1, b1, x1, t1, g1) _ hF1))⟩
end Wk
end Go.Proofs.YtnioohhiphpplaaDoor.Dp
