/- The walk of plain: Check, MatVec, Narrow, Norm, Dot. -/
import Derived.Test.YtnioohhiphpplaaDoorDl
import Derived.Deep.RegionHeld3
import Derived.Deep.DeepCutAuto
import Derived.Deep.CutBlock
set_option linter.unusedVariables false
set_option linter.unusedSimpArgs false
namespace Go.Proofs.YtnioohhiphpplaaDoor.Dp
open Go.RowKit Go.Proofs.YtnioohhiphpplaaDoor.Pplays Go.Proofs.YtnioohhiphpplaaDoorW.PrintWords Go.Proofs.YtnioohhiphpplaaDoorW.PrintLast Go.Proofs.YtnioohhiphpplaaDoorW.PrintMore Go.Proofs.YtnioohhiphpplaaDoor.M Go.Proofs.YtnioohhiphpplaaDoor.Wk Go.Lib
namespace Wk
structure OpFit (a b d x : List Int) (vs : List (List Int)) : Prop where
 sA : Small a
 sB : Small b
 sD : Small d
 rX : ∀ i, rng (nth x i)
 sV : ∀ r ∈ vs, Small r
def inBox (IA IB ID IX IT IV : Option Addr) (iA iB iD iX iT iV : Nat) (a b d x : List Int) (t : List S87) (vs : List (List Int)) : Array Value :=
 #[.slice IA (pad a).length iA, .slice IB (pad b).length iB, .slice ID (pad d).length iD, .slice IX (pad x).length iX, .slice IT (padT t).length iT, .slice IV (padV vs).length iV]
def PlRel (w : World) (l l2 n n2 p p2 e e2 : Value) (W : World) : Prop :=
 ∃ (L N : List Int) (pz ez : Int), L.length ≤ 16777216 ∧ N.length ≤ 16777216 ∧ Rd (Kd.int .i64) W l L ∧ Rd (Kd.int .i64) W l2 L ∧ Rd (Kd.int .i8) W n N ∧ Rd (Kd.int .i8) W n2 N ∧ p = .int .i64 pz ∧ p2 = .int .i64 pz ∧ e = .int .i64 ez ∧ e2 = .int .i64 ez ∧ Below w.heap.size w W
theorem Rd_nil {α : Type} (kd : Kd α) (w : World) : Rd kd w (.slice none 0 0) [] := Kd.R_reads (Kd.R_nil kd 0 w 0 (fun _ => True))
set_option maxHeartbeats 8000000 in
set_option maxRecDepth 100000 in
theorem plain_calls {a1 b1 d1 x1 t1 v1 : Value} {A B D X T V : Option Addr} {cA cB cD cX cT cV : Nat} {a b d x : List Int} {t : List S87} {vs : List (List Int)} (kd rw cl n : Int) (w : World) (hI : InC w a1 b1 d1 x1 t1 v1 a b d x t vs) (hO : OpAt w A B D X T V cA cB cD cX cT cV a b d x t vs) (hF : OpFit a b d x vs) :
  Calls Tryd.prog 23 #[.agg (opBox A B D X T V cA cB cD cX cT cV a b d x t vs kd rw cl n), .agg #[a1, b1, d1, x1, t1, v1]] w fun e w' => e = .returned (.bool true) ∧ Below w.heap.size w w' := by
 have hu39 := Tryd.underlying39
 have hu47 := Tryd.underlying47
 have hu35 := Tryd.underlying35
 have HO := Lib.hid hO
 have HF := Lib.hid hF
 obtain ⟨IA, iA, rfl, QA, RA⟩ := hI.hA
 obtain ⟨IB, iB, rfl, QB, RB⟩ := hI.hB
 obtain ⟨ID, iD, rfl, QD, RD⟩ := hI.hD
 obtain ⟨IX, iX, rfl, QX, RX⟩ := hI.hX
 obtain ⟨IT, iT, rfl, QT, RT⟩ := hI.hT
 obtain ⟨IV, iV, rfl, QV, RV⟩ := hI.vec
 have MA : Hid (a.length ≤ iA ∧ Kd.C (Kd.int .i8) w IA a.length a) := Lib.hid ⟨by rw [pad_length] at QA; omega, by have := Kd.C_take RA (m := a.length) (by rw [pad_length]; omega); rwa [show (pad a).take a.length = a from List.take_left] at this⟩
 have MB : Hid (b.length ≤ iB ∧ Kd.C (Kd.int .i8) w IB b.length b) := Lib.hid ⟨by rw [pad_length] at QB; omega, by have := Kd.C_take RB (m := b.length) (by rw [pad_length]; omega); rwa [show (pad b).take b.length = b from List.take_left] at this⟩
 have MD : Hid (d.length ≤ iD ∧ Kd.C (Kd.int .i8) w ID d.length d) := Lib.hid ⟨by rw [pad_length] at QD; omega, by have := Kd.C_take RD (m := d.length) (by rw [pad_length]; omega); rwa [show (pad d).take d.length = d from List.take_left] at this⟩
 have MX : Hid (x.length ≤ iX ∧ Kd.C (Kd.int .i64) w IX x.length x) := Lib.hid ⟨by rw [pad_length] at QX; omega, by have := Kd.C_take RX (m := x.length) (by rw [pad_length]; omega); rwa [show (pad x).take x.length = x from List.take_left] at this⟩
 clear hI hO hF QA QB QD QX QT QV RA RB RD RX RT RV
 unfold opBox
 go_enter Tryd.func23, Tryd.ntmps23
 go_upto_region 1 with (fail)
 obtain ⟨G, hG⟩ : ∃ y, y = w.heap.size := ⟨_, rfl⟩
 obtain ⟨W, hW⟩ : ∃ y, y = ((w.alloc (.cells #[.int .i64 kd, .int .i64 rw, .int .i64 cl, .slice D d.length cD, .slice A a.length cA, .slice B b.length cB, .slice X x.length cX, .slice V vs.length cV, .slice T t.length cT, .int .i64 n] 39)).alloc (.cells #[.slice IA (pad a).length iA, .slice IB (pad b).length iB, .slice ID (pad d).length iD, .slice IX (pad x).length iX, .slice IT (padT t).length iT, .slice IV (padV vs).length iV] 47)) := ⟨_, rfl⟩
 have hb1 : W.heap[G]? = some (.cells (opBox A B D X T V cA cB cD cX cT cV a b d x t vs kd rw cl n) 39 (0, 0)) := by rw [hW, hG]; exact blk_alloc (blk_new _ _) _
 have hb2 : W.heap[G + 1]? = some (.cells (inBox IA IB ID IX IT IV iA iB iD iX iT iV a b d x t vs) 47 (0, 0)) := by rw [hW, hG]; exact blk_new2 w _ _
 have hbl : Below w.heap.size w W := by rw [hW]; exact below_alloc (below_alloc (Below.refl _ _) _) _
 rw [← hW, ← hG]
 clear hW
 have k1 : W.cell? ⟨G, 1, none⟩ = some (.int .i64 rw) := (blk_cell hb1 1).trans rfl
 have k2 : W.cell? ⟨G, 2, none⟩ = some (.int .i64 cl) := (blk_cell hb1 2).trans rfl
 have k3 : W.cell? ⟨G, 3, none⟩ = some (.slice D d.length cD) := (blk_cell hb1 3).trans rfl
 have k4 : W.cell? ⟨G + 1, 2, none⟩ = some (.slice ID (pad d).length iD) := (blk_cell hb2 2).trans rfl
 have HG := Lib.hid hG
 have B1 := Lib.hid hb1
 have B2 := Lib.hid hb2
 have BL := Lib.hid hbl
 have hdc : d.length ≤ iD := MD.out.1
 have hdc2 : (d.length : Int) ≤ (iD : Int) := by omega
 have hd0 : (0 : Int) ≤ (d.length : Int) := by omega
 clear hG hb1 hb2 hbl
 go_region_held3 (fun w' => w'.cell? ⟨G, 1, none⟩ = some (.int .i64 rw) ∧ w'.cell? ⟨G, 2, none⟩ = some (.int .i64 cl) ∧ w'.cell? ⟨G, 3, none⟩ = some (.slice D d.length cD) ∧ w'.cell? ⟨G + 1, 2, none⟩ = some (.slice ID (pad d).length iD)) (first | exact ⟨k1, k2, k3, k4⟩ | exact ⟨(blk_cell (blk_drew (blk_alloc B1.out _)) 1).trans rfl, (blk_cell (blk_drew (blk_alloc B1.out _)) 2).trans rfl, (blk_cell (blk_drew (blk_alloc B1.out _)) 3).trans rfl, (blk_cell (blk_drew (blk_alloc B2.out _)) 2).trans rfl⟩ | fail) (fail)
 clear k1 k2 k3 k4 hdc hdc2 hd0
 obtain ⟨g, hg⟩ : ∃ y, y = W.heap.size := ⟨_, rfl⟩
 obtain ⟨wa, hwa⟩ : ∃ y, y = (W.alloc (.cells #[.int .i64 rw, .int .i64 cl, .slice ID d.length iD] 35)).drew := ⟨_, rfl⟩
 have hab : Below W.heap.size W wa := by rw [hwa]; exact below_drew (below_alloc (Below.refl _ _) _)
 have hc3 : wa.heap[g]? = some (.cells #[.int .i64 rw, .int .i64 cl, .slice ID d.length iD] 35 (0, 0)) := by rw [hwa, hg]; exact blk_new _ _
 rw [← hwa, ← hg]
 have C1 := Lib.hid (blk_below B1.out hab)
 have C2 := Lib.hid (blk_below B2.out hab)
 have C3 := Lib.hid hc3
 have CB := Lib.hid (below_step BL.out hab)
 clear hwa hg hab hc3 B1 B2 BL
 rename_i hheld
 clear hheld
 have k0 : wa.cell? ⟨G, 0, none⟩ = some (.int .i64 kd) := (blk_cell C1.out 0).trans rfl
 have k1 : wa.cell? ⟨G, 1, none⟩ = some (.int .i64 rw) := (blk_cell C1.out 1).trans rfl
 have k2 : wa.cell? ⟨G, 2, none⟩ = some (.int .i64 cl) := (blk_cell C1.out 2).trans rfl
 have k3 : wa.cell? ⟨G, 3, none⟩ = some (.slice D d.length cD) := (blk_cell C1.out 3).trans rfl
 have k4 : wa.cell? ⟨G, 4, none⟩ = some (.slice A a.length cA) := (blk_cell C1.out 4).trans rfl
 have k5 : wa.cell? ⟨G, 5, none⟩ = some (.slice B b.length cB) := (blk_cell C1.out 5).trans rfl
 have k6 : wa.cell? ⟨G, 6, none⟩ = some (.slice X x.length cX) := (blk_cell C1.out 6).trans rfl
 have k9 : wa.cell? ⟨G, 9, none⟩ = some (.int .i64 n) := (blk_cell C1.out 9).trans rfl
 have i0 : wa.cell? ⟨G + 1, 0, none⟩ = some (.slice IA (pad a).length iA) := (blk_cell C2.out 0).trans rfl
 have i1 : wa.cell? ⟨G + 1, 1, none⟩ = some (.slice IB (pad b).length iB) := (blk_cell C2.out 1).trans rfl
 have i3 : wa.cell? ⟨G + 1, 3, none⟩ = some (.slice IX (pad x).length iX) := (blk_cell C2.out 3).trans rfl
 have m0 : wa.cell? ⟨g, 0, none⟩ = some (.int .i64 rw) := (blk_cell C3.out 0).trans rfl
 have m1 : wa.cell? ⟨g, 1, none⟩ = some (.int .i64 cl) := (blk_cell C3.out 1).trans rfl
 have m2 : wa.cell? ⟨g, 2, none⟩ = some (.slice ID d.length iD) := (blk_cell C3.out 2).trans rfl
 have qa : a.length ≤ iA := MA.out.1
 have qb : b.length ≤ iB := MB.out.1
 have qx : x.length ≤ iX := MX.out.1
 have qa2 : (a.length : Int) ≤ (iA : Int) := by omega
 have qb2 : (b.length : Int) ≤ (iB : Int) := by omega
 have qx2 : (x.length : Int) ≤ (iX : Int) := by omega
 have qa0 : (0 : Int) ≤ (a.length : Int) := by omega
 have qb0 : (0 : Int) ≤ (b.length : Int) := by omega
 have qx0 : (0 : Int) ≤ (x.length : Int) := by omega
 go_upto_block 0 with (fail)
 clear qa qb qx qa2 qb2 qx2 qa0 qb0 qx0 k0 i0 i1 i3
 go_cut [9, 10, 11, 12, 13, 14, 15, 16] (fun s9 s10 s11 s12 s13 s14 s15 s16 wx => PlRel w s9 s10 s11 s12 s13 s14 s15 s16 wx)
 case first =>
  by_cases h1 : kd = 1
  ·subst h1
   go_wp2_with fail
   refine Calls.mono (tensor_Check.calls (d.length + 71) rw cl ID iD d _ _ (Kd.C_below MD.out.2 CB.out) MD.out.1 (by have := HO.out.nD; rw [check_is (by omega) (by omega)])) ?_
   rintro e wb ⟨rfl, hb⟩
   have CBb := Lib.hid (below_step CB.out hb)
   have j1 : wb.cell? ⟨G, 1, none⟩ = some (.int .i64 rw) := (blk_cell (blk_below C1.out hb) 1).trans rfl
   have j2 : wb.cell? ⟨G, 2, none⟩ = some (.int .i64 cl) := (blk_cell (blk_below C1.out hb) 2).trans rfl
   have j3 : wb.cell? ⟨G, 3, none⟩ = some (.slice D d.length cD) := (blk_cell (blk_below C1.out hb) 3).trans rfl
   clear k1 k2 k3 k4 k5 k6 k9 m0 m1 m2
   go_wp2_with fail
   refine Calls.mono (augurref03_Check.calls (d.length + 71) rw cl D cD d _ _ (Kd.C_below HO.out.hD CBb.out) HO.out.lD (by have := HO.out.nD; rw [refcheck_is HF.out.sD (by omega) (by omega)])) ?_
   rintro e wc ⟨rfl, hc⟩
   go_wp2
   go_meet
   exact ⟨[], [], 0, _, by simp, by simp, Rd_nil _ _, Rd_nil _ _, Rd_nil _ _, Rd_nil _ _, rfl, rfl, rfl, rfl, below_step CBb.out hc⟩
  by_cases h2 : kd = 2
  ·subst h2
   go_wp2_with fail
   refine Calls.mono (mv_prog (rows := rw) (cols := cl) (Kd.C_below MD.out.2 CB.out) MD.out.1 (Kd.C_below MA.out.2 CB.out) MA.out.1 HF.out.sD HF.out.sA HO.out.nD) ?_
   rintro e wb ⟨v1, rfl, hv1, hb⟩
   have CBb := Lib.hid (below_step CB.out hb)
   have j1 : wb.cell? ⟨G, 1, none⟩ = some (.int .i64 rw) := (blk_cell (blk_below C1.out hb) 1).trans rfl
   have j2 : wb.cell? ⟨G, 2, none⟩ = some (.int .i64 cl) := (blk_cell (blk_below C1.out hb) 2).trans rfl
   have j3 : wb.cell? ⟨G, 3, none⟩ = some (.slice D d.length cD) := (blk_cell (blk_below C1.out hb) 3).trans rfl
   have j4 : wb.cell? ⟨G, 4, none⟩ = some (.slice A a.length cA) := (blk_cell (blk_below C1.out hb) 4).trans rfl
   clear k1 k2 k3 k4 k5 k6 k9 m0 m1 m2
   go_wp2_with fail
   refine Calls.mono (mv_ref (rows := rw) (cols := cl) (Kd.C_below HO.out.hD CBb.out) HO.out.lD (Kd.C_below HO.out.hA CBb.out) HO.out.lA HF.out.sD HF.out.sA HO.out.nD) ?_
   rintro e wc ⟨v2, rfl, hv2, hc⟩
   go_wp2
   go_meet
   exact ⟨_, [], 0, _, mv_length HO.out.nD, by simp, hv1.below hc, hv2, Rd_nil _ _, Rd_nil _ _, rfl, rfl, rfl, rfl, below_step CBb.out hc⟩
  by_cases h3 : kd = 3
  ·subst h3
   go_wp2_with fail
   refine Calls.mono (narrow_prog (s := n) (Kd.C_below MX.out.2 CB.out) MX.out.1 HF.out.rX HO.out.nX) ?_
   rintro e wb ⟨v1, rfl, hv1, hb⟩
   have CBb := Lib.hid (below_step CB.out hb)
   have j6 : wb.cell? ⟨G, 6, none⟩ = some (.slice X x.length cX) := (blk_cell (blk_below C1.out hb) 6).trans rfl
   have j9 : wb.cell? ⟨G, 9, none⟩ = some (.int .i64 n) := (blk_cell (blk_below C1.out hb) 9).trans rfl
   clear k1 k2 k3 k4 k5 k6 k9 m0 m1 m2
   go_wp2_with fail
   refine Calls.mono (narrow_ref (s := n) (Kd.C_below HO.out.hX CBb.out) HO.out.lX HF.out.rX HO.out.nX) ?_
   rintro e wc ⟨v2, rfl, hv2, hc⟩
   go_wp2
   go_meet
   exact ⟨[], _, 0, _, by simp, narrow_length HO.out.nX, Rd_nil _ _, Rd_nil _ _, hv1.below hc, hv2, rfl, rfl, rfl, rfl, below_step CBb.out hc⟩
  by_cases h4 : kd = 4
  ·subst h4
   go_wp2_with fail
   refine Calls.mono (norm_prog (Kd.C_below MX.out.2 CB.out) MX.out.1 (Kd.C_below MA.out.2 CB.out) MA.out.1 HF.out.sA HO.out.nX) ?_
   rintro e wb ⟨v1, rfl, hv1, hb⟩
   have CBb := Lib.hid (below_step CB.out hb)
   have j6 : wb.cell? ⟨G, 6, none⟩ = some (.slice X x.length cX) := (blk_cell (blk_below C1.out hb) 6).trans rfl
   have j4 : wb.cell? ⟨G, 4, none⟩ = some (.slice A a.length cA) := (blk_cell (blk_below C1.out hb) 4).trans rfl
   clear k1 k2 k3 k4 k5 k6 k9 m0 m1 m2
   go_wp2_with fail
   refine Calls.mono (norm_ref (Kd.C_below HO.out.hX CBb.out) HO.out.lX (Kd.C_below HO.out.hA CBb.out) HO.out.lA HF.out.sA HO.out.nX) ?_
   rintro e wc ⟨v2, rfl, hv2, hc⟩
   go_wp2
   go_meet
   exact ⟨[], _, 0, _, by simp, norm_length HO.out.nX, Rd_nil _ _, Rd_nil _ _, hv1.below hc, hv2, rfl, rfl, rfl, rfl, below_step CBb.out hc⟩
  by_cases h5 : kd = 5
  ·subst h5
   go_wp2_with fail
   refine Calls.mono (tensor_Dot.calls (a.length + 1) IA iA a IB iB b _ _ _ (Kd.C_below MA.out.2 CB.out) MA.out.1 (Kd.C_below MB.out.2 CB.out) MB.out.1 (by have := HO.out.nA; rw [dot_is HF.out.sA HF.out.sB (by omega) (by omega)])) ?_
   rintro e wb ⟨rfl, hb0⟩
   have hb := hb0.below
   have CBb := Lib.hid (below_step CB.out hb)
   have j4 : wb.cell? ⟨G, 4, none⟩ = some (.slice A a.length cA) := (blk_cell (blk_below C1.out hb) 4).trans rfl
   have j5 : wb.cell? ⟨G, 5, none⟩ = some (.slice B b.length cB) := (blk_cell (blk_below C1.out hb) 5).trans rfl
   clear k1 k2 k3 k4 k5 k6 k9 m0 m1 m2
   go_wp2_with fail
   refine Calls.mono (augurref03_Dot.calls (a.length + 1) A cA a B cB b _ _ _ (Kd.C_below HO.out.hA CBb.out) HO.out.lA (Kd.C_below HO.out.hB CBb.out) HO.out.lB (by have := HO.out.nA; rw [refdot_is HF.out.sA HF.out.sB (by omega) (by omega)])) ?_
   rintro e wc ⟨rfl, hc0⟩
   have hc := hc0.below
   go_wp2
   go_meet
   exact ⟨[], [], _, _, by simp, by simp, Rd_nil _ _, Rd_nil _ _, Rd_nil _ _, Rd_nil _ _, rfl, rfl, rfl, rfl, below_step CBb.out hc⟩
  go_wp2
  go_meet
  exact ⟨[], [], 0, 0, by simp, by simp, Rd_nil _ _, Rd_nil _ _, Rd_nil _ _, Rd_nil _ _, rfl, rfl, rfl, rfl, CB.out⟩
 case rest =>
  obtain ⟨L, N, pz, ez, hL, hN, hl, hl2, hn, hn2, rfl, rfl, rfl, rfl, hb⟩ := hcut
  obtain ⟨P1, z1, rfl, hz1, hC1⟩ := hl
  obtain ⟨P2, z2, rfl, hz2, hC2⟩ := hl2
  obtain ⟨P3, z3, rfl, hz3, hC3⟩ := hn
  obtain ⟨P4, z4, rfl, hz4, hC4⟩ := hn2
  have HC3 := Lib.hid hC3
  have HC4 := Lib.hid hC4
  have HB := Lib.hid hb
  clear hC3 hC4 hb k1 k2 k3 k4 k5 k6 k9 m0 m1 m2
  go_wp2_with fail
  refine (augurref00_EqWide.calls (L.length + 1) _ _ _ _ _ _ true wc hC1 hz1 hC2 hz2 (eqWide_is (by omega) (Nat.lt_succ_self _))).mono ?_
  rintro e wd ⟨rfl, hd⟩
  clear hC1 hC2
  go_wp2_with fail
  refine (augurref00_EqNarrow.calls (N.length + 1) _ _ _ _ _ _ true wd (Kd.C_below HC3.out hd.below) hz3 (Kd.C_below HC4.out hd.below) hz4 (eqNarrow_is (by omega) (Nat.lt_succ_self _))).mono ?_
  rintro e we ⟨rfl, hf⟩
  have HB2 := Lib.hid (below_then HB.out HB.out.size (below_step hd.below hf.below))
  clear hd hf hL hN hz1 hz2 hz3 hz4
  go_wp2
  go_ret
  exact ⟨rfl, HB2.out⟩
end Wk
end Go.Proofs.YtnioohhiphpplaaDoor.Dp
