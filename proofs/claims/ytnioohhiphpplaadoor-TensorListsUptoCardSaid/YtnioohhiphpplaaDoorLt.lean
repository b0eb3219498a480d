/- The walk of TensorLists. -/
import Derived.Test.YtnioohhiphpplaaDoorLs
import Derived.Test.YtnioohhiphpplaaDoorSq
set_option linter.unusedVariables false
set_option linter.unusedSimpArgs false
namespace Go.Proofs.YtnioohhiphpplaaDoor.Dp
open Go.RowKit Go.Proofs.YtnioohhiphpplaaDoor.Pplays Go.Proofs.YtnioohhiphpplaaDoorW.PrintWords Go.Proofs.YtnioohhiphpplaaDoorW.PrintLast Go.Proofs.YtnioohhiphpplaaDoorW.PrintMore Go.Proofs.YtnioohhiphpplaaDoor.M Go.Proofs.YtnioohhiphpplaaDoor.Wk Go.Lib
namespace Wk
theorem InR.frC {w w1 : World} {base : Nat} {S : Nat → Prop} {a1 b1 d1 x1 t1 v1 : Value} {a b d x : List Int} {t : List S87} {vs : List (List Int)} (h : InR w base a1 b1 d1 x1 t1 v1 a b d x t vs) (hf : Fr w w1 S) (hS : ∀ k, S k → k < base) : InC w1 a1 b1 d1 x1 t1 v1 a b d x t vs := by
 have key : ∀ {α : Type} {kd : Kd α} {e : Nat} {v : Value} {xs : List α}, Kd.R kd e w base (fun _ => True) v xs → Kd.R kd e w1 base (fun _ => True) v xs := fun hr =>
  Kd.R_mono (Kd.R_kept (Kd.R_bound hr) hf.kept (fun k hk hs => by have h1 := hS k hs; have h2 := hk.2.1; omega)) (fun _ _ => trivial)
 exact ⟨Kd.R_reads (key h.hA), Kd.R_reads (key h.hB), Kd.R_reads (key h.hD), Kd.R_reads (key h.hX), Kd.R_reads (key h.hT), Kd.S_V (Kd.S_mono (Kd.S_kept (Kd.S_bound h.hV) hf.kept (fun k hk hs => by have h1 := hS k hs; have h2 := hk.2.1; omega)) (fun _ _ => trivial))⟩
theorem Fr.blk {w w1 : World} {S : Nat → Prop} {g : Nat} {o : Obj} (hf : Fr w w1 S) (h : w.heap[g]? = some o) (hg : ¬ S g) : w1.heap[g]? = some o := by
 rw [hf.kept.2 g (blk_lt h) hg]
 exact h
theorem InC.cut {w : World} {IA IB ID IX IT : Option Addr} {nA nB nD nX nT iA iB iD iX iT : Nat} {v1 : Value} {a b d x : List Int} {t : List S87} {vs : List (List Int)} (h : InC w (.slice IA nA iA) (.slice IB nB iB) (.slice ID nD iD) (.slice IX nX iX) (.slice IT nT iT) v1 a b d x t vs) :
  (a.length ≤ iA ∧ Kd.C (Kd.int .i8) w IA a.length a) ∧ (d.length ≤ iD ∧ Kd.C (Kd.int .i8) w ID d.length d) ∧ (x.length ≤ iX ∧ Kd.C (Kd.int .i64) w IX x.length x) ∧ (t.length ≤ iT ∧ Kd.C k87 w IT t.length t) := by
 have key : ∀ {k : IntKind} {I : Option Addr} {n i : Nat} {l : List Int}, Rd (Kd.int k) w (.slice I n i) (pad l) → l.length ≤ i ∧ Kd.C (Kd.int k) w I l.length l := fun {k I n i l} hr => by
  obtain ⟨p, c, e, h1, h2⟩ := hr
  obtain ⟨rfl, -, rfl⟩ := Value.slice.inj e
  have h3 := pad_length l
  refine ⟨by omega, ?_⟩
  have h4 := Kd.C_take h2 (m := l.length) (by omega)
  rwa [show (pad l).take l.length = l from List.take_left] at h4
 refine ⟨key h.hA, key h.hD, key h.hX, ?_⟩
 obtain ⟨p, c, e, h1, h2⟩ := h.hT
 obtain ⟨rfl, -, rfl⟩ := Value.slice.inj e
 have h3 := padT_length t
 refine ⟨by omega, ?_⟩
 have h4 := Kd.C_take h2 (m := t.length) (by omega)
 rwa [show (padT t).take t.length = t from List.take_left] at h4
theorem OpFit.noB {a b d x : List Int} {vs : List (List Int)} (h : OpFit a b d x vs) : OpFit a [] d x vs := { h with sB := fun y hy => absurd hy List.not_mem_nil }
theorem cut_op {w w0 wd : World} {IA ID IX IT W0 A B D X T V : Option Addr} {iA iD iX iT jV cA cB cD cX cT cV : Nat} {a b d x : List Int} {t : List S87} {vs : List (List Int)} (h : (a.length ≤ iA ∧ Kd.C (Kd.int .i8) w IA a.length a) ∧ (d.length ≤ iD ∧ Kd.C (Kd.int .i8) w ID d.length d) ∧ (x.length ≤ iX ∧ Kd.C (Kd.int .i64) w IX x.length x) ∧ (t.length ≤ iT ∧ Kd.C k87 w IT t.length t))
  (hO : OpAt w0 A B D X T V cA cB cD cX cT cV a b d x t vs) (h0 : Below w.heap.size w w0) (hb : Below w0.heap.size w0 wd) (hcV : Kd.C (Kd.slice 57 (Kd.int .i8)) wd W0 vs.length vs) (hlV : vs.length ≤ jV) : OpAt wd IA none ID IX IT W0 iA 0 iD iX iT jV a [] d x t vs :=
 have hb1 := below_step h0 hb
 ⟨Kd.C_below h.1.2 hb1, (Kd.R_reads' (Kd.R_nil (Kd.int .i8) 57 wd 0 (fun _ => True))).2.2, Kd.C_below h.2.1.2 hb1, Kd.C_below h.2.2.1.2 hb1, Kd.C_below h.2.2.2.2 hb1, hcV, h.1.1, Nat.le_refl _, h.2.1.1, h.2.2.1.1, h.2.2.2.1, hlV, hO.nA, Nat.zero_le _, hO.nD, hO.nX, hO.nT, hO.nV, hO.nr⟩
set_option maxHeartbeats 8000000 in
set_option maxRecDepth 100000 in
theorem lists_calls {w : World} {A : Option Addr} {c : Nat} {ps : List COp} (ht : Terms w) (hO : OpsC w A ps) (hc : ps.length ≤ c) :
  Calls Tryd.prog 5 #[.slice A ps.length c] w fun e w' => e = .returned (.bool true) ∧ Below w.heap.size w w' := by
 have hu39 := Tryd.underlying39
 have hu47 := Tryd.underlying47
 have hu35 := Tryd.underlying35
 have hu45 := Tryd.underlying45
 obtain ⟨N, hN⟩ : ∃ N, ps.length = N := ⟨_, rfl⟩
 have HN := Lib.hid hN
 rw [hN] at hc ⊢
 have HO := Lib.hid hO
 have HT := Lib.hid ht
 have HCC := Lib.hid hc
 clear hN hO hc ht
 go_enter Tryd.func5, Tryd.ntmps5
 by_cases hl : (2147483647 : Int) < (N : Int)
 ·have d0 : decide ((2147483647 : Int) < (N : Int)) = true := decide_eq_true hl
  clear hl
  go_wp2_with fail
  refine (long_calls _ _).mono ?_
  rintro e w1 ⟨rfl, rfl⟩
  go_wp2
  go_ret
  exact ⟨rfl, Below.refl _ _⟩
 ·have d0 : decide ((2147483647 : Int) < (N : Int)) = false := decide_eq_false hl
  have hl2 : (N : Int) ≤ 2147483647 := by omega
  have HNL : Hid (N ≤ 2147483647) := Lib.hid (by omega)
  clear hl
  go_wp2_with fail
  refine (long_calls _ _).mono ?_
  rintro e w1 ⟨rfl, rfl⟩
  go_wp2_with fail
  refine (fixed_calls _).mono ?_
  rintro e w2 ⟨rfl, hb⟩
  have HB2 := Lib.hid hb
  clear hb d0
  go_upto_region 5 with (fail)
  obtain ⟨GB, hGB⟩ : ∃ y, y = w2.heap.size := ⟨_, rfl⟩
  obtain ⟨W, hW⟩ : ∃ y, y = w2.alloc (.cells #[.slice none 0 0, .slice none 0 0, .slice none 0 0, .slice none 0 0, .slice none 0 0, .slice none 0 0, .int .i64 0] 45) := ⟨_, rfl⟩
  have hb1 : W.heap[GB]? = some (.cells (bkc (.slice none 0 0) (.slice none 0 0) (.slice none 0 0) (.slice none 0 0) (.slice none 0 0) (.slice none 0 0) 0) 45 (0, 0)) := by rw [hW, hGB]; exact blk_new _ _
  have hbl : Below w1.heap.size w1 W := by rw [hW]; exact below_alloc HB2.out _
  rw [← hW, ← hGB]
  have prn : ∀ {α : Type} (kd : Kd α) (eo ei : Nat), Pr kd eo ei W (.slice none 0 0) (.slice none 0 0) [] [] [] [] := fun kd eo ei => ⟨Col.nil _ _ _ _, Col.nil _ _ _ _, fun k hk => by cases hk⟩
  have HBK : Hid (Bk W GB w2.heap.size W.heap.size (128 * 0)) := Lib.hid ⟨_, _, _, _, _, _, 0, [], [], [], [], [], [], [], [], [], hb1, prn _ _ _, prn _ _ _, prn _ _ _, by omega, by omega, Nat.le_refl _, Nat.le_refl _, Nat.le_refl _, fun y hy => absurd hy List.not_mem_nil, fun y hy => absurd hy List.not_mem_nil, fun y hy => absurd hy List.not_mem_nil, fun k hk => by
   rcases hk with rfl | hk | hk | hk | hk | hk | hk
   ·exact ⟨by rw [hGB]; exact Nat.le_refl _, blk_lt hb1⟩
   all_goals cases hk⟩
  have HBL := Lib.hid hbl
  have HW2 : Hid (w1.heap.size ≤ w2.heap.size) := Lib.hid HB2.out.size
  have HBW : Hid (w2.heap.size ≤ W.heap.size) := Lib.hid (by rw [hW]; show w2.heap.size ≤ (w2.heap.push _).size; rw [Array.size_push]; omega)
  obtain ⟨bs, hbs⟩ : ∃ y, y = w2.heap.size := ⟨_, rfl⟩
  rw [← hbs] at HBK HW2 HBW
  clear hW hb1 hbl prn hbs HB2 hGB
  go_wp2
  go_loopw [3, 5] (fun x y wr => ∃ (i top : Nat), x = .bool true ∧ y = .int .i64 i ∧ i ≤ N ∧ Bk wr GB bs top (128 * i) ∧ top ≤ wr.heap.size ∧ bs ≤ wr.heap.size ∧ Below w1.heap.size w1 wr) (fun _ y _ => N - (intOf y).toNat)
  case atStart => exact ⟨0, _, rfl, rfl, Nat.zero_le _, HBK.out, Nat.le_refl _, HBW.out, HBL.out⟩
  case round =>
   obtain ⟨i, top, rfl, rfl, hi, hBk, htop, hbs, hB⟩ := hrel
   rename World => wa
   clear HBK HBL HBW
   have HB := Lib.hid hB
   have HBK := Lib.hid hBk
   have HTOP := Lib.hid htop
   have HBS := Lib.hid hbs
   clear hB hBk htop hbs
   by_cases hlt : i < N
   ·have d1 : decide ((i : Int) < (N : Int)) = true := decide_eq_true (by omega)
    obtain ⟨p, hp⟩ : ∃ p, ps[i]? = some p := ⟨_, List.getElem?_eq_getElem (by rw [HN.out]; exact hlt)⟩
    obtain ⟨ad, e1, A0, B, D, X, T, V, cA, cB, cD, cX, cT, cV, j0, j1, j2, j3, j4, j5, j6, j7, j8, j9, hO, hF⟩ := HO.out.2 i p hp
    subst e1
    have k0 : wa.cell? (ad.add (i * 10)) = _ := pw_cell_below HB.out j0
    have k1 : wa.cell? ⟨(ad.add (i * 10)).block, (ad.add (i * 10)).off + 1, none⟩ = some (.int .i64 p.rw) := pw_cell_below HB.out j1
    have k2 : wa.cell? ⟨(ad.add (i * 10)).block, (ad.add (i * 10)).off + 2, none⟩ = some (.int .i64 p.cl) := pw_cell_below HB.out j2
    have k3 : wa.cell? ⟨(ad.add (i * 10)).block, (ad.add (i * 10)).off + 3, none⟩ = some (.slice D p.d.length cD) := pw_cell_below HB.out j3
    have k4 : wa.cell? ⟨(ad.add (i * 10)).block, (ad.add (i * 10)).off + 4, none⟩ = some (.slice A0 p.a.length cA) := pw_cell_below HB.out j4
    have k5 : wa.cell? ⟨(ad.add (i * 10)).block, (ad.add (i * 10)).off + 5, none⟩ = some (.slice B p.b.length cB) := pw_cell_below HB.out j5
    have k6 : wa.cell? ⟨(ad.add (i * 10)).block, (ad.add (i * 10)).off + 6, none⟩ = some (.slice X p.x.length cX) := pw_cell_below HB.out j6
    have k7 : wa.cell? ⟨(ad.add (i * 10)).block, (ad.add (i * 10)).off + 7, none⟩ = some (.slice V p.vs.length cV) := pw_cell_below HB.out j7
    have k8 : wa.cell? ⟨(ad.add (i * 10)).block, (ad.add (i * 10)).off + 8, none⟩ = some (.slice T p.t.length cT) := pw_cell_below HB.out j8
    have k9 : wa.cell? ⟨(ad.add (i * 10)).block, (ad.add (i * 10)).off + 9, none⟩ = some (.int .i64 p.n) := pw_cell_below HB.out j9
    have him : (i : Int) < (N : Int) := by omega
    have hi0 : (0 : Int) ≤ (i : Int) := by omega
    have HO1 := Lib.hid hO
    have HF := Lib.hid hF
    have HX := Lib.hid hlt
    have d2 : decide (i < N) = true := decide_eq_true hlt
    clear j0 j1 j2 j3 j4 j5 j6 j7 j8 j9 hO hF hlt hi hp
    go_upto_region 9 with (fail)
    obtain ⟨G, hG⟩ : ∃ y, y = wa.heap.size := ⟨_, rfl⟩
    obtain ⟨bx, hbx⟩ : ∃ y, y = opBox A0 B D X T V cA cB cD cX cT cV p.a p.b p.d p.x p.t p.vs p.kd p.rw p.cl p.n := ⟨_, rfl⟩
    obtain ⟨W1, hW1⟩ : ∃ y, y = wa.alloc (.cells #[.int .i64 p.kd, .int .i64 p.rw, .int .i64 p.cl, .slice D p.d.length cD, .slice A0 p.a.length cA, .slice B p.b.length cB, .slice X p.x.length cX, .slice V p.vs.length cV, .slice T p.t.length cT, .int .i64 p.n] 39) := ⟨_, rfl⟩
    have hb1 : W1.heap[G]? = some (.cells bx 39 (0, 0)) := by rw [hW1, hG, hbx]; exact blk_new _ _
    have hbl : Below wa.heap.size wa W1 := by rw [hW1]; exact below_alloc (Below.refl _ _) _
    rw [← hW1, ← hG]
    have HBX := Lib.hid hbx
    have BX := Lib.hid hb1
    have BL := Lib.hid hbl
    have HGA : Hid (wa.heap.size ≤ G) := Lib.hid (by rw [hG]; exact Nat.le_refl _)
    clear hW1 hb1 hbl hbx hG k0 k1 k2 k3 k4 k5 k6 k7 k8 k9
    have k0 : W1.cell? ⟨G, 0, none⟩ = some (.int .i64 p.kd) := (blk_cell BX.out 0).trans (by rw [HBX.out]; rfl)
    have k1 : W1.cell? ⟨G, 1, none⟩ = some (.int .i64 p.rw) := (blk_cell BX.out 1).trans (by rw [HBX.out]; rfl)
    have k2 : W1.cell? ⟨G, 2, none⟩ = some (.int .i64 p.cl) := (blk_cell BX.out 2).trans (by rw [HBX.out]; rfl)
    have k3 : W1.cell? ⟨G, 3, none⟩ = some (.slice D p.d.length cD) := (blk_cell BX.out 3).trans (by rw [HBX.out]; rfl)
    have k4 : W1.cell? ⟨G, 4, none⟩ = some (.slice A0 p.a.length cA) := (blk_cell BX.out 4).trans (by rw [HBX.out]; rfl)
    have k5 : W1.cell? ⟨G, 5, none⟩ = some (.slice B p.b.length cB) := (blk_cell BX.out 5).trans (by rw [HBX.out]; rfl)
    have k6 : W1.cell? ⟨G, 6, none⟩ = some (.slice X p.x.length cX) := (blk_cell BX.out 6).trans (by rw [HBX.out]; rfl)
    have k7 : W1.cell? ⟨G, 7, none⟩ = some (.slice V p.vs.length cV) := (blk_cell BX.out 7).trans (by rw [HBX.out]; rfl)
    have k8 : W1.cell? ⟨G, 8, none⟩ = some (.slice T p.t.length cT) := (blk_cell BX.out 8).trans (by rw [HBX.out]; rfl)
    have k9 : W1.cell? ⟨G, 9, none⟩ = some (.int .i64 p.n) := (blk_cell BX.out 9).trans (by rw [HBX.out]; rfl)
    go_wp2_with fail
    refine (in_calls p.kd p.rw p.cl p.n W1 ((HO1.out.below HB.out).below BL.out)).mono ?_
    rintro e wb ⟨a2, b2, d2, x2, t2, v2, rfl, hR, hB⟩
    have hI2 := hR.read
    obtain ⟨IA, iA, rfl, -, -⟩ := hI2.hA
    obtain ⟨IB, iB, rfl, -, -⟩ := hI2.hB
    obtain ⟨ID, iD, rfl, -, -⟩ := hI2.hD
    obtain ⟨IX, iX, rfl, -, -⟩ := hI2.hX
    obtain ⟨IT, iT, rfl, -, -⟩ := hI2.hT
    obtain ⟨IV, iV, rfl, -, -⟩ := hI2.vec
    have HR := Lib.hid hR
    have HBI_ := Lib.hid hB
    clear hR hI2 hB k0 k1 k2 k3 k4 k5 k6 k7 k8 k9
    go_upto_region 10 with (fail)
    obtain ⟨g, hg⟩ : ∃ y, y = wb.heap.size := ⟨_, rfl⟩
    obtain ⟨bi, hbi⟩ : ∃ y : Array Value, y = #[.slice IA (pad p.a).length iA, .slice IB (pad p.b).length iB, .slice ID (pad p.d).length iD, .slice IX (pad p.x).length iX, .slice IT (padT p.t).length iT, .slice IV (padV p.vs).length iV] := ⟨_, rfl⟩
    obtain ⟨wc, hwc⟩ : ∃ y, y = wb.alloc (.cells #[.slice IA (pad p.a).length iA, .slice IB (pad p.b).length iB, .slice ID (pad p.d).length iD, .slice IX (pad p.x).length iX, .slice IT (padT p.t).length iT, .slice IV (padV p.vs).length iV] 47) := ⟨_, rfl⟩
    have hb2 : wc.heap[g]? = some (.cells bi 47 (0, 0)) := by rw [hwc, hg, hbi]; exact blk_new _ _
    have cb2 : Below wb.heap.size wb wc := by rw [hwc]; exact below_alloc (Below.refl _ _) _
    rw [← hwc, ← hg]
    have HBI := Lib.hid hbi
    have HW1s : Hid (wa.heap.size ≤ W1.heap.size) := Lib.hid BL.out.size
    have HGg : Hid (wa.heap.size ≤ g) := Lib.hid (by rw [hg]; exact Nat.le_trans BL.out.size HBI_.out.size)
    have HA : Hid (SlAt wa G g bx bi wc) := Lib.hid ⟨blk_below (blk_below BX.out HBI_.out) cb2, hb2, below_step (below_step BL.out HBI_.out) cb2⟩
    have HRc := Lib.hid (HR.out.below cb2)
    clear hg hwc hb2 cb2 HBI_ HR BX hbi BL
    have HIC := Lib.hid (InR.read HRc.out)
    have HCU := Lib.hid HIC.out.cut
    have k0 : wc.drew.cell? ⟨G, 0, none⟩ = some (.int .i64 p.kd) := (blk_cell (blk_drew HA.out.box) 0).trans (by rw [HBX.out]; rfl)
    have k1 : wc.drew.cell? ⟨G, 1, none⟩ = some (.int .i64 p.rw) := (blk_cell (blk_drew HA.out.box) 1).trans (by rw [HBX.out]; rfl)
    have k2 : wc.drew.cell? ⟨G, 2, none⟩ = some (.int .i64 p.cl) := (blk_cell (blk_drew HA.out.box) 2).trans (by rw [HBX.out]; rfl)
    have k3 : wc.drew.cell? ⟨G, 3, none⟩ = some (.slice D p.d.length cD) := (blk_cell (blk_drew HA.out.box) 3).trans (by rw [HBX.out]; rfl)
    have k4 : wc.drew.cell? ⟨G, 4, none⟩ = some (.slice A0 p.a.length cA) := (blk_cell (blk_drew HA.out.box) 4).trans (by rw [HBX.out]; rfl)
    have k5 : wc.drew.cell? ⟨G, 5, none⟩ = some (.slice B p.b.length cB) := (blk_cell (blk_drew HA.out.box) 5).trans (by rw [HBX.out]; rfl)
    have k6 : wc.drew.cell? ⟨G, 6, none⟩ = some (.slice X p.x.length cX) := (blk_cell (blk_drew HA.out.box) 6).trans (by rw [HBX.out]; rfl)
    have k7 : wc.drew.cell? ⟨G, 7, none⟩ = some (.slice V p.vs.length cV) := (blk_cell (blk_drew HA.out.box) 7).trans (by rw [HBX.out]; rfl)
    have k8 : wc.drew.cell? ⟨G, 8, none⟩ = some (.slice T p.t.length cT) := (blk_cell (blk_drew HA.out.box) 8).trans (by rw [HBX.out]; rfl)
    have k9 : wc.drew.cell? ⟨G, 9, none⟩ = some (.int .i64 p.n) := (blk_cell (blk_drew HA.out.box) 9).trans (by rw [HBX.out]; rfl)
    have i0 : wc.drew.cell? ⟨g, 0, none⟩ = some (.slice IA (pad p.a).length iA) := (blk_cell (blk_drew HA.out.inb) 0).trans (by rw [HBI.out]; rfl)
    have i1 : wc.drew.cell? ⟨g, 1, none⟩ = some (.slice IB (pad p.b).length iB) := (blk_cell (blk_drew HA.out.inb) 1).trans (by rw [HBI.out]; rfl)
    have i2 : wc.drew.cell? ⟨g, 2, none⟩ = some (.slice ID (pad p.d).length iD) := (blk_cell (blk_drew HA.out.inb) 2).trans (by rw [HBI.out]; rfl)
    have i3 : wc.drew.cell? ⟨g, 3, none⟩ = some (.slice IX (pad p.x).length iX) := (blk_cell (blk_drew HA.out.inb) 3).trans (by rw [HBI.out]; rfl)
    have i4 : wc.drew.cell? ⟨g, 4, none⟩ = some (.slice IT (padT p.t).length iT) := (blk_cell (blk_drew HA.out.inb) 4).trans (by rw [HBI.out]; rfl)
    have i5 : wc.drew.cell? ⟨g, 5, none⟩ = some (.slice IV (padV p.vs).length iV) := (blk_cell (blk_drew HA.out.inb) 5).trans (by rw [HBI.out]; rfl)
    have hcu := HIC.out.cut
    have qa : p.a.length ≤ iA := hcu.1.1
    have qd : p.d.length ≤ iD := hcu.2.1.1
    have qx : p.x.length ≤ iX := hcu.2.2.1.1
    have qt : p.t.length ≤ iT := hcu.2.2.2.1
    have qa2 : (p.a.length : Int) ≤ (iA : Int) := by omega
    have qd2 : (p.d.length : Int) ≤ (iD : Int) := by omega
    have qx2 : (p.x.length : Int) ≤ (iX : Int) := by omega
    have qt2 : (p.t.length : Int) ≤ (iT : Int) := by omega
    have qa0 : (0 : Int) ≤ (p.a.length : Int) := by omega
    have qd0 : (0 : Int) ≤ (p.d.length : Int) := by omega
    have qx0 : (0 : Int) ≤ (p.x.length : Int) := by omega
    have qt0 : (0 : Int) ≤ (p.t.length : Int) := by omega
    have HAD := Lib.hid (HA.out.step (below_drew (Below.refl _ _)))
    have HRD := Lib.hid (HRc.out.below (below_drew (Below.refl _ _)))
    have HOD := Lib.hid ((HO1.out.below HB.out).below HAD.out.bel)
    have HVC := Lib.hid (vec_calls p.kd p.rw p.cl p.n wc.drew (InR.read HRD.out) HOD.out)
    clear hcu
    go_upto_region 10 with (fail)
    refine start_ (n := 42) (S := fun w' => w'.cell? ⟨G, 0, none⟩ = some (.int .i64 p.kd) ∧ w'.cell? ⟨G, 1, none⟩ = some (.int .i64 p.rw) ∧ w'.cell? ⟨G, 2, none⟩ = some (.int .i64 p.cl) ∧ w'.cell? ⟨G, 3, none⟩ = some (.slice D p.d.length cD) ∧ w'.cell? ⟨G, 4, none⟩ = some (.slice A0 p.a.length cA) ∧ w'.cell? ⟨G, 5, none⟩ = some (.slice B p.b.length cB) ∧ w'.cell? ⟨G, 6, none⟩ = some (.slice X p.x.length cX) ∧ w'.cell? ⟨G, 7, none⟩ = some (.slice V p.vs.length cV) ∧ w'.cell? ⟨G, 8, none⟩ = some (.slice T p.t.length cT) ∧ w'.cell? ⟨G, 9, none⟩ = some (.int .i64 p.n) ∧ w'.cell? ⟨g, 0, none⟩ = some (.slice IA (pad p.a).length iA) ∧ w'.cell? ⟨g, 1, none⟩ = some (.slice IB (pad p.b).length iB) ∧ w'.cell? ⟨g, 2, none⟩ = some (.slice ID (pad p.d).length iD) ∧ w'.cell? ⟨g, 3, none⟩ = some (.slice IX (pad p.x).length iX) ∧ w'.cell? ⟨g, 4, none⟩ = some (.slice IT (padT p.t).length iT) ∧ w'.cell? ⟨g, 5, none⟩ = some (.slice IV (padV p.vs).length iV)) (ds := [41]) #[false, false, false, false, false, false, false, false, false, false, false, false, false, false, false, false, false, false, false, false, false, false, false, false, false, false, false, false, false, false, false, false, false, false, false, false, false, false, false, false, false, false] (by kernel_rfl) rfl rfl ⟨k0, k1, k2, k3, k4, k5, k6, k7, k8, k9, i0, i1, i2, i3, i4, i5⟩ (fun hHeld => ?_)
    refine pu_ 0 32 ?_
    refine pu_ 1 33 ?_
    refine pu_ 3 35 ?_
    refine pu_ 4 36 ?_
    refine pu_ 6 38 ?_
    refine pu_ 7 39 ?_
    refine pu_ 9 41 ?_
    refine pu_ 11 43 ?_
    refine pu_ 12 44 ?_
    refine pu_ 17 49 ?_
    refine pu_ 19 51 ?_
    refine pu_ 23 55 ?_
    refine pu_ 25 57 ?_
    refine pu_ 32 64 ?_
    refine pu_ 34 66 ?_
    refine pu_ 38 70 ?_
    refine tk_ 2 34 hHeld ?_
    refine tk_ 5 37 hHeld ?_
    refine tk_ 8 40 hHeld ?_
    refine tk_ 10 42 hHeld ?_
    refine tk_ 13 45 hHeld ?_
    refine pu_ 14 46 ?_
    refine pu_ 15 47 ?_
    refine pu_ 16 48 ?_
    refine tk_ 18 50 hHeld ?_
    refine tk_ 20 52 hHeld ?_
    refine pu_ 21 53 ?_
    refine pu_ 22 54 ?_
    refine tk_ 24 56 hHeld ?_
    refine tk_ 26 58 hHeld ?_
    refine pu_ 27 59 ?_
    refine pu_ 28 60 ?_
    refine tk_ 29 61 hHeld ?_
    refine tk_ 30 62 hHeld ?_
    refine tk_ 33 65 hHeld ?_
    refine tk_ 35 67 hHeld ?_
    refine pu_ 36 68 ?_
    refine pu_ 37 69 ?_
    refine tk_ 39 71 hHeld ?_
    refine on_ 31 (some 63) (fun K hK => ?_)
    refine gs_ Tryd.func14 #[.agg #[.slice IA (pad p.a).length iA, .slice IB (pad p.b).length iB, .slice ID (pad p.d).length iD, .slice IX (pad p.x).length iX, .slice IT (padT p.t).length iT, .slice IV (padV p.vs).length iV], .agg #[.int .i64 p.kd, .int .i64 p.rw, .int .i64 p.cl, .slice D p.d.length cD, .slice A0 p.a.length cA, .slice B p.b.length cB, .slice X p.x.length cX, .slice V p.vs.length cV, .slice T p.t.length cT, .int .i64 p.n]] ?_
    with_reducible refine (HVC.out).mono ?_
    rintro e wd ⟨v0, rfl, hv0, hbd⟩
    refine ⟨_, rfl, ?_⟩
    obtain ⟨W0, jV, eV, hlV, hcV⟩ := hv0
    subst eV
    have HCV := Lib.hid hcV
    have HLV := Lib.hid hlV
    have HBD := Lib.hid hbd
    have k0x := pw_cell_below hbd k0
    have k1x := pw_cell_below hbd k1
    have k2x := pw_cell_below hbd k2
    have k3x := pw_cell_below hbd k3
    have k4x := pw_cell_below hbd k4
    have k5x := pw_cell_below hbd k5
    have k6x := pw_cell_below hbd k6
    have k7x := pw_cell_below hbd k7
    have k8x := pw_cell_below hbd k8
    have k9x := pw_cell_below hbd k9
    have i0x := pw_cell_below hbd i0
    have i1x := pw_cell_below hbd i1
    have i2x := pw_cell_below hbd i2
    have i3x := pw_cell_below hbd i3
    have i4x := pw_cell_below hbd i4
    have i5x := pw_cell_below hbd i5
    have HAN := Lib.hid (answers_calls p.kd p.rw p.cl p.n wd (HBK.out.below (below_step HAD.out.bel HBD.out)) ((HT.out.below HB.out).below (below_step HAD.out.bel HBD.out)) (cut_op HCU.out HOD.out (below_drew (Below.refl _ _)) HBD.out HCV.out HLV.out) (OpFit.noB HF.out) (by have h1 := HX.out; have h2 := HNL.out; omega) (Nat.le_trans HBS.out (below_step HAD.out.bel HBD.out).size))
    clear hcV hlV hbd
    refine hK.out _ _ ⟨k0x, k1x, k2x, k3x, k4x, k5x, k6x, k7x, k8x, k9x, i0x, i1x, i2x, i3x, i4x, i5x⟩ (fun hHeld => ?_)
    clear hK K
    refine nm_ 63 ?_
    refine pu_ 40 72 ?_
    refine ls_ 41 (some 73) (fun K hK => ?_)
    refine gs_ Tryd.func13 #[.pointer (some ⟨GB, 0, none⟩), .agg (opBox IA none ID IX IT W0 iA 0 iD iX iT jV p.a [] p.d p.x p.t p.vs p.kd p.rw p.cl p.n)] ?_
    with_reducible refine (HAN.out).mono ?_
    rintro e we ⟨rfl, hbk, hfr⟩
    refine ⟨_, rfl, ?_⟩
    refine hK.out _ _ ?_
    clear hK K
    refine nm_ 73 ?_
    refine dn_ ?_
    have hBd := below_step HAD.out.bel HBD.out
    have hBs : Below w1.heap.size w1 we := (below_step HB.out hBd).trans (hfr.to_below (below_step HB.out hBd).size (fun k hk => Nat.le_trans HW2.out hk.1))
    have hgo : we.heap[G]? = some (.cells bx 39 (0, 0)) := hfr.blk (blk_below HAD.out.box HBD.out) (fun hk => by have h1 := hk.2; have h2 := HGA.out; have h3 := HTOP.out; omega)
    have hgi : we.heap[g]? = some (.cells bi 47 (0, 0)) := hfr.blk (blk_below HAD.out.inb HBD.out) (fun hk => by have h1 := hk.2; have h2 := HGg.out; have h3 := HTOP.out; omega)
    have hIC := (HRD.out.below HBD.out).frC hfr (fun k hk => by have h1 := hk.2; have h2 := HW1s.out; have h3 := HTOP.out; omega)
    have hbs : bs ≤ we.heap.size := Nat.le_trans HBS.out (Nat.le_trans hBd.size hfr.size)
    have HBW := Lib.hid hBs
    have HGO := Lib.hid hgo
    have HGI := Lib.hid hgi
    have HICe := Lib.hid hIC
    have HBKe := Lib.hid hbk
    have HBSe := Lib.hid hbs
    clear k0 k1 k2 k3 k4 k5 k6 k7 k8 k9 i0 i1 i2 i3 i4 i5 k0x k1x k2x k3x k4x k5x k6x k7x k8x k9x i0x i1x i2x i3x i4x i5x hBd hBs hgo hgi hIC hbs hbk hfr qa qd qx qt qa2 qd2 qx2 qt2 qa0 qd0 qx0 qt0 HAN HCV HLV HBD HVC HOD HRD HAD HCU HIC HRc HA
    have k0 : we.cell? ⟨G, 0, none⟩ = some (.int .i64 p.kd) := (blk_cell HGO.out 0).trans (by rw [HBX.out]; rfl)
    have k1 : we.cell? ⟨G, 1, none⟩ = some (.int .i64 p.rw) := (blk_cell HGO.out 1).trans (by rw [HBX.out]; rfl)
    have k2 : we.cell? ⟨G, 2, none⟩ = some (.int .i64 p.cl) := (blk_cell HGO.out 2).trans (by rw [HBX.out]; rfl)
    have k3 : we.cell? ⟨G, 3, none⟩ = some (.slice D p.d.length cD) := (blk_cell HGO.out 3).trans (by rw [HBX.out]; rfl)
    have k4 : we.cell? ⟨G, 4, none⟩ = some (.slice A0 p.a.length cA) := (blk_cell HGO.out 4).trans (by rw [HBX.out]; rfl)
    have k5 : we.cell? ⟨G, 5, none⟩ = some (.slice B p.b.length cB) := (blk_cell HGO.out 5).trans (by rw [HBX.out]; rfl)
    have k6 : we.cell? ⟨G, 6, none⟩ = some (.slice X p.x.length cX) := (blk_cell HGO.out 6).trans (by rw [HBX.out]; rfl)
    have k7 : we.cell? ⟨G, 7, none⟩ = some (.slice V p.vs.length cV) := (blk_cell HGO.out 7).trans (by rw [HBX.out]; rfl)
    have k8 : we.cell? ⟨G, 8, none⟩ = some (.slice T p.t.length cT) := (blk_cell HGO.out 8).trans (by rw [HBX.out]; rfl)
    have k9 : we.cell? ⟨G, 9, none⟩ = some (.int .i64 p.n) := (blk_cell HGO.out 9).trans (by rw [HBX.out]; rfl)
    have i0 : we.cell? ⟨g, 0, none⟩ = some (.slice IA (pad p.a).length iA) := (blk_cell HGI.out 0).trans (by rw [HBI.out]; rfl)
    have i1 : we.cell? ⟨g, 1, none⟩ = some (.slice IB (pad p.b).length iB) := (blk_cell HGI.out 1).trans (by rw [HBI.out]; rfl)
    have i2 : we.cell? ⟨g, 2, none⟩ = some (.slice ID (pad p.d).length iD) := (blk_cell HGI.out 2).trans (by rw [HBI.out]; rfl)
    have i3 : we.cell? ⟨g, 3, none⟩ = some (.slice IX (pad p.x).length iX) := (blk_cell HGI.out 3).trans (by rw [HBI.out]; rfl)
    have i4 : we.cell? ⟨g, 4, none⟩ = some (.slice IT (padT p.t).length iT) := (blk_cell HGI.out 4).trans (by rw [HBI.out]; rfl)
    have i5 : we.cell? ⟨g, 5, none⟩ = some (.slice IV (padV p.vs).length iV) := (blk_cell HGI.out 5).trans (by rw [HBI.out]; rfl)
    go_upto_region 11 with (fail)
    go_wp2_with fail
    refine (kept_calls p.kd p.rw p.cl p.n we HICe.out (HO1.out.below HBW.out)).mono ?_
    rintro e wf ⟨rfl, hd⟩
    have HG2 := Lib.hid (blk_below HGO.out hd)
    have HBW2 := Lib.hid (below_step HBW.out hd)
    have HBK2 := Lib.hid (HBKe.out.below hd)
    have HSZ2 := Lib.hid hd.size
    clear hd k0 k1 k2 k3 k4 k5 k6 k7 k8 k9 i0 i1 i2 i3 i4 i5
    have k0 : wf.cell? ⟨G, 0, none⟩ = some (.int .i64 p.kd) := (blk_cell HG2.out 0).trans (by rw [HBX.out]; rfl)
    have k1 : wf.cell? ⟨G, 1, none⟩ = some (.int .i64 p.rw) := (blk_cell HG2.out 1).trans (by rw [HBX.out]; rfl)
    have k2 : wf.cell? ⟨G, 2, none⟩ = some (.int .i64 p.cl) := (blk_cell HG2.out 2).trans (by rw [HBX.out]; rfl)
    have k3 : wf.cell? ⟨G, 3, none⟩ = some (.slice D p.d.length cD) := (blk_cell HG2.out 3).trans (by rw [HBX.out]; rfl)
    have k4 : wf.cell? ⟨G, 4, none⟩ = some (.slice A0 p.a.length cA) := (blk_cell HG2.out 4).trans (by rw [HBX.out]; rfl)
    have k5 : wf.cell? ⟨G, 5, none⟩ = some (.slice B p.b.length cB) := (blk_cell HG2.out 5).trans (by rw [HBX.out]; rfl)
    have k6 : wf.cell? ⟨G, 6, none⟩ = some (.slice X p.x.length cX) := (blk_cell HG2.out 6).trans (by rw [HBX.out]; rfl)
    have k7 : wf.cell? ⟨G, 7, none⟩ = some (.slice V p.vs.length cV) := (blk_cell HG2.out 7).trans (by rw [HBX.out]; rfl)
    have k8 : wf.cell? ⟨G, 8, none⟩ = some (.slice T p.t.length cT) := (blk_cell HG2.out 8).trans (by rw [HBX.out]; rfl)
    have k9 : wf.cell? ⟨G, 9, none⟩ = some (.int .i64 p.n) := (blk_cell HG2.out 9).trans (by rw [HBX.out]; rfl)
    go_upto_region 12 with (fail)
    go_wp2_with fail
    refine (plays_calls p.kd p.rw p.cl p.n wf (HT.out.below HBW2.out) (HO1.out.below HBW2.out) HF.out).mono ?_
    rintro e wg ⟨rfl, hd⟩
    have HG3 := Lib.hid (blk_below HG2.out hd)
    have HBW3 := Lib.hid (below_step HBW2.out hd)
    have HBK3 := Lib.hid (HBK2.out.below hd)
    have HSZ3 := Lib.hid (Nat.le_trans HSZ2.out hd.size)
    clear hd k0 k1 k2 k3 k4 k5 k6 k7 k8 k9
    have k0 : wg.cell? ⟨G, 0, none⟩ = some (.int .i64 p.kd) := (blk_cell HG3.out 0).trans (by rw [HBX.out]; rfl)
    have k1 : wg.cell? ⟨G, 1, none⟩ = some (.int .i64 p.rw) := (blk_cell HG3.out 1).trans (by rw [HBX.out]; rfl)
    have k2 : wg.cell? ⟨G, 2, none⟩ = some (.int .i64 p.cl) := (blk_cell HG3.out 2).trans (by rw [HBX.out]; rfl)
    have k3 : wg.cell? ⟨G, 3, none⟩ = some (.slice D p.d.length cD) := (blk_cell HG3.out 3).trans (by rw [HBX.out]; rfl)
    have k4 : wg.cell? ⟨G, 4, none⟩ = some (.slice A0 p.a.length cA) := (blk_cell HG3.out 4).trans (by rw [HBX.out]; rfl)
    have k5 : wg.cell? ⟨G, 5, none⟩ = some (.slice B p.b.length cB) := (blk_cell HG3.out 5).trans (by rw [HBX.out]; rfl)
    have k6 : wg.cell? ⟨G, 6, none⟩ = some (.slice X p.x.length cX) := (blk_cell HG3.out 6).trans (by rw [HBX.out]; rfl)
    have k7 : wg.cell? ⟨G, 7, none⟩ = some (.slice V p.vs.length cV) := (blk_cell HG3.out 7).trans (by rw [HBX.out]; rfl)
    have k8 : wg.cell? ⟨G, 8, none⟩ = some (.slice T p.t.length cT) := (blk_cell HG3.out 8).trans (by rw [HBX.out]; rfl)
    have k9 : wg.cell? ⟨G, 9, none⟩ = some (.int .i64 p.n) := (blk_cell HG3.out 9).trans (by rw [HBX.out]; rfl)
    go_upto_region 13 with (fail)
    go_wp2_with fail
    refine (stale_calls p.kd p.rw p.cl p.n wg (HT.out.below HBW3.out) (HO1.out.below HBW3.out) HF.out).mono ?_
    rintro e wh ⟨rfl, hd⟩
    have HBW4 := Lib.hid (below_step HBW3.out hd)
    have HBK4 := Lib.hid (HBK3.out.below hd)
    have HSZ4 := Lib.hid (Nat.le_trans HSZ3.out hd.size)
    clear hd k0 k1 k2 k3 k4 k5 k6 k7 k8 k9
    go_upto_region 14 with (fail)
    go_wp2_with fail
    refine (whole_calls wh HBK4.out (by have h1 := HX.out; have h2 := HNL.out; omega)).mono ?_
    rintro e wi ⟨rfl, hd⟩
    have HBW5 := Lib.hid (below_step HBW4.out hd)
    have HBK5 : Hid (Bk wi GB bs we.heap.size (128 * (i + 1))) := Lib.hid (HBK4.out.below hd)
    have HSZ5 := Lib.hid (Nat.le_trans HSZ4.out hd.size)
    clear hd
    go_wp2
    try rw [up1 (by have := HX.out; have := HNL.out; omega)]
    go_roundw
    case rel => exact ⟨i + 1, we.heap.size, rfl, by first | rfl | (rw [Int.natCast_add]; rfl), HX.out, HBK5.out, HSZ5.out, Nat.le_trans HBSe.out HSZ5.out, HBW5.out⟩
    case measure => have := HX.out; simp [intOf]; omega
   ·have d1 : decide ((i : Int) < (N : Int)) = false := decide_eq_false (by omega)
    have d2 : decide (i < N) = false := decide_eq_false hlt
    clear hlt hi
    go_upto_region 15 with (fail)
    go_wp2_with fail
    refine (calls_of_args (by rw [← HN.out]) (strewn_calls (HT.out.below HB.out) (HO.out.below HB.out) (by rw [HN.out]; exact HCC.out) (by rw [HN.out]; exact HNL.out))).mono ?_
    rintro e wj ⟨rfl, hd⟩
    have HBZ := Lib.hid (below_step HB.out hd)
    clear hd
    go_wp2
    go_ret
    exact ⟨rfl, HBZ.out⟩
end Wk
end Go.Proofs.YtnioohhiphpplaaDoor.Dp
