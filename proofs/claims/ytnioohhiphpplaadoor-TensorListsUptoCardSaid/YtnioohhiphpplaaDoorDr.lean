/- Rotate plainly, and the walk of the document's Rotate. -/
import Derived.Test.YtnioohhiphpplaaDoorQe
set_option linter.unusedVariables false
set_option linter.unusedSimpArgs false
namespace Go.Proofs.YtnioohhiphpplaaDoor.Dp
open Go.RowKit Go.Proofs.YtnioohhiphpplaaDoor.Pplays Go.Proofs.YtnioohhiphpplaaDoorW.PrintWords Go.Proofs.YtnioohhiphpplaaDoorW.PrintLast Go.Proofs.YtnioohhiphpplaaDoorW.PrintMore Go.Proofs.YtnioohhiphpplaaDoor.M
def rX (v : List Int) (ts : List S87) (i : Nat) : Int := clampF (Wk.tuX (nth v (2 * i)) (nth v (2 * i + 1)) (rd_T87 ts (i : Int)).f0 (rd_T87 ts (i : Int)).f1) 127
def rY (v : List Int) (ts : List S87) (i : Nat) : Int := clampF (Wk.tuY (nth v (2 * i)) (nth v (2 * i + 1)) (rd_T87 ts (i : Int)).f0 (rd_T87 ts (i : Int)).f1) 127
def rotW (v : List Int) (ts : List S87) (j : Nat) : Int := if j % 2 = 0 then rX v ts (j / 2) else rY v ts (j / 2)
def rotV (v : List Int) (ts : List S87) : List Int × Int := if v.length % 2 = 0 ∧ v.length / 2 = ts.length then (tb (rotW v ts) v.length, 0) else ([], 30)
theorem rotW_even (v : List Int) (ts : List S87) (i : Nat) : rotW v ts (2 * i) = rX v ts i := by
 unfold rotW
 rw [if_pos (by omega), show 2 * i / 2 = i by omega]
theorem rotW_odd (v : List Int) (ts : List S87) (i : Nat) : rotW v ts (2 * i + 1) = rY v ts i := by
 unfold rotW
 rw [if_neg (by omega), show (2 * i + 1) / 2 = i by omega]
theorem two_i {i : Nat} (h : i ≤ 140737488355328) : wrap64 (2 * (i : Int)) = ((2 * i : Nat) : Int) := by rw [w64' (by omega) (by omega)]; omega
theorem turn_is (a b c s : Int) : tensor_turn.f a b c s = some (Wk.tuX a b c s, Wk.tuY a b c s) := by
 unfold tensor_turn.f
 rw [shift_is (wrap_rng _), Option.bind_some, shift_is (wrap_rng _), Option.bind_some]
 rfl
theorem rotate_l0 {v : List Int} {ts : List S87} (hv : Small v) (hl : v.length = 2 * ts.length) (hn : v.length ≤ 140737488355328) : ∀ (d k i : Nat), i + d = ts.length → d < k →
  tensor_Rotate.l0 k v (tb (rotW v ts) (2 * i) ++ List.replicate (v.length - 2 * i) 0) ts (ts.length : Int) (i : Int) = some (tb (rotW v ts) v.length, 0) := by
 intro d
 induction d with
 | zero =>
  intro k i hi hk
  obtain ⟨k, rfl⟩ : ∃ m, k = m + 1 := ⟨k - 1, by omega⟩
  simp only [tensor_Rotate.l0]
  rw [if_neg (by omega), show 2 * i = v.length by omega, Nat.sub_self, List.replicate_zero, List.append_nil]
 | succ d ih =>
  intro k i hi hk
  obtain ⟨k, rfl⟩ : ∃ m, k = m + 1 := ⟨k - 1, by omega⟩
  have ih' := ih k (i + 1) (by omega) (by omega)
  have hf := tb_fill (rotW v ts) v.length (2 * i) (by omega)
  have s1 := tb_set (f := rotW v ts) (n := v.length) (r := 2 * i) (by omega)
  have s2 := tb_set (f := rotW v ts) (n := v.length) (r := 2 * i + 1) (by omega)
  rw [rotW_even] at s1
  rw [rotW_odd] at s2
  simp only [tensor_Rotate.l0]
  rw [two_i (by omega), up1 (by omega)]
  rw [if_pos (by omega), if_pos (by omega), if_pos (by omega), if_pos (by omega), if_pos (by omega), if_pos (by omega), if_pos (by omega), rd_at, rd_at, small_w hv, small_w hv, turn_is, Option.bind_some]
  rw [clamp8_is, Option.bind_some, clamp8_is, Option.bind_some, Wk.c127_w, Wk.c127_w, if_pos (by rw [hf]; omega), if_pos (by rw [hf]; omega), Int.toNat_natCast, Int.toNat_natCast, up1 (by omega)]
  have s3 : ((tb (rotW v ts) (2 * i) ++ List.replicate (v.length - 2 * i) 0).set (2 * i) (rX v ts i)).set (2 * i + 1) (rY v ts i) = tb (rotW v ts) (2 * (i + 1)) ++ List.replicate (v.length - 2 * (i + 1)) 0 := by
   rw [s1, s2]
   rfl
  rw [← s3] at ih'
  exact ih'
theorem rotate_is {v : List Int} {ts : List S87} (hv : Small v) (hn : v.length ≤ 140737488355328) (hm : ts.length ≤ 140737488355328) {k : Nat} (hk : ts.length + 2 < k) : tensor_Rotate.f k v ts = some (rotV v ts) := by
 obtain ⟨k, rfl⟩ : ∃ m, k = m + 1 := ⟨k - 1, by omega⟩
 have ht : tensor_Rotate.j0 (k + 1) v ts true = some ([], 30) := by simp only [tensor_Rotate.j0]; rw [if_pos trivial]
 unfold tensor_Rotate.f rotV
 by_cases c0 : v.length % 2 = 0
 case neg => rw [if_neg (by omega), ht, if_neg (fun h => c0 h.1)]
 rw [if_pos (by omega)]
 by_cases c1 : v.length / 2 = ts.length
 case neg =>
  rw [show (wrap64 ((v.length : Int) / 2) != (ts.length : Int)) = true from bne_iff_ne.2 (by rw [w64' (by omega) (by omega)]; omega), ht, if_neg (fun h => c1 h.2)]
 rw [show (wrap64 ((v.length : Int) / 2) != (ts.length : Int)) = false from bne_eq_false_iff_eq.2 (by rw [w64' (by omega) (by omega)]; omega), if_pos ⟨c0, c1⟩]
 have h := rotate_l0 (ts := ts) hv (by omega) hn ts.length k 0 (by omega) (by omega)
 simp only [tensor_Rotate.j0]
 rw [if_neg (by decide), if_pos (by omega), if_pos (by omega), Int.toNat_natCast]
 exact h
end Go.Proofs.YtnioohhiphpplaaDoor.Dp
namespace Go.Proofs.YtnioohhiphpplaaDoor.Wk
open Go.RowKit Go.Proofs.YtnioohhiphpplaaDoor.Pplays Go.Proofs.YtnioohhiphpplaaDoorW.PrintWords Go.Proofs.YtnioohhiphpplaaDoorW.PrintLast Go.Proofs.YtnioohhiphpplaaDoorW.PrintMore Go.Proofs.YtnioohhiphpplaaDoor.M Go.Proofs.YtnioohhiphpplaaDoor.Dp
theorem tuX_calls (a b c s : Int) (w : World) : Calls Tryd.prog 70 #[.int .i64 (wrap64 (wrap64 (a * c) - wrap64 (b * s))), .int .i64 14] w fun e w' => e = .returned (.int .i64 (tuX a b c s)) ∧ ∃ d, w' = w.drewN d :=
 (refshift_calls (wrap_rng _) 14 w).mono fun _ _ h => ⟨h.1, h.2.out⟩
theorem tuY_calls (a b c s : Int) (w : World) : Calls Tryd.prog 70 #[.int .i64 (wrap64 (wrap64 (a * s) + wrap64 (b * c))), .int .i64 14] w fun e w' => e = .returned (.int .i64 (tuY a b c s)) ∧ ∃ d, w' = w.drewN d :=
 (refshift_calls (wrap_rng _) 14 w).mono fun _ _ h => ⟨h.1, h.2.out⟩
def RtRel (w : World) (v : List Int) (ts : List S87) (l y : Value) (wr : World) : Prop :=
 ∃ i : Nat, y = .int .i64 i ∧ i ≤ ts.length ∧ Kd.R (Kd.int .i8) 57 wr w.heap.size (fun _ => True) l (tb (rotW v ts) (2 * i)) ∧ Below w.heap.size w wr
set_option maxHeartbeats 4000000 in
set_option maxRecDepth 100000 in
theorem refrotate_calls {A0 A1 : Option Addr} {n m c0 c1 : Nat} {v : List Int} {ts : List S87} (w : World) (hn : v.length = n) (hm : ts.length = m) (hr0 : Kd.C (Kd.int .i8) w A0 v.length v) (hc0 : n ≤ c0) (hr1 : Kd.C k87 w A1 ts.length ts) (hc1 : m ≤ c1)
  (hnl : n ≤ 17592186044416) (hml : m ≤ 17592186044416) (hs : Small v) :
  Calls Tryd.prog 62 #[.slice A0 n c0, .slice A1 m c1] w fun e w' => ∃ v0, e = .returned (.tuple #[v0, .int .i64 (rotV v ts).2]) ∧ Kd.R (Kd.int .i8) 57 w' w.heap.size (fun _ => True) v0 (rotV v ts).1 ∧ Below w.heap.size w w' := by
 have HN := Lib.hid hn
 have HM := Lib.hid hm
 have HR0 := Lib.hid hr0
 have HR1 := Lib.hid hr1
 have HS := Lib.hid hs
 clear hr0 hr1 hn hm hs
 by_cases hbad : v.length % 2 = 0 ∧ v.length / 2 = ts.length
 case neg =>
  have hV : rotV v ts = ([], 30) := by unfold rotV; rw [if_neg hbad]
  rw [hV]
  by_cases h2 : (n : Int) % 2 = 0
  ·have e1 : ((n : Int) % 2 != 0) = false := bne_eq_false_iff_eq.2 h2
   have e2 : ((n : Int) / 2 != (m : Int)) = true := bne_iff_ne.2 (by rw [HN.out, HM.out] at hbad; omega)
   clear hbad h2 hV
   go_enter Tryd.func62, Tryd.ntmps62
   go_wp2
   go_ret2
   exact ⟨_, rfl, Kd.R_nil _ _ _ _ _, Below.refl _ _⟩
  ·have e1 : ((n : Int) % 2 != 0) = true := bne_iff_ne.2 h2
   clear hbad h2 hV
   go_enter Tryd.func62, Tryd.ntmps62
   go_wp2
   go_ret2
   exact ⟨_, rfl, Kd.R_nil _ _ _ _ _, Below.refl _ _⟩
 have hV : rotV v ts = (tb (rotW v ts) (2 * m), 0) := by
  unfold rotV
  rw [if_pos hbad, show v.length = 2 * m by have := HN.out; have := HM.out; omega]
 rw [hV]
 have HNM : Hid (n = 2 * m) := Lib.hid (by have := HN.out; have := HM.out; omega)
 have e1 : ((n : Int) % 2 != 0) = false := bne_eq_false_iff_eq.2 (by have := HNM.out; omega)
 have e2 : ((n : Int) / 2 != (m : Int)) = false := bne_eq_false_iff_eq.2 (by have := HNM.out; omega)
 clear hbad hV
 go_enter Tryd.func62, Tryd.ntmps62
 go_wp2
 clear e1 e2
 go_loopw [6, 7] (fun l y wr => RtRel w v ts l y wr) (fun _ y _ => m - (intOf y).toNat)
 case atStart => exact ⟨0, rfl, by omega, Kd.R_nil _ _ _ _ _, Below.refl _ _⟩
 case round =>
  obtain ⟨i, rfl, hi, hR, hB⟩ := hrel
  have HR := Lib.hid hR
  have HB := Lib.hid hB
  clear hR hB
  rename World => wa
  rw [HM.out] at hi
  by_cases hlt : i < m
  ·have hlt' : decide ((i : Int) < (m : Int)) = true := decide_eq_true (by omega)
   have hnm := HNM.out
   have q1 : 2 * (i : Int) < (n : Int) := by omega
   have q3 : 2 * (i : Int) + 1 < (n : Int) := by omega
   have q5 : (i : Int) < (m : Int) := by omega
   obtain ⟨adW, eW, cW1⟩ := Kd.at_int (Kd.C_below HR0.out HB.out) ((2 * i : Nat) : Int) (by omega) (by rw [HN.out]; omega)
   obtain ⟨adW', eW', cW2⟩ := Kd.at_int (Kd.C_below HR0.out HB.out) ((2 * i + 1 : Nat) : Int) (by omega) (by rw [HN.out]; omega)
   subst eW
   injection eW' with eW'
   subst eW'
   rw [Int.toNat_natCast, rd_at] at cW1 cW2
   obtain ⟨adT, eT, cT0, cT1⟩ := at_T87 (Kd.C_below HR1.out HB.out) (i : Int) (by omega) (by rw [HM.out]; omega)
   subst eT
   obtain ⟨x, hx⟩ : ∃ x, nth v (2 * i) = x := ⟨_, rfl⟩
   obtain ⟨y, hy⟩ : ∃ y, nth v (2 * i + 1) = y := ⟨_, rfl⟩
   obtain ⟨C, hC⟩ : ∃ C, (rd_T87 ts (i : Int)).f0 = C := ⟨_, rfl⟩
   obtain ⟨S, hS⟩ : ∃ S, (rd_T87 ts (i : Int)).f1 = S := ⟨_, rfl⟩
   have hwx : wrap64 x = x := by rw [← hx]; exact small_w HS.out _
   have hwy : wrap64 y = y := by rw [← hy]; exact small_w HS.out _
   have HX : Hid (rotW v ts (2 * i) = clampF (tuX (wrap64 x) (wrap64 y) C S) 127) := Lib.hid (by rw [rotW_even]; unfold rX; rw [hx, hy, hC, hS, hwx, hwy])
   have HY : Hid (rotW v ts (2 * i + 1) = clampF (tuY (wrap64 x) (wrap64 y) C S) 127) := Lib.hid (by rw [rotW_odd]; unfold rY; rw [hx, hy, hC, hS, hwx, hwy])
   rw [hx] at cW1
   rw [hy] at cW2
   rw [Int.toNat_natCast] at cT0 cT1
   rw [hC] at cT0
   rw [hS] at cT1
   have cW3 : wa.cell? { block := adW.block, off := adW.off + (2 * i + 1) } = some (.int .i8 y) := cW2
   have HI := Lib.hid hlt
   clear hx hy hC hS hnm hi hlt
   go_wp2_with fail
   obtain ⟨X, hX⟩ : ∃ X, wrap64 x = X := ⟨_, rfl⟩
   obtain ⟨Y, hY⟩ : ∃ Y, wrap64 y = Y := ⟨_, rfl⟩
   rw [hX, hY] at HX HY
   rw [hX, hY]
   clear hX hY hwx hwy cW1 cW2 cW3
   go_quiet ((go_at_call 70; exact Calls.quiet_of (tuX_calls X Y C S _)))
   obtain ⟨tx, htx⟩ : ∃ tx, tuX X Y C S = tx := ⟨_, rfl⟩
   rw [htx] at HX ⊢
   obtain ⟨wb, hwb⟩ : ∃ wb, wa.drewN nq = wb := ⟨_, rfl⟩
   rw [hwb]
   have HB1 : Hid (Below w.heap.size w wb) := Lib.hid (by rw [← hwb]; exact pw_below_drewN HB.out _)
   have HR' : Hid (Kd.R (Kd.int .i8) 57 wb w.heap.size (fun _ => True) u6 (tb (rotW v ts) (2 * i))) := Lib.hid (by rw [← hwb]; exact Kd.R_drewN HR.out _)
   have dT0 : wb.cell? (adT.add (i * 2)) = some (.int .i64 C) := by rw [← hwb]; exact cT0
   have dT1 : wb.cell? ⟨(adT.add (i * 2)).block, (adT.add (i * 2)).off + 1, none⟩ = some (.int .i64 S) := by rw [← hwb]; exact cT1
   clear htx hwb cT0 cT1 HR HB
   go_wp2_with fail
   go_quiet ((go_at_call 70; exact Calls.quiet_of (tuY_calls X Y C S _)))
   rename Nat => nq2
   obtain ⟨ty, hty⟩ : ∃ ty, tuY X Y C S = ty := ⟨_, rfl⟩
   rw [hty] at HY ⊢
   obtain ⟨wc, hwc⟩ : ∃ wc, wb.drewN nq2 = wc := ⟨_, rfl⟩
   rw [hwc]
   have HB2 : Hid (Below w.heap.size w wc) := Lib.hid (by rw [← hwc]; exact pw_below_drewN HB1.out _)
   have HR2 : Hid (Kd.R (Kd.int .i8) 57 wc w.heap.size (fun _ => True) u6 (tb (rotW v ts) (2 * i))) := Lib.hid (by rw [← hwc]; exact Kd.R_drewN HR'.out _)
   clear hty hwc dT0 dT1 HR' HB1
   go_wp2_with fail
   refine (refclamp8_calls _ _).mono ?_
   rintro e wd ⟨rfl, hd⟩
   obtain ⟨gx, hgx⟩ : ∃ gx, clampF tx 127 = gx := ⟨_, rfl⟩
   rw [hgx] at HX ⊢
   have HB3 := Lib.hid (HB2.out.trans (hd.below.mono HB2.out.size))
   obtain ⟨n3, rfl⟩ := hd.out
   have HR3 := Lib.hid (Kd.R_drewN HR2.out n3)
   obtain ⟨wd, hwd⟩ : ∃ wd, wc.drewN n3 = wd := ⟨_, rfl⟩
   rw [hwd] at HB3 HR3 ⊢
   clear hgx hwd HR2 HB2 hd
   go_wp2_with fail
   refine (refclamp8_calls _ _).mono ?_
   rintro e we ⟨rfl, hd⟩
   obtain ⟨gy, hgy⟩ : ∃ gy, clampF ty 127 = gy := ⟨_, rfl⟩
   rw [hgy] at HY ⊢
   have HB4 := Lib.hid (HB3.out.trans (hd.below.mono HB3.out.size))
   obtain ⟨n4, rfl⟩ := hd.out
   have HR4 := Lib.hid (Kd.R_drewN HR3.out n4)
   obtain ⟨we, hwe⟩ : ∃ we, wd.drewN n4 = we := ⟨_, rfl⟩
   rw [hwe] at HB4 HR4 ⊢
   clear hgy hwe HR3 HB3 hd
   go_wp2_with (first
    | ((with_reducible refine gate_dst (N := 80) rfl ?_); (try (refine gate_guard (by rfl) ?_; dsimp only)); refine Kd.R_lit (Kd.int .i8) _ 57 ?hg (N := 80) ?hd (xs := ([gx, gy] : List Int)) (inner := [.int .i8 gx, .int .i8 gy]) (ok := fun _ => True) (okp := fun _ => True) ?hr ?hp (fun _ hk => hk) trivial (Below.refl _ _) (Nat.le_refl _) (by simp) ?_; (case hd => rfl); (case hg => rfl); (case hr => first | (go_simp; done) | (go_simp; rfl)); (case hp => exact (Reps.one (show Kd.M (Kd.int .i8) _ _ _ gx [.int .i8 gx] from rfl) (Reps.one (show Kd.M (Kd.int .i8) _ _ _ gy [.int .i8 gy] from rfl) (Reps.none _ _)))); intro vl wf hl hb hg_ hnew_; clear hg_ hnew_; have n0_ := Lib.hid (Kd.R_elder' HR4.out (Kd.R_base hl) hb); have n1_ := Lib.hid (Kd.R_lower (Kd.R_new' hl (Kd.R_lt HR4.out)) (below_size HB4.out)); have n2_ := Lib.hid (below_step HB4.out hb); clear HR4 HB4; have HR4 := n0_; have HL := n1_; have HB4 := n2_; clear n0_ n1_ n2_; clear hb hl; obtain ⟨Ao, co, eo⟩ := Kd.R_slice HL.out; subst eo)
    | ((with_reducible refine gate_builtin (b := .append) (xs := #[.tmp 75, .tmp 80]) rfl ?_); (try (refine gate_guard (by rfl) ?_; dsimp only)); at_builtin; refine Kd.R_append_rows (Kd.int .i8) (w0 := w) w.heap.size rfl (.tmp 75) (.tmp 80) 33 57 (.int .i8 0) 1 rfl Tryd.underlying33 info57 rfl (by decide) (by omega) u6 (tb (rotW v ts) (2 * i)) ([gx, gy] : List Int) _ _ _ (fun k_ => some k_ ≠ (.slice Ao ([gx, gy] : List Int).length co : Value).ownBlock) (fun _ => False) rfl rfl ?aO ?aR (fun _ _ h => h) (fun _ h => h.elim) ?aF ?aB ?aS ?aL ?_; (case aR => exact (Kd.R_reads' HL.out).2.2); (case aB => exact HB4.out); (case aF => exact (fun k_ hk => Kd.fresh' (Kd.R_lt HL.out) k_ hk)); (case aO => exact Kd.R_mono HR4.out (fun _ hk => hk.2)); (case aS => exact below_size HB4.out); (case aL => have h1 := tb_length (rotW v ts) (2 * i); have h2 : ([gx, gy] : List Int).length = 2 := rfl; omega); intro va wg ho hb hg hat; have HRA := Lib.hid ho; have HBA := Lib.hid hb; clear ho hb hg hat))
   have HRN : Hid (Kd.R (Kd.int .i8) 57 wg w.heap.size (fun _ => True) va (tb (rotW v ts) (2 * (i + 1)))) := Lib.hid (by
    have h1 : tb (rotW v ts) (2 * (i + 1)) = tb (rotW v ts) (2 * i) ++ [gx, gy] := by
     rw [show 2 * (i + 1) = 2 * i + 1 + 1 by omega, tb_succ, tb_succ, HX.out, HY.out, List.append_assoc]; rfl
    rw [h1]
    exact Kd.R_mono HRA.out (fun _ _ => trivial))
   clear HRA HX HY HL HR4
   have hi' := HI.out
   go_wp2
   go_roundw
   case rel => exact ⟨i + 1, rfl, by rw [HM.out]; omega, HRN.out, HBA.out⟩
   case measure => simp [intOf]; omega
  ·have hlt' : decide ((i : Int) < (m : Int)) = false := decide_eq_false (by omega)
   obtain rfl : m = i := by omega
   clear hlt hi
   go_wp2
   go_ret2
   exact ⟨_, rfl, HR.out, HB.out⟩
end Go.Proofs.YtnioohhiphpplaaDoor.Wk
