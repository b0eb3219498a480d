/- The walks of fix.Clamp, fix.Clamp8, fix.Div, that leave the world as it is; tensor.Norm, of every two lists of at most 2^44 numbers. -/
import Derived.Test.YtnioohhiphpplaaDoorDm
import Derived.Deep.DeepCutAuto
import Derived.Deep.CutBlock
import Derived.Deep.QuietTactic
import Derived.BigQuiet
import Derived.WideLaws
import Derived.IntWalk
import Derived.StillTailTactics
set_option linter.unusedVariables false
set_option linter.unusedSimpArgs false
namespace Go.Proofs.YtnioohhiphpplaaDoor.Wk
open Go.RowKit Go.Proofs.YtnioohhiphpplaaDoor.Pplays Go.Proofs.YtnioohhiphpplaaDoorW.PrintWords Go.Proofs.YtnioohhiphpplaaDoorW.PrintLast Go.Proofs.YtnioohhiphpplaaDoorW.PrintMore Go.Proofs.YtnioohhiphpplaaDoor.M Go.Proofs.YtnioohhiphpplaaDoor.Dp
attribute [local go_sem] max2_int min2_int max_two min_two
theorem i8w {x : Int} (h0 : -128 ≤ x) (h1 : x ≤ 127) : IntKind.i8.wrap x = x := by
 simp [IntKind.wrap, IntKind.bits, IntKind.signed]; omega
theorem c127_in (a : Int) : -127 ≤ clampF a 127 ∧ clampF a 127 ≤ 127 := by
 have := clampF_in (a := a) (m := 127) (by unfold rng; omega)
 unfold mx at this; omega
theorem c127_w (a : Int) : IntKind.i8.wrap (clampF a 127) = clampF a 127 := by
 have := c127_in a
 exact i8w (by omega) (by omega)
theorem clamp_still {a m : Int} (hm : rng m) (w : World) :
  Calls Tryd.prog 49 #[.int .i64 a, .int .i64 m] w fun e w' => e = .returned (.int .i64 (clampF a m)) ∧ w' = w := by
 have hj := mx_rng hm
 have hv : clampF a m = if -(mx m 0) < mn a (mx m 0) then mn a (mx m 0) else -(mx m 0) := rfl
 obtain ⟨j, ej⟩ : ∃ j, mx m 0 = j := ⟨_, rfl⟩
 rw [ej] at hv hj
 obtain ⟨q, eq⟩ : ∃ q, mn a j = q := ⟨_, rfl⟩
 rw [eq] at hv
 have ej_ : (if m < 0 then 0 else m) = j := ej
 have eq_ : (if j < a then j else a) = q := eq
 have j0 := hj.1
 have j1 := hj.2
 have HV := Lib.hid hv
 clear hv ej eq hj hm
 go_enter Tryd.func49, Tryd.ntmps49
 go_wp2
 ·go_ret
  exact ⟨ret_int (by rw [HV.out, if_pos (by assumption)]), rfl⟩
 ·go_ret
  exact ⟨ret_int (by rw [HV.out, if_neg (by omega)]), rfl⟩
theorem clamp8_still {a : Int} (w : World) :
  Calls Tryd.prog 63 #[.int .i64 a] w fun e w' => e = .returned (.int .i8 (clampF a 127)) ∧ w' = w := by
 go_enter Tryd.func63, Tryd.ntmps63
 go_wp2_with fail
 refine (clamp_still (a := a) (m := 127) (by unfold rng; omega) w).mono ?_
 rintro e w1 ⟨rfl, rfl⟩
 have h := c127_in a
 have hw : IntKind.i8.wrap (clampF a 127) = clampF a 127 := i8w (by omega) (by omega)
 go_wp2
 go_ret
 exact ⟨rfl, rfl⟩
theorem div_still {a b : Int} (ha : rng a) (w : World) :
  Calls Tryd.prog 66 #[.int .i64 a, .int .i64 b] w fun e w' => e = .returned (.int .i64 (divF a b)) ∧ w' = w := by
 by_cases c : b ≤ 0
 ·have e : divF a b = 0 := by unfold divF; rw [if_pos c]
  rw [e]
  clear e
  go_enter Tryd.func66, Tryd.ntmps66
  go_wp2
  go_ret
  exact ⟨rfl, rfl⟩
 ·have hb : 0 < b := by omega
  have t := tdiv_rng ha hb
  have d := (div_rng ha hb).1
  have e : divF a b = a / b := by unfold divF; rw [if_neg c]
  have hb0 : (b == 0) = false := beq_eq_false_iff_ne.2 (by omega)
  by_cases hm : Int.tmod a b < 0
  ·have hv : wrap64 (wrap64 (Int.tdiv a b) - 1) = divF a b := by rw [w64 t, div_neg hb hm, w64 d, e]
   have HV := Lib.hid hv
   clear hv d t e ha
   go_enter Tryd.func66, Tryd.ntmps66
   go_wp2
   go_ret
   exact ⟨ret_int HV.out, rfl⟩
  ·have hv : wrap64 (Int.tdiv a b) = divF a b := by rw [w64 t, div_nonneg hb hm, e]
   have HV := Lib.hid hv
   clear hv d t e ha
   go_enter Tryd.func66, Tryd.ntmps66
   go_wp2
   go_ret
   exact ⟨ret_int HV.out, rfl⟩
theorem div_calls {a b : Int} (ha : rng a) (w : World) :
  Calls Tryd.prog 66 #[.int .i64 a, .int .i64 b] w fun e w' => e = .returned (.int .i64 (divF a b)) ∧ ∃ d, w' = w.drewN d :=
 (div_still ha w).mono fun _ _ h => ⟨h.1, 0, h.2⟩
theorem rdOf_tb {f : Nat → Int} {n i : Nat} (h : i < n) : rdOf 0 (tb f n) (i : Int) = f i := by
 have := tb_nth (f := f) h
 unfold nth at this
 unfold rdOf
 rw [Int.toNat_natCast]
 exact this
theorem over_at (f g : Nat → Int) (i : Nat) : overF f g i i = g i := by unfold overF; rw [if_neg (by omega)]
theorem rd_nth (l : List Int) (i : Nat) : rd l (i : Int) = nth l i := rd_at l i
theorem sq_is' (x : List Int) {n : Nat} (h1 : n ≤ 17592186044416) : tensor_products_int64_int64.f (n + 1) (tb (cwF x) n) (tb (cwF x) n) = some (ssW x n) := by
 have h := prod64_is (a := tb (cwF x) n) (b := tb (cwF x) n) (by omega) (by rw [tb_length]; omega) (k := n + 1) (by rw [tb_length]; omega)
 rw [tb_length] at h
 rw [h]
 congr 1
 exact dotW_congr (fun i hi => ⟨tb_nth hi, tb_nth hi⟩)
theorem nmW_eq (x g : List Int) (i : Nat) : nmW x g i = clampF (divF (wrap64 (cwF x i * nth g i)) (szW x)) 127 := c127_w _
theorem norm_bad {A0 A1 : Option Addr} {n m c0 c1 : Nat} (w : World) (h : n = 0 ∨ n ≠ m) :
  Calls Tryd.prog 31 #[.slice A0 n c0, .slice A1 m c1] w fun e w' => e = .returned (.tuple #[.slice none 0 0, .int .i64 30]) ∧ ∃ d, w' = w.drewN d := by
 by_cases hz : n = 0
 ·have hz' : ((n : Int) == 0) = true := beq_iff_eq.2 (by omega)
  go_enter Tryd.func31, Tryd.ntmps31
  go_wp2
  go_ret2
  exact ⟨rfl, 0, rfl⟩
 ·have hz' : ((n : Int) == 0) = false := beq_eq_false_iff_ne.2 (by omega)
  have hm' : ((n : Int) != (m : Int)) = true := bne_iff_ne.2 (by omega)
  go_enter Tryd.func31, Tryd.ntmps31
  go_wp2
  go_ret2
  exact ⟨rfl, 0, rfl⟩
def NRel (w : World) (v : Value) (x g : List Int) (y : Value) (wr : World) : Prop :=
 ∃ i : Nat, y = .int .i64 i ∧ i ≤ x.length ∧ Kd.R (Kd.int .i8) 57 wr w.heap.size (fun _ => True) v (tb (overF (nmW x g) (fun _ => 0) i) x.length) ∧ Below w.heap.size w wr
set_option maxHeartbeats 2000000 in
set_option maxRecDepth 100000 in
theorem norm_calls {A0 A1 : Option Addr} {n c0 c1 : Nat} {x g : List Int} (w : World) (hx : x.length = n) (hg : g.length = n) (hr0 : Kd.C (Kd.int .i64) w A0 x.length x) (hc0 : n ≤ c0) (hr1 : Kd.C (Kd.int .i8) w A1 g.length g) (hc1 : n ≤ c1)
  (h0 : 1 ≤ n) (h1 : n ≤ 17592186044416) (hs : Small g) :
  Calls Tryd.prog 31 #[.slice A0 n c0, .slice A1 n c1] w fun e w' =>
   ∃ v0, e = .returned (.tuple #[v0, .int .i64 0]) ∧ Kd.R (Kd.int .i8) 57 w' w.heap.size (fun _ => True) v0 (tb (nmW x g) n) ∧ Below w.heap.size w w' := by
 have HR0 := Lib.hid hr0
 have HR1 := Lib.hid hr1
 have HX := Lib.hid hx
 have HG := Lib.hid hg
 clear hr0 hr1 hx hg
 have hz' : ((n : Int) == 0) = false := beq_eq_false_iff_ne.2 (by omega)
 have hm' : ((n : Int) != (n : Int)) = false := bne_eq_false_iff_eq.2 rfl
 go_enter Tryd.func31, Tryd.ntmps31
 go_wp2_with fail
 have := Pplays.tensor_clamped.calls (x.length + 1) A0 c0 x (tb (cwF x) x.length) w HR0.out (by rw [HX.out]; exact hc0) (clamped_is (by rw [HX.out]; omega) (by omega))
 rw [HX.out] at this
 refine this.mono ?_
 clear this
 rintro e w1 ⟨vc, rfl, hR, hb⟩
 obtain ⟨Ac, cc, ev, hcc, hC⟩ := Kd.R_reads hR
 rw [tb_length] at ev hcc
 subst ev
 have RC := Lib.hid hC
 have HB := Lib.hid hb
 clear hR hb hC hz' hm'
 go_wp2_with fail
 have hp := Pplays.tensor_products_int64_int64.calls (n + 1) Ac cc (tb (cwF x) n) Ac cc (tb (cwF x) n) (ssW x n) w1 RC.out (by rw [tb_length]; exact hcc) RC.out (by rw [tb_length]; exact hcc) (sq_is' x h1)
 rw [tb_length] at hp
 refine hp.mono ?_
 clear hp
 rintro e w2 ⟨rfl, hd⟩
 obtain ⟨n2, rfl⟩ := hd.out
 go_wp2_with fail
 refine (div_calls (b := n) (show rng (ssW x n) from dotW_rng _ _ _) _).mono ?_
 rintro e w3 ⟨rfl, n3, rfl⟩
 go_wp2_with fail
 have hq := root_is (v := divF (ssW x n) n) (divF_rng (a := ssW x n) (dotW_rng _ _ _)) (k := 40) (by omega)
 refine (Pplays.fix_Sqrt.calls 40 _ (rootF (divF (ssW x n) n)) _ hq.1).mono ?_
 rintro e w4 ⟨rfl, hd⟩
 obtain ⟨n4, rfl⟩ := hd.out
 obtain ⟨w5, hw5⟩ : ∃ w5, w5 = (w1.drewN (n2 + n3)).drewN n4 := ⟨_, rfl⟩
 rw [← hw5]
 have RC5 : Hid (Kd.C (Kd.int .i64) w5 Ac n (tb (cwF x) n)) := Lib.hid (by rw [hw5]; have := Kd.C_drewN (Kd.C_drewN RC.out (n2 + n3)) n4; rwa [tb_length] at this)
 have HB5 : Hid (Below w.heap.size w w5) := Lib.hid (by rw [hw5]; exact pw_below_drewN (pw_below_drewN HB.out _) _)
 obtain ⟨B, hB⟩ : ∃ B, szW x = B := ⟨_, rfl⟩
 have hw : wrap64 (rootF (divF (ssW x n) n) + 1) = B := by
  rw [← hB]; unfold szW; rw [HX.out]
 have hBB := Lib.hid hB
 clear hd hw5 RC HB hq hB
 go_upto_region 5 with (fail)
 rw [hw]
 clear hw
 go_upto_region 6 with ((with_reducible refine gate_dst (N := 32) rfl ?_); refine Kd.R_make (Kd.int .i8) (w0 := w5) w5.heap.size 57 rfl (N := 32) rfl 33 _ _ rfl (n : Int) rfl rfl Tryd.underlying33 (.int .i8 0) 1 info57 rfl (by decide) (by omega) 0 (ok := fun _ => True) (okp := fun _ => True) rfl (fun _ hk => hk) trivial (by omega) (by omega) (Below.refl _ _) (Nat.le_refl _) ?_; intro v0 w6 hR hb2 hg2 hfresh)
 obtain ⟨gg, cap, hv0, ge, gl, cl, hcl⟩ := Kd.R_form hR (by simp; omega)
 rw [List.length_replicate, Int.toNat_natCast] at hv0
 subst hv0
 have HRR : Hid (Kd.R (Kd.int .i8) 57 w6 w5.heap.size (fun _ => True) (.slice (some ⟨gg, 0, none⟩) n cap) (tb (overF (nmW x g) (fun _ => 0) 0) x.length)) := Lib.hid (by rw [over_zero, HX.out]; unfold tb; rw [List.map_const', List.length_range]; exact hR)
 have HB2 := Lib.hid hb2
 have GE := Lib.hid ge
 clear hR hb2 hg2 hfresh hcl gl cl ge
 go_wp2
 go_loopw [35] (fun y wr => NRel w5 (.slice (some ⟨gg, 0, none⟩) n cap) x g y wr) (fun y _ => n - (intOf y).toNat)
 case atStart => exact ⟨0, rfl, by omega, HRR.out, HB2.out⟩
 case round =>
  clear HRR HB2
  obtain ⟨i, rfl, hi, hR, hB⟩ := hrel
  have HR := Lib.hid hR
  have HB := Lib.hid hB
  clear hR hB
  rename World => wr
  rw [HX.out] at hi
  by_cases hlt : i < n
  ·have hlt' : decide ((i : Int) < (n : Int)) = true := decide_eq_true (by omega)
   obtain ⟨ci, fi⟩ := Kd.R_celln 0 HR.out (i : Int) (by omega) (by omega)
   rw [HX.out, rdOf_tb hlt, over_at, Int.toNat_natCast] at ci
   rw [Int.toNat_natCast] at fi
   obtain ⟨adC, eC, cC⟩ := Kd.at_int (Kd.C_below RC5.out HB.out) (i : Int) (by omega) (by omega)
   rw [rd_nth, Int.toNat_natCast, tb_nth hlt] at cC
   obtain ⟨adG, eG, cG⟩ := Kd.at_int (Kd.C_below (Kd.C_below HR1.out HB5.out) HB.out) (i : Int) (by omega) (by rw [HG.out]; omega)
   rw [rd_nth, Int.toNat_natCast] at cG
   subst eC eG
   obtain ⟨c, hc⟩ : ∃ c, cwF x i = c := ⟨_, rfl⟩
   obtain ⟨q, hq⟩ : ∃ q, nth g i = q := ⟨_, rfl⟩
   have CI := cwF_in x i
   have QI := hs.nth i
   rw [hc] at cC CI
   rw [hq] at cG QI
   obtain ⟨pr, hpr⟩ : ∃ p, c * q = p := ⟨_, rfl⟩
   have hpb : -2147483648 ≤ pr ∧ pr ≤ 2147483648 := by
    rw [← hpr]
    constructor
    ·rcases Int.le_total 0 c with a | a <;> rcases Int.le_total 0 q with b | b
     ·have := Int.mul_nonneg a b; omega
     ·have := Int.mul_le_mul (show -q ≤ 128 by omega) CI.2 a (by omega); rw [Int.neg_mul, Int.mul_comm] at this; omega
     ·have := Int.mul_le_mul (show -c ≤ 16777216 by omega) QI.2 b (by omega); rw [Int.neg_mul] at this; omega
     ·have := Int.mul_nonneg_of_nonpos_of_nonpos a b; omega
    ·rcases Int.le_total 0 c with a | a <;> rcases Int.le_total 0 q with b | b
     ·have := Int.mul_le_mul CI.2 QI.2 b (by omega); omega
     ·have := Int.mul_nonneg a (show 0 ≤ -q by omega); rw [Int.mul_neg] at this; omega
     ·have := Int.mul_nonneg (show 0 ≤ -c by omega) b; rw [Int.neg_mul] at this; omega
     ·have := Int.mul_le_mul (show -c ≤ 16777216 by omega) (show -q ≤ 128 by omega) (by omega) (by omega); rw [Int.neg_mul_neg] at this; omega
   have hw1 : IntKind.i64.wrap q = q := IntWalk.i64_in _ (by omega)
   have hw2 : IntKind.i64.wrap (c * q) = pr := by rw [hpr]; exact IntWalk.i64_in _ (by omega)
   have hval : clampF (divF pr B) 127 = nmW x g i := by rw [nmW_eq, hBB.out, hc, hq, ← i64_w, hw2]
   have PR : Hid (rng pr) := Lib.hid (by unfold rng; omega)
   have HV := Lib.hid hval
   have p2 : (0 : Int) ≤ (i : Int) := by omega
   have p3 : (i : Int) < (n : Int) := by omega
   clear CI QI hpb hpr hval hc hq
   go_upto_region 9 with (fail)
   go_still_tail 16, (by kernel_rfl)
   still_call (div_still PR.out _)
   repeat still_step
   still_call (clamp8_still _)
   repeat still_step
   refine wpStill_nil ?_
   change wpList _ _ _ _ _ wr.drew
   rw [HV.out]
   have cd : wr.drew.cell? ⟨gg, i, none⟩ = some (.int .i8 0) := ci
   have fd : wr.drew.frozen? ⟨gg, i, none⟩ = false := fi
   have hp := Kd.R_putn (Kd.R_drew HR.out) (i : Int) (nmW x g i)
   rw [Int.toNat_natCast] at hp
   have hp' : Hid (Kd.R (Kd.int .i8) 57 (wr.drew.setCell ⟨gg, i, none⟩ (.int .i8 (nmW x g i))) w5.heap.size (fun _ => True) (.slice (some ⟨gg, 0, none⟩) n cap) (tb (overF (nmW x g) (fun _ => 0) (i + 1)) x.length)) := Lib.hid (by
    rw [← over_set (nmW x g) (fun _ => 0) (show i < x.length by rw [HX.out]; exact hlt)]
    exact hp)
   have hb' : Hid (Below w5.heap.size w5 (wr.drew.setCell ⟨gg, i, none⟩ (.int .i8 (nmW x g i)))) := Lib.hid (below_set (below_drew HB.out) GE.out)
   clear hp ci fi cC cG hw1 hw2
   go_wp2
   go_roundw
   case rel => exact ⟨i + 1, rfl, by rw [HX.out]; omega, hp'.out, hb'.out⟩
   case measure => simp [intOf]; omega
  ·have hlt' : decide ((i : Int) < (n : Int)) = false := decide_eq_false (by omega)
   obtain rfl : n = i := by omega
   have HE : Hid (Kd.R (Kd.int .i8) 57 wr w.heap.size (fun _ => True) (.slice (some ⟨gg, 0, none⟩) n cap) (tb (nmW x g) n)) := Lib.hid (by have := Kd.R_lower HR.out (below_size HB5.out); rwa [HX.out, over_all] at this)
   have HZ : Hid (Below w.heap.size w wr) := Lib.hid (below_step HB5.out HB.out)
   clear hlt hi
   go_wp2
   go_ret2
   exact ⟨_, rfl, HE.out, HZ.out⟩
end Go.Proofs.YtnioohhiphpplaaDoor.Wk
