/- The walks of fix.Shift and fix.Exp, for every argument; Exp where fix.terms holds the five numbers of the program's text. -/
import Derived.Test.YtnioohhiphpplaaDoorProg
import Derived.Test.YtnioohhiphpplaaDoorMexp
import Derived.WalkKit
import Derived.Deep.QuietTactic
import Derived.BigQuiet
import Derived.WideLaws
import Derived.Lib.Hide
namespace Go.Proofs.YtnioohhiphpplaaDoor.Wk
open Go.RowKit Go.Proofs.YtnioohhiphpplaaDoorW.PrintWords Go.Proofs.YtnioohhiphpplaaDoorW.PrintLast Go.Proofs.YtnioohhiphpplaaDoorW.PrintMore Go.Proofs.YtnioohhiphpplaaDoor.M
attribute [local go_sem] max2_int min2_int max_two min_two
theorem shift_calls {v s : Int} (hv : rng v) (w : World) :
  Calls Tryd.prog 50 #[.int .i64 v, .int .i64 s] w fun e w' => e = .returned (.int .i64 (shiftF v s)) ∧ ∃ m, w' = w.drewN m := by
 by_cases c : s ≤ 0
 ·have e : shiftF v s = v := by unfold shiftF; rw [if_pos c]
  rw [e]
  have cb : decide (s ≤ 0) = true := decide_eq_true c
  clear e c
  go_enter Tryd.func50, Tryd.ntmps50
  go_wp2
  repeat (go_quiet (fail); try go_wp2)
  go_ret
  exact ⟨rfl, 0, rfl⟩
 ·have cb : decide (s ≤ 0) = false := decide_eq_false c
  have hm := mn62 s
  have h1 := hm.2.1 (by omega)
  have hval : wrap64 (v / 2 ^ (mn s 62).toNat + Go.bits .and .i64 (v / 2 ^ (mn s 62 - 1).toNat) 1) = shiftF v s := by
   unfold shiftF
   rw [if_neg c, and1, show (mn s 62 - 1).toNat = (mn s 62).toNat - 1 by omega, shift_bits v (show 1 ≤ (mn s 62).toNat by omega)]
   have r := div_pow_rng hv ((mn s 62).toNat - 1)
   rw [w64 (by unfold rng at *; omega)]
  obtain ⟨j, hj⟩ : ∃ j, mn s 62 = j := ⟨_, rfl⟩
  have hj_ : (if 62 < s then 62 else s) = j := hj
  rw [hj] at hval hm h1
  have j1 : j ≤ 62 := hm.1
  have j0 : 1 ≤ j := h1
  have j2 : 0 ≤ j - 1 := by omega
  have j3 : j - 1 ≤ 64 := by omega
  have j4 : 0 ≤ j := by omega
  have j5 : j ≤ 64 := by omega
  have HV := Lib.hid hval
  clear hval hm hj c h1
  go_enter Tryd.func50, Tryd.ntmps50
  go_wp2
  repeat (go_quiet (fail); try go_wp2)
  go_ret
  exact ⟨by rw [← HV.out, show (j - 1).toNat = j.toNat - 1 by omega]; rfl, _, rfl⟩
theorem ret_int {k : IntKind} {a b : Int} (h : a = b) : Ending.returned (.int k a) = .returned (.int k b) := by rw [h]
structure Terms (w : World) : Prop where
 t0 : w.cell? ⟨0, 0, none⟩ = some (.int .i64 1073741824)
 t1 : w.cell? ⟨0, 1, none⟩ = some (.int .i64 (-1073764153))
 t2 : w.cell? ⟨0, 2, none⟩ = some (.int .i64 536691957)
 t3 : w.cell? ⟨0, 3, none⟩ = some (.int .i64 (-175978408))
 t4 : w.cell? ⟨0, 4, none⟩ = some (.int .i64 35472643)
theorem cell_drewN (w : World) (n : Nat) (a : Addr) : (w.drewN n).cell? a = w.cell? a := by simp
theorem Terms.drewN {w : World} (h : Terms w) (n : Nat) : Terms (w.drewN n) :=
 ⟨(cell_drewN w n _).trans h.t0, (cell_drewN w n _).trans h.t1, (cell_drewN w n _).trans h.t2, (cell_drewN w n _).trans h.t3, (cell_drewN w n _).trans h.t4⟩
theorem drawn_more {w wr : World} {d : Nat} (h : wr = w.drewN d) (n : Nat) : ∃ d, wr.drewN n = w.drewN d := ⟨d + n, by rw [h, World.drewN_drewN]⟩
theorem exp_low {z : Int} (hz : z < -1048576) (w : World) :
  Calls Tryd.prog 20 #[.int .i64 z] w fun e w' => e = .returned (.int .i64 (expF z)) ∧ ∃ d, w' = w.drewN d := by
 have e : expF z = 0 := by unfold expF; rw [if_pos hz]
 rw [e]
 clear e
 go_enter Tryd.func20, Tryd.ntmps20
 go_wp2
 go_ret
 exact ⟨rfl, 0, rfl⟩
set_option maxHeartbeats 2000000 in
theorem exp_high {z : Int} (hz : ¬ z < -1048576) (_hz : rng z) (w : World) (ht : Terms w) :
  Calls Tryd.prog 20 #[.int .i64 z] w fun e w' => e = .returned (.int .i64 (expF z)) ∧ ∃ d, w' = w.drewN d := by
 obtain ⟨n, hn⟩ : ∃ n, -(mn z 0) = n := ⟨_, rfl⟩
 have hs := exp_steps (show -1048576 ≤ z by omega) hn
 have n0 : 0 ≤ n := by rw [← hn]; unfold mn; split <;> omega
 have n1 : n ≤ 1048576 := by rw [← hn]; unfold mn; split <;> omega
 have hq : (if 0 < z then 0 else z) = -n := by rw [← hn]; unfold mn; omega
 have hr : 0 ≤ n % 45426 ∧ n % 45426 ≤ 45425 := by omega
 have HS := Lib.hid hs
 have HT := Lib.hid ht
 have HR := Lib.hid hr
 have hlow : decide (z < -1048576) = false := decide_eq_false hz
 clear hs hn hz ht hr
 go_enter Tryd.func20, Tryd.ntmps20
 go_wp2
 go_loopw [4, 13] (fun p i wr => ∃ k : Int, 0 ≤ k ∧ k ≤ 5 ∧ i = .int .i64 k ∧ p = .int .i64 (polyP (n % 45426) k.toNat) ∧ ∃ d, wr = w.drewN d) (fun _ i _ => 5 - (intOf i).toNat)
 case atStart => exact ⟨0, by omega, by omega, rfl, rfl, 0, rfl⟩
 case round =>
  obtain ⟨k, hk0, hk, rfl, rfl, d, hd⟩ := hrel
  obtain ⟨t0, t1, t2, t3, t4⟩ := hd ▸ HT.out.drewN d
  have HD := Lib.hid hd
  clear hd
  have hp := polyP_rng HR.out (k := k.toNat) (by omega)
  have hm : IntKind.i64.wrap (polyP (n % 45426) k.toNat * (n % 45426)) = polyP (n % 45426) k.toNat * (n % 45426) := IntWalk.i64_in _ hp.1
  have ha : IntKind.i64.wrap (term k.toNat + shiftF (polyP (n % 45426) k.toNat * (n % 45426)) 16) = polyP (n % 45426) (k.toNat + 1) := by
   have := term_in k.toNat
   rw [IntWalk.i64_in _ (by omega)]; rfl
  have HP := Lib.hid hp.1
  clear hp
  have hw0 : IntKind.i64.wrap 0 = 0 := by decide
  have hw1 : IntKind.i64.wrap 1 = 1 := by decide
  have hw2 : IntKind.i64.wrap 2 = 2 := by decide
  have hw3 : IntKind.i64.wrap 3 = 3 := by decide
  have hw4 : IntKind.i64.wrap 4 = 4 := by decide
  rcases (show k = 0 ∨ k = 1 ∨ k = 2 ∨ k = 3 ∨ k = 4 ∨ k = 5 by omega) with rfl | rfl | rfl | rfl | rfl | rfl
  ·have hm : IntKind.i64.wrap (polyP (n % 45426) 0 * (n % 45426)) = polyP (n % 45426) 0 * (n % 45426) := hm
   have ha : IntKind.i64.wrap (35472643 + shiftF (polyP (n % 45426) 0 * (n % 45426)) 16) = polyP (n % 45426) 1 := ha
   go_wp2
   go_quiet ((go_at_call 50; exact Calls.quiet_of (shift_calls HP.out _)))
   clear hm ha
   go_wp2
   go_roundw
   case rel => exact ⟨1, by omega, by omega, rfl, rfl, drawn_more HD.out _⟩
   case measure => simp [intOf]
  ·have hm : IntKind.i64.wrap (polyP (n % 45426) 1 * (n % 45426)) = polyP (n % 45426) 1 * (n % 45426) := hm
   have ha : IntKind.i64.wrap (-175978408 + shiftF (polyP (n % 45426) 1 * (n % 45426)) 16) = polyP (n % 45426) 2 := ha
   go_wp2
   go_quiet ((go_at_call 50; exact Calls.quiet_of (shift_calls HP.out _)))
   clear hm ha
   go_wp2
   go_roundw
   case rel => exact ⟨2, by omega, by omega, rfl, rfl, drawn_more HD.out _⟩
   case measure => simp [intOf]
  ·have hm : IntKind.i64.wrap (polyP (n % 45426) 2 * (n % 45426)) = polyP (n % 45426) 2 * (n % 45426) := hm
   have ha : IntKind.i64.wrap (536691957 + shiftF (polyP (n % 45426) 2 * (n % 45426)) 16) = polyP (n % 45426) 3 := ha
   go_wp2
   go_quiet ((go_at_call 50; exact Calls.quiet_of (shift_calls HP.out _)))
   clear hm ha
   go_wp2
   go_roundw
   case rel => exact ⟨3, by omega, by omega, rfl, rfl, drawn_more HD.out _⟩
   case measure => simp [intOf]
  ·have hm : IntKind.i64.wrap (polyP (n % 45426) 3 * (n % 45426)) = polyP (n % 45426) 3 * (n % 45426) := hm
   have ha : IntKind.i64.wrap (-1073764153 + shiftF (polyP (n % 45426) 3 * (n % 45426)) 16) = polyP (n % 45426) 4 := ha
   go_wp2
   go_quiet ((go_at_call 50; exact Calls.quiet_of (shift_calls HP.out _)))
   clear hm ha
   go_wp2
   go_roundw
   case rel => exact ⟨4, by omega, by omega, rfl, rfl, drawn_more HD.out _⟩
   case measure => simp [intOf]
  ·have hm : IntKind.i64.wrap (polyP (n % 45426) 4 * (n % 45426)) = polyP (n % 45426) 4 * (n % 45426) := hm
   have ha : IntKind.i64.wrap (1073741824 + shiftF (polyP (n % 45426) 4 * (n % 45426)) 16) = polyP (n % 45426) 5 := ha
   go_wp2
   go_quiet ((go_at_call 50; exact Calls.quiet_of (shift_calls HP.out _)))
   clear hm ha
   go_wp2
   go_roundw
   case rel => exact ⟨5, by omega, by omega, rfl, rfl, drawn_more HD.out _⟩
   case measure => simp [intOf]
  ·have p5 := polyP_in HR.out 5 (by omega)
   have g1 : rng (polyP (n % 45426) 5) := by unfold rng; omega
   have g2 : rng (shiftF (polyP (n % 45426) 5) 14) := shiftF_rng 14 g1
   clear hm ha p5 hw0 hw1 hw2 hw3 hw4 t0 t1 t2 t3 t4 HP
   have G1 := Lib.hid g1
   have G2 := Lib.hid g2
   clear g1 g2
   go_wp2_with fail
   refine (shift_calls G1.out _).mono ?_
   rintro e w1 ⟨rfl, m1, rfl⟩
   go_wp2_with fail
   refine (shift_calls G2.out _).mono ?_
   rintro e w2 ⟨rfl, m2, rfl⟩
   go_wp2
   go_ret
   exact ⟨ret_int HS.out, _, by rw [HD.out, World.drewN_drewN]⟩
theorem exp_calls {z : Int} (hz : rng z) (w : World) (ht : Terms w) :
  Calls Tryd.prog 20 #[.int .i64 z] w fun e w' => e = .returned (.int .i64 (expF z)) ∧ ∃ d, w' = w.drewN d := by
 by_cases h : z < -1048576
 ·exact exp_low h w
 ·exact exp_high h hz w ht
end Go.Proofs.YtnioohhiphpplaaDoor.Wk
