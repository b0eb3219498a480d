/- Printed walk of the document's Turns, over the hand walk of Step. -/
import Derived.Test.YtnioohhiphpplaaDoorDs
import Derived.Test.YtnioohhiphpplaaDoorSq
namespace Go.Proofs.YtnioohhiphpplaaDoor.Pplays
open Go.RowKit Go.Proofs.YtnioohhiphpplaaDoorW.PrintWords Go.Proofs.YtnioohhiphpplaaDoorW.PrintLast Go.Proofs.YtnioohhiphpplaaDoorW.PrintMore
attribute [local go_sem] max2_int min2_int max_two min_two
set_option linter.unusedVariables false
set_option linter.unusedSimpArgs false
def augurref03_Step.f (k : Nat) (a0_0 : Int) (a0_1 : Int) (a1_0 : Int) (a1_1 : Int) : Option (Int × Int) := (augurref01_Shift.f k (wrap64 ((wrap64 (a0_0 * a1_0)) - (wrap64 (a0_1 * a1_1)))) 14).bind fun t420 => ((augurref01_Shift.f k (wrap64 ((wrap64 (a0_0 * a1_1)) + (wrap64 (a0_1 * a1_0)))) 14).bind fun t421 => ((augurref01_Clamp.f k t420 16384).bind fun t422 => ((augurref01_Clamp.f k t421 16384).bind fun t423 => (some (t422, t423)))))
theorem augurref03_Step.mono : ∀ a0 a1 a2 a3 k, LeO (augurref03_Step.f k a0 a1 a2 a3) (augurref03_Step.f (k + 1) a0 a1 a2 a3) := by
 intro a0 a1 a2 a3 k
 unfold augurref03_Step.f
 repeat' first
   | (with_reducible exact augurref01_Clamp.mono _ _ _)
   | (with_reducible exact augurref01_Shift.mono _ _ _)
   | (with_reducible exact LeO.refl _)
   | (with_reducible exact LeO.none _)
   | (with_reducible refine LeO.ite ?_ ?_)
   | (with_reducible refine LeO.bind ?_ (fun _ => ?_))
   | exact augurref01_Clamp.mono _ _ _
   | exact augurref01_Shift.mono _ _ _
   | exact LeO.none _
   | refine LeO.ite ?_ ?_
   | refine LeO.bind ?_ (fun _ => ?_)
theorem augurref03_Step.calls (k : Nat) (a0_0 : Int) (a0_1 : Int) (a1_0 : Int) (a1_1 : Int) (r1 : Int) (r2 : Int) (w : World) (h : augurref03_Step.f k a0_0 a0_1 a1_0 a1_1 = some (r1, r2)) :
  Calls Tryd.prog 78 #[.agg #[.int .i64 a0_0, .int .i64 a0_1], .agg #[.int .i64 a1_0, .int .i64 a1_1]] w fun e w' => e = .returned (.agg #[.int .i64 r1, .int .i64 r2]) ∧ Below w.heap.size w w' := by
 have h1 := Dp.up (g := fun k => augurref03_Step.f k a0_0 a0_1 a1_0 a1_1) (fun k => augurref03_Step.mono a0_0 a0_1 a1_0 a1_1 k) (show k ≤ k + 80 by omega) h
 have h2 : augurref03_Step.f (k + 80) a0_0 a0_1 a1_0 a1_1 = some (M.clampF (Wk.tuX a0_0 a0_1 a1_0 a1_1) 16384, M.clampF (Wk.tuY a0_0 a0_1 a1_0 a1_1) 16384) := by
  unfold augurref03_Step.f
  rw [Dp.refshift_is (Dp.wrap_rng _) _ (by omega), Option.bind_some, Dp.refshift_is (Dp.wrap_rng _) _ (by omega), Option.bind_some, Dp.refclamp_pos (by unfold M.rng; omega) (by omega), Option.bind_some, Dp.refclamp_pos (by unfold M.rng; omega) (by omega), Option.bind_some]
  rfl
 rw [h2] at h1
 injection h1 with h1
 injection h1 with h3 h4
 rw [← h3, ← h4]
 exact Wk.step_calls a0_0 a0_1 a1_0 a1_1 w
mutual
def augurref03_Turns.j0 : Nat → List (S87) → Int → Bool → Option ((List (List (S87))) × Int)
 | 0, _, _, _ => none
 | k + 1, x0, x1, x19 => if x19 = true then (some (([] : List (List (S87))), 1)) else (augurref03_Turns.l0 k x0 x1 0)
def augurref03_Turns.l0 : Nat → List (S87) → Int → Int → Option ((List (List (S87))) × Int)
 | 0, _, _, _ => none
 | k + 1, x0, x1, x6 => if x6 < (x0.length : Int) then (if 0 ≤ x6 then ((augurref03_small.f ((rd_T87 x0 x6).f0)).bind fun t425 => ((augurref03_small.f ((rd_T87 x0 x6).f1)).bind fun t427 => (if t425 = true then (if t427 = true then (augurref03_Turns.l0 k x0 x1 (wrap64 (x6 + 1))) else (some (([] : List (List (S87))), 30))) else (some (([] : List (List (S87))), 30))))) else (none)) else (augurref03_Turns.l1 k x0 x1 ([] : List (List (S87))) 0)
def augurref03_Turns.l1 : Nat → List (S87) → Int → List (List (S87)) → Int → Option ((List (List (S87))) × Int)
 | 0, _, _, _, _ => none
 | k + 1, x0, x1, x9, x10 => if x10 < x1 then (augurref03_Turns.l2 k x0 x1 x9 x10 ([] : List (S87)) 0) else (some (x9, 0))
def augurref03_Turns.l2 : Nat → List (S87) → Int → List (List (S87)) → Int → List (S87) → Int → Option ((List (List (S87))) × Int)
 | 0, _, _, _, _, _, _ => none
 | k + 1, x0, x1, x9, x10, x11, x12 => if x12 < (x0.length : Int) then (if x10 > 0 then (if 0 ≤ (wrap64 (x10 - 1)) then (if (wrap64 (x10 - 1)) < (x9.length : Int) then (if 0 ≤ x12 then (if x12 < ((rd_L4 x9 (wrap64 (x10 - 1))).length : Int) then ((augurref03_Step.f k ((rd_T87 (rd_L4 x9 (wrap64 (x10 - 1))) x12).f0) ((rd_T87 (rd_L4 x9 (wrap64 (x10 - 1))) x12).f1) ((rd_T87 x0 x12).f0) ((rd_T87 x0 x12).f1)).bind fun bt432 => (if x11.length < 8796093022208 then (augurref03_Turns.l2 k x0 x1 x9 x10 (x11 ++ [(⟨bt432.1, bt432.2⟩ : S87)]) (wrap64 (x12 + 1))) else (none))) else (none)) else (none)) else (none)) else (none)) else (if x11.length < 8796093022208 then (augurref03_Turns.l2 k x0 x1 x9 x10 (x11 ++ [(⟨16384, 0⟩ : S87)]) (wrap64 (x12 + 1))) else (none))) else (if x9.length < 5864062014805 then (augurref03_Turns.l1 k x0 x1 (x9 ++ [x11]) (wrap64 (x10 + 1))) else (none))
end
def augurref03_Turns.f (k : Nat) (l0 : List (S87)) (a1 : Int) : Option ((List (List (S87))) × Int) := if a1 < 0 then (augurref03_Turns.j0 k l0 a1 true) else (augurref03_Turns.j0 k l0 a1 (decide (a1 > 64)))
def augurref03_Turns.T20 : Bool × List (List Nat × List Nat) := (true, [([], []), ([], []), ([1], [1]), ([0, 2], [0, 2]), ([3], [3]), ([], []), ([4, 5], [4, 5]), ([6], [6]), ([], []), ([], []), ([8, 9], [8, 9]), ([10], [10]), ([7, 11], [7, 11]), ([12, 12, 0, 1, 2, 3, 4, 5, 6, 7, 8, 9, 10, 11, 12], [12])])
def augurref03_Turns.B20 : List Nat := [0, 0, 2, 7, 15, 0, 63, 127, 0, 0, 768, 1792, 4095, 8191]
theorem augurref03_Turns.tab20 : rtab .any (opsOf Tryd.f61 20) = augurref03_Turns.T20 := by kernel_rfl
theorem augurref03_Turns.bits20 : waitsOk augurref03_Turns.T20.2 augurref03_Turns.B20 = true := by kernel_rfl
set_option maxHeartbeats 8000000 in
set_option maxRecDepth 100000 in
theorem augurref03_Turns.calls (k : Nat) (A0 : Option Addr) (c0 : Nat) (l0 : List (S87)) (a1 : Int) (r1 : List (List (S87))) (r2 : Int) (w : World) (hr0 : Kd.C k87 w A0 l0.length l0) (hc0 : l0.length ≤ c0) (h : augurref03_Turns.f k l0 a1 = some (r1, r2)) :
  Calls Tryd.prog 61 #[.slice A0 l0.length c0, .int .i64 a1] w fun e w' => ∃ v0_ : Value, e = .returned (.tuple #[v0_, .int .i64 r2]) ∧ Kd.S (Kd.slice 87 k87) 37 w' w.heap.size (fun _ => True) v0_ r1 ∧ Below w.heap.size w w' := by
 have hu87 := Tryd.underlying87
 have HR0 := Aside0.mk hr0
 have HC0 := Aside0.mk hc0
 clear hr0 hc0
 have HB := Aside0.mk (Below.refl w.heap.size w)
 have H : (if a1 < 0 then (augurref03_Turns.j0 k l0 a1 true) else (augurref03_Turns.j0 k l0 a1 (decide (a1 > 64)))) = some (r1, r2) := h
 clear h
 have HC3 := Aside0.mk H
 clear H
 go_enter Tryd.func61, Tryd.ntmps61
 go_upto_region 1 with (fail)
 go_cut [19] (fun v19 wc => ∃ (kq : Nat) (x19_2 : Bool), v19 = .bool x19_2 ∧ Aside0 (augurref03_Turns.j0 kq l0 a1 x19_2 = some (r1, r2)) ∧ Aside0 (kq ≤ k) ∧ Aside0 (Below w.heap.size w wc))
 case first =>
  have H := HC3.out
  clear HC3
  by_cases c4 : a1 < 0
  ·rw [if_pos c4] at H
   have c4b0 : decide (a1 < 0) = true := decide_eq_true c4
   clear c4
   (first | rw [c4b0] | (simp only [i64_w, i32_w]; rw [c4b0]) | skip)
   have H' := Aside0.mk H
   clear H
   go_wp2
   go_meet
   case rel => exact ⟨_, (true), eqx_, H', ⟨om_⟩, ⟨hb_⟩⟩
  ·rw [if_neg c4] at H
   have c4b0 : decide (a1 < 0) = false := decide_eq_false c4
   clear c4
   (first | rw [c4b0] | (simp only [i64_w, i32_w]; rw [c4b0]) | skip)
   have H' := Aside0.mk H
   clear H
   go_wp2
   go_meet
   case rel => exact ⟨_, (decide (a1 > 64)), eqx_, H', ⟨om_⟩, ⟨hb_⟩⟩
 case rest =>
  clear HC3
  try clear p2
  try clear c4
  try clear c4b0
  obtain ⟨kq, x19_2, rfl, HA, HJ2, HB⟩ := hcut
  cases kq with
  | zero => exact absurd HA.out (by simp [augurref03_Turns.j0])
  | succ kj2 =>
   have H := HA.out
   clear HA
   simp only [augurref03_Turns.j0] at H
   by_cases c5 : x19_2 = true
   ·subst c5
    have H1 : (some (([] : List (List (S87))), 1)) = some (r1, r2) := by rw [if_pos rfl] at H; exact H
    clear H
    have H := H1
    clear H1
    simp only [Option.some.injEq, Prod.mk.injEq] at H
    obtain ⟨rfl, rfl⟩ := H
    go_wp2
    go_ret2
    exact ⟨_, er_, by first | exact Kd.S_nil _ _ _ _ _ | exact Kd.N_nil _ _ _ _ _ | exact Kd.V_nil _ _ _ _ _ | exact Kd.Q_nil _ _ _ _ _ | exact Kd.R_nil _ _ _ _ _, hb_⟩
   ·replace c5 := Bool.eq_false_iff.mpr c5
    subst c5
    have H1 : (augurref03_Turns.l0 kj2 l0 a1 0) = some (r1, r2) := by rw [if_neg (show ¬ (false = true) by decide)] at H; exact H
    clear H
    have H := H1
    clear H1
    have H' := Aside0.mk H
    clear H
    go_wp2
    go_loopg [6] kj2 (fun kq v6 w' => ∃ (x6_2 : Int), v6 = .int .i64 x6_2 ∧ Aside0 (augurref03_Turns.l0 kq l0 a1 x6_2 = some (r1, r2)) ∧ Aside0 (kq ≤ kj2) ∧ Aside0 (Below w.heap.size w w'))
    case atStart => exact ⟨(0), eqx_, H', ⟨Nat.le_refl _⟩, ⟨hb_⟩⟩
    case round =>
     clear H'
     try clear p2
     try clear c4
     try clear c4b0
     try clear c5
     try clear p2
     obtain ⟨x6_2, rfl, HA, HK2, HB⟩ := hrel
     cases gk with
     | zero => exact absurd HA.out (by simp [augurref03_Turns.l0])
     | succ k2 =>
      have H := HA.out
      clear HA
      simp only [augurref03_Turns.l0] at H
      by_cases c6 : x6_2 < (l0.length : Int)
      ·rw [if_pos c6] at H
       have c6b0 : decide (x6_2 < (l0.length : Int)) = true := decide_eq_true c6
       clear c6
       by_cases c7 : 0 ≤ x6_2
       ·rw [if_pos c7] at H
        have c7b0 : decide (0 ≤ x6_2) = true := decide_eq_true c7
        clear c7
        replace H := Option.bind_eq_some_iff.mp H
        obtain ⟨t425, A80, H⟩ := H
        replace H : ((augurref03_small.f ((rd_T87 l0 x6_2).f1)).bind fun t427 => (if t425 = true then (if t427 = true then (augurref03_Turns.l0 k2 l0 a1 (wrap64 (x6_2 + 1))) else (some (([] : List (List (S87))), 30))) else (some (([] : List (List (S87))), 30)))) = some (r1, r2) := H
        have A8 := Aside0.mk A80
        clear A80
        replace H := Option.bind_eq_some_iff.mp H
        obtain ⟨t427, A90, H⟩ := H
        replace H : (if t425 = true then (if t427 = true then (augurref03_Turns.l0 k2 l0 a1 (wrap64 (x6_2 + 1))) else (some (([] : List (List (S87))), 30))) else (some (([] : List (List (S87))), 30))) = some (r1, r2) := H
        have A9 := Aside0.mk A90
        clear A90
        by_cases c10 : t425 = true
        ·subst c10
         have H1 : (if t427 = true then (augurref03_Turns.l0 k2 l0 a1 (wrap64 (x6_2 + 1))) else (some (([] : List (List (S87))), 30))) = some (r1, r2) := by rw [if_pos rfl] at H; exact H
         clear H
         have H := H1
         clear H1
         by_cases c11 : t427 = true
         ·subst c11
          have H1 : (augurref03_Turns.l0 k2 l0 a1 (wrap64 (x6_2 + 1))) = some (r1, r2) := by rw [if_pos rfl] at H; exact H
          clear H
          have H := H1
          clear H1
          have H' := Aside0.mk H
          clear H
          have p424 : 0 ≤ (x6_2 : Int) := of_decide_eq_true as_
          have q424 : x6_2 < (l0.length : Int) := of_decide_eq_true as_
          obtain ⟨ad424, e424, hx424_0, hx424_1⟩ := at_T87 HR0.out x6_2 p424 q424
          cases e424
          replace hx424_0 := (HB.out.cell (World.block_lt_of_cell? w _ hx424_0)).trans hx424_0
          replace hx424_1 := (HB.out.cell (World.block_lt_of_cell? w _ hx424_1)).trans hx424_1
          replace p424 := eq_true p424
          replace q424 := eq_true q424
          go_wp2_with (first | ((with_reducible refine gate_callee (f := 77) rfl ?_); refine goesL_ (some 31) rfl rfl Tryd.func77 (by kernel_rfl) rfl #[.int .i64 ((rd_T87 l0 x6_2).f0)] rfl mp_ ?_; (with_reducible refine (augurref03_small.calls ((rd_T87 l0 x6_2).f0) true _ A8.out).mono ?_); rintro e w' ⟨rfl, ⟨nd, rfl⟩⟩; refine ⟨_, rfl, ?_⟩; have p426 : 0 ≤ (x6_2 : Int) := of_decide_eq_true as_; have q426 : x6_2 < (l0.length : Int) := of_decide_eq_true as_; obtain ⟨ad426, e426, hx426_0, hx426_1⟩ := at_T87 HR0.out x6_2 p426 q426; obtain rfl : ad424 = ad426 := (by injection e426); replace hx426_0 := (HB.out.cell (World.block_lt_of_cell? w _ hx426_0)).trans hx426_0; replace hx426_1 := (HB.out.cell (World.block_lt_of_cell? w _ hx426_1)).trans hx426_1; replace p426 := eq_true p426; replace q426 := eq_true q426) | ((with_reducible refine gate_callee (f := 77) rfl ?_); refine goesL_ (some 37) rfl rfl Tryd.func77 (by kernel_rfl) rfl #[.int .i64 ((rd_T87 l0 x6_2).f1)] rfl mp_ ?_; (with_reducible refine (augurref03_small.calls ((rd_T87 l0 x6_2).f1) true _ A9.out).mono ?_); rintro e w' ⟨rfl, ⟨nd, rfl⟩⟩; refine ⟨_, rfl, ?_⟩))
          go_roundg k2
          case measure => have := HJ2.out; have := HK2.out; omega
          case rel => exact ⟨(wrap64 (x6_2 + 1)), eqx_, H', ⟨by have := HJ2.out; have := HK2.out; omega⟩, ⟨hb_⟩⟩
         ·replace c11 := Bool.eq_false_iff.mpr c11
          subst c11
          have H1 : (some (([] : List (List (S87))), 30)) = some (r1, r2) := by rw [if_neg (show ¬ (false = true) by decide)] at H; exact H
          clear H
          have H := H1
          clear H1
          simp only [Option.some.injEq, Prod.mk.injEq] at H
          obtain ⟨rfl, rfl⟩ := H
          have p424 : 0 ≤ (x6_2 : Int) := of_decide_eq_true as_
          have q424 : x6_2 < (l0.length : Int) := of_decide_eq_true as_
          obtain ⟨ad424, e424, hx424_0, hx424_1⟩ := at_T87 HR0.out x6_2 p424 q424
          cases e424
          replace hx424_0 := (HB.out.cell (World.block_lt_of_cell? w _ hx424_0)).trans hx424_0
          replace hx424_1 := (HB.out.cell (World.block_lt_of_cell? w _ hx424_1)).trans hx424_1
          replace p424 := eq_true p424
          replace q424 := eq_true q424
          go_wp2_with (first | ((with_reducible refine gate_callee (f := 77) rfl ?_); refine goesL_ (some 31) rfl rfl Tryd.func77 (by kernel_rfl) rfl #[.int .i64 ((rd_T87 l0 x6_2).f0)] rfl mp_ ?_; (with_reducible refine (augurref03_small.calls ((rd_T87 l0 x6_2).f0) true _ A8.out).mono ?_); rintro e w' ⟨rfl, ⟨nd, rfl⟩⟩; refine ⟨_, rfl, ?_⟩; have p426 : 0 ≤ (x6_2 : Int) := of_decide_eq_true as_; have q426 : x6_2 < (l0.length : Int) := of_decide_eq_true as_; obtain ⟨ad426, e426, hx426_0, hx426_1⟩ := at_T87 HR0.out x6_2 p426 q426; obtain rfl : ad424 = ad426 := (by injection e426); replace hx426_0 := (HB.out.cell (World.block_lt_of_cell? w _ hx426_0)).trans hx426_0; replace hx426_1 := (HB.out.cell (World.block_lt_of_cell? w _ hx426_1)).trans hx426_1; replace p426 := eq_true p426; replace q426 := eq_true q426) | ((with_reducible refine gate_callee (f := 77) rfl ?_); refine goesL_ (some 37) rfl rfl Tryd.func77 (by kernel_rfl) rfl #[.int .i64 ((rd_T87 l0 x6_2).f1)] rfl mp_ ?_; (with_reducible refine (augurref03_small.calls ((rd_T87 l0 x6_2).f1) false _ A9.out).mono ?_); rintro e w' ⟨rfl, ⟨nd, rfl⟩⟩; refine ⟨_, rfl, ?_⟩))
          go_ret2
          exact ⟨_, er_, by first | exact Kd.S_nil _ _ _ _ _ | exact Kd.N_nil _ _ _ _ _ | exact Kd.V_nil _ _ _ _ _ | exact Kd.Q_nil _ _ _ _ _ | exact Kd.R_nil _ _ _ _ _, hb_⟩
        ·replace c10 := Bool.eq_false_iff.mpr c10
         subst c10
         have H1 : (some (([] : List (List (S87))), 30)) = some (r1, r2) := by rw [if_neg (show ¬ (false = true) by decide)] at H; exact H
         clear H
         have H := H1
         clear H1
         simp only [Option.some.injEq, Prod.mk.injEq] at H
         obtain ⟨rfl, rfl⟩ := H
         have p424 : 0 ≤ (x6_2 : Int) := of_decide_eq_true as_
         have q424 : x6_2 < (l0.length : Int) := of_decide_eq_true as_
         obtain ⟨ad424, e424, hx424_0, hx424_1⟩ := at_T87 HR0.out x6_2 p424 q424
         cases e424
         replace hx424_0 := (HB.out.cell (World.block_lt_of_cell? w _ hx424_0)).trans hx424_0
         replace hx424_1 := (HB.out.cell (World.block_lt_of_cell? w _ hx424_1)).trans hx424_1
         replace p424 := eq_true p424
         replace q424 := eq_true q424
         go_wp2_with (first | ((with_reducible refine gate_callee (f := 77) rfl ?_); refine goesL_ (some 31) rfl rfl Tryd.func77 (by kernel_rfl) rfl #[.int .i64 ((rd_T87 l0 x6_2).f0)] rfl mp_ ?_; (with_reducible refine (augurref03_small.calls ((rd_T87 l0 x6_2).f0) false _ A8.out).mono ?_); rintro e w' ⟨rfl, ⟨nd, rfl⟩⟩; refine ⟨_, rfl, ?_⟩; have p426 : 0 ≤ (x6_2 : Int) := of_decide_eq_true as_; have q426 : x6_2 < (l0.length : Int) := of_decide_eq_true as_; obtain ⟨ad426, e426, hx426_0, hx426_1⟩ := at_T87 HR0.out x6_2 p426 q426; obtain rfl : ad424 = ad426 := (by injection e426); replace hx426_0 := (HB.out.cell (World.block_lt_of_cell? w _ hx426_0)).trans hx426_0; replace hx426_1 := (HB.out.cell (World.block_lt_of_cell? w _ hx426_1)).trans hx426_1; replace p426 := eq_true p426; replace q426 := eq_true q426) | ((with_reducible refine gate_callee (f := 77) rfl ?_); refine goesL_ (some 37) rfl rfl Tryd.func77 (by kernel_rfl) rfl #[.int .i64 ((rd_T87 l0 x6_2).f1)] rfl mp_ ?_; (with_reducible refine (augurref03_small.calls ((rd_T87 l0 x6_2).f1) t427 _ A9.out).mono ?_); rintro e w' ⟨rfl, ⟨nd, rfl⟩⟩; refine ⟨_, rfl, ?_⟩))
         go_ret2
         exact ⟨_, er_, by first | exact Kd.S_nil _ _ _ _ _ | exact Kd.N_nil _ _ _ _ _ | exact Kd.V_nil _ _ _ _ _ | exact Kd.Q_nil _ _ _ _ _ | exact Kd.R_nil _ _ _ _ _, hb_⟩
       ·rw [if_neg c7] at H
        exact absurd H (by simp)
      ·rw [if_neg c6] at H
       have c6b0 : decide (x6_2 < (l0.length : Int)) = false := decide_eq_false c6
       clear c6
       have H' := Aside0.mk H
       clear H
       go_wp2
       go_loopg [9, 10] k2 (fun kq v9 v10 w' => ∃ (x9_3 : List (List (S87))) (x10_3 : Int), v10 = .int .i64 x10_3 ∧ Aside0 (augurref03_Turns.l1 kq l0 a1 x9_3 x10_3 = some (r1, r2)) ∧ Aside0 (kq ≤ k2) ∧ Aside0 (Kd.S (Kd.slice 87 k87) 37 w' w.heap.size (fun _ => True) v9 x9_3) ∧ Aside0 (Below w.heap.size w w'))
       case atStart => exact ⟨(([] : List (List (S87)))), (0), eqx_, H', ⟨Nat.le_refl _⟩, ⟨by first | exact Kd.S_nil _ _ _ _ _ | exact Kd.N_nil _ _ _ _ _ | exact Kd.V_nil _ _ _ _ _ | exact Kd.Q_nil _ _ _ _ _ | exact Kd.R_nil _ _ _ _ _⟩, ⟨hb_⟩⟩
       case round =>
        clear H'
        try clear c1
        try clear p2
        try clear c4
        try clear c4b0
        try clear p4
        try clear q4
        try clear hx4
        try clear c5
        try clear c6
        try clear c6b0
        try clear p6
        try clear c7
        try clear c7b0
        try clear c10
        try clear c11
        try clear hx424_0
        try clear hx424_1
        try clear hx426_0
        try clear hx426_1
        try clear p2
        try clear p424
        try clear p426
        try clear q424
        try clear q426
        obtain ⟨x9_3, x10_3, rfl, HA, HK3, HO_9, HB⟩ := hrel
        cases gk with
        | zero => exact absurd HA.out (by simp [augurref03_Turns.l1])
        | succ k3 =>
         have H := HA.out
         clear HA
         simp only [augurref03_Turns.l1] at H
         by_cases c12 : x10_3 < a1
         ·rw [if_pos c12] at H
          have c12b0 : decide (x10_3 < a1) = true := decide_eq_true c12
          clear c12
          have H' := Aside0.mk H
          clear H
          go_wp2
          go_loopg [11, 12] k3 (fun kq v11 v12 w' => ∃ (x11_4 : List (S87)) (x12_4 : Int), v12 = .int .i64 x12_4 ∧ Aside0 (augurref03_Turns.l2 kq l0 a1 x9_3 x10_3 x11_4 x12_4 = some (r1, r2)) ∧ Aside0 (kq ≤ k3) ∧ Aside0 (Kd.S (Kd.slice 87 k87) 37 w' w.heap.size (fun k_ => some k_ ≠ (v11 : Value).ownBlock) u9 x9_3) ∧ Aside0 (Kd.R k87 87 w' w.heap.size (fun _ => True) v11 x11_4) ∧ Aside0 (Below w.heap.size w w'))
          case atStart => exact ⟨(([] : List (S87))), (0), eqx_, H', ⟨Nat.le_refl _⟩, ⟨by (with_reducible repeat (first | apply Kd.S_alloc | apply Kd.S_drewN | apply Kd.S_drew)); exact Kd.S_mono HO_9.out (fun _ hk => (by simp [Value.ownBlock]))⟩, ⟨nl_⟩, ⟨hb_⟩⟩
          case round =>
           clear H'
           try clear c1
           try clear p2
           try clear c4
           try clear c4b0
           try clear p4
           try clear q4
           try clear hx4
           try clear c5
           try clear c6
           try clear c6b0
           try clear p6
           try clear c7
           try clear c7b0
           try clear c10
           try clear c11
           try clear c12
           try clear c12b0
           try clear hx424_0
           try clear hx424_1
           try clear hx426_0
           try clear hx426_1
           try clear p2
           try clear p4
           try clear p424
           try clear p426
           try clear p6
           try clear q4
           try clear q424
           try clear q426
           obtain ⟨x11_4, x12_4, rfl, HA, HK4, HO_9, HO_11, HB⟩ := hrel
           cases gk with
           | zero => exact absurd HA.out (by simp [augurref03_Turns.l2])
           | succ k4 =>
            have H := HA.out
            clear HA
            simp only [augurref03_Turns.l2] at H
            by_cases c13 : x12_4 < (l0.length : Int)
            ·rw [if_pos c13] at H
             have c13b0 : decide (x12_4 < (l0.length : Int)) = true := decide_eq_true c13
             clear c13
             by_cases c14 : x10_3 > 0
             ·rw [if_pos c14] at H
              have c14b0 : decide (0 < x10_3) = true := decide_eq_true c14
              clear c14
              obtain ⟨ji15, hji15⟩ : ∃ j_ : Int, (wrap64 (x10_3 - 1)) = j_ := ⟨_, rfl⟩
              replace H : (if 0 ≤ (ji15) then (if (ji15) < (x9_3.length : Int) then (if 0 ≤ x12_4 then (if x12_4 < ((rd_L4 x9_3 (ji15)).length : Int) then ((augurref03_Step.f k4 ((rd_T87 (rd_L4 x9_3 (ji15)) x12_4).f0) ((rd_T87 (rd_L4 x9_3 (ji15)) x12_4).f1) ((rd_T87 l0 x12_4).f0) ((rd_T87 l0 x12_4).f1)).bind fun bt432 => (if x11_4.length < 8796093022208 then (augurref03_Turns.l2 k4 l0 a1 x9_3 x10_3 (x11_4 ++ [(⟨bt432.1, bt432.2⟩ : S87)]) (wrap64 (x12_4 + 1))) else (none))) else (none)) else (none)) else (none)) else (none)) = some (r1, r2) := by first | (rw [hji15] at H; exact H) | (simp only [hji15] at H ⊢; exact H)
              have hji15w : (IntKind.i64.wrap (x10_3 - 1)) = ji15 := (i64_w _).trans hji15
              by_cases c16 : 0 ≤ (ji15)
              ·rw [if_pos c16] at H
               have c16b0 : decide (0 ≤ (ji15)) = true := decide_eq_true c16
               clear c16
               by_cases c17 : (ji15) < (x9_3.length : Int)
               ·rw [if_pos c17] at H
                have c17b0 : decide ((ji15) < (x9_3.length : Int)) = true := decide_eq_true c17
                clear c17
                by_cases c18 : 0 ≤ x12_4
                ·rw [if_pos c18] at H
                 have c18b0 : decide (0 ≤ x12_4) = true := decide_eq_true c18
                 clear c18
                 by_cases c19 : x12_4 < ((rd_L4 x9_3 (ji15)).length : Int)
                 ·rw [if_pos c19] at H
                  have c19b0 : decide (x12_4 < ((rd_L4 x9_3 (ji15)).length : Int)) = true := decide_eq_true c19
                  clear c19
                  replace H := Option.bind_eq_some_iff.mp H
                  obtain ⟨⟨t432, t433⟩, A200, H⟩ := H
                  replace H : (if x11_4.length < 8796093022208 then (augurref03_Turns.l2 k4 l0 a1 x9_3 x10_3 (x11_4 ++ [(⟨t432, t433⟩ : S87)]) (wrap64 (x12_4 + 1))) else (none)) = some (r1, r2) := H
                  have A20 := Aside0.mk A200
                  clear A200
                  by_cases c21 : x11_4.length < 8796093022208
                  ·rw [if_pos c21] at H
                   have LMc21 := Aside0.mk c21
                   clear c21
                   obtain ⟨y434, hy434⟩ : ∃ y_ : List (S87), y_ = (x11_4 ++ [(⟨t432, t433⟩ : S87)]) := ⟨_, rfl⟩
                   replace H : (augurref03_Turns.l2 k4 l0 a1 x9_3 x10_3 y434 (wrap64 (x12_4 + 1))) = some (r1, r2) := rh_ hy434 H
                   have Ny434 := Aside0.mk hy434
                   clear hy434
                   have H' := Aside0.mk H
                   clear H
                   try go_wp2_with (first | ((with_reducible refine gate_dst (N := 13) rfl ?_); refine box_event ?hg (N := 13) ?hd (cs := #[.int .i64 0, .int .i64 0]) (t := 87) ?hr ?_; (case hd => rfl); (case hg => rfl); (case hr => first | (go_simp; done) | (go_simp; rfl)); intro gb428 hg w22 hbox hb; have n0_ := Aside0.mk (Kd.S_below (Kd.S_elderB (sk2_ HO_9.out) gb428 (Nat.le_of_eq hg.symm)) hb); have n1_ := Aside0.mk (Kd.R_below (Kd.R_elderB (rk_ HO_11.out) gb428 (Nat.le_of_eq hg.symm)) hb); have n2_ := Aside0.mk (below_step hb_ hb); have n3_ := Aside0.mk (hbox); have n4_ := Aside0.mk ((by rw [hg]; exact (below_size hb_) : w.heap.size ≤ gb428)); have n5_ := Aside0.mk ((by rw [hg]; exact (below_size hb_) : w.heap.size ≤ gb428)); clear HO_9; clear HO_11; clear HB; have HO_9 := n0_; have HO_11 := n1_; have HB := n2_; have BK428 := n3_; have GW428 := n4_; have GE428 := n5_; clear n0_ n1_ n2_ n3_ n4_ n5_; clear hb hbox hg; have hcz23_0 : w22.cell? ⟨gb428, 0, none⟩ = some (.int .i64 0) := (blk_cell BK428.out 0).trans rfl; have hcz23_1 : w22.cell? ⟨gb428, 1, none⟩ = some (.int .i64 0) := (blk_cell BK428.out 1).trans rfl; have hfz23_0 := blk_frozen BK428.out 0; have hfz23_1 := blk_frozen BK428.out 1))
                   have n0_ : Aside0 (Kd.S (Kd.slice 87 k87) 37 ((w22.setCell ⟨gb428, 0, none⟩ (.int .i64 16384)).setCell ⟨gb428, 1, none⟩ (.int .i64 0)) w.heap.size (fun k_ => some k_ ≠ (u11 : Value).ownBlock ∧ k_ ≠ gb428) u9 x9_3) := ⟨by (with_reducible repeat (first | apply Kd.S_alloc | apply Kd.S_drewN | apply Kd.S_drew)); exact Kd.S_mono (Kd.S_far (p := ⟨gb428, 1, none⟩) (Kd.S_far (p := ⟨gb428, 0, none⟩) (Kd.S_mono HO_9.out (fun k_ hk => (⟨hk, hk.2⟩ : _ ∧ k_ ≠ gb428))) (fun _ hk => hk.2) (.int .i64 16384)) (fun _ hk => hk.2) (.int .i64 0)) (fun _ hk => ⟨hk.1.1, hk.1.2⟩)⟩
                   have n1_ : Aside0 (Kd.R k87 87 ((w22.setCell ⟨gb428, 0, none⟩ (.int .i64 16384)).setCell ⟨gb428, 1, none⟩ (.int .i64 0)) w.heap.size (fun k_ => k_ ≠ gb428) u11 x11_4) := ⟨by (with_reducible repeat (first | apply Kd.R_alloc | apply Kd.R_drewN | apply Kd.R_drew)); exact Kd.R_mono (Kd.R_far (p := ⟨gb428, 1, none⟩) (Kd.R_far (p := ⟨gb428, 0, none⟩) (Kd.R_mono HO_11.out (fun k_ hk => (⟨hk, hk.2⟩ : _ ∧ k_ ≠ gb428))) (fun _ hk => hk.2) (.int .i64 16384)) (fun _ hk => hk.2) (.int .i64 0)) (fun _ hk => hk.1.2)⟩
                   have n2_ : Aside0 (((w22.setCell ⟨gb428, 0, none⟩ (.int .i64 16384)).setCell ⟨gb428, 1, none⟩ (.int .i64 0)).heap[gb428]? = some (.cells #[.int .i64 16384, .int .i64 0] 87 (0, 0))) := ⟨by (with_reducible repeat (first | refine blk_drewN ?_ _ | refine blk_drew ?_ | refine blk_alloc ?_ _)); refine blk_put (cs := #[.int .i64 16384, .int .i64 0]) ?_ 1 _ rfl; (with_reducible repeat (first | refine blk_drewN ?_ _ | refine blk_drew ?_ | refine blk_alloc ?_ _)); refine blk_put (cs := #[.int .i64 0, .int .i64 0]) ?_ 0 _ rfl; (with_reducible repeat (first | refine blk_drewN ?_ _ | refine blk_drew ?_ | refine blk_alloc ?_ _)); exact BK428.out⟩
                   have n3_ : Aside0 (Below w.heap.size w ((w22.setCell ⟨gb428, 0, none⟩ (.int .i64 16384)).setCell ⟨gb428, 1, none⟩ (.int .i64 0))) := ⟨hs_ GE428.out⟩
                   (try clear HO_9)
                   (try clear HO_11)
                   (try clear BK428)
                   (try clear HB)
                   generalize ((w22.setCell ⟨gb428, 0, none⟩ (.int .i64 16384)).setCell ⟨gb428, 1, none⟩ (.int .i64 0)) = w24 at n0_ n1_ n2_ n3_ ⊢
                   have HO_9 := n0_
                   have HO_11 := n1_
                   have BK428 := n2_
                   have HB := n3_
                   clear n0_ n1_ n2_ n3_
                   have n0_ := Aside0.mk (Kd.S_drew HO_9.out)
                   have n1_ := Aside0.mk (Kd.R_drew HO_11.out)
                   have n2_ := Aside0.mk (blk_drew BK428.out)
                   have n3_ := Aside0.mk (below_drew1 HB.out)
                   clear HO_9
                   clear HO_11
                   clear BK428
                   clear HB
                   have HO_9 := n0_
                   have HO_11 := n1_
                   have BK428 := n2_
                   have HB := n3_
                   clear n0_ n1_ n2_ n3_
                   obtain ⟨Ao26, co26, eo26⟩ := Kd.S_slice HO_9.out
                   (first | subst eo26 | (injection eo26 with f1_ f2_ f3_; have f4_ := f1_.symm; have f5_ := f3_.symm; clear f1_ f2_ f3_; subst f4_; subst f5_))
                   have p429 : 0 ≤ ((ji15) : Int) := of_decide_eq_true as_
                   have q429 : (ji15) < (x9_3.length : Int) := of_decide_eq_true as_
                   obtain ⟨ad429, A429_0, c429_0, e429, hx429_0, hl429_0, hi429_0⟩ := at_L4 (Kd.S_reads' HO_9.out).2.2 (ji15) p429 q429
                   cases e429
                   obtain ⟨ce429, hce429, hMe429, hcc429⟩ := Kd.S_get HO_9.out [] (ji15) p429 (by first | exact q429 | exact of_decide_eq_true as_ | (have e_ := (Kd.S_reads' HO_9.out).1; omega))
                   obtain ⟨ve429_0, rfl, ge429_0⟩ := hMe429
                   have hv429_0 := hcc429 0 _ rfl
                   rw [Nat.add_zero, show ((Kd.slice 87 k87)).sz = 1 from rfl, Nat.mul_one] at hv429_0
                   replace hv429_0 := Option.some.inj (hv429_0.symm.trans hx429_0)
                   rw [hv429_0] at ge429_0
                   have HL429_0 := Aside0.mk (show Kd.R k87 87 _ _ _ _ (rd_L4 x9_3 (ji15)) from ge429_0)
                   clear hv429_0 ge429_0
                   clear hcc429 hce429
                   have HR429_0 := Aside0.mk hi429_0
                   have HC429_0 := Aside0.mk hl429_0
                   clear hi429_0 hl429_0
                   replace p429 := eq_true p429
                   replace q429 := eq_true q429
                   have p430 : 0 ≤ (x12_4 : Int) := of_decide_eq_true as_
                   have q430 : x12_4 < ((rd_L4 x9_3 (ji15)).length : Int) := of_decide_eq_true as_
                   obtain ⟨ad430, e430, hx430_0, hx430_1⟩ := at_T87 (by repeat (first | (with_reducible exact HR429_0.out) | (with_reducible refine Kd.C_alloc ?_ _) | (with_reducible refine Kd.C_drewN ?_ _) | (with_reducible refine Kd.C_drew ?_) | exact HR429_0.out)) x12_4 p430 q430
                   cases e430
                   replace p430 := eq_true p430
                   replace q430 := eq_true q430
                   have p431 : 0 ≤ (x12_4 : Int) := of_decide_eq_true as_
                   have q431 : x12_4 < (l0.length : Int) := of_decide_eq_true as_
                   obtain ⟨ad431, e431, hx431_0, hx431_1⟩ := at_T87 HR0.out x12_4 p431 q431
                   have hw431_1 := hx431_1
                   have hw431_0 := hx431_0
                   cases e431
                   replace hx431_0 := (HB.out.cell (World.block_lt_of_cell? w _ hx431_0)).trans hx431_0
                   replace hx431_1 := (HB.out.cell (World.block_lt_of_cell? w _ hx431_1)).trans hx431_1
                   replace p431 := eq_true p431
                   replace q431 := eq_true q431
                   refine start_ (n := 14) (S := fun w' => w'.cell? (ad429.add ((ji15)).toNat) = some (.slice (some ad430) (rd_L4 x9_3 (ji15)).length c429_0) ∧ w'.cell? (ad430.add ((x12_4).toNat * 2)) = some (.int .i64 ((rd_T87 (rd_L4 x9_3 (ji15)) x12_4).f0)) ∧ w'.cell? ⟨(ad430.add ((x12_4).toNat * 2)).block, (ad430.add ((x12_4).toNat * 2)).off + 1, none⟩ = some (.int .i64 ((rd_T87 (rd_L4 x9_3 (ji15)) x12_4).f1)) ∧ w'.cell? (ad431.add ((x12_4).toNat * 2)) = some (.int .i64 ((rd_T87 l0 x12_4).f0)) ∧ w'.cell? ⟨(ad431.add ((x12_4).toNat * 2)).block, (ad431.add ((x12_4).toNat * 2)).off + 1, none⟩ = some (.int .i64 ((rd_T87 l0 x12_4).f1))) (ds := []) #[false, false, false, false, false, false, false, false, false, false, false, false, false, false] (by kernel_rfl) rfl rfl ⟨hx429_0, hx430_0, hx430_1, ((HB.out.cell (World.block_lt_of_cell? w _ hw431_0)).trans hw431_0), ((HB.out.cell (World.block_lt_of_cell? w _ hw431_1)).trans hw431_1)⟩ (fun hHeld => ?_); refine with_tabW augurref03_Turns.tab20 augurref03_Turns.bits20 (fun HT_ HW_ => ?_)
                   generalize w24.drew = w25 at HO_9 HO_11 BK428 HB HL429_0 HR429_0 hx429_0 hx430_0 hx430_1 hx431_0 hx431_1 hHeld ⊢
                   refine puT_ 0 58 ?_
                   refine puT_ 1 59 ?_
                   refine puT_ 2 60 ?_
                   refine puT_ 3 61 ?_
                   refine puT_ 5 63 ?_
                   refine puT_ 8 66 ?_
                   refine puT_ 9 67 ?_
                   refine puT_ 10 68 ?_
                   refine tkT_ 4 62 hHeld ?_
                   refine puT_ 6 64 ?_
                   refine tkT_ 7 65 hHeld ?_
                   refine tkT_ 11 69 hHeld ?_
                   refine onT_ 12 (some 70) (fun K hK => ?_)
                   refine goes_ Tryd.func78 (by kernel_rfl) rfl #[.agg #[.int .i64 ((rd_T87 (rd_L4 x9_3 (ji15)) x12_4).f0), .int .i64 ((rd_T87 (rd_L4 x9_3 (ji15)) x12_4).f1)], .agg #[.int .i64 ((rd_T87 l0 x12_4).f0), .int .i64 ((rd_T87 l0 x12_4).f1)]] (by rfl) rfl rfl (by (try simp only [List.map_toArray, List.map_cons, List.map_nil]); first | done | (simp only [hji15]; rfl) | rfl | (simp only [List.length_drop, List.length_take]; rfl)) ?_
                   with_reducible refine (augurref03_Step.calls k4 ((rd_T87 (rd_L4 x9_3 (ji15)) x12_4).f0) ((rd_T87 (rd_L4 x9_3 (ji15)) x12_4).f1) ((rd_T87 l0 x12_4).f0) ((rd_T87 l0 x12_4).f1) t432 t433 _ A20.out).mono ?_
                   rintro e w27 ⟨rfl, hb⟩
                   have HS0_ := (hb.cell (World.block_lt_of_cell? _ _ (hHeld.1))).trans (hHeld.1)
                   have HS1_ := (hb.cell (World.block_lt_of_cell? _ _ (hHeld.2.1))).trans (hHeld.2.1)
                   have HS2_ := (hb.cell (World.block_lt_of_cell? _ _ (hHeld.2.2.1))).trans (hHeld.2.2.1)
                   refine ⟨_, rfl, ?_⟩
                   have n0_ := Aside0.mk (Kd.S_below (sk2_ HO_9.out) hb)
                   have n1_ := Aside0.mk (Kd.R_below (rk_ HO_11.out) hb)
                   have n2_ := Aside0.mk (Kd.R_below (rk_ HL429_0.out) hb)
                   have n3_ := Aside0.mk (blk_below (g := gb428) (o := .cells #[.int .i64 16384, .int .i64 0] 87 (0, 0)) (bk_ BK428.out) hb)
                   have n4_ := Aside0.mk (Kd.C_below (by repeat (first | (with_reducible exact HR429_0.out) | (with_reducible refine Kd.C_alloc ?_ _) | (with_reducible refine Kd.C_drewN ?_ _) | (with_reducible refine Kd.C_drew ?_) | exact HR429_0.out)) hb)
                   have n5_ := Aside0.mk (below_step (hs_ GE428.out) hb)
                   clear HO_9
                   clear HO_11
                   clear HL429_0
                   clear BK428
                   clear HR429_0
                   clear HB
                   have HO_9 := n0_
                   have HO_11 := n1_
                   have HL429_0 := n2_
                   have BK428 := n3_
                   have HR429_0 := n4_
                   have HB := n5_
                   clear n0_ n1_ n2_ n3_ n4_ n5_
                   (try clear hb)
                   (try clear hb2)
                   (try clear hk)
                   (try clear hi)
                   refine hK.out _ _ ⟨HS0_, HS1_, HS2_, ((HB.out.cell (World.block_lt_of_cell? w _ hw431_0)).trans hw431_0), ((HB.out.cell (World.block_lt_of_cell? w _ hw431_1)).trans hw431_1)⟩ (fun hHeld => ?_)
                   clear hK K
                   refine nm_ 70 ?_
                   refine onT_ 13 none (fun K hK => ?_)
                   have hs28 : w27.cell? ⟨gb428, 0, none⟩ = some (.int .i64 16384) := (blk_cell BK428.out 0).trans rfl
                   have hfs28 := blk_frozen BK428.out 0
                   have hs29 : w27.cell? ⟨gb428, 1, none⟩ = some (.int .i64 0) := (blk_cell BK428.out 1).trans rfl
                   have hfs29 := blk_frozen BK428.out 1
                   refine skip_ (w1 := ?_) (by rfl) rfl ?_ ?_
                   rotate_left
                   ·go_simp
                    rfl
                   refine hK.out _ _ ⟨((cell_far (p := ⟨gb428, _, none⟩) (by first | exact Kd.own_blk (Kd.S_away HO_9.out (fun _ hk => hk.2)) | (rw [add_block]; exact Kd.own_blk (Kd.S_away HO_9.out (fun _ hk => hk.2))) | (show (Addr.add _ _).block ≠ _; rw [add_block]; exact Kd.own_blk (Kd.S_away HO_9.out (fun _ hk => hk.2))) | (dsimp only; exact Kd.own_blk (Kd.S_away HO_9.out (fun _ hk => hk.2)))) _).trans (((cell_far (p := ⟨gb428, _, none⟩) (by first | exact Kd.own_blk (Kd.S_away HO_9.out (fun _ hk => hk.2)) | (rw [add_block]; exact Kd.own_blk (Kd.S_away HO_9.out (fun _ hk => hk.2))) | (show (Addr.add _ _).block ≠ _; rw [add_block]; exact Kd.own_blk (Kd.S_away HO_9.out (fun _ hk => hk.2))) | (dsimp only; exact Kd.own_blk (Kd.S_away HO_9.out (fun _ hk => hk.2)))) _).trans (hHeld.1)))), ((cell_far (p := ⟨gb428, _, none⟩) (by first | exact Kd.own_blk (Kd.R_away HL429_0.out (fun _ hk => hk.1.2)) | (rw [add_block]; exact Kd.own_blk (Kd.R_away HL429_0.out (fun _ hk => hk.1.2))) | (show (Addr.add _ _).block ≠ _; rw [add_block]; exact Kd.own_blk (Kd.R_away HL429_0.out (fun _ hk => hk.1.2))) | (dsimp only; exact Kd.own_blk (Kd.R_away HL429_0.out (fun _ hk => hk.1.2)))) _).trans (((cell_far (p := ⟨gb428, _, none⟩) (by first | exact Kd.own_blk (Kd.R_away HL429_0.out (fun _ hk => hk.1.2)) | (rw [add_block]; exact Kd.own_blk (Kd.R_away HL429_0.out (fun _ hk => hk.1.2))) | (show (Addr.add _ _).block ≠ _; rw [add_block]; exact Kd.own_blk (Kd.R_away HL429_0.out (fun _ hk => hk.1.2))) | (dsimp only; exact Kd.own_blk (Kd.R_away HL429_0.out (fun _ hk => hk.1.2)))) _).trans (hHeld.2.1)))), ((cell_far (p := ⟨gb428, _, none⟩) (by first | exact Kd.own_blk (Kd.R_away HL429_0.out (fun _ hk => hk.1.2)) | (rw [add_block]; exact Kd.own_blk (Kd.R_away HL429_0.out (fun _ hk => hk.1.2))) | (show (Addr.add _ _).block ≠ _; rw [add_block]; exact Kd.own_blk (Kd.R_away HL429_0.out (fun _ hk => hk.1.2))) | (dsimp only; exact Kd.own_blk (Kd.R_away HL429_0.out (fun _ hk => hk.1.2)))) _).trans (((cell_far (p := ⟨gb428, _, none⟩) (by first | exact Kd.own_blk (Kd.R_away HL429_0.out (fun _ hk => hk.1.2)) | (rw [add_block]; exact Kd.own_blk (Kd.R_away HL429_0.out (fun _ hk => hk.1.2))) | (show (Addr.add _ _).block ≠ _; rw [add_block]; exact Kd.own_blk (Kd.R_away HL429_0.out (fun _ hk => hk.1.2))) | (dsimp only; exact Kd.own_blk (Kd.R_away HL429_0.out (fun _ hk => hk.1.2)))) _).trans (hHeld.2.2.1)))), ((cell_far (p := ⟨gb428, _, none⟩) (by first | exact Nat.ne_of_lt (Nat.lt_of_lt_of_le (by have := World.block_lt_of_cell? _ _ hw431_0; first | rwa [add_block] at this | exact this) GW428.out) | (rw [add_block]; exact Nat.ne_of_lt (Nat.lt_of_lt_of_le (by have := World.block_lt_of_cell? _ _ hw431_0; first | rwa [add_block] at this | exact this) GW428.out)) | (show (Addr.add _ _).block ≠ _; rw [add_block]; exact Nat.ne_of_lt (Nat.lt_of_lt_of_le (by have := World.block_lt_of_cell? _ _ hw431_0; first | rwa [add_block] at this | exact this) GW428.out)) | (dsimp only; exact Nat.ne_of_lt (Nat.lt_of_lt_of_le (by have := World.block_lt_of_cell? _ _ hw431_0; first | rwa [add_block] at this | exact this) GW428.out))) _).trans (((cell_far (p := ⟨gb428, _, none⟩) (by first | exact Nat.ne_of_lt (Nat.lt_of_lt_of_le (by have := World.block_lt_of_cell? _ _ hw431_0; first | rwa [add_block] at this | exact this) GW428.out) | (rw [add_block]; exact Nat.ne_of_lt (Nat.lt_of_lt_of_le (by have := World.block_lt_of_cell? _ _ hw431_0; first | rwa [add_block] at this | exact this) GW428.out)) | (show (Addr.add _ _).block ≠ _; rw [add_block]; exact Nat.ne_of_lt (Nat.lt_of_lt_of_le (by have := World.block_lt_of_cell? _ _ hw431_0; first | rwa [add_block] at this | exact this) GW428.out)) | (dsimp only; exact Nat.ne_of_lt (Nat.lt_of_lt_of_le (by have := World.block_lt_of_cell? _ _ hw431_0; first | rwa [add_block] at this | exact this) GW428.out))) _).trans (hHeld.2.2.2.1)))), ((cell_far (p := ⟨gb428, _, none⟩) (by first | exact Nat.ne_of_lt (Nat.lt_of_lt_of_le (by have := World.block_lt_of_cell? _ _ hw431_1; first | rwa [add_block] at this | exact this) GW428.out) | (rw [add_block]; exact Nat.ne_of_lt (Nat.lt_of_lt_of_le (by have := World.block_lt_of_cell? _ _ hw431_1; first | rwa [add_block] at this | exact this) GW428.out)) | (show (Addr.add _ _).block ≠ _; rw [add_block]; exact Nat.ne_of_lt (Nat.lt_of_lt_of_le (by have := World.block_lt_of_cell? _ _ hw431_1; first | rwa [add_block] at this | exact this) GW428.out)) | (dsimp only; exact Nat.ne_of_lt (Nat.lt_of_lt_of_le (by have := World.block_lt_of_cell? _ _ hw431_1; first | rwa [add_block] at this | exact this) GW428.out))) _).trans (((cell_far (p := ⟨gb428, _, none⟩) (by first | exact Nat.ne_of_lt (Nat.lt_of_lt_of_le (by have := World.block_lt_of_cell? _ _ hw431_1; first | rwa [add_block] at this | exact this) GW428.out) | (rw [add_block]; exact Nat.ne_of_lt (Nat.lt_of_lt_of_le (by have := World.block_lt_of_cell? _ _ hw431_1; first | rwa [add_block] at this | exact this) GW428.out)) | (show (Addr.add _ _).block ≠ _; rw [add_block]; exact Nat.ne_of_lt (Nat.lt_of_lt_of_le (by have := World.block_lt_of_cell? _ _ hw431_1; first | rwa [add_block] at this | exact this) GW428.out)) | (dsimp only; exact Nat.ne_of_lt (Nat.lt_of_lt_of_le (by have := World.block_lt_of_cell? _ _ hw431_1; first | rwa [add_block] at this | exact this) GW428.out))) _).trans (hHeld.2.2.2.2))))⟩ (fun hHeld => ?_)
                   clear hK K
                   refine dnT_ ?_
                   have hcz30_0 : w27.cell? ⟨gb428, 0, none⟩ = some (.int .i64 16384) := (blk_cell BK428.out 0).trans rfl
                   have hcz30_1 : w27.cell? ⟨gb428, 1, none⟩ = some (.int .i64 0) := (blk_cell BK428.out 1).trans rfl
                   have hfz30_0 := blk_frozen BK428.out 0
                   have hfz30_1 := blk_frozen BK428.out 1
                   try go_wp2_with (first | ((with_reducible refine gate_builtin (b := .append) (xs := #[.tmp 71, .tmp 73]) rfl ?_); at_builtin; refine Kd.R_append k87 (w0 := w) w.heap.size rfl (.tmp 71) (.tmp 73) 37 87 (.agg #[(.int .i64 0), (.int .i64 0)]) 16 rfl Tryd.underlying37 info87 rfl (by decide) (by omega) u11 x11_4 (⟨t432, t433⟩ : S87) [.int .i64 t432, .int .i64 t433] (fun k_ => k_ ≠ gb428) (fun _ => False) rfl (by first | (go_simp; done) | (go_simp; rfl)) ?aP (fun _ hk => hk.elim) ?aF ?aO ?aB ?aS ?aL ?_; (case aP => exact k87_mkM _ _ _ (⟨t432, t433⟩ : S87)); (case aB => exact (hs_ GE428.out)); (case aF => exact (fun k_ hk => Kd.freshB (g := gb428) (o := .cells #[.int .i64 t432, .int .i64 t433] 87 (0, 0)) (by (with_reducible repeat (first | refine blk_drewN ?_ _ | refine blk_drew ?_ | refine blk_alloc ?_ _)); refine blk_put (cs := #[.int .i64 t432, .int .i64 0]) ?_ 1 _ rfl; (with_reducible repeat (first | refine blk_drewN ?_ _ | refine blk_drew ?_ | refine blk_alloc ?_ _)); refine blk_put (cs := #[.int .i64 16384, .int .i64 0]) ?_ 0 _ rfl; (with_reducible repeat (first | refine blk_drewN ?_ _ | refine blk_drew ?_ | refine blk_alloc ?_ _)); exact BK428.out) k_ hk)); (case aO => exact (by (with_reducible repeat (first | apply Kd.R_alloc | apply Kd.R_drewN | apply Kd.R_drew)); exact Kd.R_mono (Kd.R_far (p := ⟨gb428, 1, none⟩) (Kd.R_far (p := ⟨gb428, 0, none⟩) (Kd.R_mono HO_11.out (fun k_ hk => (⟨hk, hk⟩ : _ ∧ k_ ≠ gb428))) (fun _ hk => hk.2) (.int .i64 t432)) (fun _ hk => hk.2) (.int .i64 t433)) (fun _ hk => hk.1))); (case aS => exact (below_size (hs_ GE428.out))); (case aL => have := LMc21.out; omega); intro v435 w31 ho hb hg hat; rw [← Ny434.out] at ho; have n0_ := Aside0.mk (Kd.S_after (ok := (fun k_ => k_ ≠ gb428)) (by (with_reducible repeat (first | apply Kd.S_alloc | apply Kd.S_drewN | apply Kd.S_drew)); exact Kd.S_mono (Kd.S_far (p := ⟨gb428, 1, none⟩) (Kd.S_far (p := ⟨gb428, 0, none⟩) (Kd.S_mono HO_9.out (fun k_ hk => (⟨hk, hk.2⟩ : _ ∧ k_ ≠ gb428))) (fun _ hk => hk.2) (.int .i64 t432)) (fun _ hk => hk.2) (.int .i64 t433)) (fun _ hk => ⟨hk.1.2, hk.1.1⟩)) hg hat); have n1_ := Aside0.mk (blk_grown (g := gb428) (o := .cells #[.int .i64 t432, .int .i64 t433] 87 (0, 0)) (by (with_reducible repeat (first | refine blk_drewN ?_ _ | refine blk_drew ?_ | refine blk_alloc ?_ _)); refine blk_put (cs := #[.int .i64 t432, .int .i64 0]) ?_ 1 _ rfl; (with_reducible repeat (first | refine blk_drewN ?_ _ | refine blk_drew ?_ | refine blk_alloc ?_ _)); refine blk_put (cs := #[.int .i64 16384, .int .i64 0]) ?_ 0 _ rfl; (with_reducible repeat (first | refine blk_drewN ?_ _ | refine blk_drew ?_ | refine blk_alloc ?_ _)); exact BK428.out) hg (Kd.R_away HO_11.out (fun _ hk => hk))); have n2_ := Aside0.mk (Kd.R_after (ok := (fun k_ => some k_ ≠ (.slice (some ad429) x9_3.length co26 : Value).ownBlock ∧ k_ ≠ gb428)) (by (with_reducible repeat (first | apply Kd.R_alloc | apply Kd.R_drewN | apply Kd.R_drew)); exact Kd.R_mono (Kd.R_far (p := ⟨gb428, 1, none⟩) (Kd.R_far (p := ⟨gb428, 0, none⟩) (Kd.R_mono HL429_0.out (fun k_ hk => (⟨hk, hk.1.2⟩ : _ ∧ k_ ≠ gb428))) (fun _ hk => hk.2) (.int .i64 t432)) (fun _ hk => hk.2) (.int .i64 t433)) (fun _ hk => ⟨⟨hk.1.2, hk.1.1.2⟩, hk.1.1.1⟩)) hg hat); have n3_ := Aside0.mk (hb); have n4_ := Aside0.mk (ho); clear HO_9; clear BK428; clear HL429_0; clear HB; clear HO_11; have HO_9 := n0_; have BK428 := n1_; have HL429_0 := n2_; have HB := n3_; have HO436 := n4_; clear n0_ n1_ n2_ n3_ n4_; clear ho hb hg hat))
                   go_roundg k4
                   case measure => have := HJ2.out; have := HK2.out; have := HK3.out; have := HK4.out; omega
                   case rel => exact ⟨(y434), (wrap64 (x12_4 + 1)), eqx_, H', ⟨by have := HJ2.out; have := HK2.out; have := HK3.out; have := HK4.out; omega⟩, ⟨by (with_reducible repeat (first | apply Kd.S_alloc | apply Kd.S_drewN | apply Kd.S_drew)); exact Kd.S_mono HO_9.out (fun _ hk => hk.2)⟩, ⟨by (with_reducible repeat (first | apply Kd.R_alloc | apply Kd.R_drewN | apply Kd.R_drew)); exact Kd.R_mono HO436.out (fun _ hk => trivial)⟩, ⟨hs_ GE428.out⟩⟩
                  ·rw [if_neg c21] at H
                   exact absurd H (by simp)
                 ·rw [if_neg c19] at H
                  exact absurd H (by simp)
                ·rw [if_neg c18] at H
                 exact absurd H (by simp)
               ·rw [if_neg c17] at H
                exact absurd H (by simp)
              ·rw [if_neg c16] at H
               exact absurd H (by simp)
             ·rw [if_neg c14] at H
              have c14b0 : decide (0 < x10_3) = false := decide_eq_false c14
              clear c14
              by_cases c32 : x11_4.length < 8796093022208
              ·rw [if_pos c32] at H
               have LMc32 := Aside0.mk c32
               clear c32
               obtain ⟨y437, hy437⟩ : ∃ y_ : List (S87), y_ = (x11_4 ++ [(⟨16384, 0⟩ : S87)]) := ⟨_, rfl⟩
               replace H : (augurref03_Turns.l2 k4 l0 a1 x9_3 x10_3 y437 (wrap64 (x12_4 + 1))) = some (r1, r2) := rh_ hy437 H
               have Ny437 := Aside0.mk hy437
               clear hy437
               have H' := Aside0.mk H
               clear H
               go_wp2_with (first | ((with_reducible refine gate_dst (N := 13) rfl ?_); refine box_event ?hg (N := 13) ?hd (cs := #[.int .i64 0, .int .i64 0]) (t := 87) ?hr ?_; (case hd => rfl); (case hg => rfl); (case hr => first | (go_simp; done) | (go_simp; rfl)); intro gb428 hg w33 hbox hb; have n0_ := Aside0.mk (Kd.S_below (Kd.S_elderB (sk2_ HO_9.out) gb428 (Nat.le_of_eq hg.symm)) hb); have n1_ := Aside0.mk (Kd.R_below (Kd.R_elderB (rk_ HO_11.out) gb428 (Nat.le_of_eq hg.symm)) hb); have n2_ := Aside0.mk (below_step hb_ hb); have n3_ := Aside0.mk (hbox); have n4_ := Aside0.mk ((by rw [hg]; exact (below_size hb_) : w.heap.size ≤ gb428)); have n5_ := Aside0.mk ((by rw [hg]; exact (below_size hb_) : w.heap.size ≤ gb428)); clear HO_9; clear HO_11; clear HB; have HO_9 := n0_; have HO_11 := n1_; have HB := n2_; have BK428 := n3_; have GW428 := n4_; have GE428 := n5_; clear n0_ n1_ n2_ n3_ n4_ n5_; clear hb hbox hg; have hcz34_0 : w33.cell? ⟨gb428, 0, none⟩ = some (.int .i64 0) := (blk_cell BK428.out 0).trans rfl; have hcz34_1 : w33.cell? ⟨gb428, 1, none⟩ = some (.int .i64 0) := (blk_cell BK428.out 1).trans rfl; have hfz34_0 := blk_frozen BK428.out 0; have hfz34_1 := blk_frozen BK428.out 1) | ((with_reducible refine gate_builtin (b := .append) (xs := #[.tmp 71, .tmp 73]) rfl ?_); at_builtin; refine Kd.R_append k87 (w0 := w) w.heap.size rfl (.tmp 71) (.tmp 73) 37 87 (.agg #[(.int .i64 0), (.int .i64 0)]) 16 rfl Tryd.underlying37 info87 rfl (by decide) (by omega) u11 x11_4 (⟨16384, 0⟩ : S87) [.int .i64 16384, .int .i64 0] (fun k_ => k_ ≠ gb428) (fun _ => False) rfl (by first | (go_simp; done) | (go_simp; rfl)) ?aP (fun _ hk => hk.elim) ?aF ?aO ?aB ?aS ?aL ?_; (case aP => exact k87_mkM _ _ _ (⟨16384, 0⟩ : S87)); (case aB => exact (hs_ GE428.out)); (case aF => exact (fun k_ hk => Kd.freshB (g := gb428) (o := .cells #[.int .i64 16384, .int .i64 0] 87 (0, 0)) (by (with_reducible repeat (first | refine blk_drewN ?_ _ | refine blk_drew ?_ | refine blk_alloc ?_ _)); refine blk_put (cs := #[.int .i64 16384, .int .i64 0]) ?_ 1 _ rfl; (with_reducible repeat (first | refine blk_drewN ?_ _ | refine blk_drew ?_ | refine blk_alloc ?_ _)); refine blk_put (cs := #[.int .i64 0, .int .i64 0]) ?_ 0 _ rfl; (with_reducible repeat (first | refine blk_drewN ?_ _ | refine blk_drew ?_ | refine blk_alloc ?_ _)); exact BK428.out) k_ hk)); (case aO => exact (by (with_reducible repeat (first | apply Kd.R_alloc | apply Kd.R_drewN | apply Kd.R_drew)); exact Kd.R_mono (Kd.R_far (p := ⟨gb428, 1, none⟩) (Kd.R_far (p := ⟨gb428, 0, none⟩) (Kd.R_mono HO_11.out (fun k_ hk => (⟨hk, hk.2⟩ : _ ∧ k_ ≠ gb428))) (fun _ hk => hk.2) (.int .i64 16384)) (fun _ hk => hk.2) (.int .i64 0)) (fun _ hk => hk.1.2))); (case aS => exact (below_size (hs_ GE428.out))); (case aL => have := LMc32.out; omega); intro v438 w35 ho hb hg hat; rw [← Ny437.out] at ho; have n0_ := Aside0.mk (Kd.S_after (ok := (fun k_ => k_ ≠ gb428)) (by (with_reducible repeat (first | apply Kd.S_alloc | apply Kd.S_drewN | apply Kd.S_drew)); exact Kd.S_mono (Kd.S_far (p := ⟨gb428, 1, none⟩) (Kd.S_far (p := ⟨gb428, 0, none⟩) (Kd.S_mono HO_9.out (fun k_ hk => (⟨hk, hk.2⟩ : _ ∧ k_ ≠ gb428))) (fun _ hk => hk.2) (.int .i64 16384)) (fun _ hk => hk.2) (.int .i64 0)) (fun _ hk => ⟨hk.1.2, hk.1.1⟩)) hg hat); have n1_ := Aside0.mk (blk_grown (g := gb428) (o := .cells #[.int .i64 16384, .int .i64 0] 87 (0, 0)) (by (with_reducible repeat (first | refine blk_drewN ?_ _ | refine blk_drew ?_ | refine blk_alloc ?_ _)); refine blk_put (cs := #[.int .i64 16384, .int .i64 0]) ?_ 1 _ rfl; (with_reducible repeat (first | refine blk_drewN ?_ _ | refine blk_drew ?_ | refine blk_alloc ?_ _)); refine blk_put (cs := #[.int .i64 0, .int .i64 0]) ?_ 0 _ rfl; (with_reducible repeat (first | refine blk_drewN ?_ _ | refine blk_drew ?_ | refine blk_alloc ?_ _)); exact BK428.out) hg (Kd.R_away HO_11.out (fun _ hk => hk.2))); have n2_ := Aside0.mk (hb); have n3_ := Aside0.mk (ho); clear HO_9; clear BK428; clear HB; clear HO_11; have HO_9 := n0_; have BK428 := n1_; have HB := n2_; have HO439 := n3_; clear n0_ n1_ n2_ n3_; clear ho hb hg hat))
               go_roundg k4
               case measure => have := HJ2.out; have := HK2.out; have := HK3.out; have := HK4.out; omega
               case rel => exact ⟨(y437), (wrap64 (x12_4 + 1)), eqx_, H', ⟨by have := HJ2.out; have := HK2.out; have := HK3.out; have := HK4.out; omega⟩, ⟨by (with_reducible repeat (first | apply Kd.S_alloc | apply Kd.S_drewN | apply Kd.S_drew)); exact Kd.S_mono HO_9.out (fun _ hk => hk.2)⟩, ⟨by (with_reducible repeat (first | apply Kd.R_alloc | apply Kd.R_drewN | apply Kd.R_drew)); exact Kd.R_mono HO439.out (fun _ hk => trivial)⟩, ⟨hs_ GE428.out⟩⟩
              ·rw [if_neg c32] at H
               exact absurd H (by simp)
            ·rw [if_neg c13] at H
             have c13b0 : decide (x12_4 < (l0.length : Int)) = false := decide_eq_false c13
             clear c13
             by_cases c36 : x9_3.length < 5864062014805
             ·rw [if_pos c36] at H
              have LMc36 := Aside0.mk c36
              clear c36
              obtain ⟨y440, hy440⟩ : ∃ y_ : List (List (S87)), y_ = (x9_3 ++ [x11_4]) := ⟨_, rfl⟩
              replace H : (augurref03_Turns.l1 k4 l0 a1 y440 (wrap64 (x10_3 + 1))) = some (r1, r2) := rh_ hy440 H
              have Ny440 := Aside0.mk hy440
              clear hy440
              have H' := Aside0.mk H
              clear H
              obtain ⟨Ao38, co38, eo38⟩ := Kd.R_slice HO_11.out
              subst eo38
              go_wp2_with (first | ((with_reducible refine gate_builtin (b := .append) (xs := #[.tmp 75, .tmp 77]) rfl ?_); at_builtin; refine Kd.S_append (Kd.slice 87 k87) (w0 := w) w.heap.size rfl (.tmp 75) (.tmp 77) 43 37 (.slice none 0 0) 24 rfl Tryd.underlying43 info37 rfl (by decide) (by omega) u9 x9_3 x11_4 [.slice Ao38 x11_4.length co38] (fun _ => True) (fun k_ => some k_ = (.slice Ao38 x11_4.length co38 : Value).ownBlock) rfl rfl ?aP (fun k_ hk_ => ((Kd.R_mono (ok' := fun k_ => ((fun _ => True)) k_ ∧ some k_ ≠ (u9 : Value).ownBlock) (Kd.R_apart' (HO_11.out) (Kd.S_typed HO_9.out) (by decide)) (fun k_ hk => ⟨trivial, hk.2⟩))).1 k_ hk_.symm) ?aF ?aO ?aB ?aS ?aL ?_; (case aP => exact Kd.M_row (Kd.R_mono (Kd.R_tight rfl (Kd.R_mono (ok' := fun k_ => ((fun _ => True)) k_ ∧ some k_ ≠ (u9 : Value).ownBlock) (Kd.R_apart' (HO_11.out) (Kd.S_typed HO_9.out) (by decide)) (fun k_ hk => ⟨trivial, hk.2⟩))) (fun _ h_ => h_))); (case aB => exact hb_); (case aF => exact (fun _ _ => trivial)); (case aO => exact (by (with_reducible repeat (first | apply Kd.S_alloc | apply Kd.S_drewN | apply Kd.S_drew)); exact Kd.S_mono HO_9.out (fun k_ hk => ⟨trivial, fun e_ => hk e_⟩))); (case aS => exact (below_size hb_)); (case aL => have := LMc36.out; omega); intro v441 w37 ho hb hg hat; rw [← Ny440.out] at ho; have n0_ := Aside0.mk (hb); have n1_ := Aside0.mk (ho); clear HB; clear HO_9; clear HO_11; have HB := n0_; have HO442 := n1_; clear n0_ n1_; clear ho hb hg hat))
              go_roundg k4
              case measure => have := HJ2.out; have := HK2.out; have := HK3.out; have := HK4.out; omega
              case rel => exact ⟨(y440), (wrap64 (x10_3 + 1)), eqx_, H', ⟨by have := HJ2.out; have := HK2.out; have := HK3.out; have := HK4.out; omega⟩, ⟨sk2_ HO442.out⟩, ⟨hb_⟩⟩
             ·rw [if_neg c36] at H
              exact absurd H (by simp)
         ·rw [if_neg c12] at H
          have c12b0 : decide (x10_3 < a1) = false := decide_eq_false c12
          clear c12
          simp only [Option.some.injEq, Prod.mk.injEq] at H
          obtain ⟨rfl, rfl⟩ := H
          go_wp2
          go_ret2
          exact ⟨_, er_, sk2_ HO_9.out, hb_⟩
end Go.Proofs.YtnioohhiphpplaaDoor.Pplays
