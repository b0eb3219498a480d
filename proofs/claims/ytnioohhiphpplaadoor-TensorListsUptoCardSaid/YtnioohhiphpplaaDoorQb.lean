/- Printed walks: package fix' and the document's functions of one number. -/
import Derived.Test.YtnioohhiphpplaaDoorPplaysx0
import Derived.Test.YtnioohhiphpplaaDoorSq
namespace Go.Proofs.YtnioohhiphpplaaDoor.Pplays
open Go.RowKit Go.Proofs.YtnioohhiphpplaaDoorW.PrintWords Go.Proofs.YtnioohhiphpplaaDoorW.PrintLast Go.Proofs.YtnioohhiphpplaaDoorW.PrintMore
attribute [local go_sem] max2_int min2_int max_two min_two
set_option linter.unusedVariables false
set_option linter.unusedSimpArgs false
def fix_Shift.f (a0 : Int) (a1 : Int) : Option (Int) := if a1 ≤ 0 then (some a0) else (if 0 ≤ (mn a1 62) then (if 0 ≤ (wrap64 ((mn a1 62) - 1)) then (some (wrap64 ((a0 / 2 ^ (mn a1 62).toNat) + (Go.bits .and .i64 (shr .i64 a0 (wrap64 ((mn a1 62) - 1))) 1)))) else (none)) else (none))
set_option maxHeartbeats 8000000 in
set_option maxRecDepth 100000 in
theorem fix_Shift.calls (a0 : Int) (a1 : Int) (r : Int) (w : World) (h : fix_Shift.f a0 a1 = some r) :
  Calls Tryd.prog 50 #[.int .i64 a0, .int .i64 a1] w fun e w' => e = .returned (.int .i64 r) ∧ Below w.heap.size w w' := by
 have HB := Aside0.mk (Below.refl w.heap.size w)
 have H : (if a1 ≤ 0 then (some a0) else (if 0 ≤ (mn a1 62) then (if 0 ≤ (wrap64 ((mn a1 62) - 1)) then (some (wrap64 ((a0 / 2 ^ (mn a1 62).toNat) + (Go.bits .and .i64 (shr .i64 a0 (wrap64 ((mn a1 62) - 1))) 1)))) else (none)) else (none))) = some r := h
 clear h
 by_cases c3 : a1 ≤ 0
 ·rw [if_pos c3] at H
  have c3b0 : decide (a1 ≤ 0) = true := decide_eq_true c3
  clear c3
  obtain rfl := Option.some.inj H
  go_enter Tryd.func50, Tryd.ntmps50
  go_wp2
  repeat (go_quiet (fail); try go_wp2)
  go_ret
  exact ⟨er_, hb_⟩
 ·rw [if_neg c3] at H
  have c3b0 : decide (a1 ≤ 0) = false := decide_eq_false c3
  clear c3
  obtain ⟨ji4, hji4⟩ : ∃ j_ : Int, (mn a1 62) = j_ := ⟨_, rfl⟩
  replace H : (if 0 ≤ (ji4) then (if 0 ≤ (wrap64 ((ji4) - 1)) then (some (wrap64 ((a0 / 2 ^ (ji4).toNat) + (Go.bits .and .i64 (shr .i64 a0 (wrap64 ((ji4) - 1))) 1)))) else (none)) else (none)) = some r := by first | (rw [hji4] at H; exact H) | (simp only [hji4] at H ⊢; exact H)
  (try (have hji4h : ji4 ≤ 62 := by (rw [← hji4]; unfold mn; (repeat' split) <;> omega)))
  (try (have hji4g : ji4 ≤ 64 := by omega))
  have hji4_ : (if 62 < a1 then 62 else a1) = ji4 := hji4
  by_cases c5 : 0 ≤ (ji4)
  ·rw [if_pos c5] at H
   have c5b0 := eq_true c5
   have c5b1 : decide (0 ≤ (ji4)) = true := decide_eq_true c5
   clear c5
   obtain ⟨ji6, hji6⟩ : ∃ j_ : Int, (wrap64 ((ji4) - 1)) = j_ := ⟨_, rfl⟩
   replace H : (if 0 ≤ (ji6) then (some (wrap64 ((a0 / 2 ^ (ji4).toNat) + (Go.bits .and .i64 (shr .i64 a0 (ji6)) 1)))) else (none)) = some r := by first | (rw [hji6] at H; exact H) | (simp only [hji6] at H ⊢; exact H)
   have hji6w : (IntKind.i64.wrap ((ji4) - 1)) = ji6 := (i64_w _).trans hji6
   by_cases c7 : 0 ≤ (ji6)
   ·rw [if_pos c7] at H
    have c7b0 := eq_true c7
    have c7b1 : decide (0 ≤ (ji6)) = true := decide_eq_true c7
    clear c7
    obtain ⟨ji8, hji8⟩ : ∃ j_ : Int, (shr .i64 a0 (ji6)) = j_ := ⟨_, rfl⟩
    replace H : (some (wrap64 ((a0 / 2 ^ (ji4).toNat) + (Go.bits .and .i64 (ji8) 1)))) = some r := by first | (rw [hji8] at H; exact H) | (simp only [hji8] at H ⊢; exact H)
    have hji8_ : (a0 / 2 ^ min (ji6).toNat 64) = ji8 := hji8
    have hji8z : (ji6) ≤ 64 → (a0 / 2 ^ (ji6).toNat) = ji8 := shr_small hji8
    obtain rfl := Option.some.inj H
    go_enter Tryd.func50, Tryd.ntmps50
    go_wp2
    repeat (go_quiet (fail); try go_wp2)
    go_ret
    exact ⟨by first | rfl | (simp [errW_none, errW_some] <;> rfl) | (simp only [← hji4, ← hji6, ← hji8]; first | rfl | (simp [errW_none, errW_some] <;> rfl)) | (simp [*, errW_none, errW_some] <;> rfl), hb_⟩
   ·rw [if_neg c7] at H
    exact absurd H (by simp)
  ·rw [if_neg c5] at H
   exact absurd H (by simp)
def fix_Clamp.f (a0 : Int) (a1 : Int) : Option (Int) := some (mx (wrap64 (-(mx a1 0))) (mn a0 (mx a1 0)))
set_option maxHeartbeats 8000000 in
set_option maxRecDepth 100000 in
theorem fix_Clamp.calls (a0 : Int) (a1 : Int) (r : Int) (w : World) (h : fix_Clamp.f a0 a1 = some r) :
  Calls Tryd.prog 49 #[.int .i64 a0, .int .i64 a1] w fun e w' => e = .returned (.int .i64 r) ∧ Below w.heap.size w w' := by
 have HB := Aside0.mk (Below.refl w.heap.size w)
 have H : (some (mx (wrap64 (-(mx a1 0))) (mn a0 (mx a1 0)))) = some r := h
 clear h
 obtain ⟨ji3, hji3⟩ : ∃ j_ : Int, (mx a1 0) = j_ := ⟨_, rfl⟩
 replace H : (some (mx (wrap64 (-(ji3))) (mn a0 (ji3)))) = some r := by first | (rw [hji3] at H; exact H) | (simp only [hji3] at H ⊢; exact H)
 (try (have hji3l : 0 ≤ ji3 := by (rw [← hji3]; unfold mx; (repeat' split) <;> omega)))
 (try (have hji3m : 0 ≤ ji3 := by omega))
 have hji3_ : (if a1 < 0 then 0 else a1) = ji3 := hji3
 obtain ⟨ji4, hji4⟩ : ∃ j_ : Int, (mn a0 (ji3)) = j_ := ⟨_, rfl⟩
 replace H : (some (mx (wrap64 (-(ji3))) (ji4))) = some r := by first | (rw [hji4] at H; exact H) | (simp only [hji4] at H ⊢; exact H)
 have hji4_ : (if (ji3) < a0 then (ji3) else a0) = ji4 := hji4
 obtain ⟨ji5, hji5⟩ : ∃ j_ : Int, (mx (wrap64 (-(ji3))) (ji4)) = j_ := ⟨_, rfl⟩
 replace H : (some ji5) = some r := by first | (rw [hji5] at H; exact H) | (simp only [hji5] at H ⊢; exact H)
 have hji5_ : (if (wrap64 (-(ji3))) < (ji4) then (ji4) else (wrap64 (-(ji3)))) = ji5 := hji5
 obtain rfl := Option.some.inj H
 go_enter Tryd.func49, Tryd.ntmps49
 go_wp2
 go_ret
 exact ⟨by first | rfl | (simp [errW_none, errW_some] <;> rfl) | (simp only [← hji3, ← hji4, ← hji5]; first | rfl | (simp [errW_none, errW_some] <;> rfl)) | (simp [*, errW_none, errW_some] <;> rfl), hb_⟩
def fix_Clamp8.f (a0 : Int) : Option (Int) := (fix_Clamp.f a0 127).bind fun t206 => (some (IntKind.i8.wrap (t206)))
set_option maxHeartbeats 8000000 in
set_option maxRecDepth 100000 in
theorem fix_Clamp8.calls (a0 : Int) (r : Int) (w : World) (h : fix_Clamp8.f a0 = some r) :
  Calls Tryd.prog 63 #[.int .i64 a0] w fun e w' => e = .returned (.int .i8 r) ∧ Below w.heap.size w w' := by
 have HB := Aside0.mk (Below.refl w.heap.size w)
 have H : ((fix_Clamp.f a0 127).bind fun t206 => (some (IntKind.i8.wrap (t206)))) = some r := h
 clear h
 replace H := Option.bind_eq_some_iff.mp H
 obtain ⟨t206, A20, H⟩ := H
 replace H : (some (IntKind.i8.wrap (t206))) = some r := H
 have A2 := Aside0.mk A20
 clear A20
 obtain rfl := Option.some.inj H
 go_enter Tryd.func63, Tryd.ntmps63
 go_wp2_with (first | ((with_reducible refine gate_callee (f := 49) rfl ?_); refine goesL_ (some 4) rfl rfl Tryd.func49 (by kernel_rfl) rfl #[.int .i64 a0, .int .i64 127] rfl mp_ ?_; (with_reducible refine (fix_Clamp.calls a0 127 t206 _ A2.out).mono ?_); rintro e w3 ⟨rfl, hb⟩; refine ⟨_, rfl, ?_⟩; have n0_ := Aside0.mk (below_step hb_ hb); clear HB; have HB := n0_; clear n0_; (try clear hb); (try clear hb2); (try clear hk); (try clear hi)))
 go_ret
 exact ⟨er_, hb_⟩
def fix_Sqrt.l0 : Nat → Int → Int → Int → Option (Int)
 | 0, _, _, _ => none
 | k + 1, x0, x3, x8 => if x8 < 32 then (if 0 ≤ (wrap64 (31 - x8)) then (if (wrap64 (x3 + (shl .i64 1 (wrap64 (31 - x8))))) = 0 then (none) else (if (wrap64 (x3 + (shl .i64 1 (wrap64 (31 - x8))))) ≤ (wrap64 (Int.tdiv x0 (wrap64 (x3 + (shl .i64 1 (wrap64 (31 - x8))))))) then (fix_Sqrt.l0 k x0 (wrap64 (x3 + (shl .i64 1 (wrap64 (31 - x8))))) (wrap64 (x8 + 1))) else (fix_Sqrt.l0 k x0 x3 (wrap64 (x8 + 1))))) else (none)) else (some x3)
def fix_Sqrt.f (k : Nat) (a0 : Int) : Option (Int) := if a0 ≤ 0 then (some 0) else (fix_Sqrt.l0 k a0 0 0)
theorem fix_Sqrt.mono_l : ∀ k, (∀ y0 y1 y2, LeO (fix_Sqrt.l0 k y0 y1 y2) (fix_Sqrt.l0 (k + 1) y0 y1 y2))
 | 0 => fun _ _ _ r h => by simp [fix_Sqrt.l0] at h
 | k + 1 => by
  have ih0 := fix_Sqrt.mono_l k
  ·intro y0 y1 y2
   unfold fix_Sqrt.l0
   repeat' first
   | (with_reducible exact ih0 _ _ _)
   | (with_reducible exact LeO.refl _)
   | (with_reducible exact LeO.none _)
   | (with_reducible refine LeO.ite ?_ ?_)
   | (with_reducible refine LeO.bind ?_ (fun _ => ?_))
   | exact ih0 _ _ _
   | exact LeO.none _
   | refine LeO.ite ?_ ?_
   | refine LeO.bind ?_ (fun _ => ?_)
theorem fix_Sqrt.mono : ∀ a0 k, LeO (fix_Sqrt.f k a0) (fix_Sqrt.f (k + 1) a0) := by
 intro a0 k
 have ih0 := fix_Sqrt.mono_l k
 unfold fix_Sqrt.f
 repeat' first
   | (with_reducible exact ih0 _ _ _)
   | (with_reducible exact LeO.refl _)
   | (with_reducible exact LeO.none _)
   | (with_reducible refine LeO.ite ?_ ?_)
   | (with_reducible refine LeO.bind ?_ (fun _ => ?_))
   | exact ih0 _ _ _
   | exact LeO.none _
   | refine LeO.ite ?_ ?_
   | refine LeO.bind ?_ (fun _ => ?_)
set_option maxHeartbeats 8000000 in
set_option maxRecDepth 100000 in
theorem fix_Sqrt.calls (k : Nat) (a0 : Int) (r : Int) (w : World) (h : fix_Sqrt.f k a0 = some r) :
  Calls Tryd.prog 65 #[.int .i64 a0] w fun e w' => e = .returned (.int .i64 r) ∧ Drawn0 w w' := by
 have H : (if a0 ≤ 0 then (some 0) else (fix_Sqrt.l0 k a0 0 0)) = some r := h
 clear h
 by_cases c2 : a0 ≤ 0
 ·rw [if_pos c2] at H
  have c2b0 : decide (a0 ≤ 0) = true := decide_eq_true c2
  clear c2
  obtain rfl := Option.some.inj H
  go_enter Tryd.func65, Tryd.ntmps65
  go_wp2
  go_ret
  exact ⟨eqx_, dr_⟩
 ·rw [if_neg c2] at H
  have c2b0 : decide (a0 ≤ 0) = false := decide_eq_false c2
  clear c2
  have H' := Aside0.mk H
  clear H
  go_enter Tryd.func65, Tryd.ntmps65
  go_wp2
  go_loopg [3, 8] k (fun kq v3 v8 w' => ∃ (x3_1 : Int) (x8_1 : Int), v3 = .int .i64 x3_1 ∧ v8 = .int .i64 x8_1 ∧ Aside0 (fix_Sqrt.l0 kq a0 x3_1 x8_1 = some r) ∧ Aside0 (kq ≤ k) ∧ Drawn0 w w')
  case atStart => exact ⟨(0), (0), eqx_, eqx_, H', ⟨Nat.le_refl _⟩, dr_⟩
  case round =>
   clear H'
   try clear c2
   try clear c2b0
   try clear p2
   obtain ⟨x3_1, x8_1, rfl, rfl, HA, HK1, ⟨m1, rfl⟩⟩ := hrel
   cases gk with
   | zero => exact absurd HA.out (by simp [fix_Sqrt.l0])
   | succ k1 =>
    have H := HA.out
    clear HA
    simp only [fix_Sqrt.l0] at H
    by_cases c3 : x8_1 < 32
    ·rw [if_pos c3] at H
     have c3b0 : decide (x8_1 < 32) = true := decide_eq_true c3
     clear c3
     obtain ⟨ji4, hji4⟩ : ∃ j_ : Int, (wrap64 (31 - x8_1)) = j_ := ⟨_, rfl⟩
     replace H : (if 0 ≤ (ji4) then (if (wrap64 (x3_1 + (shl .i64 1 (ji4)))) = 0 then (none) else (if (wrap64 (x3_1 + (shl .i64 1 (ji4)))) ≤ (wrap64 (Int.tdiv a0 (wrap64 (x3_1 + (shl .i64 1 (ji4)))))) then (fix_Sqrt.l0 k1 a0 (wrap64 (x3_1 + (shl .i64 1 (ji4)))) (wrap64 (x8_1 + 1))) else (fix_Sqrt.l0 k1 a0 x3_1 (wrap64 (x8_1 + 1))))) else (none)) = some r := by first | (rw [hji4] at H; exact H) | (simp only [hji4] at H ⊢; exact H)
     have hji4w : (IntKind.i64.wrap (31 - x8_1)) = ji4 := (i64_w _).trans hji4
     by_cases c5 : 0 ≤ (ji4)
     ·rw [if_pos c5] at H
      have c5b0 := eq_true c5
      have c5b1 : decide (0 ≤ (ji4)) = true := decide_eq_true c5
      clear c5
      obtain ⟨ji6, hji6⟩ : ∃ j_ : Int, (shl .i64 1 (ji4)) = j_ := ⟨_, rfl⟩
      replace H : (if (wrap64 (x3_1 + (ji6))) = 0 then (none) else (if (wrap64 (x3_1 + (ji6))) ≤ (wrap64 (Int.tdiv a0 (wrap64 (x3_1 + (ji6))))) then (fix_Sqrt.l0 k1 a0 (wrap64 (x3_1 + (ji6))) (wrap64 (x8_1 + 1))) else (fix_Sqrt.l0 k1 a0 x3_1 (wrap64 (x8_1 + 1))))) = some r := by first | (rw [hji6] at H; exact H) | (simp only [hji6] at H ⊢; exact H)
      have hji6_ : (IntKind.i64.wrap (1 * 2 ^ min (ji4).toNat 64)) = ji6 := hji6
      have hji6z : (ji4) ≤ 64 → (IntKind.i64.wrap (1 * 2 ^ (ji4).toNat)) = ji6 := shl_small hji6
      have hji6u : (IntKind.i64.wrap (2 ^ min (ji4).toNat 64)) = ji6 := by have h_ := hji6_; rw [Int.one_mul] at h_; exact h_
      have hji6v : (ji4) ≤ 64 → (IntKind.i64.wrap (2 ^ (ji4).toNat)) = ji6 := fun hle_ => by have h_ := hji6z hle_; rw [Int.one_mul] at h_; exact h_
      have hji6y : (wrap64 (1 * 2 ^ min (ji4).toNat 64)) = ji6 := (i64_w _).symm.trans hji6_
      have hji6x : (ji4) ≤ 64 → (wrap64 (1 * 2 ^ (ji4).toNat)) = ji6 := fun h_ => (i64_w _).symm.trans (hji6z h_)
      by_cases c7 : (wrap64 (x3_1 + (ji6))) = 0
      ·rw [if_pos c7] at H
       exact absurd H (by simp)
      ·rw [if_neg c7] at H
       have c7b0 : ((wrap64 (x3_1 + (ji6))) == 0) = false := beq_eq_false_iff_ne.mpr c7
       have c7b1 : ((wrap64 (x3_1 + (ji6))) != 0) = true := bne_iff_ne.mpr c7
       by_cases c8 : (wrap64 (x3_1 + (ji6))) ≤ (wrap64 (Int.tdiv a0 (wrap64 (x3_1 + (ji6)))))
       ·rw [if_pos c8] at H
        have c8b0 : decide ((wrap64 (x3_1 + (ji6))) ≤ (wrap64 (Int.tdiv a0 (wrap64 (x3_1 + (ji6)))))) = true := decide_eq_true c8
        clear c8
        have H' := Aside0.mk H
        clear H
        go_wp2
        go_roundg k1
        case measure => have := HK1.out; omega
        case rel => exact ⟨(wrap64 (x3_1 + (ji6))), (wrap64 (x8_1 + 1)), (by first | rfl | (simp; done) | (simp only [← hji6] <;> (first | rfl | simp)) | (simp [*]; done)), eqx_, H', ⟨by have := HK1.out; omega⟩, dr_⟩
       ·rw [if_neg c8] at H
        have c8b0 : decide ((wrap64 (x3_1 + (ji6))) ≤ (wrap64 (Int.tdiv a0 (wrap64 (x3_1 + (ji6)))))) = false := decide_eq_false c8
        clear c8
        have H' := Aside0.mk H
        clear H
        go_wp2
        go_roundg k1
        case measure => have := HK1.out; omega
        case rel => exact ⟨(x3_1), (wrap64 (x8_1 + 1)), eqx_, eqx_, H', ⟨by have := HK1.out; omega⟩, dr_⟩
     ·rw [if_neg c5] at H
      exact absurd H (by simp)
    ·rw [if_neg c3] at H
     have c3b0 : decide (x8_1 < 32) = false := decide_eq_false c3
     clear c3
     obtain rfl := Option.some.inj H
     go_wp2
     go_ret
     exact ⟨eqx_, dr_⟩
def augurref01_half.f (a0 : Int) : Option (Int) := if (Int.tmod a0 2) < 0 then (some (wrap64 (Int.tdiv (wrap64 (a0 - 1)) 2))) else (some (wrap64 (Int.tdiv a0 2)))
set_option maxHeartbeats 8000000 in
set_option maxRecDepth 100000 in
theorem augurref01_half.calls (a0 : Int) (r : Int) (w : World) (h : augurref01_half.f a0 = some r) :
  Calls Tryd.prog 79 #[.int .i64 a0] w fun e w' => e = .returned (.int .i64 r) ∧ Drawn0 w w' := by
 have H : (if (Int.tmod a0 2) < 0 then (some (wrap64 (Int.tdiv (wrap64 (a0 - 1)) 2))) else (some (wrap64 (Int.tdiv a0 2)))) = some r := h
 clear h
 by_cases c2 : (Int.tmod a0 2) < 0
 ·rw [if_pos c2] at H
  have c2b0 : decide ((Int.tmod a0 2) < 0) = true := decide_eq_true c2
  clear c2
  obtain rfl := Option.some.inj H
  go_enter Tryd.func79, Tryd.ntmps79
  go_wp2
  go_ret
  exact ⟨eqx_, dr_⟩
 ·rw [if_neg c2] at H
  have c2b0 : decide ((Int.tmod a0 2) < 0) = false := decide_eq_false c2
  clear c2
  obtain rfl := Option.some.inj H
  go_enter Tryd.func79, Tryd.ntmps79
  go_wp2
  go_ret
  exact ⟨eqx_, dr_⟩
def augurref01_Shift.l0 : Nat → Int → Int → Int → Option (Int)
 | 0, _, _, _ => none
 | k + 1, x0, x1, x5 => if x5 < x1 then (if x5 < 62 then ((augurref01_half.f x0).bind fun t245 => (augurref01_Shift.l0 k t245 x1 (wrap64 (x5 + 1)))) else (if (Int.tmod x0 2) = 0 then (some (wrap64 (Int.tdiv x0 2))) else ((augurref01_half.f x0).bind fun t246 => (some (wrap64 (t246 + 1)))))) else (if (Int.tmod x0 2) = 0 then (some (wrap64 (Int.tdiv x0 2))) else ((augurref01_half.f x0).bind fun t247 => (some (wrap64 (t247 + 1)))))
def augurref01_Shift.f (k : Nat) (a0 : Int) (a1 : Int) : Option (Int) := if a1 ≤ 0 then (some a0) else (augurref01_Shift.l0 k a0 a1 1)
theorem augurref01_Shift.mono_l : ∀ k, (∀ y0 y1 y2, LeO (augurref01_Shift.l0 k y0 y1 y2) (augurref01_Shift.l0 (k + 1) y0 y1 y2))
 | 0 => fun _ _ _ r h => by simp [augurref01_Shift.l0] at h
 | k + 1 => by
  have ih0 := augurref01_Shift.mono_l k
  ·intro y0 y1 y2
   unfold augurref01_Shift.l0
   repeat' first
   | (with_reducible exact ih0 _ _ _)
   | (with_reducible exact LeO.refl _)
   | (with_reducible exact LeO.none _)
   | (with_reducible refine LeO.ite ?_ ?_)
   | (with_reducible refine LeO.bind ?_ (fun _ => ?_))
   | exact ih0 _ _ _
   | exact LeO.none _
   | refine LeO.ite ?_ ?_
   | refine LeO.bind ?_ (fun _ => ?_)
theorem augurref01_Shift.mono : ∀ a0 a1 k, LeO (augurref01_Shift.f k a0 a1) (augurref01_Shift.f (k + 1) a0 a1) := by
 intro a0 a1 k
 have ih0 := augurref01_Shift.mono_l k
 unfold augurref01_Shift.f
 repeat' first
   | (with_reducible exact ih0 _ _ _)
   | (with_reducible exact LeO.refl _)
   | (with_reducible exact LeO.none _)
   | (with_reducible refine LeO.ite ?_ ?_)
   | (with_reducible refine LeO.bind ?_ (fun _ => ?_))
   | exact ih0 _ _ _
   | exact LeO.none _
   | refine LeO.ite ?_ ?_
   | refine LeO.bind ?_ (fun _ => ?_)
set_option maxHeartbeats 8000000 in
set_option maxRecDepth 100000 in
theorem augurref01_Shift.calls (k : Nat) (a0 : Int) (a1 : Int) (r : Int) (w : World) (h : augurref01_Shift.f k a0 a1 = some r) :
  Calls Tryd.prog 70 #[.int .i64 a0, .int .i64 a1] w fun e w' => e = .returned (.int .i64 r) ∧ Drawn0 w w' := by
 have H : (if a1 ≤ 0 then (some a0) else (augurref01_Shift.l0 k a0 a1 1)) = some r := h
 clear h
 by_cases c3 : a1 ≤ 0
 ·rw [if_pos c3] at H
  have c3b0 : decide (a1 ≤ 0) = true := decide_eq_true c3
  clear c3
  obtain rfl := Option.some.inj H
  go_enter Tryd.func70, Tryd.ntmps70
  go_wp2
  go_ret
  exact ⟨eqx_, dr_⟩
 ·rw [if_neg c3] at H
  have c3b0 : decide (a1 ≤ 0) = false := decide_eq_false c3
  clear c3
  have H' := Aside0.mk H
  clear H
  go_enter Tryd.func70, Tryd.ntmps70
  go_wp2
  go_loopg [0, 5] k (fun kq v0 v5 w' => ∃ (x0_1 : Int) (x5_1 : Int), v0 = .int .i64 x0_1 ∧ v5 = .int .i64 x5_1 ∧ Aside0 (augurref01_Shift.l0 kq x0_1 a1 x5_1 = some r) ∧ Aside0 (kq ≤ k) ∧ Drawn0 w w')
  case atStart => exact ⟨(a0), (1), eqx_, eqx_, H', ⟨Nat.le_refl _⟩, dr_⟩
  case round =>
   clear H'
   try clear p2
   try clear c3
   try clear c3b0
   obtain ⟨x0_1, x5_1, rfl, rfl, HA, HK1, ⟨m1, rfl⟩⟩ := hrel
   cases gk with
   | zero => exact absurd HA.out (by simp [augurref01_Shift.l0])
   | succ k1 =>
    have H := HA.out
    clear HA
    simp only [augurref01_Shift.l0] at H
    by_cases c4 : x5_1 < a1
    ·rw [if_pos c4] at H
     have c4b0 : decide (x5_1 < a1) = true := decide_eq_true c4
     clear c4
     by_cases c5 : x5_1 < 62
     ·rw [if_pos c5] at H
      have c5b0 : decide (x5_1 < 62) = true := decide_eq_true c5
      clear c5
      replace H := Option.bind_eq_some_iff.mp H
      obtain ⟨t245, A60, H⟩ := H
      replace H : (augurref01_Shift.l0 k1 t245 a1 (wrap64 (x5_1 + 1))) = some r := H
      have A6 := Aside0.mk A60
      clear A60
      have H' := Aside0.mk H
      clear H
      go_wp2_with (first | ((with_reducible refine gate_callee (f := 79) rfl ?_); refine goesL_ (some 19) rfl rfl Tryd.func79 (by kernel_rfl) rfl #[.int .i64 x0_1] rfl mp_ ?_; (with_reducible refine (augurref01_half.calls x0_1 t245 _ A6.out).mono ?_); rintro e w' ⟨rfl, ⟨nd, rfl⟩⟩; refine ⟨_, rfl, ?_⟩))
      go_roundg k1
      case measure => have := HK1.out; omega
      case rel => exact ⟨(t245), (wrap64 (x5_1 + 1)), eqx_, eqx_, H', ⟨by have := HK1.out; omega⟩, dr_⟩
     ·rw [if_neg c5] at H
      have c5b0 : decide (x5_1 < 62) = false := decide_eq_false c5
      clear c5
      by_cases c7 : (Int.tmod x0_1 2) = 0
      ·rw [if_pos c7] at H
       have c7b0 : ((Int.tmod x0_1 2) == 0) = true := beq_iff_eq.mpr c7
       have c7b1 : ((Int.tmod x0_1 2) != 0) = false := bne_eq_false_iff_eq.mpr c7
       clear c7
       obtain rfl := Option.some.inj H
       go_wp2
       go_ret
       exact ⟨eqx_, dr_⟩
      ·rw [if_neg c7] at H
       have c7b0 : ((Int.tmod x0_1 2) == 0) = false := beq_eq_false_iff_ne.mpr c7
       have c7b1 : ((Int.tmod x0_1 2) != 0) = true := bne_iff_ne.mpr c7
       replace H := Option.bind_eq_some_iff.mp H
       obtain ⟨t246, A80, H⟩ := H
       replace H : (some (wrap64 (t246 + 1))) = some r := H
       have A8 := Aside0.mk A80
       clear A80
       obtain rfl := Option.some.inj H
       go_wp2_with (first | ((with_reducible refine gate_callee (f := 79) rfl ?_); refine goesL_ (some 26) rfl rfl Tryd.func79 (by kernel_rfl) rfl #[.int .i64 x0_1] rfl mp_ ?_; (with_reducible refine (augurref01_half.calls x0_1 t246 _ A8.out).mono ?_); rintro e w' ⟨rfl, ⟨nd, rfl⟩⟩; refine ⟨_, rfl, ?_⟩))
       go_ret
       exact ⟨eqx_, dr_⟩
    ·rw [if_neg c4] at H
     have c4b0 : decide (x5_1 < a1) = false := decide_eq_false c4
     clear c4
     by_cases c9 : (Int.tmod x0_1 2) = 0
     ·rw [if_pos c9] at H
      have c9b0 : ((Int.tmod x0_1 2) == 0) = true := beq_iff_eq.mpr c9
      have c9b1 : ((Int.tmod x0_1 2) != 0) = false := bne_eq_false_iff_eq.mpr c9
      clear c9
      obtain rfl := Option.some.inj H
      go_wp2
      go_ret
      exact ⟨eqx_, dr_⟩
     ·rw [if_neg c9] at H
      have c9b0 : ((Int.tmod x0_1 2) == 0) = false := beq_eq_false_iff_ne.mpr c9
      have c9b1 : ((Int.tmod x0_1 2) != 0) = true := bne_iff_ne.mpr c9
      replace H := Option.bind_eq_some_iff.mp H
      obtain ⟨t247, A100, H⟩ := H
      replace H : (some (wrap64 (t247 + 1))) = some r := H
      have A10 := Aside0.mk A100
      clear A100
      obtain rfl := Option.some.inj H
      go_wp2_with (first | ((with_reducible refine gate_callee (f := 79) rfl ?_); refine goesL_ (some 26) rfl rfl Tryd.func79 (by kernel_rfl) rfl #[.int .i64 x0_1] rfl mp_ ?_; (with_reducible refine (augurref01_half.calls x0_1 t247 _ A10.out).mono ?_); rintro e w' ⟨rfl, ⟨nd, rfl⟩⟩; refine ⟨_, rfl, ?_⟩))
      go_ret
      exact ⟨eqx_, dr_⟩
def augurref01_Clamp.j0 : Nat → Int → Int → Option (Int)
 | 0, _, _ => none
 | k + 1, x0, x1 => if x0 > x1 then (some x1) else (if x0 < (wrap64 (-x1)) then (some (wrap64 (-x1))) else (some x0))
def augurref01_Clamp.f (k : Nat) (a0 : Int) (a1 : Int) : Option (Int) := if a1 < 0 then (augurref01_Clamp.j0 k a0 0) else (augurref01_Clamp.j0 k a0 a1)
theorem augurref01_Clamp.mono_l : ∀ k, (∀ y0 y1, LeO (augurref01_Clamp.j0 k y0 y1) (augurref01_Clamp.j0 (k + 1) y0 y1))
 | 0 => fun _ _ r h => by simp [augurref01_Clamp.j0] at h
 | k + 1 => by
  have ih0 := augurref01_Clamp.mono_l k
  ·intro y0 y1
   unfold augurref01_Clamp.j0
   repeat' first
   | (with_reducible exact ih0 _ _)
   | (with_reducible exact LeO.refl _)
   | (with_reducible exact LeO.none _)
   | (with_reducible refine LeO.ite ?_ ?_)
   | (with_reducible refine LeO.bind ?_ (fun _ => ?_))
   | exact ih0 _ _
   | exact LeO.none _
   | refine LeO.ite ?_ ?_
   | refine LeO.bind ?_ (fun _ => ?_)
theorem augurref01_Clamp.mono : ∀ a0 a1 k, LeO (augurref01_Clamp.f k a0 a1) (augurref01_Clamp.f (k + 1) a0 a1) := by
 intro a0 a1 k
 have ih0 := augurref01_Clamp.mono_l k
 unfold augurref01_Clamp.f
 repeat' first
   | (with_reducible exact ih0 _ _)
   | (with_reducible exact LeO.refl _)
   | (with_reducible exact LeO.none _)
   | (with_reducible refine LeO.ite ?_ ?_)
   | (with_reducible refine LeO.bind ?_ (fun _ => ?_))
   | exact ih0 _ _
   | exact LeO.none _
   | refine LeO.ite ?_ ?_
   | refine LeO.bind ?_ (fun _ => ?_)
set_option maxHeartbeats 8000000 in
set_option maxRecDepth 100000 in
theorem augurref01_Clamp.calls (k : Nat) (a0 : Int) (a1 : Int) (r : Int) (w : World) (h : augurref01_Clamp.f k a0 a1 = some r) :
  Calls Tryd.prog 72 #[.int .i64 a0, .int .i64 a1] w fun e w' => e = .returned (.int .i64 r) ∧ Drawn0 w w' := by
 have H : (if a1 < 0 then (augurref01_Clamp.j0 k a0 0) else (augurref01_Clamp.j0 k a0 a1)) = some r := h
 clear h
 have HC3 := Aside0.mk H
 clear H
 go_enter Tryd.func72, Tryd.ntmps72
 go_upto_if 6 with (fail)
 go_cut [1] (fun v1 wc => ∃ (kq : Nat) (x1_2 : Int), v1 = .int .i64 x1_2 ∧ Aside0 (augurref01_Clamp.j0 kq a0 x1_2 = some r) ∧ Aside0 (kq ≤ k) ∧ Drawn0 w wc)
 case first =>
  have H := HC3.out
  clear HC3
  by_cases c4 : a1 < 0
  ·rw [if_pos c4] at H
   have c4b0 : decide (a1 < 0) = true := decide_eq_true c4
   clear c4
   (first | rw [c4b0] | (simp only [i64_w, i32_w]; rw [c4b0]) | skip)
   have H' := Aside0.mk H
   clear H
   go_wp2
   go_meet
   case rel => exact ⟨_, (0), eqx_, H', ⟨om_⟩, dr_⟩
  ·rw [if_neg c4] at H
   have c4b0 : decide (a1 < 0) = false := decide_eq_false c4
   clear c4
   (first | rw [c4b0] | (simp only [i64_w, i32_w]; rw [c4b0]) | skip)
   have H' := Aside0.mk H
   clear H
   go_wp2
   go_meet
   case rel => exact ⟨_, (a1), eqx_, H', ⟨om_⟩, dr_⟩
 case rest =>
  clear HC3
  try clear p2
  try clear c4
  try clear c4b0
  obtain ⟨kq, x1_2, rfl, HA, HJ2, ⟨mc2, rfl⟩⟩ := hcut
  cases kq with
  | zero => exact absurd HA.out (by simp [augurref01_Clamp.j0])
  | succ kj2 =>
   have H := HA.out
   clear HA
   simp only [augurref01_Clamp.j0] at H
   by_cases c5 : a0 > x1_2
   ·rw [if_pos c5] at H
    have c5b0 : decide (x1_2 < a0) = true := decide_eq_true c5
    clear c5
    obtain rfl := Option.some.inj H
    go_wp2
    go_ret
    exact ⟨eqx_, dr_⟩
   ·rw [if_neg c5] at H
    have c5b0 : decide (x1_2 < a0) = false := decide_eq_false c5
    clear c5
    by_cases c6 : a0 < (wrap64 (-x1_2))
    ·rw [if_pos c6] at H
     have c6b0 : decide (a0 < (wrap64 (-x1_2))) = true := decide_eq_true c6
     clear c6
     obtain rfl := Option.some.inj H
     go_wp2
     go_ret
     exact ⟨eqx_, dr_⟩
    ·rw [if_neg c6] at H
     have c6b0 : decide (a0 < (wrap64 (-x1_2))) = false := decide_eq_false c6
     clear c6
     obtain rfl := Option.some.inj H
     go_wp2
     go_ret
     exact ⟨eqx_, dr_⟩
def augurref01_Clamp8.f (k : Nat) (a0 : Int) : Option (Int) := (augurref01_Clamp.f k a0 127).bind fun t248 => (some (IntKind.i8.wrap (t248)))
theorem augurref01_Clamp8.mono : ∀ a0 k, LeO (augurref01_Clamp8.f k a0) (augurref01_Clamp8.f (k + 1) a0) := by
 intro a0 k
 unfold augurref01_Clamp8.f
 repeat' first
   | (with_reducible exact augurref01_Clamp.mono _ _ _)
   | (with_reducible exact LeO.refl _)
   | (with_reducible exact LeO.none _)
   | (with_reducible refine LeO.ite ?_ ?_)
   | (with_reducible refine LeO.bind ?_ (fun _ => ?_))
   | exact augurref01_Clamp.mono _ _ _
   | exact LeO.none _
   | refine LeO.ite ?_ ?_
   | refine LeO.bind ?_ (fun _ => ?_)
set_option maxHeartbeats 8000000 in
set_option maxRecDepth 100000 in
theorem augurref01_Clamp8.calls (k : Nat) (a0 : Int) (r : Int) (w : World) (h : augurref01_Clamp8.f k a0 = some r) :
  Calls Tryd.prog 71 #[.int .i64 a0] w fun e w' => e = .returned (.int .i8 r) ∧ Drawn0 w w' := by
 have H : ((augurref01_Clamp.f k a0 127).bind fun t248 => (some (IntKind.i8.wrap (t248)))) = some r := h
 clear h
 replace H := Option.bind_eq_some_iff.mp H
 obtain ⟨t248, A20, H⟩ := H
 replace H : (some (IntKind.i8.wrap (t248))) = some r := H
 have A2 := Aside0.mk A20
 clear A20
 obtain rfl := Option.some.inj H
 go_enter Tryd.func71, Tryd.ntmps71
 go_wp2_with (first | ((with_reducible refine gate_callee (f := 72) rfl ?_); refine goesL_ (some 5) rfl rfl Tryd.func72 (by kernel_rfl) rfl #[.int .i64 a0, .int .i64 127] rfl mp_ ?_; (with_reducible refine (augurref01_Clamp.calls k a0 127 t248 _ A2.out).mono ?_); rintro e w' ⟨rfl, ⟨nd, rfl⟩⟩; refine ⟨_, rfl, ?_⟩))
 go_ret
 exact ⟨eqx_, dr_⟩
def augurref01_Div.f (a0 : Int) (a1 : Int) : Option (Int) := if a1 ≤ 0 then (some 0) else (if a1 = 0 then (none) else (if (wrap64 ((wrap64 (Int.tdiv a0 a1)) * a1)) > a0 then (some (wrap64 ((wrap64 (Int.tdiv a0 a1)) - 1))) else (some (wrap64 (Int.tdiv a0 a1)))))
set_option maxHeartbeats 8000000 in
set_option maxRecDepth 100000 in
theorem augurref01_Div.calls (a0 : Int) (a1 : Int) (r : Int) (w : World) (h : augurref01_Div.f a0 a1 = some r) :
  Calls Tryd.prog 73 #[.int .i64 a0, .int .i64 a1] w fun e w' => e = .returned (.int .i64 r) ∧ Drawn0 w w' := by
 have H : (if a1 ≤ 0 then (some 0) else (if a1 = 0 then (none) else (if (wrap64 ((wrap64 (Int.tdiv a0 a1)) * a1)) > a0 then (some (wrap64 ((wrap64 (Int.tdiv a0 a1)) - 1))) else (some (wrap64 (Int.tdiv a0 a1)))))) = some r := h
 clear h
 by_cases c3 : a1 ≤ 0
 ·rw [if_pos c3] at H
  have c3b0 : decide (a1 ≤ 0) = true := decide_eq_true c3
  clear c3
  obtain rfl := Option.some.inj H
  go_enter Tryd.func73, Tryd.ntmps73
  go_wp2
  go_ret
  exact ⟨eqx_, dr_⟩
 ·rw [if_neg c3] at H
  have c3b0 : decide (a1 ≤ 0) = false := decide_eq_false c3
  clear c3
  by_cases c4 : a1 = 0
  ·rw [if_pos c4] at H
   exact absurd H (by simp)
  ·rw [if_neg c4] at H
   have c4b0 : (a1 == 0) = false := beq_eq_false_iff_ne.mpr c4
   have c4b1 : (a1 != 0) = true := bne_iff_ne.mpr c4
   by_cases c5 : (wrap64 ((wrap64 (Int.tdiv a0 a1)) * a1)) > a0
   ·rw [if_pos c5] at H
    have c5b0 : decide (a0 < (wrap64 ((wrap64 (Int.tdiv a0 a1)) * a1))) = true := decide_eq_true c5
    clear c5
    obtain rfl := Option.some.inj H
    go_enter Tryd.func73, Tryd.ntmps73
    go_wp2
    go_ret
    exact ⟨eqx_, dr_⟩
   ·rw [if_neg c5] at H
    have c5b0 : decide (a0 < (wrap64 ((wrap64 (Int.tdiv a0 a1)) * a1))) = false := decide_eq_false c5
    clear c5
    obtain rfl := Option.some.inj H
    go_enter Tryd.func73, Tryd.ntmps73
    go_wp2
    go_ret
    exact ⟨eqx_, dr_⟩
def augurref01_Sqrt.l0 : Nat → Int → Int → Int → Option (Int)
 | 0, _, _, _ => none
 | k + 1, x0, x3, x4 => if (wrap64 (x4 - x3)) > 1 then (if (wrap64 ((wrap64 (Int.tdiv (wrap64 (x3 + x4)) 2)) * (wrap64 (Int.tdiv (wrap64 (x3 + x4)) 2)))) ≤ x0 then (augurref01_Sqrt.l0 k x0 (wrap64 (Int.tdiv (wrap64 (x3 + x4)) 2)) x4) else (augurref01_Sqrt.l0 k x0 x3 (wrap64 (Int.tdiv (wrap64 (x3 + x4)) 2)))) else (some x3)
def augurref01_Sqrt.f (k : Nat) (a0 : Int) : Option (Int) := if a0 ≤ 0 then (some 0) else (augurref01_Sqrt.l0 k a0 0 3037000500)
theorem augurref01_Sqrt.mono_l : ∀ k, (∀ y0 y1 y2, LeO (augurref01_Sqrt.l0 k y0 y1 y2) (augurref01_Sqrt.l0 (k + 1) y0 y1 y2))
 | 0 => fun _ _ _ r h => by simp [augurref01_Sqrt.l0] at h
 | k + 1 => by
  have ih0 := augurref01_Sqrt.mono_l k
  ·intro y0 y1 y2
   unfold augurref01_Sqrt.l0
   repeat' first
   | (with_reducible exact ih0 _ _ _)
   | (with_reducible exact LeO.refl _)
   | (with_reducible exact LeO.none _)
   | (with_reducible refine LeO.ite ?_ ?_)
   | (with_reducible refine LeO.bind ?_ (fun _ => ?_))
   | exact ih0 _ _ _
   | exact LeO.none _
   | refine LeO.ite ?_ ?_
   | refine LeO.bind ?_ (fun _ => ?_)
theorem augurref01_Sqrt.mono : ∀ a0 k, LeO (augurref01_Sqrt.f k a0) (augurref01_Sqrt.f (k + 1) a0) := by
 intro a0 k
 have ih0 := augurref01_Sqrt.mono_l k
 unfold augurref01_Sqrt.f
 repeat' first
   | (with_reducible exact ih0 _ _ _)
   | (with_reducible exact LeO.refl _)
   | (with_reducible exact LeO.none _)
   | (with_reducible refine LeO.ite ?_ ?_)
   | (with_reducible refine LeO.bind ?_ (fun _ => ?_))
   | exact ih0 _ _ _
   | exact LeO.none _
   | refine LeO.ite ?_ ?_
   | refine LeO.bind ?_ (fun _ => ?_)
set_option maxHeartbeats 8000000 in
set_option maxRecDepth 100000 in
theorem augurref01_Sqrt.calls (k : Nat) (a0 : Int) (r : Int) (w : World) (h : augurref01_Sqrt.f k a0 = some r) :
  Calls Tryd.prog 74 #[.int .i64 a0] w fun e w' => e = .returned (.int .i64 r) ∧ Drawn0 w w' := by
 have H : (if a0 ≤ 0 then (some 0) else (augurref01_Sqrt.l0 k a0 0 3037000500)) = some r := h
 clear h
 by_cases c2 : a0 ≤ 0
 ·rw [if_pos c2] at H
  have c2b0 : decide (a0 ≤ 0) = true := decide_eq_true c2
  clear c2
  obtain rfl := Option.some.inj H
  go_enter Tryd.func74, Tryd.ntmps74
  go_wp2
  go_ret
  exact ⟨eqx_, dr_⟩
 ·rw [if_neg c2] at H
  have c2b0 : decide (a0 ≤ 0) = false := decide_eq_false c2
  clear c2
  have H' := Aside0.mk H
  clear H
  go_enter Tryd.func74, Tryd.ntmps74
  go_wp2
  go_loopg [3, 4] k (fun kq v3 v4 w' => ∃ (x3_1 : Int) (x4_1 : Int), v3 = .int .i64 x3_1 ∧ v4 = .int .i64 x4_1 ∧ Aside0 (augurref01_Sqrt.l0 kq a0 x3_1 x4_1 = some r) ∧ Aside0 (kq ≤ k) ∧ Drawn0 w w')
  case atStart => exact ⟨(0), (3037000500), eqx_, eqx_, H', ⟨Nat.le_refl _⟩, dr_⟩
  case round =>
   clear H'
   try clear c2
   try clear c2b0
   try clear p2
   obtain ⟨x3_1, x4_1, rfl, rfl, HA, HK1, ⟨m1, rfl⟩⟩ := hrel
   cases gk with
   | zero => exact absurd HA.out (by simp [augurref01_Sqrt.l0])
   | succ k1 =>
    have H := HA.out
    clear HA
    simp only [augurref01_Sqrt.l0] at H
    by_cases c3 : (wrap64 (x4_1 - x3_1)) > 1
    ·rw [if_pos c3] at H
     have c3b0 : decide (1 < (wrap64 (x4_1 - x3_1))) = true := decide_eq_true c3
     clear c3
     by_cases c4 : (wrap64 ((wrap64 (Int.tdiv (wrap64 (x3_1 + x4_1)) 2)) * (wrap64 (Int.tdiv (wrap64 (x3_1 + x4_1)) 2)))) ≤ a0
     ·rw [if_pos c4] at H
      have c4b0 : decide ((wrap64 ((wrap64 (Int.tdiv (wrap64 (x3_1 + x4_1)) 2)) * (wrap64 (Int.tdiv (wrap64 (x3_1 + x4_1)) 2)))) ≤ a0) = true := decide_eq_true c4
      clear c4
      have H' := Aside0.mk H
      clear H
      go_wp2
      go_roundg k1
      case measure => have := HK1.out; omega
      case rel => exact ⟨(wrap64 (Int.tdiv (wrap64 (x3_1 + x4_1)) 2)), (x4_1), eqx_, eqx_, H', ⟨by have := HK1.out; omega⟩, dr_⟩
     ·rw [if_neg c4] at H
      have c4b0 : decide ((wrap64 ((wrap64 (Int.tdiv (wrap64 (x3_1 + x4_1)) 2)) * (wrap64 (Int.tdiv (wrap64 (x3_1 + x4_1)) 2)))) ≤ a0) = false := decide_eq_false c4
      clear c4
      have H' := Aside0.mk H
      clear H
      go_wp2
      go_roundg k1
      case measure => have := HK1.out; omega
      case rel => exact ⟨(x3_1), (wrap64 (Int.tdiv (wrap64 (x3_1 + x4_1)) 2)), eqx_, eqx_, H', ⟨by have := HK1.out; omega⟩, dr_⟩
    ·rw [if_neg c3] at H
     have c3b0 : decide (1 < (wrap64 (x4_1 - x3_1))) = false := decide_eq_false c3
     clear c3
     obtain rfl := Option.some.inj H
     go_wp2
     go_ret
     exact ⟨eqx_, dr_⟩
def augurref01_Exp.j0 : Nat → Int → Option (Int)
 | 0, _ => none
 | k + 1, x0 => if x0 < (-1048576) then (some 0) else ((augurref01_Div.f (wrap64 (-x0)) 45426).bind fun t385 => ((augurref01_Shift.f k (wrap64 (35472643 * (wrap64 ((wrap64 (-x0)) - (wrap64 (45426 * t385)))))) 16).bind fun t386 => ((augurref01_Shift.f k (wrap64 ((wrap64 (t386 - 175978408)) * (wrap64 ((wrap64 (-x0)) - (wrap64 (45426 * t385)))))) 16).bind fun t387 => ((augurref01_Shift.f k (wrap64 ((wrap64 (t387 + 536691957)) * (wrap64 ((wrap64 (-x0)) - (wrap64 (45426 * t385)))))) 16).bind fun t388 => ((augurref01_Shift.f k (wrap64 ((wrap64 (t388 - 1073764153)) * (wrap64 ((wrap64 (-x0)) - (wrap64 (45426 * t385)))))) 16).bind fun t389 => ((augurref01_Shift.f k (wrap64 (t389 + 1073741824)) 14).bind fun t390 => ((augurref01_Shift.f k t390 t385).bind fun t391 => (some t391))))))))
def augurref01_Exp.f (k : Nat) (a0 : Int) : Option (Int) := if a0 > 0 then (augurref01_Exp.j0 k 0) else (augurref01_Exp.j0 k a0)
theorem augurref01_Exp.mono_l : ∀ k, (∀ y0, LeO (augurref01_Exp.j0 k y0) (augurref01_Exp.j0 (k + 1) y0))
 | 0 => fun _ r h => by simp [augurref01_Exp.j0] at h
 | k + 1 => by
  have ih0 := augurref01_Exp.mono_l k
  ·intro y0
   unfold augurref01_Exp.j0
   repeat' first
   | (with_reducible exact ih0 _)
   | (with_reducible exact augurref01_Shift.mono _ _ _)
   | (with_reducible exact LeO.refl _)
   | (with_reducible exact LeO.none _)
   | (with_reducible refine LeO.ite ?_ ?_)
   | (with_reducible refine LeO.bind ?_ (fun _ => ?_))
   | exact ih0 _
   | exact augurref01_Shift.mono _ _ _
   | exact LeO.none _
   | refine LeO.ite ?_ ?_
   | refine LeO.bind ?_ (fun _ => ?_)
theorem augurref01_Exp.mono : ∀ a0 k, LeO (augurref01_Exp.f k a0) (augurref01_Exp.f (k + 1) a0) := by
 intro a0 k
 have ih0 := augurref01_Exp.mono_l k
 unfold augurref01_Exp.f
 repeat' first
   | (with_reducible exact ih0 _)
   | (with_reducible exact augurref01_Shift.mono _ _ _)
   | (with_reducible exact LeO.refl _)
   | (with_reducible exact LeO.none _)
   | (with_reducible refine LeO.ite ?_ ?_)
   | (with_reducible refine LeO.bind ?_ (fun _ => ?_))
   | exact ih0 _
   | exact augurref01_Shift.mono _ _ _
   | exact LeO.none _
   | refine LeO.ite ?_ ?_
   | refine LeO.bind ?_ (fun _ => ?_)
set_option maxHeartbeats 8000000 in
set_option maxRecDepth 100000 in
theorem augurref01_Exp.calls (k : Nat) (a0 : Int) (r : Int) (w : World) (h : augurref01_Exp.f k a0 = some r) :
  Calls Tryd.prog 75 #[.int .i64 a0] w fun e w' => e = .returned (.int .i64 r) ∧ Drawn0 w w' := by
 have H : (if a0 > 0 then (augurref01_Exp.j0 k 0) else (augurref01_Exp.j0 k a0)) = some r := h
 clear h
 have HC2 := Aside0.mk H
 clear H
 go_enter Tryd.func75, Tryd.ntmps75
 go_upto_if 8 with (fail)
 go_cut [0] (fun v0 wc => ∃ (kq : Nat) (x0_1 : Int), v0 = .int .i64 x0_1 ∧ Aside0 (augurref01_Exp.j0 kq x0_1 = some r) ∧ Aside0 (kq ≤ k) ∧ Drawn0 w wc)
 case first =>
  have H := HC2.out
  clear HC2
  by_cases c3 : a0 > 0
  ·rw [if_pos c3] at H
   have c3b0 : decide (0 < a0) = true := decide_eq_true c3
   clear c3
   (first | rw [c3b0] | (simp only [i64_w, i32_w]; rw [c3b0]) | skip)
   have H' := Aside0.mk H
   clear H
   go_wp2
   go_meet
   case rel => exact ⟨_, (0), eqx_, H', ⟨om_⟩, dr_⟩
  ·rw [if_neg c3] at H
   have c3b0 : decide (0 < a0) = false := decide_eq_false c3
   clear c3
   (first | rw [c3b0] | (simp only [i64_w, i32_w]; rw [c3b0]) | skip)
   have H' := Aside0.mk H
   clear H
   go_wp2
   go_meet
   case rel => exact ⟨_, (a0), eqx_, H', ⟨om_⟩, dr_⟩
 case rest =>
  clear HC2
  try clear p2
  try clear c3
  try clear c3b0
  obtain ⟨kq, x0_1, rfl, HA, HJ1, ⟨mc1, rfl⟩⟩ := hcut
  cases kq with
  | zero => exact absurd HA.out (by simp [augurref01_Exp.j0])
  | succ kj1 =>
   have H := HA.out
   clear HA
   simp only [augurref01_Exp.j0] at H
   by_cases c4 : x0_1 < (-1048576)
   ·rw [if_pos c4] at H
    have c4b0 : decide (x0_1 < (-1048576)) = true := decide_eq_true c4
    clear c4
    obtain rfl := Option.some.inj H
    go_wp2
    go_ret
    exact ⟨eqx_, dr_⟩
   ·rw [if_neg c4] at H
    have c4b0 : decide (x0_1 < (-1048576)) = false := decide_eq_false c4
    clear c4
    replace H := Option.bind_eq_some_iff.mp H
    obtain ⟨t385, A50, H⟩ := H
    replace H : ((augurref01_Shift.f kj1 (wrap64 (35472643 * (wrap64 ((wrap64 (-x0_1)) - (wrap64 (45426 * t385)))))) 16).bind fun t386 => ((augurref01_Shift.f kj1 (wrap64 ((wrap64 (t386 - 175978408)) * (wrap64 ((wrap64 (-x0_1)) - (wrap64 (45426 * t385)))))) 16).bind fun t387 => ((augurref01_Shift.f kj1 (wrap64 ((wrap64 (t387 + 536691957)) * (wrap64 ((wrap64 (-x0_1)) - (wrap64 (45426 * t385)))))) 16).bind fun t388 => ((augurref01_Shift.f kj1 (wrap64 ((wrap64 (t388 - 1073764153)) * (wrap64 ((wrap64 (-x0_1)) - (wrap64 (45426 * t385)))))) 16).bind fun t389 => ((augurref01_Shift.f kj1 (wrap64 (t389 + 1073741824)) 14).bind fun t390 => ((augurref01_Shift.f kj1 t390 t385).bind fun t391 => (some t391))))))) = some r := H
    have A5 := Aside0.mk A50
    clear A50
    replace H := Option.bind_eq_some_iff.mp H
    obtain ⟨t386, A60, H⟩ := H
    replace H : ((augurref01_Shift.f kj1 (wrap64 ((wrap64 (t386 - 175978408)) * (wrap64 ((wrap64 (-x0_1)) - (wrap64 (45426 * t385)))))) 16).bind fun t387 => ((augurref01_Shift.f kj1 (wrap64 ((wrap64 (t387 + 536691957)) * (wrap64 ((wrap64 (-x0_1)) - (wrap64 (45426 * t385)))))) 16).bind fun t388 => ((augurref01_Shift.f kj1 (wrap64 ((wrap64 (t388 - 1073764153)) * (wrap64 ((wrap64 (-x0_1)) - (wrap64 (45426 * t385)))))) 16).bind fun t389 => ((augurref01_Shift.f kj1 (wrap64 (t389 + 1073741824)) 14).bind fun t390 => ((augurref01_Shift.f kj1 t390 t385).bind fun t391 => (some t391)))))) = some r := H
    have A6 := Aside0.mk A60
    clear A60
    replace H := Option.bind_eq_some_iff.mp H
    obtain ⟨t387, A70, H⟩ := H
    replace H : ((augurref01_Shift.f kj1 (wrap64 ((wrap64 (t387 + 536691957)) * (wrap64 ((wrap64 (-x0_1)) - (wrap64 (45426 * t385)))))) 16).bind fun t388 => ((augurref01_Shift.f kj1 (wrap64 ((wrap64 (t388 - 1073764153)) * (wrap64 ((wrap64 (-x0_1)) - (wrap64 (45426 * t385)))))) 16).bind fun t389 => ((augurref01_Shift.f kj1 (wrap64 (t389 + 1073741824)) 14).bind fun t390 => ((augurref01_Shift.f kj1 t390 t385).bind fun t391 => (some t391))))) = some r := H
    have A7 := Aside0.mk A70
    clear A70
    replace H := Option.bind_eq_some_iff.mp H
    obtain ⟨t388, A80, H⟩ := H
    replace H : ((augurref01_Shift.f kj1 (wrap64 ((wrap64 (t388 - 1073764153)) * (wrap64 ((wrap64 (-x0_1)) - (wrap64 (45426 * t385)))))) 16).bind fun t389 => ((augurref01_Shift.f kj1 (wrap64 (t389 + 1073741824)) 14).bind fun t390 => ((augurref01_Shift.f kj1 t390 t385).bind fun t391 => (some t391)))) = some r := H
    have A8 := Aside0.mk A80
    clear A80
    replace H := Option.bind_eq_some_iff.mp H
    obtain ⟨t389, A90, H⟩ := H
    replace H : ((augurref01_Shift.f kj1 (wrap64 (t389 + 1073741824)) 14).bind fun t390 => ((augurref01_Shift.f kj1 t390 t385).bind fun t391 => (some t391))) = some r := H
    have A9 := Aside0.mk A90
    clear A90
    replace H := Option.bind_eq_some_iff.mp H
    obtain ⟨t390, A100, H⟩ := H
    replace H : ((augurref01_Shift.f kj1 t390 t385).bind fun t391 => (some t391)) = some r := H
    have A10 := Aside0.mk A100
    clear A100
    replace H := Option.bind_eq_some_iff.mp H
    obtain ⟨t391, A110, H⟩ := H
    replace H : (some t391) = some r := H
    have A11 := Aside0.mk A110
    clear A110
    obtain rfl := Option.some.inj H
    go_wp2_with (first | ((with_reducible refine gate_callee (f := 73) rfl ?_); refine goesL_ (some 13) rfl rfl Tryd.func73 (by kernel_rfl) rfl #[.int .i64 (wrap64 (-x0_1)), .int .i64 45426] rfl mp_ ?_; (with_reducible refine (augurref01_Div.calls (wrap64 (-x0_1)) 45426 t385 _ A5.out).mono ?_); rintro e w' ⟨rfl, ⟨nd, rfl⟩⟩; refine ⟨_, rfl, ?_⟩) | ((with_reducible refine gate_callee (f := 70) rfl ?_); refine goesL_ (some 22) rfl rfl Tryd.func70 (by kernel_rfl) rfl #[.int .i64 (wrap64 (35472643 * (wrap64 ((wrap64 (-x0_1)) - (wrap64 (45426 * t385)))))), .int .i64 16] rfl mp_ ?_; (with_reducible refine (augurref01_Shift.calls kj1 (wrap64 (35472643 * (wrap64 ((wrap64 (-x0_1)) - (wrap64 (45426 * t385)))))) 16 t386 _ A6.out).mono ?_); rintro e w' ⟨rfl, ⟨nd, rfl⟩⟩; refine ⟨_, rfl, ?_⟩) | ((with_reducible refine gate_callee (f := 70) rfl ?_); refine goesL_ (some 28) rfl rfl Tryd.func70 (by kernel_rfl) rfl #[.int .i64 (wrap64 ((wrap64 (t386 - 175978408)) * (wrap64 ((wrap64 (-x0_1)) - (wrap64 (45426 * t385)))))), .int .i64 16] rfl mp_ ?_; (with_reducible refine (augurref01_Shift.calls kj1 (wrap64 ((wrap64 (t386 - 175978408)) * (wrap64 ((wrap64 (-x0_1)) - (wrap64 (45426 * t385)))))) 16 t387 _ A7.out).mono ?_); rintro e w' ⟨rfl, ⟨nd, rfl⟩⟩; refine ⟨_, rfl, ?_⟩) | ((with_reducible refine gate_callee (f := 70) rfl ?_); refine goesL_ (some 34) rfl rfl Tryd.func70 (by kernel_rfl) rfl #[.int .i64 (wrap64 ((wrap64 (t387 + 536691957)) * (wrap64 ((wrap64 (-x0_1)) - (wrap64 (45426 * t385)))))), .int .i64 16] rfl mp_ ?_; (with_reducible refine (augurref01_Shift.calls kj1 (wrap64 ((wrap64 (t387 + 536691957)) * (wrap64 ((wrap64 (-x0_1)) - (wrap64 (45426 * t385)))))) 16 t388 _ A8.out).mono ?_); rintro e w' ⟨rfl, ⟨nd, rfl⟩⟩; refine ⟨_, rfl, ?_⟩) | ((with_reducible refine gate_callee (f := 70) rfl ?_); refine goesL_ (some 40) rfl rfl Tryd.func70 (by kernel_rfl) rfl #[.int .i64 (wrap64 ((wrap64 (t388 - 1073764153)) * (wrap64 ((wrap64 (-x0_1)) - (wrap64 (45426 * t385)))))), .int .i64 16] rfl mp_ ?_; (with_reducible refine (augurref01_Shift.calls kj1 (wrap64 ((wrap64 (t388 - 1073764153)) * (wrap64 ((wrap64 (-x0_1)) - (wrap64 (45426 * t385)))))) 16 t389 _ A9.out).mono ?_); rintro e w' ⟨rfl, ⟨nd, rfl⟩⟩; refine ⟨_, rfl, ?_⟩) | ((with_reducible refine gate_callee (f := 70) rfl ?_); refine goesL_ (some 44) rfl rfl Tryd.func70 (by kernel_rfl) rfl #[.int .i64 (wrap64 (t389 + 1073741824)), .int .i64 14] rfl mp_ ?_; (with_reducible refine (augurref01_Shift.calls kj1 (wrap64 (t389 + 1073741824)) 14 t390 _ A10.out).mono ?_); rintro e w' ⟨rfl, ⟨nd, rfl⟩⟩; refine ⟨_, rfl, ?_⟩) | ((with_reducible refine gate_callee (f := 70) rfl ?_); refine goesL_ (some 47) rfl rfl Tryd.func70 (by kernel_rfl) rfl #[.int .i64 t390, .int .i64 t385] rfl mp_ ?_; (with_reducible refine (augurref01_Shift.calls kj1 t390 t385 t391 _ A11.out).mono ?_); rintro e w' ⟨rfl, ⟨nd, rfl⟩⟩; refine ⟨_, rfl, ?_⟩))
    go_ret
    exact ⟨eqx_, dr_⟩
end Go.Proofs.YtnioohhiphpplaaDoor.Pplays
