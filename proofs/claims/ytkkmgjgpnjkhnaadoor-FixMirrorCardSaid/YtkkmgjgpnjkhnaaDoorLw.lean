/- The walks of FixHalves, FixRises and FixMirror: each returns true, for every argument, where fix.terms holds the five numbers of the program's text. -/
import Derived.Test.YtkkmgjgpnjkhnaaDoorWk
import Derived.Deep.DeepCutAuto
import Derived.Deep.CutBlock
namespace Go.Proofs.YtkkmgjgpnjkhnaaDoor.Wk
open Go.RowKit Go.Proofs.YtkkmgjgpnjkhnaaDoorW.PrintWords Go.Proofs.YtkkmgjgpnjkhnaaDoorW.PrintLast Go.Proofs.YtkkmgjgpnjkhnaaDoorW.PrintMore Go.Proofs.YtkkmgjgpnjkhnaaDoor.M
attribute [local go_sem] max2_int min2_int max_two min_two

theorem exp_zero (w : World) (ht : Terms w) : Calls Tryd.prog 7 #[.int .i64 0] w fun e w' => e = .returned (.int .i64 65536) ∧ ∃ d, w' = w.drewN d := by
  have := exp_calls (z := 0) (by unfold rng; omega) w ht
  rw [expF_zero] at this; exact this
theorem exp_one (w : World) (ht : Terms w) : Calls Tryd.prog 7 #[.int .i64 (-65536)] w fun e w' => e = .returned (.int .i64 24110) ∧ ∃ d, w' = w.drewN d := by
  have := exp_calls (z := -65536) (by unfold rng; omega) w ht
  rw [expF_one] at this; exact this
theorem sig_zero (w : World) (ht : Terms w) : Calls Tryd.prog 9 #[.int .i64 0] w fun e w' => e = .returned (.int .i64 32768) ∧ ∃ d, w' = w.drewN d := by
  have := sig_calls (z := 0) (by unfold rng; omega) w ht
  rw [sigF_zero] at this; exact this

theorem halves_out {a b : Int} (c : 0 < a ∨ (¬ 0 < a ∧ 0 < b) ∨ (¬ 0 < a ∧ ¬ 0 < b ∧ a < -524288) ∨ (¬ 0 < a ∧ ¬ 0 < b ∧ ¬ a < -524288 ∧ b < -524288)) (w : World) (ht : Terms w) :
    Calls Tryd.prog 3 #[.int .i64 a, .int .i64 b] w fun e w' => e = .returned (.bool true) ∧ ∃ d, w' = w.drewN d := by
  have HT := Lib.hid ht
  clear ht
  rcases c with c1 | ⟨c1, c2⟩ | ⟨c1, c2, c3⟩ | ⟨c1, c2, c3, c4⟩
  all_goals
    go_enter Tryd.func3, Tryd.ntmps3
    go_wp2_with fail
    refine (exp_zero _ HT.out).mono ?_
    rintro e w1 ⟨rfl, m1, rfl⟩
    go_wp2_with fail
    refine (exp_one _ (HT.out.drewN m1)).mono ?_
    rintro e w2 ⟨rfl, m2, rfl⟩
    go_wp2
    go_ret
    exact ⟨rfl, _, rfl⟩

theorem halves_in {a b : Int} (c1 : ¬ 0 < a) (c2 : ¬ 0 < b) (c3 : ¬ a < -524288) (c4 : ¬ b < -524288) (w : World) (ht : Terms w) :
    Calls Tryd.prog 3 #[.int .i64 a, .int .i64 b] w fun e w' => e = .returned (.bool true) ∧ ∃ d, w' = w.drewN d := by
  have h1 := halves_half (a := a) (by omega) (by omega)
  have h2 := halves_mul (a := a) (b := b) (by omega) (by omega) (by omega) (by omega)
  have h3 := expF_mul_rng a b
  have i1 := expF_in a
  have i4 := expF_in (a - 45426)
  have i3 := expF_in (a + b)
  have RA : Hid (rng a) := Lib.hid (by unfold rng; omega)
  have RB : Hid (rng b) := Lib.hid (by unfold rng; omega)
  have RC : Hid (rng (a + b)) := Lib.hid (by unfold rng; omega)
  have RD : Hid (rng (a - 45426)) := Lib.hid (by unfold rng; omega)
  have RP : Hid (rng (expF a * expF b)) := Lib.hid (by unfold rng; omega)
  have WP : Hid (wrap64 (expF a * expF b) = expF a * expF b) := Lib.hid (w64 RP.out)
  have i5 : 0 ≤ shiftF (expF a * expF b) 16 ∧ shiftF (expF a * expF b) 16 ≤ 65536 := by rw [shift16]; omega
  obtain ⟨h10, h11⟩ := h1
  obtain ⟨h20, h21⟩ := h2
  obtain ⟨i10, i11⟩ := i1
  obtain ⟨i30, i31⟩ := i3
  obtain ⟨i40, i41⟩ := i4
  obtain ⟨i50, i51⟩ := i5
  have HT := Lib.hid ht
  clear ht h3
  go_enter Tryd.func3, Tryd.ntmps3
  go_wp2_with fail
  refine (exp_zero _ HT.out).mono ?_
  rintro e w1 ⟨rfl, m1, rfl⟩
  go_wp2_with fail
  refine (exp_one _ (HT.out.drewN m1)).mono ?_
  rintro e w2 ⟨rfl, m2, rfl⟩
  go_wp2_with fail
  refine (exp_calls RA.out _ (HT.out.drewN _)).mono ?_
  rintro e w3 ⟨rfl, m3, rfl⟩
  go_wp2_with fail
  refine (exp_calls RB.out _ (HT.out.drewN _)).mono ?_
  rintro e w4 ⟨rfl, m4, rfl⟩
  go_wp2_with fail
  refine (exp_calls RC.out _ (HT.out.drewN _)).mono ?_
  rintro e w5 ⟨rfl, m5, rfl⟩
  go_wp2_with fail
  refine (exp_calls RD.out _ (HT.out.drewN _)).mono ?_
  rintro e w6 ⟨rfl, m6, rfl⟩
  go_wp2_with fail
  rw [WP.out]
  refine (shift_calls RP.out _).mono ?_
  rintro e w7 ⟨rfl, m7, rfl⟩
  go_wp2
  go_ret
  exact ⟨rfl, _, rfl⟩

theorem halves_calls (a b : Int) (w : World) (ht : Terms w) :
    Calls Tryd.prog 3 #[.int .i64 a, .int .i64 b] w fun e w' => e = .returned (.bool true) ∧ ∃ d, w' = w.drewN d := by
  by_cases c1 : 0 < a
  · exact halves_out (.inl c1) w ht
  by_cases c2 : 0 < b
  · exact halves_out (.inr (.inl ⟨c1, c2⟩)) w ht
  by_cases c3 : a < -524288
  · exact halves_out (.inr (.inr (.inl ⟨c1, c2, c3⟩))) w ht
  by_cases c4 : b < -524288
  · exact halves_out (.inr (.inr (.inr ⟨c1, c2, c3, c4⟩))) w ht
  exact halves_in c1 c2 c3 c4 w ht

/-! ### Rises -/
theorem rises_walk {a b a' b' : Int} (s : Int) (hab : (a' = a ∧ b' = b ∧ ¬ b < a) ∨ (a' = b ∧ b' = a ∧ b < a)) (ha : rng a) (hb : rng b) (w : World) (ht : Terms w) :
    Calls Tryd.prog 4 #[.int .i64 a, .int .i64 b, .int .i64 s] w fun e w' => e = .returned (.bool true) ∧ ∃ d, w' = w.drewN d := by
  rcases hab with ⟨rfl, rfl, c⟩ | ⟨rfl, rfl, c⟩
  · have le : a' ≤ b' := by omega
    have m1 := shiftF_mono s le
    have m2 := expF_mono le
    have m3 := sigF_mono le
    obtain ⟨ea, _⟩ := expF_in a'
    obtain ⟨_, eb⟩ := expF_in b'
    obtain ⟨sa, _⟩ := sigF_in a'
    obtain ⟨_, sb⟩ := sigF_in b'
    have HA := Lib.hid ha
    have HB := Lib.hid hb
    have HT := Lib.hid ht
    clear ha hb ht le
    go_enter Tryd.func4, Tryd.ntmps4
    go_wp2_with fail
    refine (shift_calls HA.out _).mono ?_
    rintro e w1 ⟨rfl, d1, rfl⟩
    go_wp2_with fail
    refine (shift_calls HB.out _).mono ?_
    rintro e w2 ⟨rfl, d2, rfl⟩
    go_wp2_with fail
    refine (exp_calls HA.out _ (HT.out.drewN _)).mono ?_
    rintro e w3 ⟨rfl, d3, rfl⟩
    go_wp2_with fail
    refine (exp_calls HB.out _ (HT.out.drewN _)).mono ?_
    rintro e w4 ⟨rfl, d4, rfl⟩
    go_wp2_with fail
    refine (sig_calls HA.out _ (HT.out.drewN _)).mono ?_
    rintro e w5 ⟨rfl, d5, rfl⟩
    go_wp2_with fail
    refine (sig_calls HB.out _ (HT.out.drewN _)).mono ?_
    rintro e w6 ⟨rfl, d6, rfl⟩
    go_wp2_with fail
    refine (exp_zero _ (HT.out.drewN _)).mono ?_
    rintro e w7 ⟨rfl, d7, rfl⟩
    go_wp2_with fail
    refine (sig_zero _ (HT.out.drewN _)).mono ?_
    rintro e w8 ⟨rfl, d8, rfl⟩
    go_wp2
    go_ret
    exact ⟨rfl, _, rfl⟩
  · have le : a' ≤ b' := by omega
    have m1 := shiftF_mono s le
    have m2 := expF_mono le
    have m3 := sigF_mono le
    obtain ⟨ea, _⟩ := expF_in a'
    obtain ⟨_, eb⟩ := expF_in b'
    obtain ⟨sa, _⟩ := sigF_in a'
    obtain ⟨_, sb⟩ := sigF_in b'
    have HA := Lib.hid hb
    have HB := Lib.hid ha
    have HT := Lib.hid ht
    clear ha hb ht le
    go_enter Tryd.func4, Tryd.ntmps4
    go_wp2_with fail
    refine (shift_calls HA.out _).mono ?_
    rintro e w1 ⟨rfl, d1, rfl⟩
    go_wp2_with fail
    refine (shift_calls HB.out _).mono ?_
    rintro e w2 ⟨rfl, d2, rfl⟩
    go_wp2_with fail
    refine (exp_calls HA.out _ (HT.out.drewN _)).mono ?_
    rintro e w3 ⟨rfl, d3, rfl⟩
    go_wp2_with fail
    refine (exp_calls HB.out _ (HT.out.drewN _)).mono ?_
    rintro e w4 ⟨rfl, d4, rfl⟩
    go_wp2_with fail
    refine (sig_calls HA.out _ (HT.out.drewN _)).mono ?_
    rintro e w5 ⟨rfl, d5, rfl⟩
    go_wp2_with fail
    refine (sig_calls HB.out _ (HT.out.drewN _)).mono ?_
    rintro e w6 ⟨rfl, d6, rfl⟩
    go_wp2_with fail
    refine (exp_zero _ (HT.out.drewN _)).mono ?_
    rintro e w7 ⟨rfl, d7, rfl⟩
    go_wp2_with fail
    refine (sig_zero _ (HT.out.drewN _)).mono ?_
    rintro e w8 ⟨rfl, d8, rfl⟩
    go_wp2
    go_ret
    exact ⟨rfl, _, rfl⟩

theorem rises_calls (a b s : Int) (ha : rng a) (hb : rng b) (w : World) (ht : Terms w) :
    Calls Tryd.prog 4 #[.int .i64 a, .int .i64 b, .int .i64 s] w fun e w' => e = .returned (.bool true) ∧ ∃ d, w' = w.drewN d := by
  by_cases c : b < a
  · exact rises_walk s (.inr ⟨rfl, rfl, c⟩) ha hb w ht
  · exact rises_walk s (.inl ⟨rfl, rfl, c⟩) ha hb w ht

/-! ### Mirror -/
/-- behind the first lines: z is not the least number. -/
theorem mirror_sides (z m : Int) :
    sigF z + sigF (-z) = 65536 ∧ clampF (-z) m = -clampF z m ∧ siluF z - siluF (-z) = clampF z 16777216 ∧ (¬ z < 0 → 0 ≤ siluF z ∧ siluF z ≤ clampF z 16777216) ∧ (z < 0 → 0 ≤ siluF z + 71 ∧ siluF z ≤ 0) ∧
    -16777300 ≤ siluF z ∧ siluF z ≤ 16777216 ∧ -16777300 ≤ siluF (-z) ∧ siluF (-z) ≤ 16777216 := by
  have em : mx 16777216 0 = 16777216 := by decide
  have c := clampF_in (a := z) (m := 16777216) (by unfold rng; omega)
  have c' := clampF_in (a := -z) (m := 16777216) (by unfold rng; omega)
  rw [em] at c c'
  have up : ∀ x : Int, ¬ x < 0 → 0 ≤ siluF x ∧ siluF x ≤ clampF x 16777216 := fun x h => silu_up (by omega)
  have lo : ∀ x : Int, x < 0 → 0 ≤ siluF x + 71 ∧ siluF x ≤ 0 := fun x h => by have := silu_low h; omega
  have b1 : -16777300 ≤ siluF z ∧ siluF z ≤ 16777216 := by
    by_cases h : z < 0
    · have := lo z h; omega
    · have := up z h; omega
  have b2 : -16777300 ≤ siluF (-z) ∧ siluF (-z) ≤ 16777216 := by
    by_cases h : -z < 0
    · have := lo _ h; omega
    · have := up _ h; omega
  exact ⟨sig_mirror z, clampF_neg z m, silu_mirror z, up z, lo z, b1.1, b1.2, b2.1, b2.2⟩

/-- what the walk's tests come to, in their own spelling. -/
structure Sides (z m : Int) : Prop where
  one : (sigF z + sigF (-z) == 65536) = true
  two : (clampF z m == -clampF (-z) m) = true
  three : (siluF z - siluF (-z) == clampF z 16777216) = true
  s0 : 0 ≤ sigF z
  s1 : sigF z ≤ 65536
  s2 : 0 ≤ sigF (-z)
  s3 : sigF (-z) ≤ 65536
  c0 : -9223372036854775807 ≤ clampF (-z) m
  c1 : clampF (-z) m ≤ 9223372036854775807
  u0 : -16777300 ≤ siluF z
  u1 : siluF z ≤ 16777216
  v0 : -16777300 ≤ siluF (-z)
  v1 : siluF (-z) ≤ 16777216
theorem sides (z m : Int) (hm : rng m) : Sides z m := by
  obtain ⟨h1, h2, h3, _, _, u0, u1, v0, v1⟩ := mirror_sides z m
  have a := sigF_in z
  have b := sigF_in (-z)
  have c := clampF_in (a := -z) hm
  have d := mx_rng hm
  exact ⟨by rw [beq_iff_eq]; exact h1, by rw [beq_iff_eq, h2]; omega, by rw [beq_iff_eq]; exact h3, a.1, a.2, b.1, b.2, by omega, by omega, u0, u1, v0, v1⟩

theorem mirror_calls (z0 m : Int) (hz : rng z0) (hm : rng m) (w : World) (ht : Terms w) :
    Calls Tryd.prog 6 #[.int .i64 z0, .int .i64 m] w fun e w' => e = .returned (.bool true) ∧ ∃ d, w' = w.drewN d := by
  have HM := Lib.hid hm
  have HW : Hid (rng 16777216) := Lib.hid (by unfold rng; omega)
  have HT := Lib.hid ht
  have HZ0 := Lib.hid hz
  clear ht hm hz
  go_enter Tryd.func6, Tryd.ntmps6
  go_upto_if 15 with (fail)
  go_cut [0] (fun v wc => ∃ z : Int, v = .int .i64 z ∧ -9223372036854775807 ≤ z ∧ z ≤ 9223372036854775807 ∧ wc = w)
  case first =>
    by_cases c : z0 = -9223372036854775808
    · subst c
      go_wp2
      go_meet
      case rel => exact ⟨_, rfl, by omega, by omega, rfl⟩
    · have cb : (z0 == -9223372036854775808) = false := beq_eq_false_iff_ne.2 c
      have r := HZ0.out
      have r0 := r.1
      have r1 := r.2
      clear r
      rw [cb]
      go_wp2
      go_meet
      case rel => exact ⟨_, rfl, by omega, by omega, rfl⟩
  case rest =>
    obtain ⟨z, rfl, z0', z1, rfl⟩ := hcut
    obtain ⟨one, two, three, s0, s1, s2, s3, c0, c1, u0, u1, v0, v1⟩ := sides z m HM.out
    obtain ⟨_, _, _, up, lo, _⟩ := mirror_sides z m
    have HZ : Hid (rng z) := Lib.hid ⟨by omega, z1⟩
    have HN : Hid (rng (-z)) := Lib.hid (by unfold rng; omega)
    by_cases c : z < 0
    · obtain ⟨l0, l1⟩ := lo c
      clear up lo
      go_wp2_with fail
      refine (sig_calls HZ.out _ (HT.out)).mono ?_
      rintro e w1 ⟨rfl, d1, rfl⟩
      go_wp2_with fail
      refine (sig_calls HN.out _ (HT.out.drewN _)).mono ?_
      rintro e w2 ⟨rfl, d2, rfl⟩
      go_wp2_with fail
      refine (clamp_calls HM.out _).mono ?_
      rintro e w3 ⟨rfl, d3, rfl⟩
      go_wp2_with fail
      refine (clamp_calls HM.out _).mono ?_
      rintro e w4 ⟨rfl, d4, rfl⟩
      go_wp2_with fail
      refine (clamp_calls HW.out _).mono ?_
      rintro e w5 ⟨rfl, d5, rfl⟩
      go_wp2_with fail
      refine (silu_calls _ (HT.out.drewN _)).mono ?_
      rintro e w6 ⟨rfl, d6, rfl⟩
      go_wp2_with fail
      refine (silu_calls _ (HT.out.drewN _)).mono ?_
      rintro e w7 ⟨rfl, d7, rfl⟩
      go_wp2
      go_ret
      exact ⟨rfl, _, rfl⟩
    · obtain ⟨l0, l1⟩ := up c
      clear up lo
      go_wp2_with fail
      refine (sig_calls HZ.out _ (HT.out)).mono ?_
      rintro e w1 ⟨rfl, d1, rfl⟩
      go_wp2_with fail
      refine (sig_calls HN.out _ (HT.out.drewN _)).mono ?_
      rintro e w2 ⟨rfl, d2, rfl⟩
      go_wp2_with fail
      refine (clamp_calls HM.out _).mono ?_
      rintro e w3 ⟨rfl, d3, rfl⟩
      go_wp2_with fail
      refine (clamp_calls HM.out _).mono ?_
      rintro e w4 ⟨rfl, d4, rfl⟩
      go_wp2_with fail
      refine (clamp_calls HW.out _).mono ?_
      rintro e w5 ⟨rfl, d5, rfl⟩
      go_wp2_with fail
      refine (silu_calls _ (HT.out.drewN _)).mono ?_
      rintro e w6 ⟨rfl, d6, rfl⟩
      go_wp2_with fail
      refine (silu_calls _ (HT.out.drewN _)).mono ?_
      rintro e w7 ⟨rfl, d7, rfl⟩
      go_wp2
      go_ret
      exact ⟨rfl, _, rfl⟩
end Go.Proofs.YtkkmgjgpnjkhnaaDoor.Wk
