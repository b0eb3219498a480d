/- For every z: the document's Exp, Sigmoid and Silu in whole numbers; and the walk of FixCurves: it returns true, where fix.terms holds the five numbers of the program's text. -/
import Derived.Test.YtkkmgjgpnjkhnaaDoorPFixCurvesx1
import Derived.Test.YtkkmgjgpnjkhnaaDoorLw
namespace Go.Proofs.YtkkmgjgpnjkhnaaDoor.Pure
open Go.RowKit Go.Proofs.YtkkmgjgpnjkhnaaDoor.PFixCurves Go.Proofs.YtkkmgjgpnjkhnaaDoorW.PrintWords Go.Proofs.YtkkmgjgpnjkhnaaDoorW.PrintLast Go.Proofs.YtkkmgjgpnjkhnaaDoorW.PrintMore Go.Proofs.YtkkmgjgpnjkhnaaDoor.M

theorem FixCurves.half_is {v : Int} (hv : rng v) : augurref01_half.f v = some (v / 2) := by
  unfold augurref01_half.f
  obtain ⟨h0, h1⟩ := hv
  rw [tmod2, tdiv2 v]
  by_cases h : 0 ≤ v
  · rw [if_pos h, if_neg (by omega), w64' (by omega) (by omega)]
  · rw [if_neg h]
    by_cases e : v - 2 * -(-v / 2) < 0
    · rw [if_pos e, w64' (n := v - 1) (by omega) (by omega), tdiv2, if_neg (by omega), w64' (by omega) (by omega)]
      congr 1; omega
    · rw [if_neg e, w64' (by omega) (by omega)]
      congr 1; omega

theorem FixCurves.last_is {x : Int} (hx : rng x) : (if (Int.tmod x 2) = 0 then (some (wrap64 (Int.tdiv x 2))) else ((augurref01_half.f x).bind fun t102 => (some (wrap64 (t102 + 1))))) = some ((x + 1) / 2) := by
  rw [FixCurves.half_is hx, Option.bind_some]
  obtain ⟨h0, h1⟩ := hx
  rw [tmod2, tdiv2]
  by_cases h : 0 ≤ x
  · rw [if_pos h]
    split
    · rw [w64' (by omega) (by omega)]; congr 1; omega
    · rw [w64' (by omega) (by omega)]; congr 1; omega
  · rw [if_neg h]
    split
    · rw [w64' (by omega) (by omega)]; congr 1; omega
    · rw [w64' (by omega) (by omega)]; congr 1; omega

theorem FixCurves.loop_is (s : Int) (_hs : 0 < s) (d : Nat) : ∀ (k : Nat) (x i : Int), rng x → 1 ≤ i → i + d = mn s 62 → d < k → augurref01_Shift.l0 k x s i = some ((x / 2 ^ d + 1) / 2) := by
  have hm := mn62 s
  induction d with
  | zero =>
    intro k x i hx hi hd hk
    obtain ⟨k, rfl⟩ : ∃ m, k = m + 1 := ⟨k - 1, by omega⟩
    simp only [augurref01_Shift.l0]
    rw [FixCurves.last_is hx, Int.pow_zero, Int.ediv_one]
    by_cases h1 : i < s
    · rw [if_pos h1, if_neg (by unfold mn at hd; split at hd <;> omega)]
    · rw [if_neg h1]
  | succ d ih =>
    intro k x i hx hi hd hk
    obtain ⟨k, rfl⟩ : ∃ m, k = m + 1 := ⟨k - 1, by omega⟩
    simp only [augurref01_Shift.l0]
    rw [if_pos (by omega), if_pos (by omega), FixCurves.half_is hx, Option.bind_some, w64' (by omega) (by omega)]
    rw [ih k (x / 2) (i + 1) (by unfold rng at *; omega) (by omega) (by omega) (by omega)]
    rw [Int.ediv_ediv_of_nonneg (by omega), Int.pow_succ, Int.mul_comm 2]

theorem FixCurves.refdiv_is {a b : Int} (ha : rng a) : augurref01_Div.f a b = some (divF a b) := by
  unfold augurref01_Div.f divF
  by_cases h : b ≤ 0
  · rw [if_pos h, if_pos h]
  · have hb : 0 < b := by omega
    have t := tdiv_rng ha hb
    have d := (div_rng ha hb).1
    have a1 := tdiv_mod a b
    rw [Int.mul_comm] at a1
    have a2 := Int.lt_tmod_of_pos a hb
    have a3 := Int.tmod_lt_of_pos a hb
    have hr : rng (Int.tdiv a b * b) := by
      obtain ⟨r0, r1⟩ := ha
      rcases Int.lt_or_le a 0 with q | q
      · have : Int.tmod a b ≤ 0 := by
          rcases Int.lt_or_le 0 (Int.tmod a b) with z | z
          · exfalso
            have e : a = -(-a) := by omega
            rw [e, Int.neg_tmod] at z
            have := Int.tmod_nonneg b (show 0 ≤ -a by omega)
            omega
          · exact z
        have b2 : 0 ≤ -(Int.tdiv a b) := by
          have e : a = -(-a) := by omega
          rw [e, Int.neg_tdiv, Int.neg_neg, tdiv_pos (by omega)]
          exact Int.ediv_nonneg (by omega) (by omega)
        have b3 : 0 ≤ -(Int.tdiv a b) * b := Int.mul_nonneg b2 (by omega)
        rw [Int.neg_mul] at b3
        unfold rng; omega
      · have := Int.tmod_nonneg b q
        have b2 : 0 ≤ Int.tdiv a b := by rw [tdiv_pos q]; exact Int.ediv_nonneg q (by omega)
        have b3 : 0 ≤ Int.tdiv a b * b := Int.mul_nonneg b2 (by omega)
        unfold rng; omega
    rw [if_neg h, if_neg h, if_neg (by omega), w64 t, w64 hr]
    by_cases hm : Int.tmod a b < 0
    · rw [if_pos (by omega), div_neg hb hm, w64 d]
    · rw [if_neg (by omega), div_nonneg hb hm]

theorem FixCurves.refclamp_is {a m : Int} (hm : rng m) (k : Nat) : augurref01_Clamp.f (k + 1) a m = some (clampF a m) := by
  obtain ⟨h0, h1⟩ := hm
  unfold augurref01_Clamp.f
  rw [clampF_eq]
  by_cases h : m < 0
  · have e : mx m 0 = 0 := by unfold mx; split <;> omega
    rw [if_pos h, e]; simp only [augurref01_Clamp.j0]
    rw [w64' (by omega) (by omega)]
    repeat' split
    all_goals first | rfl | (exfalso; omega) | (congr 1; omega)
  · have e : mx m 0 = m := by unfold mx; split <;> omega
    rw [if_neg h, e]; simp only [augurref01_Clamp.j0]
    rw [w64' (by omega) (by omega)]
    repeat' split
    all_goals first | rfl | (exfalso; omega) | (congr 1; omega)


theorem FixCurves.refshift_is {v s : Int} (hv : rng v) (k : Nat) (hk : 63 < k) : augurref01_Shift.f k v s = some (shiftF v s) := by
  have hm := mn62 s
  unfold augurref01_Shift.f shiftF
  by_cases h : s ≤ 0
  · rw [if_pos h, if_pos h]
  · have h1 := hm.2.1 (by omega)
    rw [if_neg h, if_neg h, FixCurves.loop_is s (by omega) ((mn s 62).toNat - 1) k v 1 hv (by omega) (by omega) (by omega)]

theorem FixCurves.refexp_j (x : Int) (h0 : -1048576 ≤ x) (h1 : x ≤ 0) : augurref01_Exp.j0 65 x = some (expF x) := by
  simp only [augurref01_Exp.j0]
  have en : wrap64 (-x) = -x := w64' (by omega) (by omega)
  rw [if_neg (by omega), en, FixCurves.refdiv_is (by unfold rng; omega), Option.bind_some]
  obtain ⟨n, hn⟩ : ∃ n, -x = n := ⟨_, rfl⟩
  rw [hn]
  have eq : divF n 45426 = n / 45426 := by unfold divF; rw [if_neg (by omega)]
  have er : wrap64 (n - wrap64 (45426 * (n / 45426))) = n % 45426 := by
    rw [w64' (n := 45426 * (n / 45426)) (by omega) (by omega), w64' (by omega) (by omega)]; omega
  rw [eq, er]
  have hr : 0 ≤ n % 45426 ∧ n % 45426 ≤ 45425 := by omega
  have steps := exp_steps h0 (show -(mn x 0) = n by unfold mn; rw [if_neg (by omega)]; exact hn)
  obtain ⟨r, hrr⟩ : ∃ r, n % 45426 = r := ⟨_, rfl⟩
  rw [hrr] at hr steps ⊢
  have p1 : polyP r 1 = 35472643 := by
    show 35472643 + shiftF (0 * r) 16 = 35472643
    rw [shift16, Int.zero_mul]; decide
  have q1 := polyP_rng hr (k := 1) (by omega)
  have q2 := polyP_rng hr (k := 2) (by omega)
  have q3 := polyP_rng hr (k := 3) (by omega)
  have q4 := polyP_rng hr (k := 4) (by omega)
  have q5 := polyP_in hr 5 (by omega)
  have p2 : polyP r 2 = -175978408 + shiftF (polyP r 1 * r) 16 := rfl
  have p3 : polyP r 3 = 536691957 + shiftF (polyP r 2 * r) 16 := rfl
  have p4 : polyP r 4 = -1073764153 + shiftF (polyP r 3 * r) 16 := rfl
  have p5 : polyP r 5 = 1073741824 + shiftF (polyP r 4 * r) 16 := rfl
  rw [show (35472643 : Int) = polyP r 1 from p1.symm, w64 q1.1, FixCurves.refshift_is q1.1 64 (by omega), Option.bind_some]
  have w2 : wrap64 (shiftF (polyP r 1 * r) 16 - 175978408) = polyP r 2 := by rw [w64' (by omega) (by omega), p2]; omega
  rw [w2, w64 q2.1, FixCurves.refshift_is q2.1 64 (by omega), Option.bind_some]
  have w3 : wrap64 (shiftF (polyP r 2 * r) 16 + 536691957) = polyP r 3 := by rw [w64' (by omega) (by omega), p3]; omega
  rw [w3, w64 q3.1, FixCurves.refshift_is q3.1 64 (by omega), Option.bind_some]
  have w4 : wrap64 (shiftF (polyP r 3 * r) 16 - 1073764153) = polyP r 4 := by rw [w64' (by omega) (by omega), p4]; omega
  rw [w4, w64 q4.1, FixCurves.refshift_is q4.1 64 (by omega), Option.bind_some]
  have w5 : wrap64 (shiftF (polyP r 4 * r) 16 + 1073741824) = polyP r 5 := by rw [w64' (by omega) (by omega), p5]; omega
  have g : rng (polyP r 5) := by unfold rng; omega
  rw [w5, FixCurves.refshift_is g 64 (by omega), Option.bind_some, FixCurves.refshift_is (shiftF_rng 14 g) 64 (by omega), Option.bind_some, steps]

theorem FixCurves.refexp_is (z : Int) : augurref01_Exp.f 65 z = some (expF z) := by
  unfold augurref01_Exp.f
  by_cases h : z > 0
  · rw [if_pos h, FixCurves.refexp_j 0 (by omega) (by omega)]
    congr 1
    unfold expF
    rw [if_neg (by omega), if_neg (by omega)]
    have : mn z 0 = mn 0 0 := by unfold mn; rw [if_pos h]; rfl
    rw [this]
  · rw [if_neg h]
    by_cases c : z < -1048576
    · simp only [augurref01_Exp.j0]
      rw [if_pos c]
      unfold expF
      rw [if_pos c]
    · exact FixCurves.refexp_j z (by omega) (by omega)

theorem FixCurves.refsig_j {x : Int} (h0 : -9223372036854775807 ≤ x) (h1 : x ≤ 9223372036854775807) : augurref01_Sigmoid.j0 66 x = some (sigF x) := by
  simp only [augurref01_Sigmoid.j0]
  by_cases c : x < 0
  · have b := expF_in x
    have p := @sigP_in (-x)
    have e : sigP (-x) = divF 4294967296 (65536 + expF x) := by unfold sigP; rw [Int.neg_neg]
    rw [if_pos c, FixCurves.refexp_is, Option.bind_some, w64' (by omega) (by omega), FixCurves.refdiv_is (by unfold rng; omega), Option.bind_some, ← e, w64' (by omega) (by omega), sigF_neg c]
  · have b := expF_in (-x)
    rw [if_neg c, w64' (n := -x) (by omega) (by omega), FixCurves.refexp_is, Option.bind_some, w64' (by omega) (by omega), FixCurves.refdiv_is (by unfold rng; omega), Option.bind_some]
    unfold sigF sigP
    rw [if_neg c]

theorem FixCurves.refsig_is {z : Int} (hz : rng z) : augurref01_Sigmoid.f 66 z = some (sigF z) := by
  obtain ⟨h0, h1⟩ := hz
  unfold augurref01_Sigmoid.f
  by_cases c : z = -9223372036854775808
  · rw [if_pos c, c, w64' (by omega) (by omega), FixCurves.refsig_j (by omega) (by omega), sigF_neg (by omega), sigF_neg (by omega), sigP_big (by omega), sigP_big (by omega)]
  · rw [if_neg c, FixCurves.refsig_j (by omega) (by omega)]

theorem FixCurves.refsilu_is {v : Int} : augurref01_Silu.f 66 v = some (siluF v) := by
  unfold augurref01_Silu.f
  have em : mx 16777216 0 = 16777216 := by decide
  have c := clampF_in (a := v) (m := 16777216) (by unfold rng; omega)
  rw [em] at c
  rw [FixCurves.refclamp_is (by unfold rng; omega) 65, Option.bind_some]
  have hv : siluF v = shiftF (clampF v 16777216 * sigF (clampF v 16777216 * 256)) 16 := rfl
  rw [hv]
  generalize clampF v 16777216 = q at *
  have b := sigF_in (q * 256)
  have p1 : q * sigF (q * 256) ≤ 16777216 * 65536 := by
    have := Int.mul_le_mul_of_nonneg_right c.2 b.1
    omega
  have p0 : -(16777216 * 65536) ≤ q * sigF (q * 256) := by
    have := Int.mul_le_mul_of_nonneg_right c.1 b.1
    omega
  have g : rng (q * sigF (q * 256)) := by unfold rng; omega
  rw [w64' (n := q * 256) (by omega) (by omega), FixCurves.refsig_is (by unfold rng; omega), Option.bind_some, w64 g, FixCurves.refshift_is g 66 (by omega)]
  rfl
end Go.Proofs.YtkkmgjgpnjkhnaaDoor.Pure
namespace Go.Proofs.YtkkmgjgpnjkhnaaDoor.Wk
open Go.RowKit Go.Proofs.YtkkmgjgpnjkhnaaDoor.PFixCurves Go.Proofs.YtkkmgjgpnjkhnaaDoorW.PrintWords Go.Proofs.YtkkmgjgpnjkhnaaDoorW.PrintLast Go.Proofs.YtkkmgjgpnjkhnaaDoorW.PrintMore Go.Proofs.YtkkmgjgpnjkhnaaDoor.M Go.Proofs.YtkkmgjgpnjkhnaaDoor.Pure

theorem drawn_three {w w4 w5 w6 : World} {n : Nat} (h4 : Drawn0 (w.drewN n) w4) (h5 : Drawn0 w4 w5) (h6 : Drawn0 w5 w6) : ∃ d, w6 = w.drewN d := by
  obtain ⟨a, rfl⟩ := h4
  obtain ⟨b, rfl⟩ := h5
  obtain ⟨c, rfl⟩ := h6
  exact ⟨_, by rw [World.drewN_drewN, World.drewN_drewN, World.drewN_drewN]⟩

theorem curves_calls (z : Int) (hz : rng z) (w : World) (ht : Terms w) :
    Calls Tryd.prog 5 #[.int .i64 z] w fun e w' => e = .returned (.bool true) ∧ ∃ d, w' = w.drewN d := by
  have HZ := Lib.hid hz
  have HT := Lib.hid ht
  clear hz ht
  go_enter Tryd.func5, Tryd.ntmps5
  go_wp2_with fail
  refine (exp_calls HZ.out _ HT.out).mono ?_
  rintro e w1 ⟨rfl, d1, rfl⟩
  go_wp2_with fail
  refine (sig_calls HZ.out _ (HT.out.drewN _)).mono ?_
  rintro e w2 ⟨rfl, d2, rfl⟩
  go_wp2_with fail
  refine (silu_calls _ (HT.out.drewN _)).mono ?_
  rintro e w3 ⟨rfl, d3, rfl⟩
  go_wp2_with fail
  refine (augurref01_Exp.calls 65 z _ _ (FixCurves.refexp_is z)).mono ?_
  rintro e w4 ⟨rfl, hb4⟩
  have HB4 := Lib.hid hb4
  clear hb4
  go_wp2_with fail
  refine (augurref01_Sigmoid.calls 66 z _ _ (FixCurves.refsig_is HZ.out)).mono ?_
  rintro e w5 ⟨rfl, hb5⟩
  have HB5 := Lib.hid hb5
  clear hb5
  go_wp2_with fail
  refine (augurref01_Silu.calls 66 z _ _ FixCurves.refsilu_is).mono ?_
  rintro e w6 ⟨rfl, hb6⟩
  have HB6 := Lib.hid hb6
  clear hb6
  go_wp2
  go_ret
  exact ⟨rfl, drawn_three HB4.out HB5.out HB6.out⟩
end Go.Proofs.YtkkmgjgpnjkhnaaDoor.Wk
