/- The whole numbers that package fix' functions and the document's tell, out of their printed walks. -/
import Derived.Test.YtnioohhiphpplaaDoorQb
import Derived.Test.YtnioohhiphpplaaDoorMexp
set_option linter.unusedVariables false
set_option linter.unusedSimpArgs false
namespace Go.Proofs.YtnioohhiphpplaaDoor.Dp
open Go.RowKit Go.Proofs.YtnioohhiphpplaaDoor.Pplays Go.Proofs.YtnioohhiphpplaaDoorW.PrintWords Go.Proofs.YtnioohhiphpplaaDoorW.PrintLast Go.Proofs.YtnioohhiphpplaaDoorW.PrintMore Go.Proofs.YtnioohhiphpplaaDoor.M
theorem shift_is {v s : Int} (hv : rng v) : fix_Shift.f v s = some (shiftF v s) := by
 unfold fix_Shift.f shiftF
 have hm := mn62 s
 by_cases h : s ≤ 0
 ·rw [if_pos h, if_pos h]
 ·have h1 := hm.2.1 (by omega)
  rw [if_neg h, if_neg h, if_pos (by omega)]
  generalize hn : mn s 62 = n at *
  rw [w64' (n := n - 1) (by omega) (by omega), if_pos (by omega), and1]
  have e : shr .i64 v (n - 1) = v / 2 ^ (n.toNat - 1) := by
   unfold shr
   have hb : IntKind.i64.bits = 64 := rfl
   rw [hb, Nat.min_eq_left (by omega), show (n - 1).toNat = n.toNat - 1 by omega]
  rw [e, shift_bits v (show 1 ≤ n.toNat by omega)]
  have r := div_pow_rng hv (n.toNat - 1)
  rw [w64 (by unfold rng at *; omega)]
theorem half_is {v : Int} (hv : rng v) : augurref01_half.f v = some (v / 2) := by
 unfold augurref01_half.f
 obtain ⟨h0, h1⟩ := hv
 rw [tmod2, tdiv2 v]
 by_cases h : 0 ≤ v
 ·rw [if_pos h, if_neg (by omega), w64' (by omega) (by omega)]
 ·rw [if_neg h]
  by_cases e : v - 2 * -(-v / 2) < 0
  ·rw [if_pos e, w64' (n := v - 1) (by omega) (by omega), tdiv2, if_neg (by omega), w64' (by omega) (by omega)]
   congr 1; omega
  ·rw [if_neg e, w64' (by omega) (by omega)]
   congr 1; omega
theorem last_is {x : Int} (hx : rng x) : (if (Int.tmod x 2) = 0 then (some (wrap64 (Int.tdiv x 2))) else ((augurref01_half.f x).bind fun t102 => (some (wrap64 (t102 + 1))))) = some ((x + 1) / 2) := by
 rw [half_is hx, Option.bind_some]
 obtain ⟨h0, h1⟩ := hx
 rw [tmod2, tdiv2]
 by_cases h : 0 ≤ x
 ·rw [if_pos h]
  split
  ·rw [w64' (by omega) (by omega)]; congr 1; omega
  ·rw [w64' (by omega) (by omega)]; congr 1; omega
 ·rw [if_neg h]
  split
  ·rw [w64' (by omega) (by omega)]; congr 1; omega
  ·rw [w64' (by omega) (by omega)]; congr 1; omega
theorem loop_is (s : Int) (_hs : 0 < s) (d : Nat) : ∀ (k : Nat) (x i : Int), rng x → 1 ≤ i → i + d = mn s 62 → d < k → augurref01_Shift.l0 k x s i = some ((x / 2 ^ d + 1) / 2) := by
 have hm := mn62 s
 induction d with
 | zero =>
  intro k x i hx hi hd hk
  obtain ⟨k, rfl⟩ : ∃ m, k = m + 1 := ⟨k - 1, by omega⟩
  simp only [augurref01_Shift.l0]
  rw [last_is hx, Int.pow_zero, Int.ediv_one]
  by_cases h1 : i < s
  ·rw [if_pos h1, if_neg (by unfold mn at hd; split at hd <;> omega)]
  ·rw [if_neg h1]
 | succ d ih =>
  intro k x i hx hi hd hk
  obtain ⟨k, rfl⟩ : ∃ m, k = m + 1 := ⟨k - 1, by omega⟩
  simp only [augurref01_Shift.l0]
  rw [if_pos (by omega), if_pos (by omega), half_is hx, Option.bind_some, w64' (by omega) (by omega)]
  rw [ih k (x / 2) (i + 1) (by unfold rng at *; omega) (by omega) (by omega) (by omega)]
  rw [Int.ediv_ediv_of_nonneg (by omega), Int.pow_succ, Int.mul_comm 2]
theorem refdiv_is {a b : Int} (ha : rng a) : augurref01_Div.f a b = some (divF a b) := by
 unfold augurref01_Div.f divF
 by_cases h : b ≤ 0
 ·rw [if_pos h, if_pos h]
 ·have hb : 0 < b := by omega
  have t := tdiv_rng ha hb
  have d := (div_rng ha hb).1
  have a1 := tdiv_mod a b
  rw [Int.mul_comm] at a1
  have a2 := Int.lt_tmod_of_pos a hb
  have a3 := Int.tmod_lt_of_pos a hb
  have hr : rng (Int.tdiv a b * b) := by
   obtain ⟨r0, r1⟩ := ha
   rcases Int.lt_or_le a 0 with q | q
   ·have : Int.tmod a b ≤ 0 := by
     rcases Int.lt_or_le 0 (Int.tmod a b) with z | z
     ·exfalso
      have e : a = -(-a) := by omega
      rw [e, Int.neg_tmod] at z
      have := Int.tmod_nonneg b (show 0 ≤ -a by omega)
      omega
     ·exact z
    have b2 : 0 ≤ -(Int.tdiv a b) := by
     have e : a = -(-a) := by omega
     rw [e, Int.neg_tdiv, Int.neg_neg, tdiv_pos (by omega)]
     exact Int.ediv_nonneg (by omega) (by omega)
    have b3 : 0 ≤ -(Int.tdiv a b) * b := Int.mul_nonneg b2 (by omega)
    rw [Int.neg_mul] at b3
    unfold rng; omega
   ·have := Int.tmod_nonneg b q
    have b2 : 0 ≤ Int.tdiv a b := by rw [tdiv_pos q]; exact Int.ediv_nonneg q (by omega)
    have b3 : 0 ≤ Int.tdiv a b * b := Int.mul_nonneg b2 (by omega)
    unfold rng; omega
  rw [if_neg h, if_neg h, if_neg (by omega), w64 t, w64 hr]
  by_cases hm : Int.tmod a b < 0
  ·rw [if_pos (by omega), div_neg hb hm, w64 d]
  ·rw [if_neg (by omega), div_nonneg hb hm]
theorem refclamp_is {a m : Int} (hm : rng m) (k : Nat) : augurref01_Clamp.f (k + 1) a m = some (clampF a m) := by
 obtain ⟨h0, h1⟩ := hm
 unfold augurref01_Clamp.f
 rw [clampF_eq]
 by_cases h : m < 0
 ·have e : mx m 0 = 0 := by unfold mx; split <;> omega
  rw [if_pos h, e]; simp only [augurref01_Clamp.j0]
  rw [w64' (by omega) (by omega)]
  repeat' split
  all_goals first | rfl | (exfalso; omega) | (congr 1; omega)
 ·have e : mx m 0 = m := by unfold mx; split <;> omega
  rw [if_neg h, e]; simp only [augurref01_Clamp.j0]
  rw [w64' (by omega) (by omega)]
  repeat' split
  all_goals first | rfl | (exfalso; omega) | (congr 1; omega)
theorem refshift_is {v s : Int} (hv : rng v) (k : Nat) (hk : 63 < k) : augurref01_Shift.f k v s = some (shiftF v s) := by
 have hm := mn62 s
 unfold augurref01_Shift.f shiftF
 by_cases h : s ≤ 0
 ·rw [if_pos h, if_pos h]
 ·have h1 := hm.2.1 (by omega)
  rw [if_neg h, if_neg h, loop_is s (by omega) ((mn s 62).toNat - 1) k v 1 hv (by omega) (by omega) (by omega)]
theorem refexp_j (x : Int) (h0 : -1048576 ≤ x) (h1 : x ≤ 0) : augurref01_Exp.j0 65 x = some (expF x) := by
 simp only [augurref01_Exp.j0]
 have en : wrap64 (-x) = -x := w64' (by omega) (by omega)
 rw [if_neg (by omega), en, refdiv_is (by unfold rng; omega), Option.bind_some]
 obtain ⟨n, hn⟩ : ∃ n, -x = n := ⟨_, rfl⟩
 rw [hn]
 have eq : divF n 45426 = n / 45426 := by unfold divF; rw [if_neg (by omega)]
 have er : wrap64 (n - wrap64 (45426 * (n / 45426))) = n % 45426 := by
  rw [w64' (n := 45426 * (n / 45426)) (by omega) (by omega), w64' (by omega) (by omega)]; omega
 rw [eq, er]
 have hr : 0 ≤ n % 45426 ∧ n % 45426 ≤ 45425 := by omega
 have steps := exp_steps h0 (show -(mn x 0) = n by unfold mn; rw [if_neg (by omega)]; exact hn)
 obtain ⟨r, hrr⟩ : ∃ r, n % 45426 = r := ⟨_, rfl⟩
 rw [hrr] at hr steps ⊢
 have p1 : polyP r 1 = 35472643 := by
  show 35472643 + shiftF (0 * r) 16 = 35472643
  rw [shift16, Int.zero_mul]; decide
 have q1 := polyP_rng hr (k := 1) (by omega)
 have q2 := polyP_rng hr (k := 2) (by omega)
 have q3 := polyP_rng hr (k := 3) (by omega)
 have q4 := polyP_rng hr (k := 4) (by omega)
 have q5 := polyP_in hr 5 (by omega)
 have p2 : polyP r 2 = -175978408 + shiftF (polyP r 1 * r) 16 := rfl
 have p3 : polyP r 3 = 536691957 + shiftF (polyP r 2 * r) 16 := rfl
 have p4 : polyP r 4 = -1073764153 + shiftF (polyP r 3 * r) 16 := rfl
 have p5 : polyP r 5 = 1073741824 + shiftF (polyP r 4 * r) 16 := rfl
 rw [show (35472643 : Int) = polyP r 1 from p1.symm, w64 q1.1, refshift_is q1.1 64 (by omega), Option.bind_some]
 have w2 : wrap64 (shiftF (polyP r 1 * r) 16 - 175978408) = polyP r 2 := by rw [w64' (by omega) (by omega), p2]; omega
 rw [w2, w64 q2.1, refshift_is q2.1 64 (by omega), Option.bind_some]
 have w3 : wrap64 (shiftF (polyP r 2 * r) 16 + 536691957) = polyP r 3 := by rw [w64' (by omega) (by omega), p3]; omega
 rw [w3, w64 q3.1, refshift_is q3.1 64 (by omega), Option.bind_some]
 have w4 : wrap64 (shiftF (polyP r 3 * r) 16 - 1073764153) = polyP r 4 := by rw [w64' (by omega) (by omega), p4]; omega
 rw [w4, w64 q4.1, refshift_is q4.1 64 (by omega), Option.bind_some]
 have w5 : wrap64 (shiftF (polyP r 4 * r) 16 + 1073741824) = polyP r 5 := by rw [w64' (by omega) (by omega), p5]; omega
 have g : rng (polyP r 5) := by unfold rng; omega
 rw [w5, refshift_is g 64 (by omega), Option.bind_some, refshift_is (shiftF_rng 14 g) 64 (by omega), Option.bind_some, steps]
theorem refexp_is (z : Int) : augurref01_Exp.f 65 z = some (expF z) := by
 unfold augurref01_Exp.f
 by_cases h : z > 0
 ·rw [if_pos h, refexp_j 0 (by omega) (by omega)]
  congr 1
  unfold expF
  rw [if_neg (by omega), if_neg (by omega)]
  have : mn z 0 = mn 0 0 := by unfold mn; rw [if_pos h]; rfl
  rw [this]
 ·rw [if_neg h]
  by_cases c : z < -1048576
  ·simp only [augurref01_Exp.j0]
   rw [if_pos c]
   unfold expF
   rw [if_pos c]
  ·exact refexp_j z (by omega) (by omega)
theorem sqrt_loop (v : Int) (hv : rng v) (d : Nat) : ∀ (k : Nat) (r i : Int), 0 ≤ i → i + d = 32 → 0 ≤ r → r + 2 ^ d ≤ 4294967296 → r * r ≤ v → v < (r + 2 ^ d) * (r + 2 ^ d) → d < k →
  ∃ s, fix_Sqrt.l0 k v r i = some s ∧ IsRoot v s := by
 induction d with
 | zero =>
  intro k r i hi hd hr0 hr1 h1 h2 hk
  obtain ⟨k, rfl⟩ : ∃ m, k = m + 1 := ⟨k - 1, by omega⟩
  refine ⟨r, ?_, hr0, h1, by rw [Int.pow_zero] at h2; exact h2⟩
  simp only [fix_Sqrt.l0]
  rw [if_neg (by omega)]
 | succ d ih =>
  intro k r i hi hd hr0 hr1 h1 h2 hk
  obtain ⟨k, rfl⟩ : ∃ m, k = m + 1 := ⟨k - 1, by omega⟩
  have hp : (2 : Int) ^ (d + 1) = 2 ^ d * 2 := Int.pow_succ _ _
  have hpos := pow_pos' d
  rw [hp] at hr1 h2
  have e31 : wrap64 (31 - i) = 31 - i := w64' (by omega) (by omega)
  have es : shl .i64 1 (31 - i) = 2 ^ d := by
   rw [shl1 (by omega) (by omega), show (31 - i).toNat = d by omega]
  simp only [fix_Sqrt.l0]
  rw [if_pos (by omega), e31, if_pos (by omega), es]
  generalize (2 : Int) ^ d = P at *
  have en : wrap64 (r + P) = r + P := w64' (by omega) (by omega)
  have ei : wrap64 (i + 1) = i + 1 := w64' (by omega) (by omega)
  rw [en, ei, if_neg (by omega)]
  have hv0 : 0 ≤ v := Int.le_trans (Int.mul_nonneg hr0 hr0) h1
  rw [tdiv_pos hv0, w64 (div_rng hv (show 0 < r + P by omega)).1]
  by_cases c : r + P ≤ v / (r + P)
  ·rw [if_pos c]
   have c' := (le_div_iff (show 0 < r + P by omega)).1 c
   exact ih k (r + P) (i + 1) (by omega) (by omega) (by omega) (by omega) c' (by rw [show r + P + P = r + P * 2 by omega]; exact h2) (by omega)
  ·rw [if_neg c]
   have c' : ¬ (r + P) * (r + P) ≤ v := fun h => c ((le_div_iff (show 0 < r + P by omega)).2 h)
   exact ih k r (i + 1) (by omega) (by omega) hr0 (by omega) h1 (by omega) (by omega)
theorem sqrt_is {v : Int} (hv : rng v) (k : Nat) (hk : 32 < k) : (v ≤ 0 ∧ fix_Sqrt.f k v = some 0) ∨ (0 < v ∧ ∃ s, fix_Sqrt.f k v = some s ∧ IsRoot v s) := by
 unfold fix_Sqrt.f
 by_cases h : v ≤ 0
 ·exact .inl ⟨h, if_pos h⟩
 ·right
  refine ⟨by omega, ?_⟩
  rw [if_neg h]
  have c : (2 : Int) ^ 32 = 4294967296 := by decide
  have h1 := hv.2
  refine sqrt_loop v hv 32 k 0 0 (by omega) (by omega) (by omega) (by rw [c]; omega) (by omega) ?_ hk
  rw [c]; omega
theorem ref_loop (v : Int) (d : Nat) : ∀ (k : Nat) (l h : Int), 0 ≤ l → l < h → h ≤ 3037000500 → h - l ≤ 2 ^ d → l * l ≤ v → v < h * h → d < k →
  ∃ s, augurref01_Sqrt.l0 k v l h = some s ∧ IsRoot v s := by
 induction d with
 | zero =>
  intro k l h l0 lh h0 hd h1 h2 hk
  obtain ⟨k, rfl⟩ : ∃ m, k = m + 1 := ⟨k - 1, by omega⟩
  rw [Int.pow_zero] at hd
  have e : h = l + 1 := by omega
  subst e
  refine ⟨l, ?_, l0, h1, h2⟩
  simp only [augurref01_Sqrt.l0]
  rw [if_neg (by rw [w64' (by omega) (by omega)]; omega)]
 | succ d ih =>
  intro k l h l0 lh h0 hd h1 h2 hk
  obtain ⟨k, rfl⟩ : ∃ m, k = m + 1 := ⟨k - 1, by omega⟩
  rw [Int.pow_succ] at hd
  simp only [augurref01_Sqrt.l0]
  by_cases c : h - l > 1
  ·rw [if_pos (by rw [w64' (by omega) (by omega)]; exact c)]
   have em : wrap64 (Int.tdiv (wrap64 (l + h)) 2) = (l + h) / 2 := by
    rw [w64' (n := l + h) (by omega) (by omega), tdiv_pos (by omega), w64' (by omega) (by omega)]
   rw [em]
   obtain ⟨m, hm⟩ : ∃ m, m = (l + h) / 2 := ⟨_, rfl⟩
   rw [← hm]
   have m2 := sq_le (show 0 ≤ m by omega) (show m ≤ 3037000499 by omega)
   have m3 : 0 ≤ m * m := Int.mul_nonneg (by omega) (by omega)
   have emm : wrap64 (m * m) = m * m := w64' (by omega) (by omega)
   rw [emm]
   by_cases q : m * m ≤ v
   ·rw [if_pos q]
    exact ih k m h (by omega) (by omega) h0 (by omega) q h2 (by omega)
   ·rw [if_neg q]
    exact ih k l m l0 (by omega) (by omega) (by omega) h1 (by omega) (by omega)
  ·have e : h = l + 1 := by omega
   subst e
   refine ⟨l, ?_, l0, h1, h2⟩
   rw [if_neg (by rw [w64' (by omega) (by omega)]; omega)]
theorem clamp_is {a m : Int} (hm : rng m) : fix_Clamp.f a m = some (clampF a m) := by
 have h := mx_rng hm
 unfold fix_Clamp.f clampF
 rw [w64' (by omega) (by omega)]
end Go.Proofs.YtnioohhiphpplaaDoor.Dp
