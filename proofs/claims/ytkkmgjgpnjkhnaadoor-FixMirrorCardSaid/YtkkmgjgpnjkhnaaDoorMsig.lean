/- Plain mathematics for fix.Sigmoid and fix.Silu: they are never below their bounds, they rise, contraries make One; and the laws of package fix in whole numbers. -/
import Derived.Test.YtkkmgjgpnjkhnaaDoorMexp
namespace Go.Proofs.YtkkmgjgpnjkhnaaDoor.M
open Go.RowKit Go.Proofs.YtkkmgjgpnjkhnaaDoorW.PrintWords Go.Proofs.YtkkmgjgpnjkhnaaDoorW.PrintLast Go.Proofs.YtkkmgjgpnjkhnaaDoorW.PrintMore

/-- 1 over 1 + e to the -z, 16 bits behind the point. -/
def sigP (z : Int) : Int := divF 4294967296 (65536 + expF (-z))
def sigF (z : Int) : Int := if z < 0 then 65536 - sigP (-(mx z (-4611686018427387904))) else sigP z
theorem sigP_in {z : Int} : 0 ≤ sigP z ∧ sigP z ≤ 65536 := by
  have e := expF_in (-z)
  unfold sigP divF
  rw [if_neg (by omega)]
  refine ⟨Int.ediv_nonneg (by omega) (by omega), ?_⟩
  exact Int.le_of_lt_add_one (Int.ediv_lt_of_lt_mul (by omega) (by omega))
theorem sigF_in (z : Int) : 0 ≤ sigF z ∧ sigF z ≤ 65536 := by
  unfold sigF
  split
  · have := @sigP_in (-(mx z (-4611686018427387904)))
    omega
  · exact sigP_in

/-- v times the sigmoid of v, 8 bits behind the point. -/
def siluF (v : Int) : Int := shiftF (clampF v 16777216 * sigF (clampF v 16777216 * 256)) 16

/-! ### Halves -/
theorem expF_neg (n : Nat) (h : n ≤ 1048576) : expF (-(n : Int)) = ((expQ n : Nat) : Int) := by
  unfold expF
  rw [if_neg (by omega)]
  have : (-(mn (-(n : Int)) 0)).toNat = n := by unfold mn; split <;> omega
  rw [this]
theorem expF_zero : expF 0 = 65536 := by
  have := expF_neg 0 (by omega)
  rw [expQ_zero] at this; exact this
theorem expF_one : expF (-65536) = 24110 := by decide +kernel
theorem halves_half {a : Int} (h0 : a ≤ 0) (h1 : -524288 ≤ a) : -1 ≤ 2 * expF (a - 45426) - expF a ∧ 2 * expF (a - 45426) - expF a ≤ 1 := by
  obtain ⟨n, hn⟩ := Int.eq_ofNat_of_zero_le (show 0 ≤ -a by omega)
  have ea : a = -(n : Int) := by omega
  have eb : a - 45426 = -((n + 45426 : Nat) : Int) := by omega
  rw [eb, ea, expF_neg _ (by omega), expF_neg _ (by omega)]
  have := expQ_halves n
  omega
theorem halves_mul {a b : Int} (h0 : a ≤ 0) (h1 : -524288 ≤ a) (k0 : b ≤ 0) (k1 : -524288 ≤ b) :
    -8 ≤ expF (a + b) - shiftF (expF a * expF b) 16 ∧ expF (a + b) - shiftF (expF a * expF b) 16 ≤ 8 := by
  obtain ⟨n, hn⟩ := Int.eq_ofNat_of_zero_le (show 0 ≤ -a by omega)
  obtain ⟨m, hm⟩ := Int.eq_ofNat_of_zero_le (show 0 ≤ -b by omega)
  have ea : a = -(n : Int) := by omega
  have eb : b = -(m : Int) := by omega
  have ec : a + b = -((n + m : Nat) : Int) := by omega
  rw [ec, ea, eb, expF_neg _ (by omega), expF_neg _ (by omega), expF_neg _ (by omega), shift16]
  have h := expQ_mul n m (by omega)
  rw [show ((expQ n : Nat) : Int) * ((expQ m : Nat) : Int) = ((expQ n * expQ m : Nat) : Int) from (Int.natCast_mul _ _).symm]
  omega
theorem expF_mul_rng (a b : Int) : 0 ≤ expF a * expF b ∧ expF a * expF b ≤ 4294967296 := by
  have ha := expF_in a
  have hb := expF_in b
  have h1 := Int.mul_nonneg ha.1 hb.1
  have h2 : expF a * expF b ≤ 65536 * expF b := Int.mul_le_mul_of_nonneg_right ha.2 hb.1
  omega

/-! ### Rises -/
theorem shiftF_mono {a b : Int} (s : Int) (h : a ≤ b) : shiftF a s ≤ shiftF b s := by
  unfold shiftF
  split
  · exact h
  · have := Int.ediv_le_ediv (pow_pos' ((mn s 62).toNat - 1)) h
    omega
theorem sigP_mono {a b : Int} (h : a ≤ b) : sigP a ≤ sigP b := by
  have e := expF_mono (show -b ≤ -a by omega)
  have ea := expF_in (-a)
  have eb := expF_in (-b)
  unfold sigP divF
  rw [if_neg (by omega), if_neg (by omega)]
  refine Int.le_ediv_of_mul_le (by omega) ?_
  have h1 := Int.ediv_mul_le 4294967296 (show (65536 + expF (-a)) ≠ 0 by omega)
  have h2 := Int.ediv_nonneg (show (0 : Int) ≤ 4294967296 by omega) (show 0 ≤ 65536 + expF (-a) by omega)
  have h3 : 4294967296 / (65536 + expF (-a)) * (65536 + expF (-b)) ≤ 4294967296 / (65536 + expF (-a)) * (65536 + expF (-a)) := Int.mul_le_mul_of_nonneg_left (by omega) h2
  omega
theorem sigP_zero : sigP 0 = 32768 := by
  have e : expF (-0) = 65536 := expF_zero
  unfold sigP divF
  rw [e, if_neg (by decide)]; decide
theorem sigF_zero : sigF 0 = 32768 := by
  unfold sigF; rw [if_neg (by omega), sigP_zero]
theorem sigP_big {z : Int} (h : 1048576 < z) : sigP z = 65536 := by
  have e : expF (-z) = 0 := by unfold expF; rw [if_pos (by omega)]
  unfold sigP divF
  rw [e, if_neg (by omega)]; decide
theorem sigF_neg {z : Int} (h : z < 0) : sigF z = 65536 - sigP (-z) := by
  unfold sigF
  rw [if_pos h]
  by_cases c : z < -4611686018427387904
  · have e : mx z (-4611686018427387904) = -4611686018427387904 := by unfold mx; rw [if_pos c]
    rw [e, sigP_big (by omega), sigP_big (by omega)]
  · have e : mx z (-4611686018427387904) = z := by unfold mx; rw [if_neg c]
    rw [e]
theorem sigF_mono {a b : Int} (h : a ≤ b) : sigF a ≤ sigF b := by
  by_cases ca : a < 0
  · rw [sigF_neg ca]
    by_cases cb : b < 0
    · rw [sigF_neg cb]
      have := sigP_mono (show -b ≤ -a by omega)
      omega
    · have eb : sigF b = sigP b := by unfold sigF; rw [if_neg cb]
      have h1 := sigP_mono (show 0 ≤ b by omega)
      have h2 := sigP_mono (show 0 ≤ -a by omega)
      rw [sigP_zero] at h1 h2
      omega
  · have ea : sigF a = sigP a := by unfold sigF; rw [if_neg ca]
    have eb : sigF b = sigP b := by unfold sigF; rw [if_neg (by omega)]
    rw [ea, eb]; exact sigP_mono h

/-! ### Mirror -/
theorem sig_mirror (z : Int) : sigF z + sigF (-z) = 65536 := by
  by_cases h : z < 0
  · have e : sigF (-z) = sigP (-z) := by unfold sigF; rw [if_neg (by omega)]
    rw [sigF_neg h, e]; omega
  · by_cases h0 : z = 0
    · subst h0
      show sigF 0 + sigF 0 = 65536
      rw [sigF_zero]; decide
    · have e : sigF z = sigP z := by unfold sigF; rw [if_neg h]
      rw [sigF_neg (show -z < 0 by omega), e, Int.neg_neg]; omega
theorem silu_mirror (z : Int) : siluF z - siluF (-z) = clampF z 16777216 := by
  unfold siluF
  rw [clampF_neg]
  generalize clampF z 16777216 = q
  have m := sig_mirror (q * 256)
  rw [show -q * 256 = -(q * 256) from Int.neg_mul .., show sigF (-(q * 256)) = 65536 - sigF (q * 256) by omega]
  generalize sigF (q * 256) = s
  rw [shift16, shift16, Int.mul_sub, Int.neg_mul, Int.neg_mul]
  generalize q * s = x
  omega
theorem silu_up {z : Int} (h : 0 ≤ z) : 0 ≤ siluF z ∧ siluF z ≤ clampF z 16777216 := by
  have em : mx 16777216 0 = 16777216 := by decide
  have c := clampF_in (a := z) (m := 16777216) (by unfold rng; omega)
  rw [em] at c
  have c0 : 0 ≤ clampF z 16777216 := by
    rw [clampF_eq, em]
    repeat' split
    all_goals omega
  unfold siluF
  rw [shift16]
  generalize clampF z 16777216 = q at *
  have b := sigF_in (q * 256)
  have p0 := Int.mul_nonneg c0 b.1
  have p1 : q * sigF (q * 256) ≤ q * 65536 := Int.mul_le_mul_of_nonneg_left b.2 c0
  omega
/-- Silu of -n, for n up to 4097, told by kernel: not below -71. -/
def lowAt (n : Nat) : Bool := Nat.ble (n * (65536 - 4294967296 / (65536 + expQ (n * 256)))) (71 * 65536 + 32768)
def lowRun : Nat → Bool
  | 0 => true
  | n + 1 => lowAt n && lowRun n
theorem lowRun_ok : lowRun 4097 = true := by decide +kernel
theorem lowRun_spec : ∀ k, lowRun k = true → ∀ n, n < k → lowAt n = true
  | 0, _, n, h => by omega
  | k + 1, hk, n, h => by
    have hk' : (lowAt k && lowRun k) = true := hk
    rw [Bool.and_eq_true] at hk'
    by_cases e : n = k
    · subst e; exact hk'.1
    · exact lowRun_spec k hk'.2 n (by omega)
theorem silu_low {z : Int} (h : z < 0) : -71 ≤ siluF z ∧ siluF z ≤ 0 := by
  have em : mx 16777216 0 = 16777216 := by decide
  have c := clampF_in (a := z) (m := 16777216) (by unfold rng; omega)
  rw [em] at c
  have c0 : clampF z 16777216 < 0 := by
    rw [clampF_eq, em]
    repeat' split
    all_goals omega
  unfold siluF
  rw [shift16]
  generalize clampF z 16777216 = q at *
  obtain ⟨n, hn⟩ := Int.eq_ofNat_of_zero_le (show 0 ≤ -q by omega)
  have eq : q = -(n : Int) := by omega
  have b := sigF_in (q * 256)
  have p0 : q * sigF (q * 256) ≤ 0 := by
    have := Int.mul_nonneg (show 0 ≤ -q by omega) b.1
    rw [Int.neg_mul] at this; omega
  refine ⟨?_, by omega⟩
  by_cases big : n < 4097
  · have hl := lowRun_spec 4097 lowRun_ok n big
    unfold lowAt at hl
    have hl := Nat.le_of_ble_eq_true hl
    have es : sigF (q * 256) = ((65536 - 4294967296 / (65536 + expQ (n * 256)) : Nat) : Int) := by
      rw [sigF_neg (by omega)]
      unfold sigP divF
      have e1 : -(-(q * 256)) = -((n * 256 : Nat) : Int) := by omega
      rw [e1, expF_neg _ (by omega), if_neg (by omega)]
      have : 4294967296 / (65536 + expQ (n * 256)) ≤ 65536 := Nat.div_le_of_le_mul (by omega)
      have e2 : (4294967296 : Int) / (65536 + ((expQ (n * 256) : Nat) : Int)) = ((4294967296 / (65536 + expQ (n * 256)) : Nat) : Int) := rfl
      rw [e2]; omega
    rw [es, eq, Int.neg_mul, show (n : Int) * ((65536 - 4294967296 / (65536 + expQ (n * 256)) : Nat) : Int) = ((n * (65536 - 4294967296 / (65536 + expQ (n * 256))) : Nat) : Int) from (Int.natCast_mul _ _).symm]
    omega
  · have es : sigF (q * 256) = 0 := by
      rw [sigF_neg (by omega), sigP_big (by omega)]; decide
    rw [es, Int.mul_zero]; decide
end Go.Proofs.YtkkmgjgpnjkhnaaDoor.M
