/- Plain mathematics for package fix: what Shift, Clamp, Sqrt and Div compute, in whole numbers without bounds. -/
import Derived.Test.YtnioohhiphpplaaDoorW
import Derived.OpenShut
import Derived.IntWalk
namespace Go.Proofs.YtnioohhiphpplaaDoor.M
open Go.RowKit Go.Proofs.YtnioohhiphpplaaDoorW.PrintWords Go.Proofs.YtnioohhiphpplaaDoorW.PrintLast Go.Proofs.YtnioohhiphpplaaDoorW.PrintMore
def rng (a : Int) : Prop := -9223372036854775808 ≤ a ∧ a ≤ 9223372036854775807
theorem w64 {n : Int} (h : rng n) : wrap64 n = n := IntWalk.wrap64_in n h
theorem w64' {n : Int} (h0 : -9223372036854775808 ≤ n) (h1 : n ≤ 9223372036854775807) : wrap64 n = n := IntWalk.wrap64_in n ⟨h0, h1⟩
theorem and1 (n : Int) : Go.bits .and .i64 n 1 = n % 2 := by
 have h1 : (BitVec.ofInt 64 1).toNat = 2 ^ 1 - 1 := by decide
 have key : (BitVec.ofInt 64 n &&& BitVec.ofInt 64 1).toNat = (n % ((2 ^ 64 : Nat) : Int)).toNat % 2 ^ 1 := by
  rw [BitVec.toNat_and, BitVec.toNat_ofInt, h1, Nat.and_two_pow_sub_one_eq_mod]
 show IntKind.i64.wrap ((BitVec.ofInt 64 n &&& BitVec.ofInt 64 1).toNat : Nat) = n % 2
 rw [key, IntKind.wrap_i64]
 omega
theorem tdiv_pos {a b : Int} (ha : 0 ≤ a) : Int.tdiv a b = a / b := Int.tdiv_eq_ediv_of_nonneg ha
theorem tdiv_mod (a b : Int) : b * Int.tdiv a b + Int.tmod a b = a := Int.mul_tdiv_add_tmod a b
theorem fl_of {a b q r : Int} (hb : 0 < b) (h : b * q + r = a) (h0 : 0 ≤ r) (h1 : r < b) : a / b = q := by
 rw [← h, Int.add_comm, Int.add_mul_ediv_left _ _ (by omega), Int.ediv_eq_zero_of_lt h0 h1]; omega
theorem div_neg {a b : Int} (hb : 0 < b) (h : Int.tmod a b < 0) : Int.tdiv a b - 1 = a / b := by
 have h1 := tdiv_mod a b
 have h2 := Int.lt_tmod_of_pos a hb
 refine (fl_of (r := Int.tmod a b + b) hb ?_ (by omega) (by omega)).symm
 rw [Int.mul_sub]; omega
theorem div_nonneg {a b : Int} (hb : 0 < b) (h : ¬ Int.tmod a b < 0) : Int.tdiv a b = a / b := by
 have h1 := tdiv_mod a b
 have h2 := Int.tmod_lt_of_pos a hb
 exact (fl_of hb h1 (by omega) h2).symm
theorem div_rng {a b : Int} (ha : rng a) (hb : 0 < b) : rng (a / b) ∧ (a / b = -9223372036854775808 → b = 1 ∨ a / b * b = a) := by
 have h1 := Int.mul_ediv_add_emod a b
 have h2 := Int.emod_nonneg a (show b ≠ 0 by omega)
 have h3 := Int.emod_lt_of_pos a hb
 obtain ⟨r0, r1⟩ := ha
 have u : a / b ≤ 9223372036854775807 := by
  rcases Int.lt_or_le (a / b) 0 with h | h
  ·omega
  ·have : a / b * 1 ≤ a / b * b := Int.mul_le_mul_of_nonneg_left (by omega) h
   rw [Int.mul_comm] at h1; omega
 have l : -9223372036854775808 ≤ a / b := by
  refine Int.le_ediv_of_mul_le hb ?_
  have : -9223372036854775808 * b ≤ -9223372036854775808 * 1 := Int.mul_le_mul_of_nonpos_left (by omega) (by omega)
  omega
 refine ⟨⟨l, u⟩, fun e => ?_⟩
 rw [e] at h1
 right
 rw [e]
 have : -9223372036854775808 * b ≤ -9223372036854775808 * 1 := Int.mul_le_mul_of_nonpos_left (by omega) (by omega)
 rw [Int.mul_comm] at h1
 omega
def divF (a b : Int) : Int := if b ≤ 0 then 0 else a / b
theorem divF_rng {a b : Int} (ha : rng a) : rng (divF a b) := by
 unfold divF
 by_cases h : b ≤ 0
 ·rw [if_pos h]; unfold rng; omega
 ·rw [if_neg h]; exact (div_rng ha (by omega)).1
theorem tdiv_rng {a b : Int} (ha : rng a) (hb : 0 < b) : rng (Int.tdiv a b) := by
 by_cases h : Int.tmod a b < 0
 ·have h1 := div_neg hb h
  have h2 := (div_rng ha hb).1
  have h3 := tdiv_mod a b
  obtain ⟨p, q⟩ := h2
  refine ⟨by omega, ?_⟩
  by_cases hq : Int.tdiv a b ≤ 0
  ·omega
  ·exfalso
   have : b * 1 ≤ b * Int.tdiv a b := Int.mul_le_mul_of_nonneg_left (by omega) (by omega)
   have h4 := Int.tmod_nonneg b (show 0 ≤ a by have := Int.lt_tmod_of_pos a hb; omega)
   omega
 ·rw [div_nonneg hb h]; exact (div_rng ha hb).1
def clampF (a m : Int) : Int := mx (-(mx m 0)) (mn a (mx m 0))
theorem clampF_eq (a m : Int) : clampF a m = if a < -(mx m 0) then -(mx m 0) else if mx m 0 < a then mx m 0 else a := by
 unfold clampF mx mn
 repeat' split
 all_goals omega
theorem mx_rng {m : Int} (h : rng m) : 0 ≤ mx m 0 ∧ mx m 0 ≤ 9223372036854775807 := by
 obtain ⟨h0, h1⟩ := h
 unfold mx; split <;> omega
theorem clampF_in {a m : Int} (_h : rng m) : -(mx m 0) ≤ clampF a m ∧ clampF a m ≤ mx m 0 := by
 have h0 : 0 ≤ mx m 0 := by unfold mx; split <;> omega
 rw [clampF_eq]; repeat' split
 all_goals omega
def shiftF (v s : Int) : Int := if s ≤ 0 then v else (v / 2 ^ ((mn s 62).toNat - 1) + 1) / 2
theorem pow_split {n : Nat} (h : 1 ≤ n) : (2 : Int) ^ n = 2 ^ (n - 1) * 2 := by
 obtain ⟨m, rfl⟩ : ∃ m, n = m + 1 := ⟨n - 1, by omega⟩
 rw [Nat.add_sub_cancel, Int.pow_succ]
theorem pow_pos' (n : Nat) : (0 : Int) < 2 ^ n := Int.pow_pos (by omega)
theorem div_pow_succ (v : Int) {n : Nat} (h : 1 ≤ n) : v / 2 ^ n = v / 2 ^ (n - 1) / 2 := by
 rw [pow_split h, Int.ediv_ediv_of_nonneg (Int.le_of_lt (pow_pos' _))]
theorem shift_bits (v : Int) {n : Nat} (h : 1 ≤ n) : v / 2 ^ n + v / 2 ^ (n - 1) % 2 = (v / 2 ^ (n - 1) + 1) / 2 := by
 rw [div_pow_succ v h]; omega
theorem div_pow_rng {v : Int} (h : rng v) (n : Nat) : rng (v / 2 ^ n) := (div_rng h (pow_pos' n)).1
theorem mn62 (s : Int) : mn s 62 ≤ 62 ∧ (0 < s → 1 ≤ mn s 62) ∧ mn s 62 ≤ s ∧ (s ≤ 62 → mn s 62 = s) := by
 unfold mn; split <;> omega
theorem shiftF_rng {v : Int} (s : Int) (h : rng v) : rng (shiftF v s) := by
 unfold shiftF
 split
 ·exact h
 ·have := div_pow_rng h ((mn s 62).toNat - 1)
  unfold rng at *
  omega
def IsRoot (v r : Int) : Prop := 0 ≤ r ∧ r * r ≤ v ∧ v < (r + 1) * (r + 1)
theorem sq_le {a b : Int} (ha : 0 ≤ a) (h : a ≤ b) : a * a ≤ b * b := Int.mul_le_mul h h ha (by omega)
theorem isRoot_unique {v r s : Int} (hr : IsRoot v r) (hs : IsRoot v s) : r = s := by
 obtain ⟨r0, r1, r2⟩ := hr
 obtain ⟨s0, s1, s2⟩ := hs
 rcases Int.lt_trichotomy r s with h | h | h
 ·have := sq_le (show 0 ≤ r + 1 by omega) (show r + 1 ≤ s by omega); omega
 ·exact h
 ·have := sq_le (show 0 ≤ s + 1 by omega) (show s + 1 ≤ r by omega); omega
theorem le_div_iff {v n : Int} (hn : 0 < n) : n ≤ v / n ↔ n * n ≤ v := by
 rw [Int.le_ediv_iff_mul_le hn]
theorem tdiv2 (v : Int) : Int.tdiv v 2 = if 0 ≤ v then v / 2 else -((-v) / 2) := by
 by_cases h : 0 ≤ v
 ·rw [if_pos h, tdiv_pos h]
 ·rw [if_neg h]
  have e : v = -(-v) := by omega
  rw [e, Int.neg_tdiv, tdiv_pos (by omega)]
  congr 2; omega
theorem tmod2 (v : Int) : Int.tmod v 2 = v - 2 * Int.tdiv v 2 := by
 have := tdiv_mod v 2
 omega
theorem pow_le {m n : Nat} (h : m ≤ n) : (2 : Int) ^ m ≤ 2 ^ n := by
 have := Nat.pow_le_pow_right (show 0 < 2 by omega) h
 have e : ∀ n : Nat, (2 : Int) ^ n = ((2 ^ n : Nat) : Int) := fun n => by simp
 rw [e, e]; exact Int.ofNat_le.2 this
theorem shl1 {n : Int} (h0 : 0 ≤ n) (h1 : n ≤ 62) : shl .i64 1 n = 2 ^ n.toNat := by
 unfold shl
 have hb : IntKind.i64.bits = 64 := rfl
 rw [hb, Nat.min_eq_left (by omega), Int.one_mul, IntKind.wrap_i64]
 have a := pow_pos' n.toNat
 have b := pow_le (show n.toNat ≤ 62 by omega)
 have c : (2 : Int) ^ 62 = 4611686018427387904 := by decide
 omega
end Go.Proofs.YtnioohhiphpplaaDoor.M
