/- Plain mathematics for fix.Exp: the polynomial's table against a power, step by step: it falls, it halves, a sum's is the product within eight; and what the program's own steps come to. -/
import Derived.Test.YtnioohhiphpplaaDoorM
namespace Go.Proofs.YtnioohhiphpplaaDoor.M
open Go.RowKit Go.Proofs.YtnioohhiphpplaaDoorW.PrintWords Go.Proofs.YtnioohhiphpplaaDoorW.PrintLast Go.Proofs.YtnioohhiphpplaaDoorW.PrintMore
def expN (r : Nat) : Nat :=
 (1073741824 - ((1073764153 - ((536691957 - ((175978408 - (35472643 * r + 32768) / 65536) * r + 32767) / 65536) * r + 32768) / 65536) * r + 32767) / 65536 + 8192) / 16384
def yC : Nat := 1152903912555019605
def yS : Nat := 1152921504606846976
def yStep (y : Nat) : Nat := y * yC / yS
def yN : Nat → Nat
 | 0 => yS
 | n + 1 => yStep (yN n)
def okAt (r y : Nat) : Bool :=
 Nat.ble y (expN r * 17592186044416 + 17592186044416) && (Nat.ble (expN r * 17592186044416) (y + 43980465111040) && Nat.ble (expN (r+1)) (expN r))
def okRun : Nat → Nat → Nat → Nat → Bool
 | 0, _, y, e => Nat.beq y e
 | k + 1, r, y, e => okAt r y && okRun k (r + 1) (yStep y) e
theorem okRun_0 : okRun 10000 0 yS 989764017012773915 = true := by decide +kernel
theorem okRun_1 : okRun 10000 10000 989764017012773915 849696016128454791 = true := by decide +kernel
theorem okRun_2 : okRun 10000 20000 849696016128454791 729449957176255670 = true := by decide +kernel
theorem okRun_3 : okRun 10000 30000 729449957176255670 626220707081671889 = true := by decide +kernel
theorem okRun_4 : okRun 5426 40000 626220707081671889 576461575839750131 = true := by decide +kernel
theorem okRun_spec (e k : Nat) : ∀ r, okRun k r (yN r) e = true → yN (r + k) = e ∧ ∀ i, r ≤ i → i < r + k → okAt i (yN i) = true := by
 induction k with
 | zero => intro r h; exact ⟨Nat.eq_of_beq_eq_true h, fun i h1 h2 => by omega⟩
 | succ k ih =>
  intro r h
  have h' : (okAt r (yN r) && okRun k (r + 1) (yN (r + 1)) e) = true := h
  rw [Bool.and_eq_true] at h'
  have ih' := ih (r + 1) h'.2
  refine ⟨by rw [← ih'.1]; congr 1; omega, fun i h1 h2 => ?_⟩
  by_cases e : i = r
  ·subst e; exact h'.1
  ·exact ih'.2 i (by omega) (by omega)
theorem spec_0 : yN 10000 = 989764017012773915 ∧ ∀ i, 0 ≤ i → i < 10000 → okAt i (yN i) = true := okRun_spec 989764017012773915 10000 0 okRun_0
theorem spec_1 : yN 20000 = 849696016128454791 ∧ ∀ i, 10000 ≤ i → i < 20000 → okAt i (yN i) = true := okRun_spec 849696016128454791 10000 10000 (by rw [spec_0.1]; exact okRun_1)
theorem spec_2 : yN 30000 = 729449957176255670 ∧ ∀ i, 20000 ≤ i → i < 30000 → okAt i (yN i) = true := okRun_spec 729449957176255670 10000 20000 (by rw [spec_1.1]; exact okRun_2)
theorem spec_3 : yN 40000 = 626220707081671889 ∧ ∀ i, 30000 ≤ i → i < 40000 → okAt i (yN i) = true := okRun_spec 626220707081671889 10000 30000 (by rw [spec_2.1]; exact okRun_3)
theorem spec_4 : yN 45426 = 576461575839750131 ∧ ∀ i, 40000 ≤ i → i < 45426 → okAt i (yN i) = true := okRun_spec 576461575839750131 5426 40000 (by rw [spec_3.1]; exact okRun_4)
theorem okAt_all (i : Nat) (h : i < 45426) : okAt i (yN i) = true := by
 by_cases h0 : i < 10000
 ·exact spec_0.2 i (by omega) h0
 by_cases h1 : i < 20000
 ·exact spec_1.2 i (by omega) h1
 by_cases h2 : i < 30000
 ·exact spec_2.2 i (by omega) h2
 by_cases h3 : i < 40000
 ·exact spec_3.2 i (by omega) h3
 exact spec_4.2 i (by omega) h
theorem tab (i : Nat) (h : i < 45426) : yN i ≤ expN i * 17592186044416 + 17592186044416 ∧ expN i * 17592186044416 ≤ yN i + 43980465111040 ∧ expN (i + 1) ≤ expN i := by
 have := okAt_all i h
 unfold okAt at this
 simp only [Bool.and_eq_true] at this
 exact ⟨Nat.le_of_ble_eq_true this.1, Nat.le_of_ble_eq_true this.2.1, Nat.le_of_ble_eq_true this.2.2⟩
def rsh (v q : Nat) : Nat := (v + 2 ^ q / 2) / 2 ^ q
theorem rsh_zero (v : Nat) : rsh v 0 = v := by simp [rsh]
theorem rsh_succ (v q : Nat) : rsh v (q + 1) = ((v + 2 ^ q) / 2) / 2 ^ q := by
 unfold rsh
 have hp : 2 ^ (q + 1) = 2 * 2 ^ q := by rw [Nat.pow_succ, Nat.mul_comm]
 rw [Nat.div_div_eq_div_mul, hp]
 congr 2; omega
theorem rsh_double {v v' : Nat} (q : Nat) (h : v ≤ 2 * v') : rsh v (q + 1) ≤ rsh v' q := by
 rw [rsh_succ]; unfold rsh
 apply Nat.div_le_div_right
 omega
theorem rsh_step (v q : Nat) : rsh v (q + 1) ≤ rsh v q := rsh_double q (by omega)
theorem expN_zero : expN 0 = 65536 := by decide
theorem expN_anti : ∀ (d r : Nat), r + d ≤ 45426 → expN (r + d) ≤ expN r
 | 0, _, _ => Nat.le_refl _
 | d + 1, r, h => Nat.le_trans (tab (r + d) (by omega)).2.2 (expN_anti d r (by omega))
theorem expN_le (r : Nat) (h : r ≤ 45426) : expN r ≤ 65536 := by
 have := expN_anti r 0 (by omega)
 rw [Nat.zero_add, expN_zero] at this; exact this
def expQ (n : Nat) : Nat := rsh (expN (n % 45426)) (n / 45426)
theorem expQ_le (n : Nat) : expQ n ≤ 65536 := by
 unfold expQ
 have h := expN_le (n % 45426) (by omega)
 generalize n / 45426 = q
 induction q with
 | zero => rw [rsh_zero]; exact h
 | succ q ih => exact Nat.le_trans (rsh_step _ _) ih
def term : Nat → Int
 | 0 => 35472643
 | 1 => -175978408
 | 2 => 536691957
 | 3 => -1073764153
 | _ => 1073741824
def polyP (r : Int) : Nat → Int
 | 0 => 0
 | k + 1 => term k + shiftF (polyP r k * r) 16
theorem shift16 (x : Int) : shiftF x 16 = (x + 32768) / 65536 := by
 unfold shiftF
 have e : (mn 16 62).toNat - 1 = 15 := by decide
 have p : (2 : Int) ^ 15 = 32768 := by decide
 rw [if_neg (by decide), e, p]; omega
theorem shift14 (x : Int) : shiftF x 14 = (x + 8192) / 16384 := by
 unfold shiftF
 have e : (mn 14 62).toNat - 1 = 13 := by decide
 have p : (2 : Int) ^ 13 = 8192 := by decide
 rw [if_neg (by decide), e, p]; omega
theorem term_in (k : Nat) : -1073764153 ≤ term k ∧ term k ≤ 1073741824 := by
 unfold term; split <;> omega
theorem mul_in {p r B : Int} (hp : -B ≤ p ∧ p ≤ B) (hr : 0 ≤ r ∧ r ≤ 45425) : -(B * 45425) ≤ p * r ∧ p * r ≤ B * 45425 := by
 obtain ⟨p0, p1⟩ := hp
 obtain ⟨r0, r1⟩ := hr
 have a1 : p * r ≤ B * r := Int.mul_le_mul_of_nonneg_right p1 r0
 have a2 : (-B) * r ≤ p * r := Int.mul_le_mul_of_nonneg_right p0 r0
 have a3 : B * r ≤ B * 45425 := Int.mul_le_mul_of_nonneg_left r1 (by omega)
 rw [Int.neg_mul] at a2
 omega
theorem polyP_in {r : Int} (hr : 0 ≤ r ∧ r ≤ 45425) : ∀ k : Nat, k ≤ 5 → -((k : Int) * 1073764160) ≤ polyP r k ∧ polyP r k ≤ (k : Int) * 1073764160
 | 0, _ => by simp [polyP]
 | k + 1, h => by
  have ih := polyP_in hr k (by omega)
  have m := mul_in ih hr
  have t := term_in k
  show -(((k + 1 : Nat) : Int) * 1073764160) ≤ term k + shiftF (polyP r k * r) 16 ∧ term k + shiftF (polyP r k * r) 16 ≤ ((k + 1 : Nat) : Int) * 1073764160
  rw [shift16]
  omega
theorem polyP_rng {r : Int} (hr : 0 ≤ r ∧ r ≤ 45425) {k : Nat} (hk : k ≤ 5) : rng (polyP r k * r) ∧ -5368820800 ≤ polyP r k ∧ polyP r k ≤ 5368820800 ∧ -6000000000 ≤ shiftF (polyP r k * r) 16 ∧ shiftF (polyP r k * r) 16 ≤ 6000000000 := by
 have ih := polyP_in hr k hk
 have m := mul_in ih hr
 rw [shift16]
 unfold rng
 omega
theorem poly_is (r : Nat) (hr : r ≤ 45425) : shiftF (polyP r 5) 14 = ((expN r : Nat) : Int) := by
 have e1 : polyP r 1 = 35472643 := by
  show 35472643 + shiftF (0 * (r : Int)) 16 = 35472643
  rw [shift16, Int.zero_mul]; decide
 obtain ⟨n3, h3⟩ : ∃ n, n = 175978408 - (35472643 * r + 32768) / 65536 := ⟨_, rfl⟩
 have e2 : polyP r 2 = -(n3 : Int) := by
  show -175978408 + shiftF (polyP r 1 * r) 16 = _
  rw [e1, shift16]; omega
 have b3 : n3 * r ≤ 175978408 * r := Nat.mul_le_mul_right _ (by omega)
 obtain ⟨n2, h2⟩ : ∃ n, n = 536691957 - (n3 * r + 32767) / 65536 := ⟨_, rfl⟩
 have e3 : polyP r 3 = (n2 : Int) := by
  show 536691957 + shiftF (polyP r 2 * r) 16 = _
  rw [e2, shift16, Int.neg_mul, show (n3 : Int) * (r : Int) = ((n3 * r : Nat) : Int) from (Int.natCast_mul _ _).symm]; omega
 have b2 : n2 * r ≤ 536691957 * r := Nat.mul_le_mul_right _ (by omega)
 obtain ⟨n1, h1⟩ : ∃ n, n = 1073764153 - (n2 * r + 32768) / 65536 := ⟨_, rfl⟩
 have e4 : polyP r 4 = -(n1 : Int) := by
  show -1073764153 + shiftF (polyP r 3 * r) 16 = _
  rw [e3, shift16, show (n2 : Int) * (r : Int) = ((n2 * r : Nat) : Int) from (Int.natCast_mul _ _).symm]; omega
 have b1 : n1 * r ≤ 1073764153 * r := Nat.mul_le_mul_right _ (by omega)
 have e5 : polyP r 5 = ((1073741824 - (n1 * r + 32767) / 65536 : Nat) : Int) := by
  show 1073741824 + shiftF (polyP r 4 * r) 16 = _
  rw [e4, shift16, Int.neg_mul, show (n1 : Int) * (r : Int) = ((n1 * r : Nat) : Int) from (Int.natCast_mul _ _).symm]; omega
 rw [e5, shift14]
 unfold expN
 rw [← h3, ← h2, ← h1]
 omega
theorem shift_rsh (v q : Nat) (hq : q ≤ 62) : shiftF v q = ((rsh v q : Nat) : Int) := by
 unfold shiftF
 cases q with
 | zero => rw [rsh_zero]; rfl
 | succ q =>
  have e : (mn ((q + 1 : Nat) : Int) 62).toNat - 1 = q := by
   unfold mn; split <;> omega
  rw [if_neg (by omega), e, rsh_succ]
  have hp : ((2 : Int) ^ q) = ((2 ^ q : Nat) : Int) := by simp
  rw [hp, Nat.div_div_eq_div_mul, Nat.mul_comm 2, ← Nat.div_div_eq_div_mul, Nat.add_div_right _ (Nat.pow_pos (by omega))]
  have : ((v : Int) / ((2 ^ q : Nat) : Int)) = ((v / 2 ^ q : Nat) : Int) := rfl
  rw [this]; omega
def expF (z : Int) : Int := if z < -1048576 then 0 else ((expQ (-(mn z 0)).toNat : Nat) : Int)
theorem expF_in (z : Int) : 0 ≤ expF z ∧ expF z ≤ 65536 := by
 unfold expF
 split
 ·omega
 ·have := expQ_le (-(mn z 0)).toNat
  omega
theorem exp_steps {z : Int} (h0 : -1048576 ≤ z) {n : Int} (hn : -(mn z 0) = n) : shiftF (shiftF (polyP (n % 45426) 5) 14) (n / 45426) = expF z := by
 have b : 0 ≤ n ∧ n ≤ 1048576 := by
  rw [← hn]; unfold mn; split <;> omega
 unfold expF
 rw [if_neg (by omega), hn]
 obtain ⟨k, rfl⟩ := Int.eq_ofNat_of_zero_le b.1
 have e1 : ((k : Int) % 45426) = ((k % 45426 : Nat) : Int) := rfl
 have e2 : ((k : Int) / 45426) = ((k / 45426 : Nat) : Int) := rfl
 rw [e1, e2, poly_is _ (by omega), shift_rsh _ _ (by omega), Int.toNat_natCast]
 rfl
end Go.Proofs.YtnioohhiphpplaaDoor.M
