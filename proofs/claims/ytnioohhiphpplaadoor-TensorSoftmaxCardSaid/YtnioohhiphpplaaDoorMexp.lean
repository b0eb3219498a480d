/- Plain mathematics for fix.Exp: the polynomial's table against a power, step by step: it falls, it halves, a sum's is the product within eight; and what the program's own steps come to. -/
import Derived.Test.YtnioohhiphpplaaDoorM
namespace Go.Proofs.YtnioohhiphpplaaDoor.M
open Go.RowKit Go.Proofs.YtnioohhiphpplaaDoorW.PrintWords Go.Proofs.YtnioohhiphpplaaDoorW.PrintLast Go.Proofs.YtnioohhiphpplaaDoorW.PrintMore

/-- Exp's polynomial in whole numbers from 0 on, for r from 0 to 45426. -/
def expN (r : Nat) : Nat :=
  (1073741824 - ((1073764153 - ((536691957 - ((175978408 - (35472643 * r + 32768) / 65536) * r + 32767) / 65536) * r + 32768) / 65536) * r + 32767) / 65536 + 8192) / 16384

def yC : Nat := 1152903912555019605
def yS : Nat := 1152921504606846976
def yU : Nat := 17592186044416
def yStep (y : Nat) : Nat := y * yC / yS

def yN : Nat → Nat
  | 0 => yS
  | n + 1 => yStep (yN n)

/-- one place of the table: near the power, and not above the one before. -/
def okAt (r y : Nat) : Bool :=
  Nat.ble y (expN r * 17592186044416 + 17592186044416) && (Nat.ble (expN r * 17592186044416) (y + 43980465111040) && Nat.ble (expN (r+1)) (expN r))

def okRun : Nat → Nat → Nat → Nat → Bool
  | 0, _, y, e => Nat.beq y e
  | k + 1, r, y, e => okAt r y && okRun k (r + 1) (yStep y) e

theorem okRun_0 : okRun 10000 0 yS 989764017012773915 = true := by decide +kernel
theorem okRun_1 : okRun 10000 10000 989764017012773915 849696016128454791 = true := by decide +kernel
theorem okRun_2 : okRun 10000 20000 849696016128454791 729449957176255670 = true := by decide +kernel
theorem okRun_3 : okRun 10000 30000 729449957176255670 626220707081671889 = true := by decide +kernel
theorem okRun_4 : okRun 5426 40000 626220707081671889 576461575839750131 = true := by decide +kernel

theorem okRun_spec (e k : Nat) : ∀ r, okRun k r (yN r) e = true → yN (r + k) = e ∧ ∀ i, r ≤ i → i < r + k → okAt i (yN i) = true := by
  induction k with
  | zero => intro r h; exact ⟨Nat.eq_of_beq_eq_true h, fun i h1 h2 => by omega⟩
  | succ k ih =>
    intro r h
    have h' : (okAt r (yN r) && okRun k (r + 1) (yN (r + 1)) e) = true := h
    rw [Bool.and_eq_true] at h'
    have ih' := ih (r + 1) h'.2
    refine ⟨by rw [← ih'.1]; congr 1; omega, fun i h1 h2 => ?_⟩
    by_cases e : i = r
    · subst e; exact h'.1
    · exact ih'.2 i (by omega) (by omega)

theorem spec_0 : yN 10000 = 989764017012773915 ∧ ∀ i, 0 ≤ i → i < 10000 → okAt i (yN i) = true := okRun_spec 989764017012773915 10000 0 okRun_0
theorem spec_1 : yN 20000 = 849696016128454791 ∧ ∀ i, 10000 ≤ i → i < 20000 → okAt i (yN i) = true := okRun_spec 849696016128454791 10000 10000 (by rw [spec_0.1]; exact okRun_1)
theorem spec_2 : yN 30000 = 729449957176255670 ∧ ∀ i, 20000 ≤ i → i < 30000 → okAt i (yN i) = true := okRun_spec 729449957176255670 10000 20000 (by rw [spec_1.1]; exact okRun_2)
theorem spec_3 : yN 40000 = 626220707081671889 ∧ ∀ i, 30000 ≤ i → i < 40000 → okAt i (yN i) = true := okRun_spec 626220707081671889 10000 30000 (by rw [spec_2.1]; exact okRun_3)
theorem spec_4 : yN 45426 = 576461575839750131 ∧ ∀ i, 40000 ≤ i → i < 45426 → okAt i (yN i) = true := okRun_spec 576461575839750131 5426 40000 (by rw [spec_3.1]; exact okRun_4)
theorem okAt_all (i : Nat) (h : i < 45426) : okAt i (yN i) = true := by
  by_cases h0 : i < 10000
  · exact spec_0.2 i (by omega) h0
  by_cases h1 : i < 20000
  · exact spec_1.2 i (by omega) h1
  by_cases h2 : i < 30000
  · exact spec_2.2 i (by omega) h2
  by_cases h3 : i < 40000
  · exact spec_3.2 i (by omega) h3
  exact spec_4.2 i (by omega) h
theorem tab (i : Nat) (h : i < 45426) : yN i ≤ expN i * 17592186044416 + 17592186044416 ∧ expN i * 17592186044416 ≤ yN i + 43980465111040 ∧ expN (i + 1) ≤ expN i := by
  have := okAt_all i h
  unfold okAt at this
  simp only [Bool.and_eq_true] at this
  exact ⟨Nat.le_of_ble_eq_true this.1, Nat.le_of_ble_eq_true this.2.1, Nat.le_of_ble_eq_true this.2.2⟩

theorem yN_L : yN 45426 = 576461575839750131 := spec_4.1

theorem yS_pos : 0 < yS := by decide
theorem yStep_le (y : Nat) : yStep y * yS ≤ y * yC := Nat.div_mul_le_self _ _
theorem yStep_gt (y : Nat) : y * yC < yStep y * yS + yS := by
  unfold yStep
  have h := Nat.div_add_mod (y * yC) yS
  have h2 := Nat.mod_lt (y * yC) (show yS > 0 by decide)
  rw [Nat.mul_comm] at h
  omega

theorem yN_le : ∀ n, yN n ≤ yS
  | 0 => Nat.le_refl _
  | n + 1 => by
    have ih := yN_le n
    have h := yStep_le (yN n)
    have h2 : yN n * yC ≤ yS * yS := Nat.mul_le_mul ih (by decide)
    exact Nat.le_of_mul_le_mul_right (Nat.le_trans h h2) yS_pos

theorem yN_add1 (a b : Nat) : yS * yN (a + b) ≤ yN a * yN b + b * yS := by
  induction b with
  | zero => show yS * yN a ≤ yN a * yS + 0 * yS; rw [Nat.mul_comm]; omega
  | succ b ih =>
    have e1 : yN (a + (b + 1)) = yStep (yN (a + b)) := rfl
    have e2 : yN (b + 1) = yStep (yN b) := rfl
    have h1 := yStep_le (yN (a + b))
    have h2 := yStep_gt (yN b)
    rw [← e1] at h1; rw [← e2] at h2
    have ha := yN_le a
    have hC : yC ≤ yS := by decide
    refine Nat.le_of_mul_le_mul_left (c := yS) ?_ yS_pos
    calc yS * (yS * yN (a + (b + 1))) = yS * (yN (a + (b + 1)) * yS) := by rw [Nat.mul_comm yS (yN _)]
      _ ≤ yS * (yN (a + b) * yC) := Nat.mul_le_mul_left _ h1
      _ = (yS * yN (a + b)) * yC := by rw [Nat.mul_assoc]
      _ ≤ (yN a * yN b + b * yS) * yC := Nat.mul_le_mul_right _ ih
      _ = yN a * (yN b * yC) + b * yS * yC := by rw [Nat.add_mul, Nat.mul_assoc]
      _ ≤ yN a * (yN (b + 1) * yS + yS) + b * yS * yS := Nat.add_le_add (Nat.mul_le_mul_left _ (Nat.le_of_lt h2)) (Nat.mul_le_mul_left _ hC)
      _ = yS * (yN a * yN (b + 1)) + yN a * yS + b * yS * yS := by rw [Nat.mul_add, Nat.mul_comm yS (yN a * yN (b + 1)), Nat.mul_assoc (yN a) (yN (b + 1)) yS]
      _ ≤ yS * (yN a * yN (b + 1)) + yS * yS + b * yS * yS := by
          have := Nat.mul_le_mul_right yS ha
          omega
      _ = yS * (yN a * yN (b + 1) + (b + 1) * yS) := by
          rw [Nat.mul_add, Nat.add_mul, Nat.one_mul, Nat.mul_add, Nat.mul_comm yS (b * yS)]; omega

theorem yN_add2 (a b : Nat) : yN a * yN b ≤ yS * yN (a + b) + b * yS := by
  induction b with
  | zero => show yN a * yS ≤ yS * yN a + 0 * yS; rw [Nat.mul_comm]; omega
  | succ b ih =>
    have e1 : yN (a + (b + 1)) = yStep (yN (a + b)) := rfl
    have e2 : yN (b + 1) = yStep (yN b) := rfl
    have h1 := yStep_gt (yN (a + b))
    have h2 := yStep_le (yN b)
    rw [← e1] at h1; rw [← e2] at h2
    have hC : yC ≤ yS := by decide
    refine Nat.le_of_mul_le_mul_left (c := yS) ?_ yS_pos
    calc yS * (yN a * yN (b + 1)) = yN a * (yN (b + 1) * yS) := by rw [Nat.mul_comm yS, Nat.mul_assoc]
      _ ≤ yN a * (yN b * yC) := Nat.mul_le_mul_left _ h2
      _ = (yN a * yN b) * yC := by rw [Nat.mul_assoc]
      _ ≤ (yS * yN (a + b) + b * yS) * yC := Nat.mul_le_mul_right _ ih
      _ = yS * (yN (a + b) * yC) + b * yS * yC := by rw [Nat.add_mul, Nat.mul_assoc]
      _ ≤ yS * (yN (a + (b + 1)) * yS + yS) + b * yS * yS := Nat.add_le_add (Nat.mul_le_mul_left _ (Nat.le_of_lt h1)) (Nat.mul_le_mul_left _ hC)
      _ = yS * (yS * yN (a + (b + 1)) + (b + 1) * yS) := by
          rw [Nat.mul_add yS, Nat.mul_add yS, Nat.add_mul, Nat.one_mul, Nat.mul_add, Nat.mul_comm yS (b * yS), Nat.mul_comm (yN (a + (b+1))) yS]; omega

/-- one 45426 further: half, but for little. -/
theorem yN_half (n : Nat) : 2 * yN (n + 45426) ≤ yN n + 1759218604441 ∧ yN n ≤ 2 * yN (n + 45426) + 90853 := by
  have h1 := yN_add1 n 45426
  have h2 := yN_add2 n 45426
  have hn := yN_le n
  rw [yN_L] at h1 h2
  unfold yS at *
  omega

theorem halves_step {P A B Y k c : Nat} (h1 : 2 * B ≤ A + k) (h2 : A ≤ 2 * B + c) (i1 : P * A + k ≤ Y + P * k) (i2 : Y + c ≤ P * A + P * c) :
    2 * P * B + k ≤ Y + 2 * P * k ∧ Y + c ≤ 2 * P * B + 2 * P * c := by
  have m1 := Nat.mul_le_mul_left P h1
  have m2 := Nat.mul_le_mul_left P h2
  rw [Nat.mul_add] at m1 m2
  have a1 : P * (2 * B) = 2 * P * B := by rw [Nat.mul_left_comm, Nat.mul_assoc]
  have a2 : 2 * P * k = 2 * (P * k) := Nat.mul_assoc _ _ _
  have a3 : 2 * P * c = 2 * (P * c) := Nat.mul_assoc _ _ _
  rw [a1] at m1 m2
  rw [a2, a3]
  omega

theorem yN_halves (r q : Nat) : 2 ^ q * yN (q * 45426 + r) + 1759218604441 ≤ yN r + 2 ^ q * 1759218604441 ∧ yN r + 90853 ≤ 2 ^ q * yN (q * 45426 + r) + 2 ^ q * 90853 := by
  induction q with
  | zero =>
    simp only [Nat.zero_mul, Nat.zero_add, Nat.pow_zero, Nat.one_mul]
    exact ⟨Nat.le_refl _, Nat.le_refl _⟩
  | succ q ih =>
    have h := yN_half (q * 45426 + r)
    have e : (q + 1) * 45426 + r = q * 45426 + r + 45426 := by omega
    have hp : 2 ^ (q + 1) = 2 * 2 ^ q := by rw [Nat.pow_succ, Nat.mul_comm]
    rw [e, hp]
    exact halves_step h.1 h.2 ih.1 ih.2

theorem near_up {P X Y U k : Nat} (hP : 0 < P) (h : P * Y ≤ P * X * U + P * k) : Y ≤ X * U + k := by
  refine Nat.le_of_mul_le_mul_left (c := P) ?_ hP
  rw [Nat.mul_add, ← Nat.mul_assoc]; exact h
theorem near_lo {P X Y U k : Nat} (hP : 0 < P) (h : P * X * U ≤ P * Y + P * k) : X * U ≤ Y + k := by
  refine Nat.le_of_mul_le_mul_left (c := P) ?_ hP
  rw [Nat.mul_add, ← Nat.mul_assoc]; exact h

/-- v over 2 to the q, to the nearest; halves go up. -/
def rsh (v q : Nat) : Nat := (v + 2 ^ q / 2) / 2 ^ q

theorem rsh_zero (v : Nat) : rsh v 0 = v := by simp [rsh]
theorem rsh_lo (v q : Nat) : rsh v q * 2 ^ q ≤ v + 2 ^ q / 2 := Nat.div_mul_le_self _ _
theorem rsh_hi (v q : Nat) : v + 2 ^ q / 2 < rsh v q * 2 ^ q + 2 ^ q := by
  unfold rsh
  have h := Nat.div_add_mod (v + 2 ^ q / 2) (2 ^ q)
  have h2 := Nat.mod_lt (v + 2 ^ q / 2) (show 2 ^ q > 0 from Nat.pow_pos (by omega))
  rw [Nat.mul_comm] at h
  omega
theorem rsh_mono {v v' : Nat} (q : Nat) (h : v ≤ v') : rsh v q ≤ rsh v' q := Nat.div_le_div_right (by omega)
theorem rsh_succ (v q : Nat) : rsh v (q + 1) = ((v + 2 ^ q) / 2) / 2 ^ q := by
  unfold rsh
  have hp : 2 ^ (q + 1) = 2 * 2 ^ q := by rw [Nat.pow_succ, Nat.mul_comm]
  rw [Nat.div_div_eq_div_mul, hp]
  congr 2; omega
theorem rsh_double {v v' : Nat} (q : Nat) (h : v ≤ 2 * v') : rsh v (q + 1) ≤ rsh v' q := by
  rw [rsh_succ]; unfold rsh
  apply Nat.div_le_div_right
  omega
theorem rsh_step (v q : Nat) : rsh v (q + 1) ≤ rsh v q := rsh_double q (by omega)
theorem rsh_halves (v q : Nat) : 2 * rsh v (q + 1) ≤ rsh v q + 1 ∧ rsh v q ≤ 2 * rsh v (q + 1) + 1 := by
  have h1 := rsh_lo v q
  have h2 := rsh_hi v q
  have h3 := rsh_lo v (q + 1)
  have h4 := rsh_hi v (q + 1)
  have hp : 2 ^ (q + 1) = 2 * 2 ^ q := by rw [Nat.pow_succ, Nat.mul_comm]
  rw [hp] at h3 h4
  have hpos : 0 < 2 ^ q := Nat.pow_pos (by omega)
  generalize rsh v (q + 1) = h at *
  generalize rsh v q = e at *
  generalize 2 ^ q = P at *
  have e1 : h * (2 * P) = 2 * h * P := by rw [Nat.mul_left_comm, Nat.mul_assoc]
  rw [e1] at h3 h4
  constructor
  · refine Nat.le_of_lt_succ (Nat.lt_of_mul_lt_mul_right (a := P) ?_)
    rw [Nat.succ_eq_add_one, Nat.add_mul, Nat.add_mul]
    omega
  · refine Nat.le_of_lt_succ (Nat.lt_of_mul_lt_mul_right (a := P) ?_)
    rw [Nat.succ_eq_add_one, Nat.add_mul, Nat.add_mul]
    omega

theorem expN_zero : expN 0 = 65536 := by decide
theorem expN_last : expN 45425 = 32771 := by decide +kernel
theorem expN_anti : ∀ (d r : Nat), r + d ≤ 45426 → expN (r + d) ≤ expN r
  | 0, _, _ => Nat.le_refl _
  | d + 1, r, h => Nat.le_trans (tab (r + d) (by omega)).2.2 (expN_anti d r (by omega))
theorem expN_le (r : Nat) (h : r ≤ 45426) : expN r ≤ 65536 := by
  have := expN_anti r 0 (by omega)
  rw [Nat.zero_add, expN_zero] at this; exact this
theorem expN_ge (r : Nat) (h : r ≤ 45425) : 32771 ≤ expN r := by
  have := expN_anti (45425 - r) r (by omega)
  rw [show r + (45425 - r) = 45425 by omega, expN_last] at this; exact this

/-- Exp of -n, 16 bits behind the point. -/
def expQ (n : Nat) : Nat := rsh (expN (n % 45426)) (n / 45426)

theorem expQ_zero : expQ 0 = 65536 := by decide
theorem expQ_le (n : Nat) : expQ n ≤ 65536 := by
  unfold expQ
  have h := expN_le (n % 45426) (by omega)
  generalize n / 45426 = q
  induction q with
  | zero => rw [rsh_zero]; exact h
  | succ q ih => exact Nat.le_trans (rsh_step _ _) ih

theorem expQ_succ (n : Nat) : expQ (n + 1) ≤ expQ n := by
  unfold expQ
  by_cases h : n % 45426 = 45425
  · rw [show (n + 1) % 45426 = 0 by omega, show (n + 1) / 45426 = n / 45426 + 1 by omega, h, expN_zero, expN_last]
    exact rsh_double _ (by omega)
  · rw [show (n + 1) % 45426 = n % 45426 + 1 by omega, show (n + 1) / 45426 = n / 45426 by omega]
    exact rsh_mono _ (tab _ (by omega)).2.2

theorem expQ_anti (n : Nat) : ∀ d, expQ (n + d) ≤ expQ n
  | 0 => Nat.le_refl _
  | d + 1 => Nat.le_trans (expQ_succ (n + d)) (expQ_anti n d)
theorem expQ_mono {m n : Nat} (h : m ≤ n) : expQ n ≤ expQ m := by
  have := expQ_anti m (n - m)
  rwa [show m + (n - m) = n by omega] at this

theorem expQ_halves (n : Nat) : 2 * expQ (n + 45426) ≤ expQ n + 1 ∧ expQ n ≤ 2 * expQ (n + 45426) + 1 := by
  unfold expQ
  rw [show (n + 45426) % 45426 = n % 45426 by omega, show (n + 45426) / 45426 = n / 45426 + 1 by omega]
  exact rsh_halves _ _

theorem fin_lo2 {P E Z PX PY U K k : Nat} (hpos : k ≤ P * k) (t2 : E * U ≤ Z + 10 * k) (h1 : 2 * (PX * U) ≤ E * U + P * U) (hk : P * U = 4 * (P * k)) (hK : P * K ≤ P * k)
    (hh : Z + K ≤ 2 * PY + 2 * (P * K)) : PX * U ≤ PY + 10 * (P * k) := by omega
theorem fin_lo {P E Z PX PY : Nat} (hpos : 1 ≤ P) (t2 : E * 17592186044416 ≤ Z + 43980465111040) (h1 : 2 * PX ≤ E + P)
    (hh : Z + 90853 ≤ 2 * PY + 2 * P * 90853) : PX * 17592186044416 ≤ PY + P * 43980465111040 := by
  have hU : ∀ Q : Nat, Q * 17592186044416 = 4 * (Q * 4398046511104) := fun Q => by omega
  have hV : ∀ Q : Nat, Q * 43980465111040 = 10 * (Q * 4398046511104) := fun Q => by omega
  rw [hV]
  refine fin_lo2 (U := 17592186044416) (K := 90853) (E := E) (Z := Z) (Nat.le_mul_of_pos_left _ hpos) t2 ?_ (hU P) (Nat.mul_le_mul_left P (by decide)) ?_
  · have := Nat.mul_le_mul_right 17592186044416 h1
    rw [Nat.add_mul, Nat.mul_assoc] at this; exact this
  · rw [← Nat.mul_assoc]; exact hh

/-- Exp is near the power: in 2 to the -44: from one and a quarter below to two and a half above. -/
theorem expQ_near (n : Nat) : yN n ≤ expQ n * 17592186044416 + 21990232555520 ∧ expQ n * 17592186044416 ≤ yN n + 43980465111040 := by
  have hn : n = n / 45426 * 45426 + n % 45426 := by omega
  have hr : n % 45426 < 45426 := Nat.mod_lt _ (by omega)
  unfold expQ
  generalize n / 45426 = q at *
  generalize n % 45426 = r at *
  subst hn
  have ht := tab r hr
  have hh := yN_halves r q
  cases q with
  | zero =>
    simp only [Nat.zero_mul, Nat.zero_add, rsh_zero]
    generalize yN r = Y at *
    generalize expN r = E at *
    exact ⟨by omega, by omega⟩
  | succ q =>
    have h1 := rsh_lo (expN r) (q + 1)
    have h2 := rsh_hi (expN r) (q + 1)
    have hp : 2 ^ (q + 1) = 2 * 2 ^ q := by rw [Nat.pow_succ, Nat.mul_comm]
    have hpos : 1 ≤ 2 ^ q := Nat.pow_pos (by omega)
    rw [hp, show 2 * 2 ^ q / 2 = 2 ^ q by omega] at h1 h2
    rw [hp] at hh
    generalize rsh (expN r) (q + 1) = X at *
    generalize yN ((q + 1) * 45426 + r) = Y at *
    generalize expN r = E at *
    generalize yN r = Z at *
    generalize 2 ^ q = P at *
    have e1 : X * (2 * P) = 2 * (P * X) := by rw [Nat.mul_left_comm, Nat.mul_comm X P]
    rw [e1] at h1 h2
    have e2 : 2 * P * Y = 2 * (P * Y) := Nat.mul_assoc _ _ _
    rw [e2] at hh
    obtain ⟨t1, t2, _⟩ := ht
    constructor
    · refine near_up (P := P) (by omega) ?_
      generalize P * X = PX at *
      generalize P * Y = PY at *
      omega
    · refine near_lo (P := P) (by omega) ?_
      generalize P * X = PX at *
      generalize P * Y = PY at *
      obtain ⟨_, hh2⟩ := hh
      exact fin_lo hpos t2 h1 hh2

theorem mul_scaled (e f U : Nat) : (e * U) * (f * U) = (e * f) * (U * U) := Nat.mul_mul_mul_comm _ _ _ _
theorem mul_moved (A B k : Nat) : (A + k) * (B + k) = A * B + k * A + k * B + k * k := by
  rw [Nat.add_mul, Nat.mul_add, Nat.mul_add, Nat.mul_comm A k]; omega
theorem mul_moved2 (e f U k : Nat) : (e * U + k) * (f * U + k) = (e * f) * (U * U) + k * (e * U) + k * (f * U) + k * k := by
  rw [mul_moved, mul_scaled]

/-- Exp of a sum is the product, within eight. -/
theorem expQ_mul (a b : Nat) (hb : b ≤ 1048576) :
    expQ (a + b) ≤ (expQ a * expQ b + 32768) / 65536 + 8 ∧ (expQ a * expQ b + 32768) / 65536 ≤ expQ (a + b) + 8 := by
  have na := expQ_near a
  have nb := expQ_near b
  have ng := expQ_near (a + b)
  have m1 := yN_add1 a b
  have m2 := yN_add2 a b
  have la := yN_le a
  have lb := yN_le b
  have xa := expQ_le a
  have xb := expQ_le b
  generalize expQ a = e at *
  generalize expQ b = f at *
  generalize expQ (a + b) = g at *
  generalize yN a = A at *
  generalize yN b = B at *
  generalize yN (a + b) = G at *
  unfold yS at *
  have up := Nat.mul_le_mul na.2 nb.2
  have lo := Nat.mul_le_mul na.1 nb.1
  rw [mul_scaled] at up
  rw [mul_moved] at up
  rw [mul_moved2] at lo
  generalize e * f = ef at *
  generalize A * B = AB at *
  omega

/-! ### the program's steps -/
/-- The number of fix.terms that round k takes (the last one first). -/
def term : Nat → Int
  | 0 => 35472643
  | 1 => -175978408
  | 2 => 536691957
  | 3 => -1073764153
  | _ => 1073741824
/-- What p holds behind k rounds. -/
def polyP (r : Int) : Nat → Int
  | 0 => 0
  | k + 1 => term k + shiftF (polyP r k * r) 16
theorem shift16 (x : Int) : shiftF x 16 = (x + 32768) / 65536 := by
  unfold shiftF
  have e : (mn 16 62).toNat - 1 = 15 := by decide
  have p : (2 : Int) ^ 15 = 32768 := by decide
  rw [if_neg (by decide), e, p]; omega
theorem shift14 (x : Int) : shiftF x 14 = (x + 8192) / 16384 := by
  unfold shiftF
  have e : (mn 14 62).toNat - 1 = 13 := by decide
  have p : (2 : Int) ^ 13 = 8192 := by decide
  rw [if_neg (by decide), e, p]; omega
theorem term_in (k : Nat) : -1073764153 ≤ term k ∧ term k ≤ 1073741824 := by
  unfold term; split <;> omega
theorem mul_in {p r B : Int} (hp : -B ≤ p ∧ p ≤ B) (hr : 0 ≤ r ∧ r ≤ 45425) : -(B * 45425) ≤ p * r ∧ p * r ≤ B * 45425 := by
  obtain ⟨p0, p1⟩ := hp
  obtain ⟨r0, r1⟩ := hr
  have a1 : p * r ≤ B * r := Int.mul_le_mul_of_nonneg_right p1 r0
  have a2 : (-B) * r ≤ p * r := Int.mul_le_mul_of_nonneg_right p0 r0
  have a3 : B * r ≤ B * 45425 := Int.mul_le_mul_of_nonneg_left r1 (by omega)
  rw [Int.neg_mul] at a2
  omega
theorem polyP_in {r : Int} (hr : 0 ≤ r ∧ r ≤ 45425) : ∀ k : Nat, k ≤ 5 → -((k : Int) * 1073764160) ≤ polyP r k ∧ polyP r k ≤ (k : Int) * 1073764160
  | 0, _ => by simp [polyP]
  | k + 1, h => by
    have ih := polyP_in hr k (by omega)
    have m := mul_in ih hr
    have t := term_in k
    show -(((k + 1 : Nat) : Int) * 1073764160) ≤ term k + shiftF (polyP r k * r) 16 ∧ term k + shiftF (polyP r k * r) 16 ≤ ((k + 1 : Nat) : Int) * 1073764160
    rw [shift16]
    omega
theorem polyP_rng {r : Int} (hr : 0 ≤ r ∧ r ≤ 45425) {k : Nat} (hk : k ≤ 5) : rng (polyP r k * r) ∧ -5368820800 ≤ polyP r k ∧ polyP r k ≤ 5368820800 ∧ -6000000000 ≤ shiftF (polyP r k * r) 16 ∧ shiftF (polyP r k * r) 16 ≤ 6000000000 := by
  have ih := polyP_in hr k hk
  have m := mul_in ih hr
  rw [shift16]
  unfold rng
  omega
theorem neg_round (X : Nat) : (-(X : Int) + 32768) / 65536 = -(((X + 32767) / 65536 : Nat) : Int) := by omega
theorem pos_round (X : Nat) : ((X : Int) + 32768) / 65536 = (((X + 32768) / 65536 : Nat) : Int) := by omega
theorem poly_is (r : Nat) (hr : r ≤ 45425) : shiftF (polyP r 5) 14 = ((expN r : Nat) : Int) := by
  have e1 : polyP r 1 = 35472643 := by
    show 35472643 + shiftF (0 * (r : Int)) 16 = 35472643
    rw [shift16, Int.zero_mul]; decide
  obtain ⟨n3, h3⟩ : ∃ n, n = 175978408 - (35472643 * r + 32768) / 65536 := ⟨_, rfl⟩
  have e2 : polyP r 2 = -(n3 : Int) := by
    show -175978408 + shiftF (polyP r 1 * r) 16 = _
    rw [e1, shift16]; omega
  have b3 : n3 * r ≤ 175978408 * r := Nat.mul_le_mul_right _ (by omega)
  obtain ⟨n2, h2⟩ : ∃ n, n = 536691957 - (n3 * r + 32767) / 65536 := ⟨_, rfl⟩
  have e3 : polyP r 3 = (n2 : Int) := by
    show 536691957 + shiftF (polyP r 2 * r) 16 = _
    rw [e2, shift16, Int.neg_mul, show (n3 : Int) * (r : Int) = ((n3 * r : Nat) : Int) from (Int.natCast_mul _ _).symm]; omega
  have b2 : n2 * r ≤ 536691957 * r := Nat.mul_le_mul_right _ (by omega)
  obtain ⟨n1, h1⟩ : ∃ n, n = 1073764153 - (n2 * r + 32768) / 65536 := ⟨_, rfl⟩
  have e4 : polyP r 4 = -(n1 : Int) := by
    show -1073764153 + shiftF (polyP r 3 * r) 16 = _
    rw [e3, shift16, show (n2 : Int) * (r : Int) = ((n2 * r : Nat) : Int) from (Int.natCast_mul _ _).symm]; omega
  have b1 : n1 * r ≤ 1073764153 * r := Nat.mul_le_mul_right _ (by omega)
  have e5 : polyP r 5 = ((1073741824 - (n1 * r + 32767) / 65536 : Nat) : Int) := by
    show 1073741824 + shiftF (polyP r 4 * r) 16 = _
    rw [e4, shift16, Int.neg_mul, show (n1 : Int) * (r : Int) = ((n1 * r : Nat) : Int) from (Int.natCast_mul _ _).symm]; omega
  rw [e5, shift14]
  unfold expN
  rw [← h3, ← h2, ← h1]
  omega
theorem shift_rsh (v q : Nat) (hq : q ≤ 62) : shiftF v q = ((rsh v q : Nat) : Int) := by
  unfold shiftF
  cases q with
  | zero => rw [rsh_zero]; rfl
  | succ q =>
    have e : (mn ((q + 1 : Nat) : Int) 62).toNat - 1 = q := by
      unfold mn; split <;> omega
    rw [if_neg (by omega), e, rsh_succ]
    have hp : ((2 : Int) ^ q) = ((2 ^ q : Nat) : Int) := by simp
    rw [hp, Nat.div_div_eq_div_mul, Nat.mul_comm 2, ← Nat.div_div_eq_div_mul, Nat.add_div_right _ (Nat.pow_pos (by omega))]
    have : ((v : Int) / ((2 ^ q : Nat) : Int)) = ((v / 2 ^ q : Nat) : Int) := rfl
    rw [this]; omega
/-- e to the z, for z up to 0 (and of 0 above it), 16 bits behind the point. -/
def expF (z : Int) : Int := if z < -1048576 then 0 else ((expQ (-(mn z 0)).toNat : Nat) : Int)
theorem expF_in (z : Int) : 0 ≤ expF z ∧ expF z ≤ 65536 := by
  unfold expF
  split
  · omega
  · have := expQ_le (-(mn z 0)).toNat
    omega
theorem exp_steps {z : Int} (h0 : -1048576 ≤ z) {n : Int} (hn : -(mn z 0) = n) : shiftF (shiftF (polyP (n % 45426) 5) 14) (n / 45426) = expF z := by
  have b : 0 ≤ n ∧ n ≤ 1048576 := by
    rw [← hn]; unfold mn; split <;> omega
  unfold expF
  rw [if_neg (by omega), hn]
  obtain ⟨k, rfl⟩ := Int.eq_ofNat_of_zero_le b.1
  have e1 : ((k : Int) % 45426) = ((k % 45426 : Nat) : Int) := rfl
  have e2 : ((k : Int) / 45426) = ((k / 45426 : Nat) : Int) := rfl
  rw [e1, e2, poly_is _ (by omega), shift_rsh _ _ (by omega), Int.toNat_natCast]
  rfl
theorem expF_mono {a b : Int} (h : a ≤ b) : expF a ≤ expF b := by
  unfold expF
  by_cases c : a < -1048576
  · rw [if_pos c]; split <;> omega
  · rw [if_neg c, if_neg (by omega)]
    have : (-(mn b 0)).toNat ≤ (-(mn a 0)).toNat := by
      unfold mn
      repeat' split
      all_goals omega
    have := expQ_mono this
    omega
end Go.Proofs.YtnioohhiphpplaaDoor.M
