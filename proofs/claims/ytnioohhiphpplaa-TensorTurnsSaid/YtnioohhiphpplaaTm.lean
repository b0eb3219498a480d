/- The plain law of Turns and Rotate: pairs turned by themselves; position 0 turns nothing; position 1 are the units. -/
import Derived.Test.YtnioohhiphpplaaGn
import Derived.Test.YtnioohhiphpplaaPTensorTurnsx2
set_option linter.unusedVariables false
namespace Go.Proofs.Ytnioohhiphpplaa.M
open Go.RowKit Go.Proofs.YtnioohhiphpplaaW.PrintWords Go.Proofs.YtnioohhiphpplaaW.PrintLast Go.Proofs.YtnioohhiphpplaaW.PrintMore Go.Proofs.Ytnioohhiphpplaa.Br
open PTensorTurns (S44 k44 z44 rd_T44)

def uni (a : Int) : Prop := -16384 ≤ a ∧ a ≤ 16384
def uniT (u : S44) : Prop := uni u.f0 ∧ uni u.f1
theorem shift14 (x : Int) : shiftF x 14 = (x + 8192) / 16384 := by
  unfold shiftF
  have e : (mn 14 62).toNat - 1 = 13 := by decide
  have p : (2 : Int) ^ 13 = 8192 := by decide
  rw [if_neg (by decide), e, p]; omega
theorem tshift_is {v : Int} (hv : rng v) : PTensorTurns.fix_Shift.f v 14 = some (shiftF v 14) := by
  unfold PTensorTurns.fix_Shift.f shiftF
  have hm := mn62 14
  have h1 := hm.2.1 (by omega)
  rw [if_neg (show ¬ (14 : Int) ≤ 0 by decide), if_neg (show ¬ (14 : Int) ≤ 0 by decide)]
  generalize hn : mn 14 62 = n at *
  rw [if_pos (by omega)]
  rw [w64' (n := n - 1) (by omega) (by omega), if_pos (by omega), and1]
  have e : shr .i64 v (n - 1) = v / 2 ^ (n.toNat - 1) := by
    unfold shr
    have hb : IntKind.i64.bits = 64 := rfl
    rw [hb, Nat.min_eq_left (by omega), show (n - 1).toNat = n.toNat - 1 by omega]
  rw [e, shift_bits v (show 1 ≤ n.toNat by omega)]
  have r := div_pow_rng hv (n.toNat - 1)
  rw [w64 (by unfold rng at *; omega)]
theorem uprod_in {a b : Int} (ha : uni a) (hb : uni b) : -268435456 ≤ a * b ∧ a * b ≤ 268435456 := by
  unfold uni at *
  constructor
  · rcases Int.le_total 0 a with h | h <;> rcases Int.le_total 0 b with g | g
    · have := Int.mul_nonneg h g; omega
    · have := Int.mul_le_mul (show a ≤ 16384 by omega) (show -b ≤ 16384 by omega) (by omega) (by omega); rw [Int.mul_neg] at this; omega
    · have := Int.mul_le_mul (show -a ≤ 16384 by omega) (show b ≤ 16384 by omega) (by omega) (by omega); rw [Int.neg_mul] at this; omega
    · have := Int.mul_nonneg_of_nonpos_of_nonpos h g; omega
  · rcases Int.le_total 0 a with h | h <;> rcases Int.le_total 0 b with g | g
    · have := Int.mul_le_mul (show a ≤ 16384 by omega) (show b ≤ 16384 by omega) g (by omega); omega
    · have := Int.mul_nonneg h (show 0 ≤ -b by omega); rw [Int.mul_neg] at this; omega
    · have := Int.mul_nonneg (show 0 ≤ -a by omega) g; rw [Int.neg_mul] at this; omega
    · have := Int.mul_le_mul (show -a ≤ 16384 by omega) (show -b ≤ 16384 by omega) (by omega) (by omega); rw [Int.neg_mul_neg] at this; omega
/-- A pair turned, not rounded yet to what holds it. -/
def tuX (a b c s : Int) : Int := shiftF (a * c - b * s) 14
def tuY (a b c s : Int) : Int := shiftF (a * s + b * c) 14
theorem turn_is {a b c s : Int} (ha : uni a) (hb : uni b) (hc : uni c) (hs : uni s) : PTensorTurns.tensor_turn.f a b c s = some (tuX a b c s, tuY a b c s) := by
  have h1 := uprod_in ha hc
  have h2 := uprod_in hb hs
  have h3 := uprod_in ha hs
  have h4 := uprod_in hb hc
  unfold PTensorTurns.tensor_turn.f
  rw [w64' (n := a * c) (by omega) (by omega), w64' (n := b * s) (by omega) (by omega), w64' (n := a * s) (by omega) (by omega), w64' (n := b * c) (by omega) (by omega),
    w64' (n := a * c - b * s) (by omega) (by omega), w64' (n := a * s + b * c) (by omega) (by omega)]
  rw [tshift_is (by unfold rng; omega), tshift_is (by unfold rng; omega)]
  rfl
theorem tuX_in {a b c s : Int} (ha : uni a) (hb : uni b) (hc : uni c) (hs : uni s) : -40000 ≤ tuX a b c s ∧ tuX a b c s ≤ 40000 := by
  have h1 := uprod_in ha hc
  have h2 := uprod_in hb hs
  unfold tuX
  rw [shift14]
  omega
theorem tuY_in {a b c s : Int} (ha : uni a) (hb : uni b) (hc : uni c) (hs : uni s) : -40000 ≤ tuY a b c s ∧ tuY a b c s ≤ 40000 := by
  have h3 := uprod_in ha hs
  have h4 := uprod_in hb hc
  unfold tuY
  rw [shift14]
  omega
/-- A turn turned once more. -/
def stepT (u now : S44) : S44 := ⟨clampF (tuX now.f0 now.f1 u.f0 u.f1) 16384, clampF (tuY now.f0 now.f1 u.f0 u.f1) 16384⟩
def turnN (u : S44) : Nat → S44
  | 0 => ⟨16384, 0⟩
  | p + 1 => stepT u (turnN u p)
theorem cu_in (a : Int) : uni (clampF a 16384) := by
  have := clampF_in (a := a) (m := 16384) (by unfold rng; omega)
  unfold mx at this
  unfold uni
  omega
theorem turnN_in (u : S44) : ∀ p, uniT (turnN u p)
  | 0 => ⟨by unfold uni turnN; decide, by unfold uni turnN; decide⟩
  | p + 1 => ⟨cu_in _, cu_in _⟩
theorem cu_id {a : Int} (h : uni a) : clampF a 16384 = a := by
  unfold uni at h
  rw [clampF_eq]; unfold mx; (repeat' split) <;> omega
theorem turnN_one {u : S44} (h : uniT u) : turnN u 1 = u := by
  obtain ⟨h0, h1⟩ := h
  have e0 : tuX 16384 0 u.f0 u.f1 = u.f0 := by unfold tuX; rw [shift14]; unfold uni at h0; omega
  have e1 : tuY 16384 0 u.f0 u.f1 = u.f1 := by unfold tuY; rw [shift14]; unfold uni at h1; omega
  show stepT u ⟨16384, 0⟩ = u
  unfold stepT
  simp only
  rw [e0, e1, cu_id h0, cu_id h1]
/-- A vector's number, turned pair by pair. -/
def rotF (V : Nat → Int) (T : Nat → S44) (j : Nat) : Int :=
  if j % 2 = 0 then clampF (tuX (V j) (V (j + 1)) (T (j / 2)).f0 (T (j / 2)).f1) 127 else clampF (tuY (V (j - 1)) (V j) (T (j / 2)).f0 (T (j / 2)).f1) 127
theorem rot_even (V : Nat → Int) (T : Nat → S44) (i : Nat) : rotF V T (2 * i) = clampF (tuX (V (2 * i)) (V (2 * i + 1)) (T i).f0 (T i).f1) 127 := by
  unfold rotF
  rw [if_pos (by omega), show 2 * i / 2 = i by omega]
theorem rot_odd (V : Nat → Int) (T : Nat → S44) (i : Nat) : rotF V T (2 * i + 1) = clampF (tuY (V (2 * i)) (V (2 * i + 1)) (T i).f0 (T i).f1) 127 := by
  unfold rotF
  rw [if_neg (by omega), show (2 * i + 1) / 2 = i by omega, show 2 * i + 1 - 1 = 2 * i by omega]
def tabT (f : Nat → S44) (n : Nat) : List S44 := (List.range n).map f
theorem tabT_length (f : Nat → S44) (n : Nat) : (tabT f n).length = n := by simp [tabT]
theorem tabT_succ (f : Nat → S44) (n : Nat) : tabT f (n + 1) = tabT f n ++ [f n] := by simp [tabT, List.range_succ]
theorem tabT_get? {f : Nat → S44} {n i : Nat} (h : i < n) : (tabT f n)[i]? = some (f i) := by
  unfold tabT
  rw [List.getElem?_map, List.getElem?_range h]; rfl
theorem tabT_rd {f : Nat → S44} {n i : Nat} (h : i < n) : rd_T44 (tabT f n) (i : Int) = f i := by
  unfold rd_T44
  rw [Int.toNat_natCast, List.getD_eq_getElem?_getD, tabT_get? h]; rfl
theorem tabT_congr {f g : Nat → S44} {n : Nat} (h : ∀ i, i < n → f i = g i) : tabT f n = tabT g n :=
  List.map_congr_left fun i hi => h i (List.mem_range.1 hi)
def overT (f g : Nat → S44) (i j : Nat) : S44 := if j < i then f j else g j
theorem overT_set (f g : Nat → S44) {n i : Nat} (_h : i < n) : (tabT (overT f g i) n).set i (f i) = tabT (overT f g (i + 1)) n := by
  refine List.ext_getElem (by rw [List.length_set, tabT_length, tabT_length]) fun j h1 h2 => ?_
  rw [tabT_length] at h2
  rw [List.getElem_set]
  by_cases c : i = j
  · rw [if_pos c]; subst c; simp [tabT, overT]
  · rw [if_neg c]
    simp only [tabT, overT, List.getElem_map, List.getElem_range]
    by_cases c2 : j < i
    · rw [if_pos c2, if_pos (by omega)]
    · rw [if_neg c2, if_neg (by omega)]
theorem overT_zero (f g : Nat → S44) (n : Nat) : tabT (overT f g 0) n = tabT g n := tabT_congr fun i _ => by unfold overT; rw [if_neg (by omega)]
theorem overT_all (f g : Nat → S44) (n : Nat) : tabT (overT f g n) n = tabT f n := tabT_congr fun i hi => by unfold overT; rw [if_pos hi]
theorem overT_at (f g : Nat → S44) (i : Nat) : overT f g i i = g i := by unfold overT; rw [if_neg (by omega)]
theorem r127_in (a : Int) : -127 ≤ clampF a 127 ∧ clampF a 127 ≤ 127 := by
  have := clampF_in (a := a) (m := 127) (by unfold rng; omega)
  unfold mx at this; omega
theorem rclamp_is (a : Int) : PTensorTurns.fix_Clamp8.f a = some (clampF a 127) := by
  unfold PTensorTurns.fix_Clamp8.f PTensorTurns.fix_Clamp.f
  have h := r127_in a
  have e : mx (wrap64 (-(mx 127 0))) (mn a (mx 127 0)) = clampF a 127 := by
    rw [show wrap64 (-(mx 127 0)) = -(mx 127 0) by decide +kernel]; rfl
  rw [Option.bind_some, e, i8w (by omega) (by omega)]
theorem small_uni {x : Int} (h : -128 ≤ x ∧ x ≤ 127) : uni x := by unfold uni; omega
theorem rot_loop {V : Nat → Int} {T : Nat → S44} {q : Nat} (hq : q ≤ 1000) (hv : ∀ i, i < 2 * q → -128 ≤ V i ∧ V i ≤ 127) (ht : ∀ i, i < q → uniT (T i)) (d : Nat) : ∀ (k i : Nat), i + d = q → d < k →
    PTensorTurns.tensor_Rotate.l0 k (tab V (2 * q)) (tab (overF (rotF V T) (fun _ => 0) (2 * i)) (2 * q)) (tabT T q) (q : Int) (i : Int) = some (tab (rotF V T) (2 * q), 0) := by
  induction d with
  | zero =>
    intro k i hi hk
    obtain ⟨k, rfl⟩ : ∃ m, k = m + 1 := ⟨k - 1, by omega⟩
    simp only [PTensorTurns.tensor_Rotate.l0]
    rw [if_neg (by omega), show i = q by omega, over_all]
  | succ d ih =>
    intro k i hi hk
    obtain ⟨k, rfl⟩ : ∃ m, k = m + 1 := ⟨k - 1, by omega⟩
    have hi1 : i < q := by omega
    have e1 : wrap64 (2 * (i : Int)) = ((2 * i : Nat) : Int) := by rw [w64' (by omega) (by omega)]; omega
    have e2 : wrap64 (((2 * i : Nat) : Int) + 1) = ((2 * i + 1 : Nat) : Int) := by rw [w64' (by omega) (by omega)]; omega
    have v1 := hv (2 * i) (by omega)
    have v2 := hv (2 * i + 1) (by omega)
    simp only [PTensorTurns.tensor_Rotate.l0, e1, e2, rd_nth, tab_length, tabT_length, tabT_rd hi1]
    rw [tab_nth (show 2 * i < 2 * q by omega), tab_nth (show 2 * i + 1 < 2 * q by omega), w64' (n := V (2 * i)) (by omega) (by omega), w64' (n := V (2 * i + 1)) (by omega) (by omega),
      turn_is (small_uni v1) (small_uni v2) (ht i hi1).1 (ht i hi1).2]
    simp only [Option.bind_some, rclamp_is]
    rw [if_pos (by omega), if_pos (by omega), if_pos (by omega), if_pos (by omega), if_pos (by omega), if_pos (by omega), if_pos (by omega)]
    try rw [if_pos (by omega)]
    try rw [if_pos (by omega)]
    rw [Int.toNat_natCast, Int.toNat_natCast, ← rot_even, ← rot_odd, over_set (rotF V T) _ (by omega), over_set (rotF V T) _ (by omega), w64' (n := (i : Int) + 1) (by omega) (by omega)]
    have := ih k (i + 1) (by omega) (by omega)
    rw [show 2 * (i + 1) = 2 * i + 1 + 1 by omega, show ((i + 1 : Nat) : Int) = (i : Int) + 1 by omega] at this
    exact this
theorem rot_is {V : Nat → Int} {T : Nat → S44} {q : Nat} (hq : q ≤ 1000) (hv : ∀ i, i < 2 * q → -128 ≤ V i ∧ V i ≤ 127) (ht : ∀ i, i < q → uniT (T i)) :
    PTensorTurns.tensor_Rotate.f (q + 2) (tab V (2 * q)) (tabT T q) = some (tab (rotF V T) (2 * q), 0) := by
  unfold PTensorTurns.tensor_Rotate.f
  rw [tab_length, tabT_length, if_pos (by omega)]
  have e : (wrap64 (((2 * q : Nat) : Int) / 2) != (q : Int)) = false := bne_eq_false_iff_eq.2 (by rw [w64' (by omega) (by omega)]; omega)
  rw [e]
  simp only [PTensorTurns.tensor_Rotate.j0]
  rw [if_neg (by decide), tab_length, if_pos (by omega), if_pos (by omega), tabT_length]
  rw [show List.replicate (((2 * q : Nat) : Int)).toNat (0 : Int) = tab (overF (rotF V T) (fun _ => 0) (2 * 0)) (2 * q) by rw [show 2 * 0 = 0 from rfl, over_zero]; unfold tab; rw [List.map_const', List.length_range, Int.toNat_natCast]]
  exact rot_loop hq hv ht q (q + 1) 0 (by omega) (by omega)
/-- Nothing turned. -/
theorem rot_still {V : Nat → Int} {T : Nat → S44} {n j : Nat} (hv : ∀ i, i < n → -128 ≤ V i ∧ V i ≤ 127) (ht : ∀ i, T i = ⟨16384, 0⟩) (hj : j < n) : rotF V T j = if V j = -128 then -127 else V j := by
  have h := hv j hj
  unfold rotF
  rw [ht]
  simp only
  have e : ∀ x y : Int, tuX x y 16384 0 = x := fun x y => by unfold tuX; rw [shift14]; omega
  have e' : ∀ x y : Int, tuY x y 16384 0 = y := fun x y => by unfold tuY; rw [shift14]; omega
  rw [e, e']
  have c : clampF (V j) 127 = if V j = -128 then -127 else V j := by
    rw [clampF_eq]; unfold mx; (repeat' split) <;> omega
  split <;> exact c
theorem eqt_loop {T : Nat → S44} {n : Nat} (hn : n ≤ 1000) (d : Nat) : ∀ (k i : Nat), i + d = n → d < k → PTensorTurns.augurref00_EqTurns.l0 k (tabT T n) (tabT T n) (i : Int) = some true := by
  induction d with
  | zero =>
    intro k i hi hk
    obtain ⟨k, rfl⟩ : ∃ m, k = m + 1 := ⟨k - 1, by omega⟩
    simp only [PTensorTurns.augurref00_EqTurns.l0]
    rw [tabT_length, if_neg (by omega)]
  | succ d ih =>
    intro k i hi hk
    obtain ⟨k, rfl⟩ : ∃ m, k = m + 1 := ⟨k - 1, by omega⟩
    simp only [PTensorTurns.augurref00_EqTurns.l0]
    rw [tabT_length, if_pos (by omega), if_pos (by omega), if_pos (by omega), if_pos trivial, if_pos trivial, w64' (by omega) (by omega)]
    exact ih k (i + 1) (by omega) (by omega)
theorem eqt_is {T : Nat → S44} {n : Nat} (hn : n ≤ 1000) : PTensorTurns.augurref00_EqTurns.f (n + 1) (tabT T n) (tabT T n) = some true := by
  unfold PTensorTurns.augurref00_EqTurns.f
  rw [if_pos rfl]
  exact eqt_loop hn n (n + 1) 0 (by omega) (by omega)
end Go.Proofs.Ytnioohhiphpplaa.M
