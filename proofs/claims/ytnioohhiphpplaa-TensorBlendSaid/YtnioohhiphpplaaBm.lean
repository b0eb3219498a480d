/- The plain law of Blend: between least and greatest, any order, weights times three. -/
import Derived.Test.YtnioohhiphpplaaGn
import Derived.Test.YtnioohhiphpplaaPBlendx1
set_option linter.unusedVariables false
namespace Go.Proofs.Ytnioohhiphpplaa.M
open Go.RowKit Go.Proofs.YtnioohhiphpplaaW.PrintWords Go.Proofs.YtnioohhiphpplaaW.PrintLast Go.Proofs.YtnioohhiphpplaaW.PrintMore Go.Proofs.Ytnioohhiphpplaa.Br
theorem e127_in (a : Int) : -127 ≤ clampF a 127 ∧ clampF a 127 ≤ 127 := by
  have := clampF_in (a := a) (m := 127) (by unfold rng; omega)
  unfold mx at this; omega
theorem e127_eq (a : Int) : clampF a 127 = if a < -127 then -127 else if 127 < a then 127 else a := by
  rw [clampF_eq]; unfold mx; (repeat' split) <;> omega
/-- The products of weights and numbers, added up. -/
def bS (W V : Nat → Int) (n : Nat) : Int := sumN (fun i => W i * V i) n
/-- What comes of a column. -/
def blF (W : Nat → Int) (V : Nat → Nat → Int) (n j : Nat) : Int := clampF (divF (bS W (fun i => V i j) n) (sumN W n)) 127
theorem wv_in {w v : Int} (hw : 0 ≤ w ∧ w ≤ 3298534883328) (hv : -128 ≤ v ∧ v ≤ 127) : -422212465065984 ≤ w * v ∧ w * v ≤ 422212465065984 := by
  rcases Int.le_total 0 v with b | b
  · have h1 := Int.mul_nonneg hw.1 b
    have h2 := Int.mul_le_mul hw.2 hv.2 b (by omega)
    omega
  · have h1 := Int.mul_nonneg hw.1 (show 0 ≤ -v by omega)
    have h2 := Int.mul_le_mul hw.2 (show -v ≤ 128 by omega) (by omega) (by omega)
    rw [Int.mul_neg] at h1 h2
    omega
theorem bS_in {W V : Nat → Int} {n : Nat} (hw : ∀ i, i < n → 0 ≤ W i ∧ W i ≤ 3298534883328) (hv : ∀ i, i < n → -128 ≤ V i ∧ V i ≤ 127) : -(n * 422212465065984 : Int) ≤ bS W V n ∧ bS W V n ≤ n * 422212465065984 := by
  have : ∀ k, k ≤ n → -(k * 422212465065984 : Int) ≤ bS W V k ∧ bS W V k ≤ k * 422212465065984 := by
    intro k
    induction k with
    | zero => intro _; simp [bS, sumN]
    | succ k ih =>
      intro hk
      have h1 := ih (by omega)
      have h2 := wv_in (hw k (by omega)) (hv k (by omega))
      have e : ((k + 1 : Nat) : Int) * 422212465065984 = k * 422212465065984 + 422212465065984 := by rw [Int.natCast_add, Int.add_mul]; simp
      rw [e]
      show -_ ≤ bS W V k + W k * V k ∧ bS W V k + W k * V k ≤ _
      omega
  exact this n (Nat.le_refl _)
theorem sumW_in {W : Nat → Int} {n : Nat} (hw : ∀ i, i < n → 0 ≤ W i ∧ W i ≤ 3298534883328) : ∀ k, k ≤ n → 0 ≤ sumN W k ∧ sumN W k ≤ k * 3298534883328 := by
  intro k
  induction k with
  | zero => intro _; simp [sumN]
  | succ k ih =>
    intro hk
    have h1 := ih (by omega)
    have h2 := hw k (by omega)
    have e : ((k + 1 : Nat) : Int) * 3298534883328 = k * 3298534883328 + 3298534883328 := by rw [Int.natCast_add, Int.add_mul]; simp
    rw [e]
    show 0 ≤ sumN W k + W k ∧ sumN W k + W k ≤ _
    omega
theorem bprod_loop {W V : Nat → Int} {n : Nat} (hn : n ≤ 100) (hw : ∀ i, i < n → 0 ≤ W i ∧ W i ≤ 3298534883328) (hv : ∀ i, i < n → -128 ≤ V i ∧ V i ≤ 127) {ws col : List Int} (lw : ws.length = n) (lc : col.length = n)
    (ew : ∀ i, i < n → nth ws i = W i) (ec : ∀ i, i < n → nth col i = V i) (d : Nat) : ∀ (k i : Nat), i + d = n → d < k →
    PBlend.tensor_products_int64_int8.l0 k ws col (bS W V i) (n : Int) (i : Int) = some (bS W V n) := by
  induction d with
  | zero =>
    intro k i hi hk
    obtain ⟨k, rfl⟩ : ∃ m, k = m + 1 := ⟨k - 1, by omega⟩
    simp only [PBlend.tensor_products_int64_int8.l0]
    rw [if_neg (by omega), show i = n by omega]
  | succ d ih =>
    intro k i hi hk
    obtain ⟨k, rfl⟩ : ∃ m, k = m + 1 := ⟨k - 1, by omega⟩
    simp only [PBlend.tensor_products_int64_int8.l0]
    have h1 := wv_in (hw i (by omega)) (hv i (by omega))
    have h2 := bS_in (W := W) (V := V) (n := i) (fun j hj => hw j (by omega)) (fun j hj => hv j (by omega))
    have h3 := hv i (by omega)
    simp only [rd_nth, lw, lc, ew i (by omega), ec i (by omega)]
    rw [if_pos (by omega), if_pos (by omega), if_pos (by omega)]
    try rw [if_pos (by omega)]
    rw [w64' (n := V i) (by omega) (by omega), w64' (n := W i * V i) (by omega) (by omega), w64' (n := bS W V i + W i * V i) (by omega) (by omega), w64' (n := (i : Int) + 1) (by omega) (by omega)]
    exact ih k (i + 1) (by omega) (by omega)
theorem bprod_is {W V : Nat → Int} {n : Nat} (hn : n ≤ 100) (hw : ∀ i, i < n → 0 ≤ W i ∧ W i ≤ 3298534883328) (hv : ∀ i, i < n → -128 ≤ V i ∧ V i ≤ 127) {ws col : List Int} (lw : ws.length = n) (lc : col.length = n)
    (ew : ∀ i, i < n → nth ws i = W i) (ec : ∀ i, i < n → nth col i = V i) : PBlend.tensor_products_int64_int8.f (n + 1) ws col = some (bS W V n) := by
  unfold PBlend.tensor_products_int64_int8.f
  rw [lw]
  exact bprod_loop hn hw hv lw lc ew ec n (n + 1) 0 (by omega) (by omega)
/-- A number, -128 as -127. -/
def m127 (x : Int) : Int := if x = -128 then -127 else x
/-- The least, the greatest of the first i. -/
def loN (V : Nat → Int) : Nat → Int
  | 0 => 127
  | i + 1 => if m127 (V i) < loN V i then m127 (V i) else loN V i
def hiN (V : Nat → Int) : Nat → Int
  | 0 => -127
  | i + 1 => if hiN V i < m127 (V i) then m127 (V i) else hiN V i
theorem lo_le (V : Nat → Int) {n i : Nat} (h : i < n) : loN V n ≤ m127 (V i) := by
  induction n with
  | zero => omega
  | succ n ih =>
    show (if m127 (V n) < loN V n then m127 (V n) else loN V n) ≤ _
    by_cases c : i = n
    · subst c; split <;> omega
    · have := ih (by omega)
      split <;> omega
theorem hi_ge (V : Nat → Int) {n i : Nat} (h : i < n) : m127 (V i) ≤ hiN V n := by
  induction n with
  | zero => omega
  | succ n ih =>
    show _ ≤ (if hiN V n < m127 (V n) then m127 (V n) else hiN V n)
    by_cases c : i = n
    · subst c; split <;> omega
    · have := ih (by omega)
      split <;> omega
theorem m127_in {x : Int} (h : -128 ≤ x ∧ x ≤ 127) : -127 ≤ m127 x ∧ m127 x ≤ 127 := by unfold m127; split <;> omega
theorem lo_in {V : Nat → Int} {n : Nat} (hv : ∀ i, i < n → -128 ≤ V i ∧ V i ≤ 127) : -127 ≤ loN V n ∧ loN V n ≤ 127 := by
  have : ∀ k, k ≤ n → -127 ≤ loN V k ∧ loN V k ≤ 127 := by
    intro k
    induction k with
    | zero => intro _; show (-127 : Int) ≤ 127 ∧ (127 : Int) ≤ 127; omega
    | succ k ih =>
      intro hk
      have := ih (by omega)
      have := m127_in (hv k (by omega))
      show -127 ≤ (if m127 (V k) < loN V k then m127 (V k) else loN V k) ∧ (if m127 (V k) < loN V k then m127 (V k) else loN V k) ≤ 127
      split <;> omega
  exact this n (Nat.le_refl _)
theorem hi_in {V : Nat → Int} {n : Nat} (hv : ∀ i, i < n → -128 ≤ V i ∧ V i ≤ 127) : -127 ≤ hiN V n ∧ hiN V n ≤ 127 := by
  have : ∀ k, k ≤ n → -127 ≤ hiN V k ∧ hiN V k ≤ 127 := by
    intro k
    induction k with
    | zero => intro _; show (-127 : Int) ≤ -127 ∧ (-127 : Int) ≤ 127; omega
    | succ k ih =>
      intro hk
      have := ih (by omega)
      have := m127_in (hv k (by omega))
      show -127 ≤ (if hiN V k < m127 (V k) then m127 (V k) else hiN V k) ∧ (if hiN V k < m127 (V k) then m127 (V k) else hiN V k) ≤ 127
      split <;> omega
  exact this n (Nat.le_refl _)
theorem bS_ge {W V : Nat → Int} {n : Nat} {m : Int} (hw : ∀ i, i < n → 0 ≤ W i) (h : ∀ i, i < n → m ≤ V i) : m * sumN W n ≤ bS W V n := by
  have : ∀ k, k ≤ n → m * sumN W k ≤ bS W V k := by
    intro k
    induction k with
    | zero => intro _; simp [bS, sumN]
    | succ k ih =>
      intro hk
      have h1 := ih (by omega)
      have h2 := Int.mul_le_mul_of_nonneg_left (h k (by omega)) (hw k (by omega))
      show m * (sumN W k + W k) ≤ bS W V k + W k * V k
      rw [Int.mul_add, Int.mul_comm m (W k)]
      omega
  exact this n (Nat.le_refl _)
theorem bS_le {W V : Nat → Int} {n : Nat} {m : Int} (hw : ∀ i, i < n → 0 ≤ W i) (h : ∀ i, i < n → V i ≤ m) : bS W V n ≤ m * sumN W n := by
  have : ∀ k, k ≤ n → bS W V k ≤ m * sumN W k := by
    intro k
    induction k with
    | zero => intro _; simp [bS, sumN]
    | succ k ih =>
      intro hk
      have h1 := ih (by omega)
      have h2 := Int.mul_le_mul_of_nonneg_left (h k (by omega)) (hw k (by omega))
      show bS W V k + W k * V k ≤ m * (sumN W k + W k)
      rw [Int.mul_add, Int.mul_comm m (W k)]
      omega
  exact this n (Nat.le_refl _)
theorem bl_between {W : Nat → Int} {V : Nat → Nat → Int} {n j : Nat} (hw : ∀ i, i < n → 0 ≤ W i ∧ W i ≤ 3298534883328) (hv : ∀ i, i < n → -128 ≤ V i j ∧ V i j ≤ 127) (hs : 1 ≤ sumN W n) :
    loN (fun i => V i j) n ≤ blF W V n j ∧ blF W V n j ≤ hiN (fun i => V i j) n := by
  have l1 := lo_in (V := fun i => V i j) hv
  have l2 := hi_in (V := fun i => V i j) hv
  have hb : divF (bS W (fun i => V i j) n) (sumN W n) = bS W (fun i => V i j) n / sumN W n := by unfold divF; rw [if_neg (by omega)]
  constructor
  · by_cases c : loN (fun i => V i j) n ≤ -127
    · have := (e127_in (divF (bS W (fun i => V i j) n) (sumN W n))).1
      unfold blF; omega
    · have h1 : ∀ i, i < n → loN (fun i => V i j) n ≤ V i j := fun i hi => by
        have h := lo_le (fun i => V i j) hi
        unfold m127 at h
        split at h <;> omega
      have h2 := bS_ge (fun i hi => (hw i hi).1) h1
      have h3 : loN (fun i => V i j) n ≤ bS W (fun i => V i j) n / sumN W n := (Int.le_ediv_iff_mul_le (by omega)).2 h2
      unfold blF
      rw [hb, e127_eq]
      (repeat' split) <;> omega
  · have h1 : ∀ i, i < n → V i j ≤ hiN (fun i => V i j) n := fun i hi => by
      have h := hi_ge (fun i => V i j) hi
      unfold m127 at h
      split at h <;> omega
    have h2 := bS_le (fun i hi => (hw i hi).1) h1
    have h3 : bS W (fun i => V i j) n / sumN W n ≤ hiN (fun i => V i j) n := by
      have := Int.ediv_le_ediv (show 0 < sumN W n by omega) h2
      rwa [Int.mul_ediv_cancel _ (by omega)] at this
    unfold blF
    rw [hb, e127_eq]
    (repeat' split) <;> omega
theorem sumN_mul (c : Int) (f : Nat → Int) (n : Nat) : sumN (fun i => c * f i) n = c * sumN f n := by
  induction n with
  | zero => simp [sumN]
  | succ n ih => show sumN _ n + c * f n = c * (sumN f n + f n); rw [ih, Int.mul_add]
theorem bl_three {W : Nat → Int} {V : Nat → Nat → Int} {n j : Nat} : blF (fun i => 3 * W i) V n j = blF W V n j := by
  have e1 : bS (fun i => 3 * W i) (fun i => V i j) n = 3 * bS W (fun i => V i j) n := by
    unfold bS
    rw [← sumN_mul]
    exact sumN_congr' fun i _ => Int.mul_assoc _ _ _
  unfold blF
  rw [e1, sumN_mul]
  congr 1
  unfold divF
  by_cases c : sumN W n ≤ 0
  · rw [if_pos (by omega), if_pos c]
  · rw [if_neg (by omega), if_neg c, Int.mul_ediv_mul_of_pos _ _ (by omega)]
theorem bl_moved {W : Nat → Int} {V : Nat → Nat → Int} {n : Nat} {P : List Int} (h : P.Perm (iota n)) (j : Nat) : blF (fun i => W (nth P i).toNat) (fun i => V (nth P i).toNat) n j = blF W V n j := by
  have e1 : bS (fun i => W (nth P i).toNat) (fun i => V (nth P i).toNat j) n = bS W (fun i => V i j) n := by
    unfold bS
    refine (perm_sum h (fun z : Int => W z.toNat * V z.toNat j)).trans ?_
    exact sumN_congr' fun j _ => by simp only [Int.toNat_natCast]
  have e2 : sumN (fun i => W (nth P i).toNat) n = sumN W n := by
    refine (perm_sum h (fun z : Int => W z.toNat)).trans ?_
    exact sumN_congr' fun j _ => by simp only [Int.toNat_natCast]
  unfold blF
  rw [e1, e2]
theorem sum_moved {W : Nat → Int} {n : Nat} {P : List Int} (h : P.Perm (iota n)) : sumN (fun i => W (nth P i).toNat) n = sumN W n := by
  refine (perm_sum h (fun z : Int => W z.toNat)).trans ?_
  exact sumN_congr' fun j _ => by simp only [Int.toNat_natCast]
end Go.Proofs.Ytnioohhiphpplaa.M
