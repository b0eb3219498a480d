/- Plain mathematics for package tensor: lists of whole numbers, their products added up, a matrix times a vector. -/
import Derived.Test.YtnioohhiphpplaaM
namespace Go.Proofs.Ytnioohhiphpplaa.M
open Go.RowKit Go.Proofs.YtnioohhiphpplaaW.PrintWords Go.Proofs.YtnioohhiphpplaaW.PrintLast Go.Proofs.YtnioohhiphpplaaW.PrintMore

/-- The number at a place; 0 beyond. -/
def nth (l : List Int) (i : Nat) : Int := l.getD i 0
/-- The first n products, added up. -/
def dotN (a b : List Int) : Nat → Int
  | 0 => 0
  | n + 1 => dotN a b n + nth a n * nth b n
/-- Two lists' products, added up. -/
def dotL (a b : List Int) : Int := dotN a b a.length
/-- All numbers fit in 8 bits. -/
def Small (l : List Int) : Prop := ∀ x ∈ l, -128 ≤ x ∧ x ≤ 127
theorem Small.nth {l : List Int} (h : Small l) (i : Nat) : -128 ≤ nth l i ∧ nth l i ≤ 127 := by
  unfold M.nth
  rw [List.getD_eq_getElem?_getD]
  by_cases hi : i < l.length
  · rw [List.getElem?_eq_getElem hi]
    exact h _ (List.getElem_mem hi)
  · rw [List.getElem?_eq_none (by omega)]
    exact ⟨by decide, by decide⟩
theorem Small.take {l : List Int} (h : Small l) (n : Nat) : Small (l.take n) := fun x hx => h x (List.mem_of_mem_take hx)
theorem Small.drop {l : List Int} (h : Small l) (n : Nat) : Small (l.drop n) := fun x hx => h x (List.mem_of_mem_drop hx)
theorem prod_in {x y : Int} (hx : -128 ≤ x ∧ x ≤ 127) (hy : -128 ≤ y ∧ y ≤ 127) : -16384 ≤ x * y ∧ x * y ≤ 16384 := by
  have h1 : 0 ≤ (x + 128) * (128 - y) := Int.mul_nonneg (by omega) (by omega)
  have h2 : 0 ≤ (x + 128) * (y + 128) := Int.mul_nonneg (by omega) (by omega)
  have h3 : 0 ≤ (128 - x) * (128 - y) := Int.mul_nonneg (by omega) (by omega)
  have h4 : 0 ≤ (128 - x) * (y + 128) := Int.mul_nonneg (by omega) (by omega)
  simp only [Int.add_mul, Int.mul_add, Int.sub_mul, Int.mul_sub] at h1 h2 h3 h4
  omega
theorem dotN_in {a b : List Int} (ha : Small a) (hb : Small b) (n : Nat) : -((n : Int) * 16384) ≤ dotN a b n ∧ dotN a b n ≤ (n : Int) * 16384 := by
  induction n with
  | zero => simp [dotN]
  | succ n ih =>
    have p := prod_in (ha.nth n) (hb.nth n)
    show -(((n + 1 : Nat) : Int) * 16384) ≤ dotN a b n + nth a n * nth b n ∧ dotN a b n + nth a n * nth b n ≤ ((n + 1 : Nat) : Int) * 16384
    omega
theorem dotL_in {a b : List Int} (ha : Small a) (hb : Small b) : -((a.length : Int) * 16384) ≤ dotL a b ∧ dotL a b ≤ (a.length : Int) * 16384 := dotN_in ha hb _
/-- Row r of a matrix of so many columns. -/
def rowOf (D : List Int) (cols r : Nat) : List Int := (D.take ((r + 1) * cols)).drop (r * cols)
/-- A matrix times a vector: the first n rows. -/
def mvN (D v : List Int) (cols n : Nat) : List Int := (List.range n).map fun r => dotL (rowOf D cols r) v
theorem mvN_length (D v : List Int) (cols n : Nat) : (mvN D v cols n).length = n := by simp [mvN]
theorem mvN_nth (D v : List Int) (cols n r : Nat) (h : r < n) : nth (mvN D v cols n) r = dotL (rowOf D cols r) v := by
  unfold nth mvN
  rw [List.getD_eq_getElem?_getD, List.getElem?_map, List.getElem?_range h]; rfl
theorem set_step {f : Nat → Int} {n r : Nat} (h : r < n) : (((List.range r).map f ++ List.replicate (n - r) 0).set r (f r)) = (List.range (r + 1)).map f ++ List.replicate (n - (r + 1)) 0 := by
  rw [List.set_append_right _ _ (by simp)]
  simp only [List.length_map, List.length_range, Nat.sub_self]
  obtain ⟨m, hm⟩ : ∃ m, n - r = m + 1 := ⟨n - r - 1, by omega⟩
  rw [hm, List.replicate_succ, List.set_cons_zero, List.range_succ, List.map_append, show n - (r + 1) = m by omega]
  simp
/-- Is it a matrix? -/
def IsMat (rows cols : Int) (D : List Int) : Prop := 1 ≤ rows ∧ 1 ≤ cols ∧ rows * cols = D.length ∧ ∀ x ∈ D, -127 ≤ x
theorem IsMat.small {rows cols : Int} {D : List Int} (h : IsMat rows cols D) (i : Nat) : -127 ≤ nth D i := by
  unfold nth
  rw [List.getD_eq_getElem?_getD]
  by_cases hi : i < D.length
  · rw [List.getElem?_eq_getElem hi]
    exact h.2.2.2 _ (List.getElem_mem hi)
  · rw [List.getElem?_eq_none (by omega)]
    exact (by decide)
theorem row_bounds {rows cols : Int} {D : List Int} (h : IsMat rows cols D) {r : Int} (h0 : 0 ≤ r) (h1 : r < rows) :
    0 ≤ r * cols ∧ r * cols + cols = (r + 1) * cols ∧ (r + 1) * cols ≤ D.length ∧ cols ≤ D.length ∧ rows ≤ D.length := by
  obtain ⟨m0, m1, m2, _⟩ := h
  have e : (r + 1) * cols = r * cols + cols := by rw [Int.add_mul, Int.one_mul]
  have a : 0 ≤ r * cols := Int.mul_nonneg h0 (by omega)
  have b : (r + 1) * cols ≤ rows * cols := Int.mul_le_mul_of_nonneg_right (by omega) (by omega)
  have c : 1 * cols ≤ rows * cols := Int.mul_le_mul_of_nonneg_right (by omega) (by omega)
  have d : rows * 1 ≤ rows * cols := Int.mul_le_mul_of_nonneg_left (by omega) (by omega)
  omega
theorem rowOf_int {D : List Int} {cols r : Int} (hc : 0 ≤ cols) (hr : 0 ≤ r) : (D.take ((r + 1) * cols).toNat).drop (r * cols).toNat = rowOf D cols.toNat r.toNat := by
  obtain ⟨c, rfl⟩ := Int.eq_ofNat_of_zero_le hc
  obtain ⟨q, rfl⟩ := Int.eq_ofNat_of_zero_le hr
  unfold rowOf
  rw [Int.toNat_natCast, Int.toNat_natCast]
  rw [show ((q : Int) * (c : Int)) = ((q * c : Nat) : Int) from (Int.natCast_mul _ _).symm, Int.toNat_natCast, show (((q : Int) + 1) * (c : Int)) = (((q + 1) * c : Nat) : Int) by rw [Int.natCast_mul]; rfl, Int.toNat_natCast]
end Go.Proofs.Ytnioohhiphpplaa.M
