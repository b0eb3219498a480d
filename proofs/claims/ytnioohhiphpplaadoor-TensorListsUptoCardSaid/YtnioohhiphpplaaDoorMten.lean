/- Plain mathematics for package tensor: lists of whole numbers, their products added up, a matrix times a vector. -/
import Derived.Test.YtnioohhiphpplaaDoorM
namespace Go.Proofs.YtnioohhiphpplaaDoor.M
open Go.RowKit Go.Proofs.YtnioohhiphpplaaDoorW.PrintWords Go.Proofs.YtnioohhiphpplaaDoorW.PrintLast Go.Proofs.YtnioohhiphpplaaDoorW.PrintMore
def nth (l : List Int) (i : Nat) : Int := l.getD i 0
def Small (l : List Int) : Prop := ∀ x ∈ l, -128 ≤ x ∧ x ≤ 127
theorem Small.nth {l : List Int} (h : Small l) (i : Nat) : -128 ≤ nth l i ∧ nth l i ≤ 127 := by
 unfold M.nth
 rw [List.getD_eq_getElem?_getD]
 by_cases hi : i < l.length
 ·rw [List.getElem?_eq_getElem hi]
  exact h _ (List.getElem_mem hi)
 ·rw [List.getElem?_eq_none (by omega)]
  exact ⟨by decide, by decide⟩
theorem Small.take {l : List Int} (h : Small l) (n : Nat) : Small (l.take n) := fun x hx => h x (List.mem_of_mem_take hx)
theorem Small.drop {l : List Int} (h : Small l) (n : Nat) : Small (l.drop n) := fun x hx => h x (List.mem_of_mem_drop hx)
def rowOf (D : List Int) (cols r : Nat) : List Int := (D.take ((r + 1) * cols)).drop (r * cols)
theorem set_step {f : Nat → Int} {n r : Nat} (h : r < n) : (((List.range r).map f ++ List.replicate (n - r) 0).set r (f r)) = (List.range (r + 1)).map f ++ List.replicate (n - (r + 1)) 0 := by
 rw [List.set_append_right _ _ (by simp)]
 simp only [List.length_map, List.length_range, Nat.sub_self]
 obtain ⟨m, hm⟩ : ∃ m, n - r = m + 1 := ⟨n - r - 1, by omega⟩
 rw [hm, List.replicate_succ, List.set_cons_zero, List.range_succ, List.map_append, show n - (r + 1) = m by omega]
 simp
theorem rowOf_int {D : List Int} {cols r : Int} (hc : 0 ≤ cols) (hr : 0 ≤ r) : (D.take ((r + 1) * cols).toNat).drop (r * cols).toNat = rowOf D cols.toNat r.toNat := by
 obtain ⟨c, rfl⟩ := Int.eq_ofNat_of_zero_le hc
 obtain ⟨q, rfl⟩ := Int.eq_ofNat_of_zero_le hr
 unfold rowOf
 rw [Int.toNat_natCast, Int.toNat_natCast]
 rw [show ((q : Int) * (c : Int)) = ((q * c : Nat) : Int) from (Int.natCast_mul _ _).symm, Int.toNat_natCast, show (((q : Int) + 1) * (c : Int)) = (((q + 1) * c : Nat) : Int) by rw [Int.natCast_mul]; rfl, Int.toNat_natCast]
end Go.Proofs.YtnioohhiphpplaaDoor.M
