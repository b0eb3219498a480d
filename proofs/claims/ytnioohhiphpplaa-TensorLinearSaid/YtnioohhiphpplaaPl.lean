/- The plain law of TensorLinear: with the columns, and the vector's places, in another order the same comes out. -/
import Derived.Test.YtnioohhiphpplaaTb
import Derived.Test.YtnioohhiphpplaaOr
import Derived.Test.YtnioohhiphpplaaPEqWidex1
namespace Go.Proofs.Ytnioohhiphpplaa.M
open Go.RowKit Go.Proofs.YtnioohhiphpplaaW.PrintWords Go.Proofs.YtnioohhiphpplaaW.PrintLast Go.Proofs.YtnioohhiphpplaaW.PrintMore Go.Proofs.Ytnioohhiphpplaa.Br
theorem dotN_sum (a b : List Int) (n : Nat) : dotN a b n = sumN (fun j => nth a j * nth b j) n := by
  induction n with
  | zero => rfl
  | succ n ih => show dotN a b n + _ = sumN _ n + _; rw [ih]
theorem sumN_congr {f g : Nat → Int} {n : Nat} (h : ∀ j, j < n → f j = g j) : sumN f n = sumN g n := by
  induction n with
  | zero => rfl
  | succ n ih => show sumN f n + f n = sumN g n + g n; rw [ih (fun j hj => h j (by omega)), h n (by omega)]
/-- The vector with its places in another order. -/
def movedF (l P : List Int) (j : Nat) : Int := nth l (nth P j).toNat
theorem mv_perm {D P b : List Int} {R C : Nat} (hP : P.Perm (iota C)) (lD : D.length = R * C) : mvN (tab (permF D P C) (R * C)) (tab (movedF b P) C) C R = mvN D b C R := by
  unfold mvN
  refine List.map_congr_left fun r hr => ?_
  have hr := List.mem_range.1 hr
  have hRC : (r + 1) * C ≤ R * C := Nat.mul_le_mul_right _ hr
  have e1 : (rowOf (tab (permF D P C) (R * C)) C r).length = C := row_length (by rw [tab_length]; exact hRC)
  have e2 : (rowOf D C r).length = C := row_length (by rw [lD]; exact hRC)
  unfold dotL
  rw [e1, e2, dotN_sum, dotN_sum]
  have h1 : sumN (fun j => nth (rowOf (tab (permF D P C) (R * C)) C r) j * nth (tab (movedF b P) C) j) C = sumN (fun j => (fun z : Int => nth D (r * C + z.toNat) * nth b z.toNat) (nth P j)) C := by
    refine sumN_congr fun j hj => ?_
    rw [row_nth hj, tab_nth (by rw [Nat.add_mul] at hRC; omega), permF_at hj, tab_nth hj]
    rfl
  rw [h1]
  refine (perm_sum hP (fun z : Int => nth D (r * C + z.toNat) * nth b z.toNat)).trans ?_
  refine sumN_congr fun j hj => ?_
  simp only [Int.toNat_natCast]
  rw [row_nth hj]
theorem eqwide_loop (l : List Int) (hl : l.length ≤ 140737488351232) (d : Nat) : ∀ (k i : Nat), i + d = l.length → d < k → PEqWide.augurref00_EqWide.l0 k l l (i : Int) = some true := by
  induction d with
  | zero =>
    intro k i hi hk
    obtain ⟨k, rfl⟩ : ∃ m, k = m + 1 := ⟨k - 1, by omega⟩
    simp only [PEqWide.augurref00_EqWide.l0]
    rw [if_neg (by omega)]
  | succ d ih =>
    intro k i hi hk
    obtain ⟨k, rfl⟩ : ∃ m, k = m + 1 := ⟨k - 1, by omega⟩
    simp only [PEqWide.augurref00_EqWide.l0]
    rw [if_pos (by omega), if_pos (by omega), if_pos (by omega)]
    simp only [if_true]
    rw [w64' (by omega) (by omega)]
    exact ih k (i + 1) (by omega) (by omega)
theorem eqwide_is (l : List Int) (hl : l.length ≤ 140737488351232) : PEqWide.augurref00_EqWide.f (l.length + 1) l l = some true := by
  unfold PEqWide.augurref00_EqWide.f
  rw [if_pos rfl]
  exact eqwide_loop l hl l.length (l.length + 1) 0 (by omega) (by omega)
end Go.Proofs.Ytnioohhiphpplaa.M
