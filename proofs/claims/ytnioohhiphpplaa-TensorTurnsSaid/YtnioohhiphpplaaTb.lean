/- Lists of a function's values; the halves of two lists, a matrix with its columns in another order. -/
import Derived.Test.YtnioohhiphpplaaCl
namespace Go.Proofs.Ytnioohhiphpplaa.M
open Go.RowKit Go.Proofs.YtnioohhiphpplaaW.PrintWords Go.Proofs.YtnioohhiphpplaaW.PrintLast Go.Proofs.YtnioohhiphpplaaW.PrintMore
/-- The values of a function, listed. -/
def tab (f : Nat → Int) (n : Nat) : List Int := (List.range n).map f
theorem tab_succ (f : Nat → Int) (n : Nat) : tab f (n + 1) = tab f n ++ [f n] := by simp [tab, List.range_succ]
theorem tab_length (f : Nat → Int) (n : Nat) : (tab f n).length = n := by simp [tab]
theorem tab_nth {f : Nat → Int} {n i : Nat} (h : i < n) : nth (tab f n) i = f i := by
  unfold nth tab
  rw [List.getD_eq_getElem?_getD, List.getElem?_map, List.getElem?_range h]; rfl
theorem i8_small (n : Int) : -128 ≤ IntKind.i8.wrap n ∧ IntKind.i8.wrap n ≤ 127 := by
  simp [IntKind.wrap, IntKind.bits, IntKind.signed]; omega
theorem tab_small {f : Nat → Int} (h : ∀ j, -128 ≤ f j ∧ f j ≤ 127) (n : Nat) : Small (tab f n) := by
  intro x hx
  obtain ⟨j, _, rfl⟩ := List.mem_map.1 hx
  exact h j
/-- The matrix with its columns in another order, place by place. -/
def permF (D P : List Int) (C j : Nat) : Int := nth D (j / C * C + (nth P (j % C)).toNat)
theorem permF_at {D P : List Int} {C r c : Nat} (hc : c < C) : permF D P C (r * C + c) = nth D (r * C + (nth P c).toNat) := by
  unfold permF
  have h1 : (r * C + c) / C = r := by rw [Nat.mul_comm, Nat.mul_add_div (by omega), Nat.div_eq_of_lt hc, Nat.add_zero]
  have h2 : (r * C + c) % C = c := by rw [Nat.mul_comm, Nat.mul_add_mod, Nat.mod_eq_of_lt hc]
  rw [h1, h2]
def halfF (V : List Int) (j : Nat) : Int := IntKind.i8.wrap ((nth V j).tdiv 2)
def bothF (V W : List Int) (j : Nat) : Int := IntKind.i8.wrap (halfF V j + halfF W j)
theorem half_in {x : Int} (h : -128 ≤ x ∧ x ≤ 127) : IntKind.i8.wrap (x.tdiv 2) = x.tdiv 2 ∧ -64 ≤ x.tdiv 2 ∧ x.tdiv 2 ≤ 63 := by
  have h1 : -64 ≤ x.tdiv 2 ∧ x.tdiv 2 ≤ 63 := by
    by_cases h0 : 0 ≤ x
    · rw [Int.tdiv_eq_ediv_of_nonneg h0]; omega
    · rw [show x = -(-x) by omega, Int.neg_tdiv, Int.tdiv_eq_ediv_of_nonneg (by omega)]; omega
  refine ⟨?_, h1⟩
  simp [IntKind.wrap, IntKind.bits, IntKind.signed]; omega
theorem both_is {V W : List Int} (hV : Small V) (hW : Small W) (j : Nat) : bothF V W j = halfF V j + halfF W j := by
  have h1 := half_in (hV.nth j)
  have h2 := half_in (hW.nth j)
  unfold bothF halfF
  rw [h1.1, h2.1]
  simp [IntKind.wrap, IntKind.bits, IntKind.signed]; omega
theorem dot_both (a : List Int) {V W : List Int} {C : Nat} (hV : Small V) (hW : Small W) (h : a.length ≤ C) : dotL a (tab (bothF V W) C) = dotL a (tab (halfF V) C) + dotL a (tab (halfF W) C) := by
  have : ∀ n, n ≤ C → dotN a (tab (bothF V W) C) n = dotN a (tab (halfF V) C) n + dotN a (tab (halfF W) C) n := by
    intro n
    induction n with
    | zero => intro _; simp [dotN]
    | succ n ih =>
      intro hn
      show dotN a (tab (bothF V W) C) n + nth a n * nth (tab (bothF V W) C) n = (dotN a (tab (halfF V) C) n + nth a n * nth (tab (halfF V) C) n) + (dotN a (tab (halfF W) C) n + nth a n * nth (tab (halfF W) C) n)
      rw [ih (by omega), tab_nth (by omega), tab_nth (by omega), tab_nth (by omega), both_is hV hW, Int.mul_add]
      omega
  exact this _ h
end Go.Proofs.Ytnioohhiphpplaa.M
