/- Texts of alike tokens, and of tokens all unlike: where runs of the end stand, plainly. -/
import Derived.Test.YtjeofkobefeigaaPm
set_option linter.unusedVariables false
set_option linter.unusedSimpArgs false
namespace Go.Proofs.Ytjeofkobefeigaa.Wk
open Go.RowKit Go.Shelf Go.Proofs.YtjeofkobefeigaaW.PrintWords

theorem gramAt_rep {x : Int} {n q r : Nat} (h : q ≤ n) (hr : r ≤ q) : gramAt (List.replicate n x) q r = List.replicate r x := by
  unfold gramAt
  rw [List.take_replicate, List.drop_replicate, Nat.min_eq_left h, show q - (q - r) = r by omega]
theorem alikeB_rep (x : Int) (n q r : Nat) : alikeB (List.replicate n x) q r = decide (r ≤ q ∧ q < n) := by
  unfold alikeB
  rw [List.length_replicate]
  refine decide_eq_decide.2 ⟨fun h => ⟨h.1, h.2.1⟩, fun h => ⟨h.1, h.2, ?_⟩⟩
  rw [gramAt_rep (by omega) h.1, gramAt_rep (Nat.le_refl _) (by omega)]
theorem hasQ_rep (x : Int) (n r : Nat) : hasQ (List.replicate n x) r n = decide (r < n) := by
  rw [Bool.eq_iff_iff, decide_eq_true_iff]
  unfold hasQ
  rw [List.any_eq_true]
  constructor
  · rintro ⟨q, h1, h2⟩
    rw [alikeB_rep] at h2
    have := of_decide_eq_true h2
    omega
  · intro h
    exact ⟨r, List.mem_range.2 h, by rw [alikeB_rep]; exact decide_eq_true ⟨Nat.le_refl _, h⟩⟩
theorem longestN_rep (x : Int) (n : Nat) : ∀ m, longestN (List.replicate n x) m = min m (n - 1)
  | 0 => by simp [longestN]
  | m + 1 => by
    unfold longestN
    rw [List.length_replicate, hasQ_rep, longestN_rep x n m]
    by_cases c : m + 1 < n
    · simp only [decide_eq_true_eq]
      rw [if_pos c]; omega
    · simp only [decide_eq_true_eq]
      rw [if_neg c]; omega
theorem filter_range_ge (r : Nat) : ∀ n, (List.range n).filter (fun q => decide (r ≤ q ∧ q < n)) = (List.range (n - r)).map (· + r)
  | 0 => by simp
  | n + 1 => by
    rw [List.range_succ, List.filter_append]
    have h1 : (List.range n).filter (fun q => decide (r ≤ q ∧ q < n + 1)) = (List.range n).filter (fun q => decide (r ≤ q ∧ q < n)) :=
      List.filter_congr fun q hq => decide_eq_decide.2 (by have := List.mem_range.1 hq; omega)
    rw [h1, filter_range_ge r n]
    by_cases c : r ≤ n
    · rw [show n + 1 - r = (n - r) + 1 by omega, List.range_succ, List.map_append]
      simp [c]
    · rw [show n + 1 - r = 0 by omega, show n - r = 0 by omega]
      simp [c]
theorem placesAt_rep (x : Int) (n r : Nat) : placesAt (List.replicate n x) r = (List.range (n - r)).map (· + r) := by
  unfold placesAt
  rw [List.length_replicate, ← filter_range_ge]
  exact List.filter_congr fun q _ => alikeB_rep x n q r
theorem plAt_rep {x : Int} {n r : Nat} (h : r ≠ 0) : plAt (List.replicate n x) r = (List.range (n - r)).map (fun j => ((j + r : Nat) : Int)) := by
  unfold plAt
  rw [if_neg h, placesAt_rep, List.map_map]
  rfl
/-- The tokens x, x + 1, .. as 64 bits hold them. -/
def rise (x : Int) (n : Nat) : List Int := (List.range n).map fun i : Nat => wrap64 (x + i)
theorem rise_succ (x : Int) (n : Nat) : rise x (n + 1) = rise x n ++ [wrap64 (x + n)] := by
  unfold rise
  rw [List.range_succ, List.map_append]
  rfl
theorem rise_length (x : Int) (n : Nat) : (rise x n).length = n := by unfold rise; simp
theorem wrap64_ne {x : Int} {i j : Nat} (hi : i < 300) (hj : j < 300) (h : wrap64 (x + i) = wrap64 (x + j)) : i = j := by
  unfold wrap64 at h
  omega
theorem rise_nth {x : Int} {n i : Nat} (h : i < n) : (rise x n)[i]? = some (wrap64 (x + i)) := by
  unfold rise
  rw [List.getElem?_map, List.getElem?_range h]
  rfl
theorem alikeB_rise {x : Int} {n q r : Nat} (hn : n ≤ 300) (hr : 1 ≤ r) : alikeB (rise x n) q r = false := by
  unfold alikeB
  rw [rise_length]
  refine decide_eq_false fun ⟨h1, h2, h3⟩ => ?_
  have e : (gramAt (rise x n) q r)[r - 1]? = (gramAt (rise x n) n r)[r - 1]? := by rw [h3]
  unfold gramAt at e
  rw [List.getElem?_drop, List.getElem?_drop, List.getElem?_take, List.getElem?_take, if_pos (by omega), if_pos (by omega), rise_nth (by omega), rise_nth (by omega)] at e
  have := wrap64_ne (by omega) (by omega) (Option.some.inj e)
  omega
theorem longestN_rise {x : Int} {n : Nat} (hn : n ≤ 300) : ∀ m, longestN (rise x n) m = 0
  | 0 => rfl
  | m + 1 => by
    unfold longestN
    have : hasQ (rise x n) (m + 1) (rise x n).length = false := by
      unfold hasQ
      rw [List.any_eq_false]
      intro q _
      rw [alikeB_rise hn (by omega)]
      simp
    rw [this, longestN_rise hn m]
    rfl
theorem pl_rise {x : Int} {n most : Nat} (hn : n ≤ 300) : stPl (some (most, rise x n)) = [] := by
  show placesL most (rise x n) = []
  rw [placesL_eq, longestN_rise hn]
  rfl
theorem pr_rise {x : Int} {n most : Nat} {ways deep : Int} (hn : n ≤ 300) : stPr (some (most, rise x n)) ways deep = [] := by
  unfold stPr
  rw [pl_rise hn]
  simp [proposeL]
end Go.Proofs.Ytjeofkobefeigaa.Wk
