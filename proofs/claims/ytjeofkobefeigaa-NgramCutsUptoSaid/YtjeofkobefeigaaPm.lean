/- The places, plainly: those ahead of which the longest run of the end that stood before stands. -/
import Derived.Test.YtjeofkobefeigaaLg
set_option linter.unusedVariables false
set_option linter.unusedSimpArgs false
namespace Go.Proofs.Ytjeofkobefeigaa.Wk
open Go.RowKit Go.Shelf Go.Proofs.YtjeofkobefeigaaW.PrintWords Go.Proofs.YtjeofkobefeigaaW.PrintLast Go.Proofs.YtjeofkobefeigaaW.PrintMore Go.Proofs.Ytjeofkobefeigaa.Mp

/-- The places ahead of which the run of r tokens of the end stands too, rising. -/
def placesAt (t : List Int) (r : Nat) : List Nat := (List.range t.length).filter (fun q => alikeB t q r)
def plAt (t : List Int) (r : Nat) : List Int := if r = 0 then [] else (placesAt t r).map fun q : Nat => (q : Int)
theorem occ_end {t : List Int} {n : Nat} (h : n ≤ t.length) : occ t (gramAt t t.length n) = (placesAt t n).map (fun q : Nat => (q : Int)) ++ [(t.length : Int)] := by
  have hl : (gramAt t t.length n).length = n := gramAt_length h (Nat.le_refl _)
  unfold occ placesAt
  rw [List.range_succ, List.filter_append, List.map_append]
  congr 1
  · congr 1
    refine List.filter_congr fun q hq => ?_
    have := List.mem_range.1 hq
    unfold at? alikeB
    rw [hl]
    by_cases c : n ≤ q
    · simp [c, this]
    · simp [c]
  · have : at? t (gramAt t t.length n) t.length = true := by
      unfold at?
      rw [hl]
      simp [h]
    simp [List.filter, this]
theorem hasQ_iff {t : List Int} {n : Nat} : hasQ t n t.length = true ↔ placesAt t n ≠ [] := by
  unfold hasQ placesAt
  rw [List.any_eq_true]
  constructor
  · rintro ⟨q, h1, h2⟩ e
    have : q ∈ (List.range t.length).filter (fun q => alikeB t q n) := List.mem_filter.2 ⟨h1, h2⟩
    rw [e] at this
    cases this
  · intro h
    obtain ⟨q, hq⟩ := List.exists_mem_of_ne_nil _ h
    obtain ⟨h1, h2⟩ := List.mem_filter.1 hq
    exact ⟨q, h1, h2⟩
theorem placesN_eq {t : List Int} : ∀ {n : Nat}, n ≤ t.length → placesN t n = plAt t (longestN t n)
  | 0, _ => rfl
  | n + 1, h => by
    unfold placesN longestN
    rw [occ_end h]
    by_cases c : hasQ t (n + 1) t.length = true
    · have hne := hasQ_iff.1 c
      rw [if_pos c, if_pos (by
        rw [List.length_append, List.length_map, List.length_singleton]
        have := List.length_pos_iff.2 hne
        omega)]
      unfold plAt
      rw [if_neg (by omega), List.length_append, List.length_singleton, Nat.add_sub_cancel, List.take_left' rfl]
    · rw [if_neg c, if_neg (by
        rw [List.length_append, List.length_map, List.length_singleton]
        have : placesAt t (n + 1) = [] := Classical.byContradiction fun hh => c (hasQ_iff.2 hh)
        rw [this]
        simp)]
      exact placesN_eq (by omega)
theorem hasQ_long {t : List Int} {n : Nat} (h : t.length ≤ n) : hasQ t n t.length = false := hasQ_low t n t.length h
theorem longestN_min (t : List Int) : ∀ n, longestN t n = longestN t (min n t.length)
  | 0 => by simp
  | n + 1 => by
    by_cases c : n + 1 ≤ t.length
    · rw [Nat.min_eq_left c]
    · rw [Nat.min_eq_right (by omega)]
      have h1 : longestN t (n + 1) = longestN t n := by
        show (if hasQ t (n + 1) t.length = true then n + 1 else longestN t n) = longestN t n
        rw [hasQ_long (by omega)]
        rfl
      rw [h1, longestN_min t n, Nat.min_eq_right (by omega)]
theorem placesL_eq (most : Nat) (t : List Int) : placesL most t = plAt t (longestN t most) := by
  unfold placesL
  rw [placesN_eq (Nat.min_le_right _ _), ← longestN_min]
theorem placesAt_mem {t : List Int} {r q : Nat} (h : q ∈ placesAt t r) : alikeB t q r = true := (List.mem_filter.1 h).2
theorem placesAt_sorted (t : List Int) (r : Nat) : (placesAt t r).Pairwise (· < ·) := (List.pairwise_lt_range).filter _
theorem plAt_length (t : List Int) (r : Nat) : (plAt t r).length = if r = 0 then 0 else (placesAt t r).length := by
  unfold plAt
  split
  · rfl
  · rw [List.length_map]
theorem plAt_cons {t : List Int} {r : Nat} (h : r ≠ 0) : plAt t r = (placesAt t r).map fun q : Nat => (q : Int) := by unfold plAt; rw [if_neg h]
theorem alikeB_lt {t : List Int} {q l : Nat} (h : alikeB t q l = true) : l ≤ q ∧ q < t.length := by
  unfold alikeB at h
  have := of_decide_eq_true h
  exact ⟨this.1, this.2.1⟩
/-- A place of those told, the latest first. -/
theorem down_at {t : List Int} {r i : Nat} (h : i < ((plAt t r).reverse).length) : ∃ p : Nat, nth (plAt t r).reverse i = p ∧ alikeB t p r = true := by
  have hm : nth (plAt t r).reverse i ∈ plAt t r := by
    unfold nth
    rw [List.getD_eq_getElem?_getD, List.getElem?_eq_getElem h]
    exact List.mem_reverse.1 (List.getElem_mem h)
  obtain ⟨x, hx⟩ : ∃ x, nth (plAt t r).reverse i = x := ⟨_, rfl⟩
  rw [hx] at hm ⊢
  unfold plAt at hm
  split at hm
  · cases hm
  · obtain ⟨p, hp, e⟩ := List.mem_map.1 hm
    exact ⟨p, e.symm, placesAt_mem hp⟩
theorem down_lt {t : List Int} {r i : Nat} (h : i + 1 < ((plAt t r).reverse).length) : nth (plAt t r).reverse (i + 1) < nth (plAt t r).reverse i := by
  have hs : (plAt t r).reverse.Pairwise (fun a b => b < a) := by
    rw [List.pairwise_reverse]
    unfold plAt
    split
    · exact List.Pairwise.nil
    · rw [List.pairwise_map]
      exact (placesAt_sorted t r).imp (fun h => by omega)
  have := List.pairwise_iff_getElem.1 hs i (i + 1) (by omega) h (by omega)
  unfold nth
  rw [List.getD_eq_getElem?_getD, List.getD_eq_getElem?_getD, List.getElem?_eq_getElem h, List.getElem?_eq_getElem (by omega)]
  exact this
/-- How many of the first q places are told. -/
def cntQ (t : List Int) (r q : Nat) : Nat := if r = 0 then 0 else ((List.range q).filter (fun p => alikeB t p r)).length
theorem cntQ_one (t : List Int) (r : Nat) : cntQ t r 1 = 0 := by
  unfold cntQ
  split
  · rfl
  · rename_i h
    have : alikeB t 0 r = false := decide_eq_false (fun h2 => by omega)
    simp [List.range, List.range.loop, this]
theorem cntQ_succ (t : List Int) (r q : Nat) : cntQ t r (q + 1) = cntQ t r q + (if r = 0 then 0 else if alikeB t q r = true then 1 else 0) := by
  unfold cntQ
  by_cases h : r = 0
  · simp [h]
  · rw [if_neg h, if_neg h, if_neg h, List.range_succ, List.filter_append, List.length_append]
    congr 1
    by_cases c : alikeB t q r = true
    · simp [c]
    · simp [c]
theorem cntQ_end (t : List Int) (r : Nat) : cntQ t r t.length = (plAt t r).length := by
  rw [plAt_length]; rfl
theorem cntQ_le (t : List Int) (r q : Nat) : cntQ t r q ≤ q := by
  unfold cntQ
  split
  · exact Nat.zero_le _
  · exact Nat.le_trans (List.length_filter_le _ _) (by rw [List.length_range]; exact Nat.le_refl _)
end Go.Proofs.Ytjeofkobefeigaa.Wk
