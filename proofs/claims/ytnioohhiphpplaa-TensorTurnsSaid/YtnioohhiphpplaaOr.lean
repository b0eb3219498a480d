/- What the printed function order comes to: a permutation of 0 to n - 1. -/
import Derived.Test.YtnioohhiphpplaaSh
namespace Go.Proofs.Ytnioohhiphpplaa.Br
open Go.RowKit Go.Proofs.YtnioohhiphpplaaW.PrintWords Go.Proofs.YtnioohhiphpplaaW.PrintLast Go.Proofs.YtnioohhiphpplaaW.PrintMore Go.Proofs.Ytnioohhiphpplaa.M

/-- The numbers from 0 on. -/
def iota (n : Nat) : List Int := (List.range n).map fun j : Nat => (j : Int)
theorem iota_length (n : Nat) : (iota n).length = n := by simp [iota]
theorem iota_succ (n : Nat) : iota (n + 1) = iota n ++ [(n : Int)] := by simp [iota, List.range_succ]
theorem mod_same (a n : Int) : Porder.augurlaw03_mod.f a n = Pshaped.augurlaw03_mod.f a n := rfl
theorem rd_get {l : List Int} {i : Nat} (h : i < l.length) : rd l (i : Int) = l[i] := by
  rw [rd_nth]; unfold nth
  rw [List.getD_eq_getElem?_getD, List.getElem?_eq_getElem h]; rfl
theorem ord1 (by_ : List Int) {n : Nat} (h0 : 1 ≤ n) (hn : n ≤ 17592186044416) (d : Nat) : ∀ (k i : Nat) (x : List Int), i + d = n → d < k → x.length = n →
    ∃ P, Porder.augurlaw03_order.l1 k (n : Int) by_ x (i : Int) = some P ∧ P.Perm x := by
  induction d with
  | zero =>
    intro k i x hi hk hl
    obtain ⟨k, rfl⟩ : ∃ m, k = m + 1 := ⟨k - 1, by omega⟩
    simp only [Porder.augurlaw03_order.l1]
    rw [if_neg (by omega)]
    exact ⟨x, rfl, List.Perm.refl _⟩
  | succ d ih =>
    intro k i x hi hk hl
    obtain ⟨k, rfl⟩ : ∃ m, k = m + 1 := ⟨k - 1, by omega⟩
    simp only [Porder.augurlaw03_order.l1]
    rw [if_pos (by omega)]
    by_cases hb : (i : Int) < (by_.length : Int)
    · obtain ⟨m, hm, m0, m1⟩ := mod_is (rd by_ (i : Int)) (n := (n : Int)) (by omega) (by omega)
      obtain ⟨j, rfl⟩ := Int.eq_ofNat_of_zero_le m0
      rw [if_pos hb, if_pos (by omega), mod_same, hm]
      simp only [Option.bind_some]
      rw [if_pos (by omega), if_pos (by omega), if_pos (by omega), w64' (by omega) (by omega), rd_get (show i < x.length by omega), rd_get (show j < x.length by omega), Int.toNat_natCast, Int.toNat_natCast]
      obtain ⟨P, hP, pP⟩ := ih k (i + 1) ((x.set i x[j]).set j x[i]) (by omega) (by omega) (by rw [List.length_set, List.length_set, hl])
      exact ⟨P, hP, pP.trans (List.set_set_perm (by omega) (by omega))⟩
    · rw [if_neg hb]
      exact ⟨x, rfl, List.Perm.refl _⟩
theorem ord0 (by_ : List Int) {n : Nat} (h0 : 1 ≤ n) (hn : n ≤ 17592186044416) (d : Nat) : ∀ (k i : Nat), i + d = n → d + n + 1 < k →
    ∃ P, Porder.augurlaw03_order.l0 k (n : Int) by_ (iota i) (i : Int) = some P ∧ P.Perm (iota n) := by
  induction d with
  | zero =>
    intro k i hi hk
    obtain ⟨k, rfl⟩ : ∃ m, k = m + 1 := ⟨k - 1, by omega⟩
    simp only [Porder.augurlaw03_order.l0]
    rw [if_neg (by omega)]
    have hi' : i = n := by omega
    rw [hi']
    exact ord1 by_ h0 hn n k 0 (iota n) (by omega) (by omega) (iota_length n)
  | succ d ih =>
    intro k i hi hk
    obtain ⟨k, rfl⟩ : ∃ m, k = m + 1 := ⟨k - 1, by omega⟩
    simp only [Porder.augurlaw03_order.l0]
    rw [if_pos (by omega), if_pos (by rw [iota_length]; omega), w64' (by omega) (by omega), ← iota_succ]
    exact ih k (i + 1) (by omega) (by omega)
theorem order_is (by_ : List Int) {n : Nat} (h0 : 1 ≤ n) (hn : n ≤ 17592186044416) : ∃ P, Porder.augurlaw03_order.f (n + n + 2) (n : Int) by_ = some P ∧ P.Perm (iota n) := by
  unfold Porder.augurlaw03_order.f
  exact ord0 by_ h0 hn n (n + n + 2) 0 (by omega) (by omega)

/-- Numbers added up. -/
def sumN (f : Nat → Int) : Nat → Int
  | 0 => 0
  | n + 1 => sumN f n + f n
theorem sum_map (f : Int → Int) (n : Nat) : ((iota n).map f).sum = sumN (fun j => f (j : Int)) n := by
  induction n with
  | zero => rfl
  | succ n ih => rw [iota_succ, List.map_append, List.sum_append, ih]; simp [sumN]
theorem sum_list (l : List Int) (f : Int → Int) : (l.map f).sum = sumN (fun j => f (nth l j)) l.length := by
  have h : ∀ n, n ≤ l.length → ((l.take n).map f).sum = sumN (fun j => f (nth l j)) n := by
    intro n
    induction n with
    | zero => intro _; simp [sumN]
    | succ n ih =>
      intro hn
      rw [List.take_add_one, List.map_append, List.sum_append, ih (by omega), List.getElem?_eq_getElem (by omega)]
      have e : nth l n = l[n] := by unfold nth; rw [List.getD_eq_getElem?_getD, List.getElem?_eq_getElem (by omega)]; rfl
      simp [sumN, e]
  have := h l.length (Nat.le_refl _)
  rwa [List.take_length] at this
theorem perm_add {a b : List Int} (h : a.Perm b) : a.sum = b.sum := by
  induction h with
  | nil => rfl
  | cons x _ ih => rw [List.sum_cons, List.sum_cons, ih]
  | swap x y l => simp only [List.sum_cons]; omega
  | trans _ _ i j => exact i.trans j
/-- A permutation's sums are the same. -/
theorem perm_sum {P : List Int} {n : Nat} (h : P.Perm (iota n)) (f : Int → Int) : sumN (fun j => f (nth P j)) n = sumN (fun j => f (j : Int)) n := by
  have hl : P.length = n := by rw [h.length_eq, iota_length]
  have h1 := sum_list P f
  rw [hl] at h1
  rw [← h1, ← sum_map]
  exact perm_add (h.map f)
theorem perm_in {P : List Int} {n : Nat} (h : P.Perm (iota n)) {i : Nat} (hi : i < n) : 0 ≤ nth P i ∧ nth P i < n := by
  have hl : P.length = n := by rw [h.length_eq, iota_length]
  have hm : nth P i ∈ P := by
    unfold nth; rw [List.getD_eq_getElem?_getD, List.getElem?_eq_getElem (by omega)]
    exact List.getElem_mem _
  have := h.mem_iff.1 hm
  obtain ⟨j, hj, e⟩ := List.mem_map.1 this
  have := List.mem_range.1 hj
  omega
end Go.Proofs.Ytnioohhiphpplaa.Br
