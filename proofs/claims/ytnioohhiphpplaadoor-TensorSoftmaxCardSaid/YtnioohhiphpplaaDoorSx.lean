/- The plain law of Softmax: weights from 0 to One, the greatest score's One, rising, in any order of places, the same of scores all greater by one number. -/
import Derived.Test.YtnioohhiphpplaaDoorOr
import Derived.Test.YtnioohhiphpplaaDoorMexp
import Derived.Test.YtnioohhiphpplaaDoorPEqWidex1
import Derived.Test.YtnioohhiphpplaaDoorPclampedx1
namespace Go.Proofs.YtnioohhiphpplaaDoor.M
open Go.RowKit Go.Proofs.YtnioohhiphpplaaDoorW.PrintWords Go.Proofs.YtnioohhiphpplaaDoorW.PrintLast Go.Proofs.YtnioohhiphpplaaDoorW.PrintMore Go.Proofs.YtnioohhiphpplaaDoor.Br

/-- The values of a function, listed. -/
def tb (f : Nat → Int) (n : Nat) : List Int := (List.range n).map f
theorem tb_succ (f : Nat → Int) (n : Nat) : tb f (n + 1) = tb f n ++ [f n] := by simp [tb, List.range_succ]
theorem tb_length (f : Nat → Int) (n : Nat) : (tb f n).length = n := by simp [tb]
theorem tb_nth {f : Nat → Int} {n i : Nat} (h : i < n) : nth (tb f n) i = f i := by
  unfold nth tb
  rw [List.getD_eq_getElem?_getD, List.getElem?_map, List.getElem?_range h]; rfl
theorem tb_congr {f g : Nat → Int} {n : Nat} (h : ∀ i, i < n → f i = g i) : tb f n = tb g n :=
  List.map_congr_left fun i hi => h i (List.mem_range.1 hi)
/-- Written over up to place i. -/
def overF (f g : Nat → Int) (i j : Nat) : Int := if j < i then f j else g j
theorem over_set (f g : Nat → Int) {n i : Nat} (_h : i < n) : (tb (overF f g i) n).set i (f i) = tb (overF f g (i + 1)) n := by
  refine List.ext_getElem (by rw [List.length_set, tb_length, tb_length]) fun j h1 h2 => ?_
  rw [tb_length] at h2
  rw [List.getElem_set]
  by_cases c : i = j
  · rw [if_pos c]; subst c; simp [tb, overF]
  · rw [if_neg c]
    simp only [tb, overF, List.getElem_map, List.getElem_range]
    by_cases c2 : j < i
    · rw [if_pos c2, if_pos (by omega)]
    · rw [if_neg c2, if_neg (by omega)]
theorem over_zero (f g : Nat → Int) (n : Nat) : tb (overF f g 0) n = tb g n := tb_congr fun i _ => by unfold overF; rw [if_neg (by omega)]
theorem over_all (f g : Nat → Int) (n : Nat) : tb (overF f g n) n = tb f n := tb_congr fun i hi => by unfold overF; rw [if_pos hi]
theorem sumN_congr {f g : Nat → Int} {n : Nat} (h : ∀ j, j < n → f j = g j) : sumN f n = sumN g n := by
  induction n with
  | zero => rfl
  | succ n ih => show sumN f n + f n = sumN g n + g n; rw [ih (fun j hj => h j (by omega)), h n (by omega)]
theorem sumN_in {f : Nat → Int} {B : Int} (h : ∀ j, 0 ≤ f j ∧ f j ≤ B) (n : Nat) : 0 ≤ sumN f n ∧ sumN f n ≤ n * B := by
  induction n with
  | zero => simp [sumN]
  | succ n ih =>
    have := h n
    have e : ((n + 1 : Nat) : Int) * B = n * B + B := by rw [Int.natCast_add, Int.add_mul]; simp
    rw [e]
    show 0 ≤ sumN f n + f n ∧ sumN f n + f n ≤ _
    omega

/-- A score, not beyond Wide. -/
def cW (s : List Int) (i : Nat) : Int := clampF (nth s i) 16777216
/-- The greatest of the first and of n more. -/
def bestN (s : List Int) : Nat → Int
  | 0 => cW s 0
  | n + 1 => mx (bestN s n) (cW s n)
/-- A score's weight. -/
def wt (s : List Int) (i : Nat) : Int := expF (64 * (cW s i - bestN s s.length))
theorem cl_in (a : Int) : -16777216 ≤ clampF a 16777216 ∧ clampF a 16777216 ≤ 16777216 := by
  have := clampF_in (a := a) (m := 16777216) (by unfold rng; omega)
  unfold mx at this; omega
theorem cW_in (s : List Int) (i : Nat) : -16777216 ≤ cW s i ∧ cW s i ≤ 16777216 := cl_in _
theorem cl_mono {a b : Int} (h : a ≤ b) : clampF a 16777216 ≤ clampF b 16777216 := by
  rw [clampF_eq, clampF_eq]; unfold mx; (repeat' split) <;> omega
theorem cl_id {a : Int} (h0 : -16777216 ≤ a) (h1 : a ≤ 16777216) : clampF a 16777216 = a := by
  rw [clampF_eq]; unfold mx; (repeat' split) <;> omega
theorem bestN_in (s : List Int) (n : Nat) : -16777216 ≤ bestN s n ∧ bestN s n ≤ 16777216 := by
  induction n with
  | zero => exact cW_in s 0
  | succ n ih =>
    have := cW_in s n
    show -16777216 ≤ mx _ _ ∧ mx _ _ ≤ 16777216
    unfold mx; split <;> omega
theorem bestN_ge (s : List Int) {n i : Nat} (h : i < n) : cW s i ≤ bestN s n := by
  induction n with
  | zero => omega
  | succ n ih =>
    show _ ≤ mx (bestN s n) (cW s n)
    by_cases c : i = n
    · subst c; unfold mx; split <;> omega
    · have := ih (by omega)
      unfold mx; split <;> omega
theorem bestN_le (s : List Int) {n : Nat} (hn : 0 < n) {m : Int} (h : ∀ i, i < n → cW s i ≤ m) : bestN s n ≤ m := by
  have h0 : ∀ k, k ≤ n → bestN s k ≤ m := by
    intro k
    induction k with
    | zero => intro _; exact h 0 hn
    | succ k ih =>
      intro hk
      have := ih (by omega)
      have := h k (by omega)
      show mx _ _ ≤ m
      unfold mx; split <;> omega
  exact h0 n (Nat.le_refl _)
theorem wt_in (s : List Int) (i : Nat) : 0 ≤ wt s i ∧ wt s i ≤ 65536 := expF_in _
theorem wt_mono {s : List Int} {i k : Nat} (h : nth s k ≤ nth s i) : wt s k ≤ wt s i := by
  have : cW s k ≤ cW s i := cl_mono h
  exact expF_mono (by omega)
theorem expF_zero : expF 0 = 65536 := by decide +kernel
theorem wt_best {s : List Int} {i : Nat} (hi : i < s.length) (h : ∀ k, k < s.length → nth s k ≤ nth s i) : wt s i = 65536 := by
  have h1 := bestN_ge s hi
  have h2 := bestN_le s (n := s.length) (by omega) (m := cW s i) (fun k hk => cl_mono (h k hk))
  unfold wt
  rw [show 64 * (cW s i - bestN s s.length) = 0 by omega]
  exact expF_zero
theorem perm_surj {P : List Int} {n : Nat} (h : P.Perm (iota n)) {j : Nat} (hj : j < n) : ∃ i, i < n ∧ nth P i = j := by
  have hl : P.length = n := by rw [h.length_eq, iota_length]
  have hm : (j : Int) ∈ P := h.mem_iff.2 (List.mem_map.2 ⟨j, List.mem_range.2 hj, rfl⟩)
  obtain ⟨i, hi, e⟩ := List.mem_iff_getElem.1 hm
  refine ⟨i, by omega, ?_⟩
  unfold nth
  rw [List.getD_eq_getElem?_getD, List.getElem?_eq_getElem hi]
  exact e
/-- The scores in another order. -/
def movedF (l P : List Int) (j : Nat) : Int := nth l (nth P j).toNat
theorem wt_moved {s P : List Int} (h : P.Perm (iota s.length)) {i : Nat} (hi : i < s.length) : wt (tb (movedF s P) s.length) i = wt s (nth P i).toNat := by
  have e : ∀ j, j < s.length → cW (tb (movedF s P) s.length) j = cW s (nth P j).toNat := fun j hj => by
    unfold cW
    rw [tb_nth hj]; rfl
  have hb : bestN (tb (movedF s P) s.length) s.length = bestN s s.length := by
    have h1 : bestN (tb (movedF s P) s.length) s.length ≤ bestN s s.length := bestN_le _ (by omega) fun j hj => by
      rw [e j hj]
      exact bestN_ge s (by have := perm_in h hj; omega)
    have h2 : bestN s s.length ≤ bestN (tb (movedF s P) s.length) s.length := bestN_le _ (by omega) fun j hj => by
      obtain ⟨k, hk, ek⟩ := perm_surj h hj
      have := e k hk
      rw [ek, Int.toNat_natCast] at this
      rw [← this]
      exact bestN_ge _ hk
    omega
  unfold wt
  rw [tb_length, hb, e i hi]
theorem wt_moved_tb {s P : List Int} (h : P.Perm (iota s.length)) : tb (wt (tb (movedF s P) s.length)) s.length = tb (movedF (tb (wt s) s.length) P) s.length :=
  tb_congr fun i hi => by
    rw [wt_moved h hi]
    unfold movedF
    rw [tb_nth (by have := perm_in h hi; omega)]
theorem wt_moved_sum {s P : List Int} (h : P.Perm (iota s.length)) : sumN (wt (tb (movedF s P) s.length)) s.length = sumN (wt s) s.length := by
  have h1 : sumN (wt (tb (movedF s P) s.length)) s.length = sumN (fun j => (fun z : Int => wt s z.toNat) (nth P j)) s.length := sumN_congr fun j hj => wt_moved h hj
  rw [h1]
  refine (perm_sum h (fun z : Int => wt s z.toNat)).trans ?_
  exact sumN_congr fun j _ => by simp only [Int.toNat_natCast]
/-- The scores brought within 2^20, all greater by d. -/
def lowF (s : List Int) (i : Nat) : Int := Int.tmod (nth s i) 1048576
def upF (s : List Int) (d : Int) (i : Nat) : Int := lowF s i + d
theorem tmod_in (a : Int) : -1048576 < Int.tmod a 1048576 ∧ Int.tmod a 1048576 < 1048576 :=
  ⟨Int.lt_tmod_of_pos a (by omega), Int.tmod_lt_of_pos a (by omega)⟩
theorem wt_up {s : List Int} {d : Int} {n : Nat} (hd : -1048576 < d ∧ d < 1048576) {i : Nat} (hi : i < n) : wt (tb (upF s d) n) i = wt (tb (lowF s) n) i := by
  have e : ∀ j, j < n → cW (tb (upF s d) n) j = cW (tb (lowF s) n) j + d := fun j hj => by
    unfold cW
    rw [tb_nth hj, tb_nth hj]
    have := tmod_in (nth s j)
    unfold upF lowF
    rw [cl_id (by omega) (by omega), cl_id (by omega) (by omega)]
  have hb : bestN (tb (upF s d) n) n = bestN (tb (lowF s) n) n + d := by
    have h1 : bestN (tb (upF s d) n) n ≤ bestN (tb (lowF s) n) n + d := bestN_le _ (by omega) fun j hj => by
      rw [e j hj]
      have := bestN_ge (tb (lowF s) n) hj
      omega
    have h2 : bestN (tb (lowF s) n) n ≤ bestN (tb (upF s d) n) n - d := bestN_le _ (by omega) fun j hj => by
      have h3 := e j hj
      have := bestN_ge (tb (upF s d) n) hj
      omega
    omega
  unfold wt
  rw [tb_length, tb_length, hb, e i hi]
  congr 1
  omega
theorem wt_up_tb {s : List Int} {d : Int} {n : Nat} (hd : -1048576 < d ∧ d < 1048576) : tb (wt (tb (upF s d) n)) n = tb (wt (tb (lowF s) n)) n := tb_congr fun _ hi => wt_up hd hi
theorem wt_up_sum {s : List Int} {d : Int} {n : Nat} (hd : -1048576 < d ∧ d < 1048576) : sumN (wt (tb (upF s d) n)) n = sumN (wt (tb (lowF s) n)) n := sumN_congr fun _ hi => wt_up hd hi

theorem eqwide_loop (l : List Int) (hl : l.length ≤ 140737488351232) (d : Nat) : ∀ (k i : Nat), i + d = l.length → d < k → PEqWide.augurref00_EqWide.l0 k l l (i : Int) = some true := by
  induction d with
  | zero =>
    intro k i hi hk
    obtain ⟨k, rfl⟩ : ∃ m, k = m + 1 := ⟨k - 1, by omega⟩
    simp only [PEqWide.augurref00_EqWide.l0]
    rw [if_neg (by omega)]
  | succ d ih =>
    intro k i hi hk
    obtain ⟨k, rfl⟩ : ∃ m, k = m + 1 := ⟨k - 1, by omega⟩
    simp only [PEqWide.augurref00_EqWide.l0]
    rw [if_pos (by omega), if_pos (by omega), if_pos (by omega)]
    simp only [if_true]
    rw [w64' (by omega) (by omega)]
    exact ih k (i + 1) (by omega) (by omega)
theorem eqwide_is (l : List Int) (hl : l.length ≤ 140737488351232) : PEqWide.augurref00_EqWide.f (l.length + 1) l l = some true := by
  unfold PEqWide.augurref00_EqWide.f
  rw [if_pos rfl]
  exact eqwide_loop l hl l.length (l.length + 1) 0 (by omega) (by omega)

theorem clamp_is (a : Int) : Pclamped.fix_Clamp.f a 16777216 = some (clampF a 16777216) := by
  unfold Pclamped.fix_Clamp.f clampF
  rw [show wrap64 (-(mx 16777216 0)) = -(mx 16777216 0) by decide +kernel]
theorem clamped_loop (l : List Int) (hl : l.length ≤ 35184372088832) (d : Nat) : ∀ (k i : Nat), i + d = l.length → d < k →
    Pclamped.tensor_clamped.l0 k (tb (overF (cW l) (fun _ => 0) i) l.length) l (l.length : Int) (i : Int) = some (tb (cW l) l.length) := by
  induction d with
  | zero =>
    intro k i hi hk
    obtain ⟨k, rfl⟩ : ∃ m, k = m + 1 := ⟨k - 1, by omega⟩
    simp only [Pclamped.tensor_clamped.l0]
    rw [if_neg (by omega), show i = l.length by omega, over_all]
  | succ d ih =>
    intro k i hi hk
    obtain ⟨k, rfl⟩ : ∃ m, k = m + 1 := ⟨k - 1, by omega⟩
    simp only [Pclamped.tensor_clamped.l0]
    rw [if_pos (by omega)]
    simp only [clamp_is, rd_nth, Option.bind_some, tb_length, Int.toNat_natCast]
    rw [if_pos (by omega), if_pos (by omega), w64' (by omega) (by omega)]
    rw [show (tb (overF (cW l) (fun _ => 0) i) l.length).set i (clampF (nth l i) 16777216) = tb (overF (cW l) (fun _ => 0) (i + 1)) l.length from over_set (cW l) _ (by omega), if_pos (by omega)]
    exact ih k (i + 1) (by omega) (by omega)
theorem clamped_is (l : List Int) (hl : l.length ≤ 35184372088832) : Pclamped.tensor_clamped.f (l.length + 1) l = some (tb (cW l) l.length) := by
  unfold Pclamped.tensor_clamped.f
  rw [if_pos (by omega), if_pos (by omega)]
  rw [show List.replicate ((l.length : Int)).toNat (0 : Int) = tb (overF (cW l) (fun _ => 0) 0) l.length by rw [over_zero]; unfold tb; rw [List.map_const']; simp]
  exact clamped_loop l hl l.length (l.length + 1) 0 (by omega) (by omega)
end Go.Proofs.YtnioohhiphpplaaDoor.M
