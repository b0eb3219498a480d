/- The plain law of Norm: signs, order of size, any order of places. -/
import Derived.Test.YtnioohhiphpplaaGn
import Derived.Test.YtnioohhiphpplaaPNormx1
namespace Go.Proofs.Ytnioohhiphpplaa.M
open Go.RowKit Go.Proofs.YtnioohhiphpplaaW.PrintWords Go.Proofs.YtnioohhiphpplaaW.PrintLast Go.Proofs.YtnioohhiphpplaaW.PrintMore Go.Proofs.Ytnioohhiphpplaa.Br
/-- A number, not beyond Wide. -/
def cW (s : List Int) (i : Nat) : Int := clampF (nth s i) 16777216
theorem cl_in (a : Int) : -16777216 ≤ clampF a 16777216 ∧ clampF a 16777216 ≤ 16777216 := by
  have := clampF_in (a := a) (m := 16777216) (by unfold rng; omega)
  unfold mx at this; omega
theorem cW_in (s : List Int) (i : Nat) : -16777216 ≤ cW s i ∧ cW s i ≤ 16777216 := cl_in _
theorem cl_mono {a b : Int} (h : a ≤ b) : clampF a 16777216 ≤ clampF b 16777216 := by
  rw [clampF_eq, clampF_eq]; unfold mx; (repeat' split) <;> omega
theorem cl_id {a : Int} (h0 : -16777216 ≤ a) (h1 : a ≤ 16777216) : clampF a 16777216 = a := by
  rw [clampF_eq]; unfold mx; (repeat' split) <;> omega

theorem clamp_is (a : Int) : PNorm.fix_Clamp.f a 16777216 = some (clampF a 16777216) := by
  unfold PNorm.fix_Clamp.f clampF
  rw [show wrap64 (-(mx 16777216 0)) = -(mx 16777216 0) by decide +kernel]
theorem clamped_loop (l : List Int) (hl : l.length ≤ 35184372088832) (d : Nat) : ∀ (k i : Nat), i + d = l.length → d < k →
    PNorm.tensor_clamped.l0 k (tab (overF (cW l) (fun _ => 0) i) l.length) l (l.length : Int) (i : Int) = some (tab (cW l) l.length) := by
  induction d with
  | zero =>
    intro k i hi hk
    obtain ⟨k, rfl⟩ : ∃ m, k = m + 1 := ⟨k - 1, by omega⟩
    simp only [PNorm.tensor_clamped.l0]
    rw [if_neg (by omega), show i = l.length by omega, over_all]
  | succ d ih =>
    intro k i hi hk
    obtain ⟨k, rfl⟩ : ∃ m, k = m + 1 := ⟨k - 1, by omega⟩
    simp only [PNorm.tensor_clamped.l0]
    rw [if_pos (by omega)]
    simp only [clamp_is, rd_nth, Option.bind_some, tab_length, Int.toNat_natCast]
    rw [if_pos (by omega), if_pos (by omega), w64' (by omega) (by omega)]
    rw [show (tab (overF (cW l) (fun _ => 0) i) l.length).set i (clampF (nth l i) 16777216) = tab (overF (cW l) (fun _ => 0) (i + 1)) l.length from over_set (cW l) _ (by omega), if_pos (by omega)]
    exact ih k (i + 1) (by omega) (by omega)
theorem clamped_is (l : List Int) (hl : l.length ≤ 35184372088832) : PNorm.tensor_clamped.f (l.length + 1) l = some (tab (cW l) l.length) := by
  unfold PNorm.tensor_clamped.f
  rw [if_pos (by omega), if_pos (by omega)]
  rw [show List.replicate ((l.length : Int)).toNat (0 : Int) = tab (overF (cW l) (fun _ => 0) 0) l.length by rw [over_zero]; unfold tab; rw [List.map_const']; simp]
  exact clamped_loop l hl l.length (l.length + 1) 0 (by omega) (by omega)

theorem sqrt_loop (v : Int) (hv : rng v) (d : Nat) : ∀ (k : Nat) (r i : Int), 0 ≤ i → i + d = 32 → 0 ≤ r → r + 2 ^ d ≤ 4294967296 → r * r ≤ v → v < (r + 2 ^ d) * (r + 2 ^ d) → d < k →
    ∃ s, PNorm.fix_Sqrt.l0 k v r i = some s ∧ IsRoot v s := by
  induction d with
  | zero =>
    intro k r i hi hd hr0 hr1 h1 h2 hk
    obtain ⟨k, rfl⟩ : ∃ m, k = m + 1 := ⟨k - 1, by omega⟩
    refine ⟨r, ?_, hr0, h1, by rw [Int.pow_zero] at h2; exact h2⟩
    simp only [PNorm.fix_Sqrt.l0]
    rw [if_neg (by omega)]
  | succ d ih =>
    intro k r i hi hd hr0 hr1 h1 h2 hk
    obtain ⟨k, rfl⟩ : ∃ m, k = m + 1 := ⟨k - 1, by omega⟩
    have hp : (2 : Int) ^ (d + 1) = 2 ^ d * 2 := Int.pow_succ _ _
    have hpos := pow_pos' d
    rw [hp] at hr1 h2
    have e31 : wrap64 (31 - i) = 31 - i := w64' (by omega) (by omega)
    have es : shl .i64 1 (31 - i) = 2 ^ d := by
      rw [shl1 (by omega) (by omega), show (31 - i).toNat = d by omega]
    simp only [PNorm.fix_Sqrt.l0]
    rw [if_pos (by omega), e31, if_pos (by omega), es]
    generalize (2 : Int) ^ d = P at *
    have en : wrap64 (r + P) = r + P := w64' (by omega) (by omega)
    have ei : wrap64 (i + 1) = i + 1 := w64' (by omega) (by omega)
    rw [en, ei, if_neg (by omega)]
    have hv0 : 0 ≤ v := Int.le_trans (Int.mul_nonneg hr0 hr0) h1
    rw [tdiv_pos hv0, w64 (div_rng hv (show 0 < r + P by omega)).1]
    by_cases c : r + P ≤ v / (r + P)
    · rw [if_pos c]
      have c' := (le_div_iff (show 0 < r + P by omega)).1 c
      exact ih k (r + P) (i + 1) (by omega) (by omega) (by omega) (by omega) c' (by rw [show r + P + P = r + P * 2 by omega]; exact h2) (by omega)
    · rw [if_neg c]
      have c' : ¬ (r + P) * (r + P) ≤ v := fun h => c ((le_div_iff (show 0 < r + P by omega)).2 h)
      exact ih k r (i + 1) (by omega) (by omega) hr0 (by omega) h1 (by omega) (by omega)

theorem sqrt_is {v : Int} (hv : rng v) (k : Nat) (hk : 32 < k) : (v ≤ 0 ∧ PNorm.fix_Sqrt.f k v = some 0) ∨ (0 < v ∧ ∃ s, PNorm.fix_Sqrt.f k v = some s ∧ IsRoot v s) := by
  unfold PNorm.fix_Sqrt.f
  by_cases h : v ≤ 0
  · exact .inl ⟨h, if_pos h⟩
  · right
    refine ⟨by omega, ?_⟩
    rw [if_neg h]
    have c : (2 : Int) ^ 32 = 4294967296 := by decide
    have h1 := hv.2
    refine sqrt_loop v hv 32 k 0 0 (by omega) (by omega) (by omega) (by rw [c]; omega) (by omega) ?_ hk
    rw [c]; omega


/-- Sqrt. -/
def rootF (v : Int) : Int := (PNorm.fix_Sqrt.f 33 v).getD 0
theorem root_eq {v : Int} (hv : rng v) : PNorm.fix_Sqrt.f 33 v = some (rootF v) ∧ 0 ≤ rootF v ∧ rootF v ≤ 4294967296 := by
  rcases sqrt_is hv 33 (by omega) with ⟨_, e⟩ | ⟨h, s, e, h0, h1, _⟩
  · unfold rootF; rw [e]
    exact ⟨rfl, Int.le_refl _, by decide⟩
  · unfold rootF; rw [e]
    refine ⟨rfl, h0, ?_⟩
    show s ≤ 4294967296
    rcases Int.lt_or_le 4294967296 s with q | q
    · have := sq_le (show (0 : Int) ≤ 4294967296 by omega) (show 4294967296 ≤ s by omega)
      have := hv.2
      omega
    · exact q
/-- The squares added up. -/
def ssN (x : List Int) (n : Nat) : Int := sumN (fun i => cW x i * cW x i) n
theorem sq_in {a : Int} (h : -16777216 ≤ a ∧ a ≤ 16777216) : 0 ≤ a * a ∧ a * a ≤ 281474976710656 := by
  have h1 : a * a = (a.natAbs : Int) * (a.natAbs : Int) := by rw [← Int.natAbs_mul_self' a]
  rw [h1]
  have h2 : (a.natAbs : Int) ≤ 16777216 := by omega
  exact ⟨Int.mul_nonneg (by omega) (by omega), by have := Int.mul_le_mul h2 h2 (by omega) (by omega); omega⟩
theorem ssN_in (x : List Int) (n : Nat) : 0 ≤ ssN x n ∧ ssN x n ≤ n * 281474976710656 := by
  induction n with
  | zero => simp [ssN, sumN]
  | succ n ih =>
    have := sq_in (cW_in x n)
    have e : ((n + 1 : Nat) : Int) * 281474976710656 = n * 281474976710656 + 281474976710656 := by rw [Int.natCast_add, Int.add_mul]; simp
    rw [e]
    show 0 ≤ ssN x n + cW x n * cW x n ∧ ssN x n + cW x n * cW x n ≤ _
    omega
theorem sq_loop (x : List Int) {n : Nat} (hn : n ≤ 1000) (d : Nat) : ∀ (k i : Nat), i + d = n → d < k →
    PNorm.tensor_products_int64_int64.l0 k (tab (cW x) n) (tab (cW x) n) (ssN x i) (n : Int) (i : Int) = some (ssN x n) := by
  induction d with
  | zero =>
    intro k i hi hk
    obtain ⟨k, rfl⟩ : ∃ m, k = m + 1 := ⟨k - 1, by omega⟩
    simp only [PNorm.tensor_products_int64_int64.l0]
    rw [if_neg (by omega), show i = n by omega]
  | succ d ih =>
    intro k i hi hk
    obtain ⟨k, rfl⟩ : ∃ m, k = m + 1 := ⟨k - 1, by omega⟩
    simp only [PNorm.tensor_products_int64_int64.l0]
    have h1 := sq_in (cW_in x i)
    have h2 := ssN_in x i
    have e : rd (tab (cW x) n) (i : Int) = cW x i := by rw [rd_nth, tab_nth (by omega)]
    simp only [tab_length, e]
    rw [if_pos (by omega), if_pos (by omega), if_pos (by omega)]
    try rw [if_pos (by omega)]
    rw [w64' (n := cW x i * cW x i) (by omega) (by omega), w64' (n := ssN x i + cW x i * cW x i) (by omega) (by omega), w64' (n := (i : Int) + 1) (by omega) (by omega)]
    exact ih k (i + 1) (by omega) (by omega)
theorem sq_is (x : List Int) {n : Nat} (hn : n ≤ 1000) : PNorm.tensor_products_int64_int64.f (n + 1) (tab (cW x) n) (tab (cW x) n) = some (ssN x n) := by
  unfold PNorm.tensor_products_int64_int64.f
  rw [tab_length]
  exact sq_loop x hn n (n + 1) 0 (by omega) (by omega)
theorem pdiv_is {a b : Int} (ha : rng a) : PNorm.fix_Div.f a b = some (divF a b) := by
  unfold PNorm.fix_Div.f divF
  by_cases c : b ≤ 0
  · rw [if_pos c, if_pos c]
  · rw [if_neg c, if_neg c, if_neg (by omega)]
    have hb : 0 < b := by omega
    have t := tdiv_rng ha hb
    have d := (div_rng ha hb).1
    by_cases hm : Int.tmod a b < 0
    · rw [if_pos hm, w64 t, div_neg hb hm, w64 d]
    · rw [if_neg hm, w64 t, div_nonneg hb hm]
/-- What all are divided by. -/
def sizeF (x : List Int) : Int := rootF (divF (ssN x x.length) x.length) + 1
/-- A number of the answer. -/
def nmF (x g : List Int) (i : Nat) : Int := clampF (divF (cW x i * nth g i) (sizeF x)) 127
theorem size_in {x : List Int} (h : x.length ≤ 1000) : 1 ≤ sizeF x ∧ sizeF x ≤ 4294967297 := by
  have h1 := ssN_in x x.length
  have := root_eq (v := divF (ssN x x.length) x.length) (divF_rng (by unfold rng; omega))
  unfold sizeF
  omega
theorem c127_in (a : Int) : -127 ≤ clampF a 127 ∧ clampF a 127 ≤ 127 := by
  have := clampF_in (a := a) (m := 127) (by unfold rng; omega)
  unfold mx at this; omega
theorem c127_mono {a b : Int} (h : a ≤ b) : clampF a 127 ≤ clampF b 127 := by
  rw [clampF_eq, clampF_eq]; unfold mx; (repeat' split) <;> omega
theorem c127_neg {a : Int} (h : a < 0) : clampF a 127 < 0 := by
  rw [clampF_eq]; unfold mx; (repeat' split) <;> omega
theorem c127_pos {a : Int} (h : 0 ≤ a) : 0 ≤ clampF a 127 := by
  rw [clampF_eq]; unfold mx; (repeat' split) <;> omega
theorem nm_in (x g : List Int) (i : Nat) : -127 ≤ nmF x g i ∧ nmF x g i ≤ 127 := c127_in _
theorem nm_neg {x g : List Int} (hx : x.length ≤ 1000) {i : Nat} (h : cW x i * nth g i < 0) : nmF x g i < 0 := by
  have := size_in hx
  refine c127_neg ?_
  unfold divF
  rw [if_neg (by omega)]
  exact Int.ediv_neg_of_neg_of_pos h (by omega)
theorem nm_pos {x g : List Int} (hx : x.length ≤ 1000) {i : Nat} (h : 0 ≤ cW x i * nth g i) : 0 ≤ nmF x g i := by
  have := size_in hx
  refine c127_pos ?_
  unfold divF
  rw [if_neg (by omega)]
  exact Int.ediv_nonneg h (by omega)
theorem nm_zero {x g : List Int} (hx : x.length ≤ 1000) {i : Nat} (h : nth x i = 0 ∨ nth g i = 0) : nmF x g i = 0 := by
  have e : cW x i * nth g i = 0 := by
    rcases h with h | h
    · unfold cW; rw [h, show clampF 0 16777216 = 0 by decide, Int.zero_mul]
    · rw [h, Int.mul_zero]
  unfold nmF
  have := size_in hx
  rw [e]
  unfold divF
  rw [if_neg (by omega), Int.zero_ediv]
  decide
theorem cW_neg {x : List Int} {i : Nat} (h : nth x i < 0) : cW x i < 0 := by
  unfold cW
  rw [clampF_eq]; unfold mx; (repeat' split) <;> omega
theorem cW_pos {x : List Int} {i : Nat} (h : 0 < nth x i) : 0 < cW x i := by
  unfold cW
  rw [clampF_eq]; unfold mx; (repeat' split) <;> omega
theorem cW_zero {x : List Int} {i : Nat} (h : nth x i = 0) : cW x i = 0 := by
  unfold cW
  rw [h]; decide
theorem nm_signs {x g : List Int} (hx : x.length ≤ 1000) (i : Nat) : ((nth x i < 0 ∧ 0 < nth g i) ∨ (0 < nth x i ∧ nth g i < 0) → nmF x g i < 0) ∧ (¬ ((nth x i < 0 ∧ 0 < nth g i) ∨ (0 < nth x i ∧ nth g i < 0)) → 0 ≤ nmF x g i) := by
  constructor
  · rintro (⟨h1, h2⟩ | ⟨h1, h2⟩)
    · exact nm_neg hx (Int.mul_neg_of_neg_of_pos (cW_neg h1) h2)
    · exact nm_neg hx (Int.mul_neg_of_pos_of_neg (cW_pos h1) h2)
  · intro h
    refine nm_pos hx ?_
    rcases Int.lt_trichotomy (nth x i) 0 with a | a | a
    · have h1 := cW_neg a
      exact Int.mul_nonneg_of_nonpos_of_nonpos (by omega) (by omega)
    · rw [cW_zero a, Int.zero_mul]; exact Int.le_refl _
    · have h1 := cW_pos a
      exact Int.mul_nonneg (by omega) (by omega)
theorem nm_mono {x g : List Int} (hx : x.length ≤ 1000) {i k : Nat} (hg : nth g k = nth g i) (h0 : 0 < nth g i) (h : nth x k ≤ nth x i) : nmF x g k ≤ nmF x g i := by
  refine c127_mono ?_
  have := size_in hx
  unfold divF
  rw [if_neg (by omega), if_neg (by omega), hg]
  exact Int.ediv_le_ediv (by omega) (Int.mul_le_mul_of_nonneg_right (cl_mono h) (by omega))
theorem size_moved {x P : List Int} {n : Nat} (hn : x.length = n) (h : P.Perm (iota n)) : sizeF (tab (movF x P) n) = sizeF x := by
  unfold sizeF
  rw [tab_length, hn]
  congr 3
  have h1 : ssN (tab (movF x P) n) n = sumN (fun j => (fun z : Int => cW x z.toNat * cW x z.toNat) (nth P j)) n := sumN_congr' fun j hj => by
    have e : cW (tab (movF x P) n) j = cW x (nth P j).toNat := by unfold cW; rw [tab_nth hj]; rfl
    rw [e]
  rw [h1]
  refine (perm_sum h (fun z : Int => cW x z.toNat * cW x z.toNat)).trans ?_
  exact sumN_congr' fun j _ => by simp only [Int.toNat_natCast]
theorem nm_moved {x g P : List Int} {n : Nat} (hn : x.length = n) (h : P.Perm (iota n)) : tab (nmF (tab (movF x P) n) (tab (movF g P) n)) n = tab (movF (tab (nmF x g) n) P) n :=
  tab_congr fun i hi => by
    unfold nmF
    rw [size_moved hn h, tab_nth hi]
    have e : cW (tab (movF x P) n) i = cW x (nth P i).toNat := by unfold cW; rw [tab_nth hi]; rfl
    rw [e]
    unfold movF
    rw [tab_nth (by have := perm_in h hi; omega)]
end Go.Proofs.Ytnioohhiphpplaa.M
