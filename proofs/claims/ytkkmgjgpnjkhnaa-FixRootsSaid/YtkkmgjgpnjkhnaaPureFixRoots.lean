/- For every v: Sqrt's answer's square is not above v, and the next number's square is; of v up to 0 it is 0. No conditions. -/
import Derived.Test.YtkkmgjgpnjkhnaaPFixRootsx1
import Derived.Test.YtkkmgjgpnjkhnaaM
namespace Go.Proofs.Ytkkmgjgpnjkhnaa.Pure
open Go.RowKit Go.Proofs.Ytkkmgjgpnjkhnaa.PFixRoots Go.Proofs.YtkkmgjgpnjkhnaaW.PrintWords Go.Proofs.YtkkmgjgpnjkhnaaW.PrintLast Go.Proofs.YtkkmgjgpnjkhnaaW.PrintMore Go.Proofs.Ytkkmgjgpnjkhnaa.M

theorem FixRoots.sqrt_loop (v : Int) (hv : rng v) (d : Nat) : ∀ (k : Nat) (r i : Int), 0 ≤ i → i + d = 32 → 0 ≤ r → r + 2 ^ d ≤ 4294967296 → r * r ≤ v → v < (r + 2 ^ d) * (r + 2 ^ d) → d < k →
    ∃ s, fix_Sqrt.l0 k v r i = some s ∧ IsRoot v s := by
  induction d with
  | zero =>
    intro k r i hi hd hr0 hr1 h1 h2 hk
    obtain ⟨k, rfl⟩ : ∃ m, k = m + 1 := ⟨k - 1, by omega⟩
    refine ⟨r, ?_, hr0, h1, by rw [Int.pow_zero] at h2; exact h2⟩
    simp only [fix_Sqrt.l0]
    rw [if_neg (by omega)]
  | succ d ih =>
    intro k r i hi hd hr0 hr1 h1 h2 hk
    obtain ⟨k, rfl⟩ : ∃ m, k = m + 1 := ⟨k - 1, by omega⟩
    have hp : (2 : Int) ^ (d + 1) = 2 ^ d * 2 := Int.pow_succ _ _
    have hpos := pow_pos' d
    rw [hp] at hr1 h2
    have e31 : wrap64 (31 - i) = 31 - i := w64' (by omega) (by omega)
    have es : shl .i64 1 (31 - i) = 2 ^ d := by
      rw [shl1 (by omega) (by omega), show (31 - i).toNat = d by omega]
    simp only [fix_Sqrt.l0]
    rw [if_pos (by omega), e31, if_pos (by omega), es]
    generalize (2 : Int) ^ d = P at *
    have en : wrap64 (r + P) = r + P := w64' (by omega) (by omega)
    have ei : wrap64 (i + 1) = i + 1 := w64' (by omega) (by omega)
    rw [en, ei, if_neg (by omega)]
    have hv0 : 0 ≤ v := Int.le_trans (Int.mul_nonneg hr0 hr0) h1
    rw [tdiv_pos hv0, w64 (div_rng hv (show 0 < r + P by omega)).1]
    by_cases c : r + P ≤ v / (r + P)
    · rw [if_pos c]
      have c' := (le_div_iff (show 0 < r + P by omega)).1 c
      exact ih k (r + P) (i + 1) (by omega) (by omega) (by omega) (by omega) c' (by rw [show r + P + P = r + P * 2 by omega]; exact h2) (by omega)
    · rw [if_neg c]
      have c' : ¬ (r + P) * (r + P) ≤ v := fun h => c ((le_div_iff (show 0 < r + P by omega)).2 h)
      exact ih k r (i + 1) (by omega) (by omega) hr0 (by omega) h1 (by omega) (by omega)

theorem FixRoots.sqrt_is {v : Int} (hv : rng v) (k : Nat) (hk : 32 < k) : (v ≤ 0 ∧ fix_Sqrt.f k v = some 0) ∨ (0 < v ∧ ∃ s, fix_Sqrt.f k v = some s ∧ IsRoot v s) := by
  unfold fix_Sqrt.f
  by_cases h : v ≤ 0
  · exact .inl ⟨h, if_pos h⟩
  · right
    refine ⟨by omega, ?_⟩
    rw [if_neg h]
    have c : (2 : Int) ^ 32 = 4294967296 := by decide
    have h1 := hv.2
    refine FixRoots.sqrt_loop v hv 32 k 0 0 (by omega) (by omega) (by omega) (by rw [c]; omega) (by omega) ?_ hk
    rw [c]; omega

theorem FixRoots : augurlaw01_FixRoots.Pure := by
  intro v hv0
  have hv := rng_wf hv0
  refine ⟨33, ?_⟩
  have four : fix_Sqrt.f 33 4 = some 2 := by
    rcases FixRoots.sqrt_is (v := 4) (by unfold rng; omega) 33 (by omega) with ⟨h, _⟩ | ⟨_, s, e, hs⟩
    · omega
    · rw [e, isRoot_unique hs (s := 2) ⟨by omega, by omega, by omega⟩]
  unfold augurlaw01_FixRoots.f
  rcases FixRoots.sqrt_is hv 33 (by omega) with ⟨h, e⟩ | ⟨h, s, e, hs⟩
  · rw [e, Option.bind_some, if_pos h, four, Option.bind_some, if_pos rfl]; rfl
  · obtain ⟨s0, s1, s2⟩ := hs
    obtain ⟨r0, r1⟩ := hv
    have hs1 : 1 ≤ s := by
      rcases Int.lt_or_le s 1 with q | q
      · have : s = 0 := by omega
        subst this
        omega
      · exact q
    have hs2 : s ≤ 4294967296 := by
      rcases Int.lt_or_le 4294967296 s with q | q
      · have := sq_le (show (0 : Int) ≤ 4294967296 by omega) (show 4294967296 ≤ s by omega)
        omega
      · exact q
    rw [e, Option.bind_some, if_neg (by omega), if_pos (show s ≥ 1 from hs1), if_neg (by omega), tdiv_pos (show 0 ≤ v by omega), w64 (div_rng ⟨r0, r1⟩ (show 0 < s by omega)).1]
    rw [if_pos ((le_div_iff (by omega)).2 s1)]
    have en : wrap64 (s + 1) = s + 1 := w64' (by omega) (by omega)
    rw [en, if_neg (by omega), tdiv_pos (show 0 ≤ v by omega), w64 (div_rng ⟨r0, r1⟩ (show 0 < s + 1 by omega)).1]
    have c : ¬ s + 1 ≤ v / (s + 1) := fun q => by
      have := (le_div_iff (show 0 < s + 1 by omega)).1 q
      omega
    rw [decide_eq_true (by omega)]

end Go.Proofs.Ytkkmgjgpnjkhnaa.Pure
