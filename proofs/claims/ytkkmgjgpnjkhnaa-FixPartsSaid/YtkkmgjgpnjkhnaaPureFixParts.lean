/- For every a and b: the program's Sqrt and Div tell what the document's Sqrt and Div tell. No conditions. -/
import Derived.Test.YtkkmgjgpnjkhnaaPFixPartsx1
import Derived.Test.YtkkmgjgpnjkhnaaM
namespace Go.Proofs.Ytkkmgjgpnjkhnaa.Pure
open Go.RowKit Go.Proofs.Ytkkmgjgpnjkhnaa.PFixParts Go.Proofs.YtkkmgjgpnjkhnaaW.PrintWords Go.Proofs.YtkkmgjgpnjkhnaaW.PrintLast Go.Proofs.YtkkmgjgpnjkhnaaW.PrintMore Go.Proofs.Ytkkmgjgpnjkhnaa.M

theorem FixParts.sqrt_loop (v : Int) (hv : rng v) (d : Nat) : ∀ (k : Nat) (r i : Int), 0 ≤ i → i + d = 32 → 0 ≤ r → r + 2 ^ d ≤ 4294967296 → r * r ≤ v → v < (r + 2 ^ d) * (r + 2 ^ d) → d < k →
    ∃ s, fix_Sqrt.l0 k v r i = some s ∧ IsRoot v s := by
  induction d with
  | zero =>
    intro k r i hi hd hr0 hr1 h1 h2 hk
    obtain ⟨k, rfl⟩ : ∃ m, k = m + 1 := ⟨k - 1, by omega⟩
    refine ⟨r, ?_, hr0, h1, by rw [Int.pow_zero] at h2; exact h2⟩
    simp only [fix_Sqrt.l0]
    rw [if_neg (by omega)]
  | succ d ih =>
    intro k r i hi hd hr0 hr1 h1 h2 hk
    obtain ⟨k, rfl⟩ : ∃ m, k = m + 1 := ⟨k - 1, by omega⟩
    have hp : (2 : Int) ^ (d + 1) = 2 ^ d * 2 := Int.pow_succ _ _
    have hpos := pow_pos' d
    rw [hp] at hr1 h2
    have e31 : wrap64 (31 - i) = 31 - i := w64' (by omega) (by omega)
    have es : shl .i64 1 (31 - i) = 2 ^ d := by
      rw [shl1 (by omega) (by omega), show (31 - i).toNat = d by omega]
    simp only [fix_Sqrt.l0]
    rw [if_pos (by omega), e31, if_pos (by omega), es]
    generalize (2 : Int) ^ d = P at *
    have en : wrap64 (r + P) = r + P := w64' (by omega) (by omega)
    have ei : wrap64 (i + 1) = i + 1 := w64' (by omega) (by omega)
    rw [en, ei, if_neg (by omega)]
    have hv0 : 0 ≤ v := Int.le_trans (Int.mul_nonneg hr0 hr0) h1
    rw [tdiv_pos hv0, w64 (div_rng hv (show 0 < r + P by omega)).1]
    by_cases c : r + P ≤ v / (r + P)
    · rw [if_pos c]
      have c' := (le_div_iff (show 0 < r + P by omega)).1 c
      exact ih k (r + P) (i + 1) (by omega) (by omega) (by omega) (by omega) c' (by rw [show r + P + P = r + P * 2 by omega]; exact h2) (by omega)
    · rw [if_neg c]
      have c' : ¬ (r + P) * (r + P) ≤ v := fun h => c ((le_div_iff (show 0 < r + P by omega)).2 h)
      exact ih k r (i + 1) (by omega) (by omega) hr0 (by omega) h1 (by omega) (by omega)

theorem FixParts.sqrt_is {v : Int} (hv : rng v) (k : Nat) (hk : 32 < k) : (v ≤ 0 ∧ fix_Sqrt.f k v = some 0) ∨ (0 < v ∧ ∃ s, fix_Sqrt.f k v = some s ∧ IsRoot v s) := by
  unfold fix_Sqrt.f
  by_cases h : v ≤ 0
  · exact .inl ⟨h, if_pos h⟩
  · right
    refine ⟨by omega, ?_⟩
    rw [if_neg h]
    have c : (2 : Int) ^ 32 = 4294967296 := by decide
    have h1 := hv.2
    refine FixParts.sqrt_loop v hv 32 k 0 0 (by omega) (by omega) (by omega) (by rw [c]; omega) (by omega) ?_ hk
    rw [c]; omega

theorem FixParts.ref_loop (v : Int) (d : Nat) : ∀ (k : Nat) (l h : Int), 0 ≤ l → l < h → h ≤ 3037000500 → h - l ≤ 2 ^ d → l * l ≤ v → v < h * h → d < k →
    ∃ s, augurref01_Sqrt.l0 k v l h = some s ∧ IsRoot v s := by
  induction d with
  | zero =>
    intro k l h l0 lh h0 hd h1 h2 hk
    obtain ⟨k, rfl⟩ : ∃ m, k = m + 1 := ⟨k - 1, by omega⟩
    rw [Int.pow_zero] at hd
    have e : h = l + 1 := by omega
    subst e
    refine ⟨l, ?_, l0, h1, h2⟩
    simp only [augurref01_Sqrt.l0]
    rw [if_neg (by rw [w64' (by omega) (by omega)]; omega)]
  | succ d ih =>
    intro k l h l0 lh h0 hd h1 h2 hk
    obtain ⟨k, rfl⟩ : ∃ m, k = m + 1 := ⟨k - 1, by omega⟩
    rw [Int.pow_succ] at hd
    simp only [augurref01_Sqrt.l0]
    by_cases c : h - l > 1
    · rw [if_pos (by rw [w64' (by omega) (by omega)]; exact c)]
      have em : wrap64 (Int.tdiv (wrap64 (l + h)) 2) = (l + h) / 2 := by
        rw [w64' (n := l + h) (by omega) (by omega), tdiv_pos (by omega), w64' (by omega) (by omega)]
      rw [em]
      obtain ⟨m, hm⟩ : ∃ m, m = (l + h) / 2 := ⟨_, rfl⟩
      rw [← hm]
      have m2 := sq_le (show 0 ≤ m by omega) (show m ≤ 3037000499 by omega)
      have m3 : 0 ≤ m * m := Int.mul_nonneg (by omega) (by omega)
      have emm : wrap64 (m * m) = m * m := w64' (by omega) (by omega)
      rw [emm]
      by_cases q : m * m ≤ v
      · rw [if_pos q]
        exact ih k m h (by omega) (by omega) h0 (by omega) q h2 (by omega)
      · rw [if_neg q]
        exact ih k l m l0 (by omega) (by omega) (by omega) h1 (by omega) (by omega)
    · have e : h = l + 1 := by omega
      subst e
      refine ⟨l, ?_, l0, h1, h2⟩
      rw [if_neg (by rw [w64' (by omega) (by omega)]; omega)]

theorem FixParts.div_is {a b : Int} (ha : rng a) : fix_Div.f a b = some (divF a b) := by
  unfold fix_Div.f divF
  by_cases h : b ≤ 0
  · rw [if_pos h, if_pos h]
  · have hb : 0 < b := by omega
    have t := tdiv_rng ha hb
    have d := (div_rng ha hb).1
    rw [if_neg h, if_neg h, if_neg (by omega), w64 t]
    by_cases hm : Int.tmod a b < 0
    · rw [if_pos hm, div_neg hb hm, w64 d]
    · rw [if_neg hm, div_nonneg hb hm]

theorem FixParts.refdiv_is {a b : Int} (ha : rng a) : augurref01_Div.f a b = some (divF a b) := by
  unfold augurref01_Div.f divF
  by_cases h : b ≤ 0
  · rw [if_pos h, if_pos h]
  · have hb : 0 < b := by omega
    have t := tdiv_rng ha hb
    have d := (div_rng ha hb).1
    have a1 := tdiv_mod a b
    rw [Int.mul_comm] at a1
    have a2 := Int.lt_tmod_of_pos a hb
    have a3 := Int.tmod_lt_of_pos a hb
    have hr : rng (Int.tdiv a b * b) := by
      obtain ⟨r0, r1⟩ := ha
      rcases Int.lt_or_le a 0 with q | q
      · have : Int.tmod a b ≤ 0 := by
          rcases Int.lt_or_le 0 (Int.tmod a b) with z | z
          · exfalso
            have e : a = -(-a) := by omega
            rw [e, Int.neg_tmod] at z
            have := Int.tmod_nonneg b (show 0 ≤ -a by omega)
            omega
          · exact z
        have b2 : 0 ≤ -(Int.tdiv a b) := by
          have e : a = -(-a) := by omega
          rw [e, Int.neg_tdiv, Int.neg_neg, tdiv_pos (by omega)]
          exact Int.ediv_nonneg (by omega) (by omega)
        have b3 : 0 ≤ -(Int.tdiv a b) * b := Int.mul_nonneg b2 (by omega)
        rw [Int.neg_mul] at b3
        unfold rng; omega
      · have := Int.tmod_nonneg b q
        have b2 : 0 ≤ Int.tdiv a b := by rw [tdiv_pos q]; exact Int.ediv_nonneg q (by omega)
        have b3 : 0 ≤ Int.tdiv a b * b := Int.mul_nonneg b2 (by omega)
        unfold rng; omega
    rw [if_neg h, if_neg h, if_neg (by omega), w64 t, w64 hr]
    by_cases hm : Int.tmod a b < 0
    · rw [if_pos (by omega), div_neg hb hm, w64 d]
    · rw [if_neg (by omega), div_nonneg hb hm]

theorem FixParts : augurlaw01_FixParts.Pure := by
  intro a b ha0 hb0
  have ha := rng_wf ha0
  refine ⟨33, ?_⟩
  unfold augurlaw01_FixParts.f
  have both : ∃ s, fix_Sqrt.f 33 a = some s ∧ augurref01_Sqrt.f 33 a = some s := by
    rcases FixParts.sqrt_is ha 33 (by omega) with ⟨h, e⟩ | ⟨h, s, e, hs⟩
    · refine ⟨0, e, ?_⟩
      unfold augurref01_Sqrt.f; rw [if_pos h]
    · refine ⟨s, e, ?_⟩
      unfold augurref01_Sqrt.f
      rw [if_neg (by omega)]
      have c : (2 : Int) ^ 32 = 4294967296 := by decide
      have h1 := ha.2
      obtain ⟨t, e2, ht⟩ := FixParts.ref_loop a 32 33 0 3037000500 (by omega) (by omega) (by omega) (by rw [c]; omega) (by omega) (by omega) (by omega)
      rw [e2, isRoot_unique ht hs]
  obtain ⟨s, e1, e2⟩ := both
  rw [e1, e2, FixParts.div_is ha, FixParts.refdiv_is ha]
  simp

end Go.Proofs.Ytkkmgjgpnjkhnaa.Pure
