/- Plainly: the document's Blend. -/
import Derived.Test.YtnioohhiphpplaaDoorDb
set_option linter.unusedVariables false
set_option linter.unusedSimpArgs false
namespace Go.Proofs.YtnioohhiphpplaaDoor.Dp
open Go.RowKit Go.Proofs.YtnioohhiphpplaaDoor.Pplays Go.Proofs.YtnioohhiphpplaaDoorW.PrintWords Go.Proofs.YtnioohhiphpplaaDoorW.PrintLast Go.Proofs.YtnioohhiphpplaaDoorW.PrintMore Go.Proofs.YtnioohhiphpplaaDoor.M
theorem rd3_at (vs : List (List Int)) (i : Nat) : rd_L3 vs (i : Int) = vrow vs i := by unfold rd_L3 vrow; rw [Int.toNat_natCast]
theorem rd3_0 (vs : List (List Int)) : rd_L3 vs 0 = vrow vs 0 := rfl
theorem blends_good {x : List Int} {vs : List (List Int)} (hl : x.length = vs.length) (hn : x.length ≤ 281474976710656) (hg : ∀ i, i < x.length → okB x vs i) : ∀ (d k i : Nat), i + d = x.length → d < k →
  augurref03_blends.l0 k x vs (sW x i) (i : Int) = some (decide (sW x x.length ≥ 1), sW x x.length) := by
 intro d
 induction d with
 | zero =>
  intro k i hi hk
  obtain ⟨k, rfl⟩ : ∃ m, k = m + 1 := ⟨k - 1, by omega⟩
  simp only [augurref03_blends.l0]
  have hii : i = x.length := by omega
  rw [if_neg (by omega), hii]
 | succ d ih =>
  intro k i hi hk
  obtain ⟨k, rfl⟩ : ∃ m, k = m + 1 := ⟨k - 1, by omega⟩
  obtain ⟨g1, g2⟩ := hg i (by omega)
  have ih' := ih k (i + 1) (by omega) (by omega)
  simp only [augurref03_blends.l0]
  rw [if_pos (by omega), if_pos (by omega), rd_at, if_neg (by omega), if_pos (by omega), if_pos (by omega), rd3_at, rd3_0, if_pos (by rw [g2]), up1 (by omega)]
  exact ih'
theorem blends_bad {x : List Int} {vs : List (List Int)} (hl : x.length = vs.length) (hn : x.length ≤ 281474976710656) (hb : ¬ ∀ i, i < x.length → okB x vs i) : ∀ (d k i : Nat), i + d = x.length → (∀ j, j < i → okB x vs j) → d < k →
  augurref03_blends.l0 k x vs (sW x i) (i : Int) = some (false, 0) := by
 intro d
 induction d with
 | zero =>
  intro k i hi hg hk
  exact absurd (fun j hj => hg j (by omega)) hb
 | succ d ih =>
  intro k i hi hg hk
  obtain ⟨k, rfl⟩ : ∃ m, k = m + 1 := ⟨k - 1, by omega⟩
  simp only [augurref03_blends.l0]
  rw [if_pos (by omega), if_pos (by omega), rd_at]
  by_cases c1 : nth x i < 0
  ·rw [if_pos c1]
  ·rw [if_neg c1, if_pos (by omega), if_pos (by omega), rd3_at, rd3_0]
   by_cases c2 : (vrow vs i).length = (vrow vs 0).length
   ·rw [if_pos (by omega), up1 (by omega)]
    exact ih k (i + 1) (by omega) (fun j hj => by
     rcases Nat.lt_or_ge j i with h | h
     ·exact hg j h
     ·have : j = i := by omega
      subst this
      exact ⟨by omega, c2⟩) (by omega)
   ·rw [if_neg (by omega)]
theorem refbl_l1 {x : List Int} {vs : List (List Int)} {S : Int} {acc : List Int} {j : Nat} (hl : x.length = vs.length) (hn : x.length ≤ 281474976710656) (hg : ∀ i, i < x.length → okB x vs i) (hsm : ∀ v ∈ vs, Small v) (hj : j < (vrow vs 0).length) (hjb : j ≤ 140737488355328) (ha : acc.length < 140737488355328) (k : Nat) (hk : 0 < k) : ∀ (d i : Nat), i + d = x.length →
  augurref03_Blend.l1 (k + d + 1) x vs S acc (j : Int) (dotW (nth x) (fun i => nth (vrow vs i) j) i) (i : Int) = augurref03_Blend.l0 k x vs S (acc ++ [blW x vs S j]) ((j + 1 : Nat) : Int) := by
 intro d
 induction d with
 | zero =>
  intro i hi
  have hii : i = x.length := by omega
  subst hii
  simp only [augurref03_Blend.l1]
  rw [if_neg (by omega), refdiv_is (dotW_rng _ _ _), Option.bind_some, refclamp8_pos _ (by omega), Option.bind_some, if_pos ha, up1 (by omega), Wk.c127_w]
  rfl
 | succ d ih =>
  intro i hi
  have ih' := ih (i + 1) (by omega)
  have hil : i < vs.length := by omega
  have hs : Small (vrow vs i) := hsm _ (by unfold vrow; rw [List.getD_eq_getElem?_getD, List.getElem?_eq_getElem hil]; exact List.getElem_mem hil)
  have hlen := (hg i (by omega)).2
  rw [show k + (d + 1) + 1 = (k + d + 1) + 1 from rfl]
  generalize k + d + 1 = m at ih' ⊢
  simp only [augurref03_Blend.l1]
  rw [if_pos (by omega), if_pos (by omega), if_pos (by omega), if_pos (by omega), rd3_at, if_pos (by omega), rd_at, rd_at, small_w hs, up1 (by omega)]
  exact ih'
theorem refbl_l0 {x : List Int} {vs : List (List Int)} {S : Int} (h0 : 0 < vs.length) (hl : x.length = vs.length) (hn : x.length ≤ 281474976710656) (hg : ∀ i, i < x.length → okB x vs i) (hsm : ∀ v ∈ vs, Small v) (hL : (vrow vs 0).length < 140737488355328) : ∀ (d j : Nat), j + d = (vrow vs 0).length →
  augurref03_Blend.l0 (d * (x.length + 2) + 1) x vs S (tb (blW x vs S) j) (j : Int) = some (tb (blW x vs S) (vrow vs 0).length, 0) := by
 intro d
 induction d with
 | zero =>
  intro j hj
  have hjj : j = (vrow vs 0).length := by omega
  subst hjj
  rw [Nat.zero_mul]
  simp only [augurref03_Blend.l0]
  rw [if_pos (by omega), rd3_0, if_neg (by omega)]
 | succ d ih =>
  intro j hj
  have ih' := ih (j + 1) (by omega)
  have h1 := refbl_l1 (S := S) (acc := tb (blW x vs S) j) (j := j) hl hn hg hsm (by omega) (by omega) (by rw [tb_length]; omega) (d * (x.length + 2) + 1) (by omega) x.length 0 (by omega)
  rw [show (d + 1) * (x.length + 2) + 1 = (d * (x.length + 2) + 1 + x.length + 1) + 1 by rw [Nat.succ_mul]; omega]
  rw [← tb_succ, ih'] at h1
  generalize d * (x.length + 2) + 1 + x.length + 1 = m at h1 ⊢
  simp only [augurref03_Blend.l0]
  rw [if_pos (by omega), rd3_0, if_pos (by omega)]
  exact h1
theorem refblends_is {x : List Int} {vs : List (List Int)} (hn : x.length ≤ 281474976710656) {k : Nat} (hk : x.length + 2 < k) :
  ∃ ok S, augurref03_blends.f k x vs = some (ok, S) ∧ ((ok = false ∧ BlBad x vs) ∨ (ok = true ∧ ¬ BlBad x vs ∧ S = sW x x.length)) := by
 obtain ⟨k, rfl⟩ : ∃ m, k = m + 1 := ⟨k - 1, by omega⟩
 have ht : augurref03_blends.j0 (k + 1) x vs true = some (false, 0) := by simp only [augurref03_blends.j0]; rw [if_pos trivial]
 unfold augurref03_blends.f
 by_cases c0 : x.length = 0
 ·rw [if_pos (by omega), ht]
  exact ⟨_, _, rfl, .inl ⟨rfl, .inl c0⟩⟩
 rw [if_neg (by omega)]
 by_cases c1 : x.length = vs.length
 case neg =>
  rw [show ((x.length : Int) != (vs.length : Int)) = true from bne_iff_ne.2 (by omega), ht]
  exact ⟨_, _, rfl, .inl ⟨rfl, .inr (.inl c1)⟩⟩
 rw [show ((x.length : Int) != (vs.length : Int)) = false from bne_eq_false_iff_eq.2 (by omega)]
 simp only [augurref03_blends.j0]
 rw [if_neg (by decide)]
 by_cases hg : ∀ i, i < x.length → okB x vs i
 ·have h := blends_good c1 hn hg x.length k 0 (by omega) (by omega)
  refine ⟨_, _, h, ?_⟩
  by_cases c2 : sW x x.length < 1
  ·exact .inl ⟨decide_eq_false (by omega), .inr (.inr (.inr c2))⟩
  ·refine .inr ⟨decide_eq_true (by omega), fun hb => ?_, rfl⟩
   rcases hb with h | h | h | h
   ·exact c0 h
   ·exact h c1
   ·exact h hg
   ·exact c2 h
 ·have h := blends_bad c1 hn hg x.length k 0 (by omega) (fun j hj => by omega) (by omega)
  exact ⟨_, _, h, .inl ⟨rfl, .inr (.inr (.inl hg))⟩⟩
theorem refblend_bad {x : List Int} {vs : List (List Int)} (hn : x.length ≤ 281474976710656) (hb : BlBad x vs) {k : Nat} (hk : x.length + 2 < k) : augurref03_Blend.f k x vs = some ([], 30) := by
 obtain ⟨ok, S, h, h2⟩ := refblends_is (vs := vs) hn hk
 unfold augurref03_Blend.f
 rw [h, Option.bind_some]
 rcases h2 with ⟨rfl, _⟩ | ⟨_, h3, _⟩
 ·rw [if_neg (show ¬ (false = true) by decide)]
 ·exact absurd hb h3
theorem refblend_good {x : List Int} {vs : List (List Int)} (hn : x.length ≤ 281474976710656) (hb : ¬ BlBad x vs) (hsm : ∀ v ∈ vs, Small v) (hL : (vrow vs 0).length < 140737488355328) {k : Nat} (hk : (vrow vs 0).length * (x.length + 2) + x.length + 3 < k) :
  augurref03_Blend.f k x vs = some (tb (blW x vs (sW x x.length)) (vrow vs 0).length, 0) := by
 obtain ⟨ok, S, h, h2⟩ := refblends_is (vs := vs) hn (k := k) (by omega)
 unfold augurref03_Blend.f
 rw [h, Option.bind_some]
 rcases h2 with ⟨_, h3⟩ | ⟨rfl, h3, rfl⟩
 ·exact absurd h3 hb
 ·rw [if_pos rfl]
  have c0 : x.length ≠ 0 := fun h => hb (.inl h)
  have c1 : x.length = vs.length := Classical.byContradiction fun h => hb (.inr (.inl h))
  have hg : ∀ i, i < x.length → okB x vs i := Classical.byContradiction fun h => hb (.inr (.inr (.inl h)))
  have h0 := refbl_l0 (S := sW x x.length) (show 0 < vs.length by omega) c1 hn hg hsm hL (vrow vs 0).length 0 (by omega)
  exact up (g := fun k => augurref03_Blend.l0 k x vs (sW x x.length) [] 0) (fun k => (augurref03_Blend.mono_l k).1 x vs (sW x x.length) [] 0) (by omega) h0
end Go.Proofs.YtnioohhiphpplaaDoor.Dp
