/- For every a and b: a is b times Div's answer, and a rest from 0 to b - 1; where b is not above 0 the answer is 0. No conditions. -/
import Derived.Test.YtkkmgjgpnjkhnaaPFixWholex1
import Derived.Test.YtkkmgjgpnjkhnaaM
namespace Go.Proofs.Ytkkmgjgpnjkhnaa.Pure
open Go.RowKit Go.Proofs.Ytkkmgjgpnjkhnaa.PFixWhole Go.Proofs.YtkkmgjgpnjkhnaaW.PrintWords Go.Proofs.YtkkmgjgpnjkhnaaW.PrintLast Go.Proofs.YtkkmgjgpnjkhnaaW.PrintMore Go.Proofs.Ytkkmgjgpnjkhnaa.M

theorem FixWhole.div_is {a b : Int} (ha : rng a) : fix_Div.f a b = some (divF a b) := by
  unfold fix_Div.f divF
  by_cases h : b ≤ 0
  · rw [if_pos h, if_pos h]
  · have hb : 0 < b := by omega
    have t := tdiv_rng ha hb
    have d := (div_rng ha hb).1
    rw [if_neg h, if_neg h, if_neg (by omega), w64 t]
    by_cases hm : Int.tmod a b < 0
    · rw [if_pos hm, div_neg hb hm, w64 d]
    · rw [if_neg hm, div_nonneg hb hm]

theorem FixWhole : augurlaw01_FixWhole.Pure := by
  intro a b ha0 hb0
  have ha := rng_wf ha0
  have hb := rng_wf hb0
  unfold augurlaw01_FixWhole.f
  rw [FixWhole.div_is ha, FixWhole.div_is (a := 7) (b := 3) (by unfold rng; omega)]
  simp only [Option.bind_some]
  by_cases h : b ≤ 0
  · rw [if_pos h]
    have : divF a b = 0 := by unfold divF; rw [if_pos h]
    rw [this, if_pos rfl]; rfl
  · rw [if_neg h]
    have hp : 0 < b := by omega
    have e : divF a b = a / b := by unfold divF; rw [if_neg h]
    have h1 := Int.mul_ediv_add_emod a b
    have h2 := Int.emod_nonneg a (show b ≠ 0 by omega)
    have h3 := Int.emod_lt_of_pos a hp
    have key : wrap64 (a - wrap64 (divF a b * b)) = a % b := by
      rw [e]
      obtain ⟨r0, r1⟩ := ha
      obtain ⟨s0, s1⟩ := hb
      rw [Int.mul_comm] at h1
      unfold wrap64
      omega
    rw [key, if_pos h2, decide_eq_true h3]

end Go.Proofs.Ytkkmgjgpnjkhnaa.Pure
