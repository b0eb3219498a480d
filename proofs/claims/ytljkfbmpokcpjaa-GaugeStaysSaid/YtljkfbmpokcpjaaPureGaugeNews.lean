/- For every most: New of the program tells what the document's New tells. No conditions. -/
import Derived.Test.YtljkfbmpokcpjaaPGaugeNewsx2
import Derived.Test.YtljkfbmpokcpjaaM
namespace Go.Proofs.Ytljkfbmpokcpjaa.Pure
open Go.RowKit Go.Proofs.Ytljkfbmpokcpjaa.PGaugeNews Go.Proofs.YtljkfbmpokcpjaaW.PrintWords Go.Proofs.YtljkfbmpokcpjaaW.PrintLast Go.Proofs.YtljkfbmpokcpjaaW.PrintMore Go.Proofs.Ytljkfbmpokcpjaa.M

theorem GaugeNews.new_is (m : Int) : gauge_New.f m = if m < 1 ∨ 32 < m then some (0, 0, 0, 1) else if m < 4 then some (m, m, 0, 0) else some (4, m, 0, 0) := by
  unfold gauge_New.f gauge_Check.f
  by_cases h : m < 1 ∨ 32 < m
  · rw [if_pos h]
    have : (!(mn 4 m == mn (mx (mn 4 m) 1) m) || (!(m == mn (mx m 1) 32) || !(0 == mn (mx 0 0) 3))) = true := by
      have : ¬ m = mn (mx m 1) 32 := by unfold mn mx; repeat' split
                                        all_goals omega
      simp [this]
    rw [if_pos this]; rfl
  · rw [if_neg h]
    have e1 : m = mn (mx m 1) 32 := by unfold mn mx; repeat' split
                                       all_goals omega
    have e2 : mn 4 m = mn (mx (mn 4 m) 1) m := by unfold mn mx; repeat' split
                                                  all_goals omega
    have e3 : (0 : Int) = mn (mx 0 0) 3 := by decide
    rw [← e1, ← e2, ← e3]
    rw [if_neg (by simp), Option.bind_some, if_pos rfl]
    unfold mn
    split <;> rfl

theorem GaugeNews : augurlaw17_GaugeNews.Pure := by
  intro m _
  refine ⟨1, ?_⟩
  have ref : augurref17_New.f 1 m = if m < 1 ∨ 32 < m then some (0, 0, 0, 1) else if m < 4 then some (m, m, 0, 0) else some (4, m, 0, 0) := by
    unfold augurref17_New.f
    by_cases h1 : m < 1
    · rw [if_pos h1, if_pos (.inl h1)]; rfl
    · rw [if_neg h1]
      by_cases h2 : m > 32
      · rw [decide_eq_true h2, if_pos (.inr h2)]; rfl
      · rw [decide_eq_false h2, if_neg (by omega)]; rfl
  unfold augurlaw17_GaugeNews.f
  rw [GaugeNews.new_is, ref]
  by_cases h : m < 1 ∨ 32 < m
  · rw [if_pos h]; rfl
  · rw [if_neg h]
    by_cases h4 : m < 4
    · rw [if_pos h4]; simp
    · rw [if_neg h4]; simp

end Go.Proofs.Ytljkfbmpokcpjaa.Pure
