/- For every a and most: Clamp and Clamp8 of the program tell what the document's Clamp and Clamp8 tell. No conditions. -/
import Derived.Test.YtkkmgjgpnjkhnaaPFixClampsx1
import Derived.Test.YtkkmgjgpnjkhnaaM
namespace Go.Proofs.Ytkkmgjgpnjkhnaa.Pure
open Go.RowKit Go.Proofs.Ytkkmgjgpnjkhnaa.PFixClamps Go.Proofs.YtkkmgjgpnjkhnaaW.PrintWords Go.Proofs.YtkkmgjgpnjkhnaaW.PrintLast Go.Proofs.YtkkmgjgpnjkhnaaW.PrintMore Go.Proofs.Ytkkmgjgpnjkhnaa.M

theorem FixClamps.clamp_is {a m : Int} (hm : rng m) : fix_Clamp.f a m = some (clampF a m) := by
  have h := mx_rng hm
  unfold fix_Clamp.f clampF
  rw [w64' (by omega) (by omega)]
theorem FixClamps.ref_is {a m : Int} (hm : rng m) (k : Nat) : augurref01_Clamp.f (k + 1) a m = some (clampF a m) := by
  obtain ⟨h0, h1⟩ := hm
  unfold augurref01_Clamp.f
  rw [clampF_eq]
  by_cases h : m < 0
  · have e : mx m 0 = 0 := by unfold mx; split <;> omega
    rw [if_pos h, e]; simp only [augurref01_Clamp.j0]
    rw [w64' (by omega) (by omega)]
    repeat' split
    all_goals first | rfl | (exfalso; omega) | (congr 1; omega)
  · have e : mx m 0 = m := by unfold mx; split <;> omega
    rw [if_neg h, e]; simp only [augurref01_Clamp.j0]
    rw [w64' (by omega) (by omega)]
    repeat' split
    all_goals first | rfl | (exfalso; omega) | (congr 1; omega)

theorem FixClamps : augurlaw01_FixClamps.Pure := by
  intro a m ha hm
  refine ⟨1, ?_⟩
  unfold augurlaw01_FixClamps.f fix_Clamp8.f augurref01_Clamp8.f
  rw [FixClamps.clamp_is (rng_wf hm), FixClamps.ref_is (rng_wf hm) 0, FixClamps.clamp_is (m := 127) (by unfold rng; omega), FixClamps.ref_is (m := 127) (by unfold rng; omega) 0]
  simp

end Go.Proofs.Ytkkmgjgpnjkhnaa.Pure
