/- For every v and s: Shift's answer times 2 to the s is the nearest to v, halves up, and multiples come back; outside the law's own bounds on v and s: Shift of 7 by 0 is 7. No conditions. -/
import Derived.Test.YtkkmgjgpnjkhnaaPFixNearestx1
import Derived.Test.YtkkmgjgpnjkhnaaM
namespace Go.Proofs.Ytkkmgjgpnjkhnaa.Pure
open Go.RowKit Go.Proofs.Ytkkmgjgpnjkhnaa.PFixNearest Go.Proofs.YtkkmgjgpnjkhnaaW.PrintWords Go.Proofs.YtkkmgjgpnjkhnaaW.PrintLast Go.Proofs.YtkkmgjgpnjkhnaaW.PrintMore Go.Proofs.Ytkkmgjgpnjkhnaa.M

theorem FixNearest.shift_is {v s : Int} (hv : rng v) : fix_Shift.f v s = some (shiftF v s) := by
  unfold fix_Shift.f shiftF
  have hm := mn62 s
  by_cases h : s ≤ 0
  · rw [if_pos h, if_pos h]
  · have h1 := hm.2.1 (by omega)
    rw [if_neg h, if_neg h, if_pos (by omega)]
    generalize hn : mn s 62 = n at *
    rw [w64' (n := n - 1) (by omega) (by omega), if_pos (by omega), and1]
    have e : shr .i64 v (n - 1) = v / 2 ^ (n.toNat - 1) := by
      unfold shr
      have hb : IntKind.i64.bits = 64 := rfl
      rw [hb, Nat.min_eq_left (by omega), show (n - 1).toNat = n.toNat - 1 by omega]
    rw [e, shift_bits v (show 1 ≤ n.toNat by omega)]
    have r := div_pow_rng hv (n.toNat - 1)
    rw [w64 (by unfold rng at *; omega)]

theorem FixNearest.near (v H : Int) (hH : 0 < H) : -H ≤ v - (v / H + 1) / 2 * (2 * H) ∧ v - (v / H + 1) / 2 * (2 * H) < H := by
  have h1 := Int.mul_ediv_add_emod v H
  have h2 := Int.emod_nonneg v (show H ≠ 0 by omega)
  have h3 := Int.emod_lt_of_pos v hH
  generalize v / H = f at *
  generalize v % H = r at *
  have e : (f + 1) / 2 * (2 * H) = 2 * ((f + 1) / 2) * H := by rw [← Int.mul_assoc, Int.mul_comm ((f + 1) / 2) 2]
  rw [e]
  by_cases hf : f % 2 = 0
  · rw [show 2 * ((f + 1) / 2) = f by omega, Int.mul_comm f]; omega
  · rw [show 2 * ((f + 1) / 2) = f + 1 by omega, Int.add_mul, Int.mul_comm f]; omega

theorem FixNearest.back (t H : Int) (hH : 0 < H) : (t * (2 * H) / H + 1) / 2 = t := by
  rw [← Int.mul_assoc, Int.mul_ediv_cancel _ (by omega)]; omega

theorem FixNearest : augurlaw01_FixNearest.Pure := by
  intro v s hv hs
  have hv := rng_wf hv
  have hs := rng_wf hs
  refine ⟨1, ?_⟩
  have seven : fix_Shift.f 7 0 = some 7 := by rw [FixNearest.shift_is (by unfold rng; omega)]; rfl
  have out : augurlaw01_FixNearest.j0 1 v s true = some true := by
    simp only [augurlaw01_FixNearest.j0]
    rw [if_pos trivial, seven]; rfl
  unfold augurlaw01_FixNearest.f
  by_cases c1 : v < -1152921504606846976
  · rw [if_pos c1, out]
  rw [if_neg c1]
  by_cases c2 : v > 1152921504606846976
  · rw [if_pos c2, out]
  rw [if_neg c2]
  by_cases c3 : s < 1
  · rw [if_pos c3, out]
  rw [if_neg c3]
  by_cases c4 : s > 40
  · rw [decide_eq_true c4, out]
  rw [decide_eq_false c4]
  simp only [augurlaw01_FixNearest.j0]
  rw [if_neg (by decide)]
  have eu : IntKind.u64.wrap s = s := by rw [IntKind.wrap_u64]; omega
  rw [eu, if_pos (by omega), shl1 (by omega) (by omega)]
  have hm := (mn62 s).2.2.2 (by omega)
  have hsh : ∀ x, shiftF x s = (x / 2 ^ (s.toNat - 1) + 1) / 2 := fun x => by
    unfold shiftF; rw [if_neg (by omega), hm]
  have hp : (2 : Int) ^ s.toNat = 2 * 2 ^ (s.toNat - 1) := by rw [pow_split (show 1 ≤ s.toNat by omega), Int.mul_comm]
  have hH := pow_pos' (s.toNat - 1)
  have hH2 := pow_le (show s.toNat - 1 ≤ 39 by omega)
  have c39 : (2 : Int) ^ 39 = 549755813888 := by decide
  rw [hp]
  rw [FixNearest.shift_is hv, hsh v]
  rw [c39] at hH2
  generalize (2 : Int) ^ (s.toNat - 1) = H at *
  have hU : (2 * H) ≠ 0 := by omega
  rw [Option.bind_some, if_neg hU]
  have n1 := FixNearest.near v H hH
  have t1 : rng (Int.tdiv v (2 * H)) := tdiv_rng hv (by omega)
  rw [w64 t1]
  have hq : wrap64 ((v / H + 1) / 2 * (2 * H)) = (v / H + 1) / 2 * (2 * H) := w64' (by omega) (by omega)
  rw [hq]
  have hd : wrap64 (v - (v / H + 1) / 2 * (2 * H)) = v - (v / H + 1) / 2 * (2 * H) := w64' (by omega) (by omega)
  rw [hd]
  have ht : rng (Int.tdiv v (2 * H) * (2 * H)) := by
    have a1 := tdiv_mod v (2 * H)
    rw [Int.mul_comm] at a1
    have a2 := Int.lt_tmod_of_pos v (show 0 < 2 * H by omega)
    have a3 := Int.tmod_lt_of_pos v (show 0 < 2 * H by omega)
    unfold rng; omega
  rw [w64 ht, FixNearest.shift_is ht, hsh, FixNearest.back _ H hH, Option.bind_some]
  have e1 : wrap64 (Int.tdiv (wrap64 (-(2 * H))) 2) = -H := by
    rw [w64' (n := -(2 * H)) (by omega) (by omega), tdiv2, if_neg (by omega), w64' (by omega) (by omega)]; omega
  have e2 : wrap64 (Int.tdiv (2 * H) 2) = H := by
    rw [tdiv2, if_pos (by omega), w64' (by omega) (by omega)]; omega
  rw [e1, e2, if_pos n1.1, if_pos n1.2]
  simp

end Go.Proofs.Ytkkmgjgpnjkhnaa.Pure
