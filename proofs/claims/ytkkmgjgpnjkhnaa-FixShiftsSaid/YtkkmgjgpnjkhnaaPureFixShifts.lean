/- For every v and s: Shift of the program tells what the document's Shift tells. No conditions. -/
import Derived.Test.YtkkmgjgpnjkhnaaPFixShiftsx1
import Derived.Test.YtkkmgjgpnjkhnaaM
namespace Go.Proofs.Ytkkmgjgpnjkhnaa.Pure
open Go.RowKit Go.Proofs.Ytkkmgjgpnjkhnaa.PFixShifts Go.Proofs.YtkkmgjgpnjkhnaaW.PrintWords Go.Proofs.YtkkmgjgpnjkhnaaW.PrintLast Go.Proofs.YtkkmgjgpnjkhnaaW.PrintMore Go.Proofs.Ytkkmgjgpnjkhnaa.M

theorem FixShifts.shift_is {v s : Int} (hv : rng v) : fix_Shift.f v s = some (shiftF v s) := by
  unfold fix_Shift.f shiftF
  have hm := mn62 s
  by_cases h : s ≤ 0
  · rw [if_pos h, if_pos h]
  · have h1 := hm.2.1 (by omega)
    rw [if_neg h, if_neg h, if_pos (by omega)]
    generalize hn : mn s 62 = n at *
    rw [w64' (n := n - 1) (by omega) (by omega), if_pos (by omega), and1]
    have e : shr .i64 v (n - 1) = v / 2 ^ (n.toNat - 1) := by
      unfold shr
      have hb : IntKind.i64.bits = 64 := rfl
      rw [hb, Nat.min_eq_left (by omega), show (n - 1).toNat = n.toNat - 1 by omega]
    rw [e, shift_bits v (show 1 ≤ n.toNat by omega)]
    have r := div_pow_rng hv (n.toNat - 1)
    rw [w64 (by unfold rng at *; omega)]

theorem FixShifts.half_is {v : Int} (hv : rng v) : augurref01_half.f v = some (v / 2) := by
  unfold augurref01_half.f
  obtain ⟨h0, h1⟩ := hv
  rw [tmod2, tdiv2 v]
  by_cases h : 0 ≤ v
  · rw [if_pos h, if_neg (by omega), w64' (by omega) (by omega)]
  · rw [if_neg h]
    by_cases e : v - 2 * -(-v / 2) < 0
    · rw [if_pos e, w64' (n := v - 1) (by omega) (by omega), tdiv2, if_neg (by omega), w64' (by omega) (by omega)]
      congr 1; omega
    · rw [if_neg e, w64' (by omega) (by omega)]
      congr 1; omega

theorem FixShifts.last_is {x : Int} (hx : rng x) : (if (Int.tmod x 2) = 0 then (some (wrap64 (Int.tdiv x 2))) else ((augurref01_half.f x).bind fun t102 => (some (wrap64 (t102 + 1))))) = some ((x + 1) / 2) := by
  rw [FixShifts.half_is hx, Option.bind_some]
  obtain ⟨h0, h1⟩ := hx
  rw [tmod2, tdiv2]
  by_cases h : 0 ≤ x
  · rw [if_pos h]
    split
    · rw [w64' (by omega) (by omega)]; congr 1; omega
    · rw [w64' (by omega) (by omega)]; congr 1; omega
  · rw [if_neg h]
    split
    · rw [w64' (by omega) (by omega)]; congr 1; omega
    · rw [w64' (by omega) (by omega)]; congr 1; omega

theorem FixShifts.loop_is (s : Int) (_hs : 0 < s) (d : Nat) : ∀ (k : Nat) (x i : Int), rng x → 1 ≤ i → i + d = mn s 62 → d < k → augurref01_Shift.l0 k x s i = some ((x / 2 ^ d + 1) / 2) := by
  have hm := mn62 s
  induction d with
  | zero =>
    intro k x i hx hi hd hk
    obtain ⟨k, rfl⟩ : ∃ m, k = m + 1 := ⟨k - 1, by omega⟩
    simp only [augurref01_Shift.l0]
    rw [FixShifts.last_is hx, Int.pow_zero, Int.ediv_one]
    by_cases h1 : i < s
    · rw [if_pos h1, if_neg (by unfold mn at hd; split at hd <;> omega)]
    · rw [if_neg h1]
  | succ d ih =>
    intro k x i hx hi hd hk
    obtain ⟨k, rfl⟩ : ∃ m, k = m + 1 := ⟨k - 1, by omega⟩
    simp only [augurref01_Shift.l0]
    rw [if_pos (by omega), if_pos (by omega), FixShifts.half_is hx, Option.bind_some, w64' (by omega) (by omega)]
    rw [ih k (x / 2) (i + 1) (by unfold rng at *; omega) (by omega) (by omega) (by omega)]
    rw [Int.ediv_ediv_of_nonneg (by omega), Int.pow_succ, Int.mul_comm 2]

theorem FixShifts : augurlaw01_FixShifts.Pure := by
  intro v s hv hs
  have hv := rng_wf hv
  have hm := mn62 s
  refine ⟨64, ?_⟩
  unfold augurlaw01_FixShifts.f
  rw [FixShifts.shift_is hv, Option.bind_some]
  unfold augurref01_Shift.f shiftF
  by_cases h : s ≤ 0
  · rw [if_pos h, if_pos h]; simp
  · have h1 := hm.2.1 (by omega)
    rw [if_neg h, if_neg h, FixShifts.loop_is s (by omega) ((mn s 62).toNat - 1) 64 v 1 hv (by omega) (by omega) (by omega)]
    simp

end Go.Proofs.Ytkkmgjgpnjkhnaa.Pure
