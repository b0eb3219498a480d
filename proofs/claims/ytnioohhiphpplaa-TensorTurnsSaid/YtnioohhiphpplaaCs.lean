/- The walk of fix.Clamp. -/
import Derived.Test.YtnioohhiphpplaaGn
import Derived.Lib.Hide
import Derived.Deep.DeepCutAuto
import Derived.Deep.CutBlock
import Derived.Deep.QuietTactic
import Derived.BigQuiet
import Derived.WideLaws
import Derived.IntWalk
import Derived.StillTailTactics
set_option linter.unusedVariables false
set_option linter.unusedSimpArgs false
namespace Go.Proofs.Ytnioohhiphpplaa.Wk
open Go.RowKit Go.Proofs.YtnioohhiphpplaaW.PrintWords Go.Proofs.YtnioohhiphpplaaW.PrintLast Go.Proofs.YtnioohhiphpplaaW.PrintMore Go.Proofs.Ytnioohhiphpplaa.M Go.Proofs.Ytnioohhiphpplaa.Br
attribute [local go_sem] max2_int min2_int max_two min_two

theorem ninfo2 : (Try.prog.info? 2).map (fun i => (i.zero, i.size, i.bytes)) = some (some (.int .i64 0), 1, 8) := by kernel_rfl
theorem ninfo31 : (Try.prog.info? 31).map (fun i => (i.zero, i.size, i.bytes)) = some (some (.int .i8 0), 1, 1) := by kernel_rfl
theorem ret_int {k : IntKind} {a b : Int} (h : a = b) : Ending.returned (.int k a) = .returned (.int k b) := by rw [h]
theorem clamp_still {a m : Int} (hm : rng m) (w : World) :
    Calls Try.prog 25 #[.int .i64 a, .int .i64 m] w fun e w' => e = .returned (.int .i64 (clampF a m)) ∧ w' = w := by
  have hj := mx_rng hm
  have hv : clampF a m = if -(mx m 0) < mn a (mx m 0) then mn a (mx m 0) else -(mx m 0) := rfl
  obtain ⟨j, ej⟩ : ∃ j, mx m 0 = j := ⟨_, rfl⟩
  rw [ej] at hv hj
  obtain ⟨q, eq⟩ : ∃ q, mn a j = q := ⟨_, rfl⟩
  rw [eq] at hv
  have ej_ : (if m < 0 then 0 else m) = j := ej
  have eq_ : (if j < a then j else a) = q := eq
  have j0 := hj.1
  have j1 := hj.2
  have HV := Lib.hid hv
  clear hv ej eq hj hm
  go_enter Try.func25, Try.ntmps25
  go_wp2
  · go_ret
    exact ⟨ret_int (by rw [HV.out, if_pos (by assumption)]), rfl⟩
  · go_ret
    exact ⟨ret_int (by rw [HV.out, if_neg (by omega)]), rfl⟩
end Go.Proofs.Ytnioohhiphpplaa.Wk
