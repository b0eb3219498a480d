-- PRINTED BY print.sh 35421559b90ae4d0a3588c463048766b98c2df88dd9212a6774a882060cdf62d: not written by this session
import Derived.Test.YtjeofkobefeigaaPgramx0
namespace Go.Proofs.Ytjeofkobefeigaa.Pgram
open Go.RowKit Go.Proofs.YtjeofkobefeigaaW.PrintWords Go.Proofs.YtjeofkobefeigaaW.PrintLast Go.Proofs.YtjeofkobefeigaaW.PrintMore
attribute [local go_sem] max2_int min2_int max_two min_two max_three min_three max_four min_four   -- for this text's walks alone
set_option linter.unusedVariables false
set_option linter.unusedSimpArgs false

/-! ### augurlaw13_gram: function 12 -/
def augurlaw13_gram.f (a0 : Int) : Option (Int) := if (Int.tmod a0 4) < 0 then (some (wrap64 ((wrap64 ((Int.tmod a0 4) + 4)) + 1))) else (some (wrap64 ((Int.tmod a0 4) + 1)))
set_option maxHeartbeats 8000000 in
set_option maxRecDepth 100000 in
theorem augurlaw13_gram.calls (a0 : Int) (r : Int) (w : World) (h : augurlaw13_gram.f a0 = some r) :
    Calls Try.prog 12 #[.int .i64 a0] w fun e w' => e = .returned (.int .i64 r) ∧ Drawn0 w w' := by
  have H : (if (Int.tmod a0 4) < 0 then (some (wrap64 ((wrap64 ((Int.tmod a0 4) + 4)) + 1))) else (some (wrap64 ((Int.tmod a0 4) + 1)))) = some r := h
  clear h
  by_cases c2 : (Int.tmod a0 4) < 0
  · rw [if_pos c2] at H
    have c2b0 : decide ((Int.tmod a0 4) < 0) = true := decide_eq_true c2
    clear c2
    obtain rfl := Option.some.inj H
    go_enter Try.func12, Try.ntmps12
    go_wp2
    go_ret
    exact ⟨by first | rfl | (simp; done) | (simp [*]; done), by repeat (first | exact Drawn0.refl _ | apply Drawn0.step)⟩
  · rw [if_neg c2] at H
    have c2b0 : decide ((Int.tmod a0 4) < 0) = false := decide_eq_false c2
    clear c2
    obtain rfl := Option.some.inj H
    go_enter Try.func12, Try.ntmps12
    go_wp2
    go_ret
    exact ⟨by first | rfl | (simp; done) | (simp [*]; done), by repeat (first | exact Drawn0.refl _ | apply Drawn0.step)⟩

end Go.Proofs.Ytjeofkobefeigaa.Pgram
