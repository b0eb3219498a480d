/- The row of TensorLinear. -/
import Derived.Test.YtnioohhiphpplaaRows
import Derived.Test.YtnioohhiphpplaaLn
import Derived.Test.YtnioohhiphpplaaPl
import Derived.Test.YtnioohhiphpplaaOp
import Derived.WalkKit
import Derived.ProofKit
import Derived.OpenShut
import Derived.ShutString
import Derived.ChangeOld
import Derived.Below
import Derived.SizedLaws
import Derived.Lib.SmallJoins
namespace Go.Proofs.Ytnioohhiphpplaa.tensorLinear
open Go.ChangeShapes Go.WideShapes Go.ChangeAt Go.RowKit Go.Joins Go.Proofs.YtnioohhiphpplaaW.PrintWords Go.Proofs.Ytnioohhiphpplaa.M Go.Proofs.Ytnioohhiphpplaa.Br Go.Proofs.Ytnioohhiphpplaa.Wk Go.Proofs.Ytnioohhiphpplaa.Op
set_option linter.unusedVariables false
theorem own : ownKnob Try.prog.godebug = none := by kernel_rfl
theorem laidOut : laidOutB Try.prog = true := by kernel_rfl
theorem walk {rows cols : Int} {A0 A1 A2 A3 : Option Addr} {c0 c1 c2 c3 : Nat} {ld lv lw lb : List Int} (w : World)
    (h0 : Kd.C (Kd.int .i8) w A0 ld.length ld) (hc0 : ld.length ≤ c0) (h1 : Kd.C (Kd.int .i8) w A1 lv.length lv) (hc1 : lv.length ≤ c1)
    (h2 : Kd.C (Kd.int .i8) w A2 lw.length lw) (hc2 : lw.length ≤ c2) (h3 : Kd.C (Kd.int .i64) w A3 lb.length lb) (hc3 : lb.length ≤ c3) (s0 : Small ld) (s1 : Small lv) (s2 : Small lw) :
    Calls Try.prog 3 #[.agg #[.int .i64 rows, .int .i64 cols, .slice A0 ld.length c0, .slice A1 lv.length c1, .slice A2 lw.length c2, .slice A3 lb.length c3]] w fun e w' => e = .returned (.bool true) ∧ Below w.heap.size w w' := by
  obtain ⟨D, V, hs1, hm, hD, lV, hV⟩ := shaped_is rows cols s0 s1
  obtain ⟨D2, W, hs2, _, _, lW, hW⟩ := shaped_is rows cols s0 s2
  obtain ⟨_, rb, _⟩ := side_is rows
  obtain ⟨ca, cb, _⟩ := side_is cols
  obtain ⟨P, ho, hP⟩ := order_is lb ca (by omega)
  exact linear_calls w h0 hc0 h1 hc1 h2 hc2 h3 hc3 rb cb hs1 hs2 ho hm hD hV hW lV lW hP
set_option maxRecDepth 100000 in
theorem lifted (os : Os) (started : os.Started) (H : Type) (enc : TypeId × Value → H) :
    ReturnsInHanded {} Try.checked os 3 .any (Rows.tensorLinearSpec.pre6 enc Try.prog Try.f3 Rows.tensorLinearRow.domain false) (Rows.tensorLinearSpec.post enc Try.prog Try.f3 false true false false) := by
  refine returnsInHanded_of_change_sized (C := Try.checked) own started (by kernel_rfl) Try.func3
    (ChangeSpec.witness6 (enc := enc) (C := Try.checked) false ⟨#[], #[.agg #[.int .i64 0, .int .i64 0, .slice none 0 0, .slice none 0 0, .slice none 0 0, .slice none 0 0]], []⟩ 8 (by kernel_rfl) (by kernel_rfl) (by kernel_rfl) (by kernel_rfl)) ?_
  intro W base args ds gs before hval0 hW hcnd hsz0 _
  have hval : ∀ (j : Nat) t v, Try.f3.params[j]? = some t → args[j]? = some v → Value.okWide Try.prog W .any base t v := hval0
  have hW' := hW
  obtain ⟨p, q, hA0, hV, rfl, hfz, hnd⟩ := hW
  have hA : DataW.TrodAll enc Try.prog W 0 (fun _ => true) true Try.f3.params.toList args.toList ds p := hA0
  rw [Try.params3] at hA hval
  obtain ⟨v0, vs0, d0, ds0, p0, q0, hargs, rfl, rfl, h0, r0⟩ := trodAll_cons hA
  obtain ⟨rfl, rfl, rfl⟩ := trodAll_nil r0
  obtain rfl : args = #[v0] := by cases args; simp_all
  obtain ⟨rfl, rfl⟩ := trodVars_none hV
  have k0 := h0
  have lt0 : ∀ x ∈ p0, x.block < W.heap.size := by obtain ⟨m, hm⟩ := k0; exact DataW.trod_lt m _ _ _ hm
  obtain ⟨u0, u1, u2, u3, u4, u5, y0, y1, y2, y3, y4, y5, n, rfl, hy0, hy1, hy2, hy3, hy4, hy5⟩ := open_agg6 Try.underlying25 (by kernel_rfl) (show Try.prog.cellsOf 25 = 6 by kernel_rfl) (hval 0 25 v0 rfl rfl) h0
  obtain ⟨g0, e0, rfl, wg0⟩ := DataW.trod_int Try.underlying3 hy0
  obtain ⟨g1, e1, rfl, wg1⟩ := DataW.trod_int Try.underlying3 hy1
  simp at e0 e1
  subst e0 e1
  obtain ⟨A2, c2, z2, rfl, hc2, hC2, hz2⟩ := ints_read Try.underlying22 Try.underlying31 (by kernel_rfl) hy2
  obtain ⟨A3, c3, z3, rfl, hc3, hC3, hz3⟩ := ints_read Try.underlying22 Try.underlying31 (by kernel_rfl) hy3
  obtain ⟨A4, c4, z4, rfl, hc4, hC4, hz4⟩ := ints_read Try.underlying22 Try.underlying31 (by kernel_rfl) hy4
  obtain ⟨A5, c5, z5, rfl, hc5, hC5, _⟩ := ints_read Try.underlying23 Try.underlying3 (by kernel_rfl) hy5
  clear hA0 hval0 hsz0
  refine (walk W hC2 hc2 hC3 hc3 hC4 hc4 hC5 hc5 (small_of hz2) (small_of hz3) (small_of hz4)).mono fun e W' ⟨he, bel⟩ => ?_
  subst he
  exact ⟨_, rfl, _, _, _, [], _, [], hW', trodAll_mk1 (shut_bool Try.underlying4 _), (trodAll_cons_mk (Below.trod laidOut (by kernel_rfl) (of_decide_eq_true (by kernel_rfl)) k0 bel lt0) trodAll_mk0), rfl, bel.frame _, fun h => by cases h⟩
theorem over : Rows.tensorLinearRow.holds Try.pinned (OpenSpec.ofChange Rows.tensorLinearSpec) :=
  OpenClaim.holds_of_wide 3 Try.f3 rfl rfl rfl rfl rfl rfl rfl ⟨rfl, rfl, rfl, rfl, rfl⟩ rfl rfl rfl rfl rfl (by kernel_rfl) Try.func3 (by kernel_rfl)
    (of_decide_eq_true (by kernel_rfl)) (by unfold Func.isWrapper; first | (rw [if_pos (by decide +kernel)]; kernel_rfl) | (rw [if_neg (by decide +kernel)]; exact ⟨rfl, rfl⟩))
    (fun os started H enc _ => lifted os started H enc)
end Go.Proofs.Ytnioohhiphpplaa.tensorLinear
namespace Go.Proofs.Ytnioohhiphpplaa
theorem tensorLinear_holds : Rows.TensorLinearSaid := tensorLinear.over
#print axioms tensorLinear_holds
end Go.Proofs.Ytnioohhiphpplaa
