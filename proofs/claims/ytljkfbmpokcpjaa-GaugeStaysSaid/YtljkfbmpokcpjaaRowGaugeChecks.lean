/- For every gauge: Check of the program tells what the document's Check tells. No conditions. -/
import Derived.Test.YtljkfbmpokcpjaaRows
import Derived.Test.YtljkfbmpokcpjaaPGaugeChecksx2
import Derived.Test.YtljkfbmpokcpjaaM
import Derived.WalkKit
import Derived.ProofKit
import Derived.OpenShut
import Derived.ShutString
import Derived.ChangeOld
import Derived.Below
import Derived.SizedLaws
import Derived.Lib.SmallJoins
namespace Go.Proofs.Ytljkfbmpokcpjaa.Pure
open Go.RowKit Go.Proofs.Ytljkfbmpokcpjaa.PGaugeChecks Go.Proofs.YtljkfbmpokcpjaaW.PrintWords Go.Proofs.YtljkfbmpokcpjaaW.PrintLast Go.Proofs.YtljkfbmpokcpjaaW.PrintMore Go.Proofs.Ytljkfbmpokcpjaa.M

theorem GaugeChecks.one (s m r : Int) : gauge_Check.f s m r = if m < 1 ∨ 32 < m ∨ s < 1 ∨ m < s ∨ r < 0 ∨ 3 < r then some 1 else some 0 := by
  unfold gauge_Check.f
  by_cases h : m < 1 ∨ 32 < m ∨ s < 1 ∨ m < s ∨ r < 0 ∨ 3 < r
  · rw [if_pos h, if_pos]
    simp only [Bool.or_eq_true, Bool.not_eq_true', beq_eq_false_iff_ne, ne_eq]
    unfold mn mx
    repeat' split
    all_goals omega
  · rw [if_neg h, if_neg]
    simp only [Bool.or_eq_true, Bool.not_eq_true', beq_eq_false_iff_ne, ne_eq]
    unfold mn mx
    repeat' split
    all_goals omega
theorem GaugeChecks.two (s m r : Int) : augurref17_Check.f s m r = if m < 1 ∨ 32 < m ∨ s < 1 ∨ m < s ∨ r < 0 ∨ 3 < r then some 1 else some 0 := by
  unfold augurref17_Check.f
  repeat' split
  all_goals first | rfl | (exfalso; omega)
theorem GaugeChecks (s m r : Int) : augurlaw17_GaugeChecks.f s m r = some true := by
  unfold augurlaw17_GaugeChecks.f
  rw [GaugeChecks.one, GaugeChecks.two]
  split <;> rfl
end Go.Proofs.Ytljkfbmpokcpjaa.Pure
namespace Go.Proofs.Ytljkfbmpokcpjaa.gaugeChecks
open Go.ChangeShapes Go.WideShapes Go.ChangeAt Go.RowKit Go.Joins
theorem own : ownKnob Try.prog.godebug = none := by kernel_rfl
theorem cells23 : Try.prog.cellsOf 23 = 3 := by kernel_rfl
set_option maxRecDepth 100000 in
theorem lifted (os : Os) (started : os.Started) (H : Type) (enc : TypeId × Value → H) :
    ReturnsInHanded {} Try.checked os 3 .any (Rows.gaugeChecksSpec.pre6 enc Try.prog Try.f3 Rows.gaugeChecksRow.domain false) (Rows.gaugeChecksSpec.post enc Try.prog Try.f3 false true false false) := by
  refine returnsInHanded_of_change_sized (C := Try.checked) own started (by kernel_rfl) Try.func3
    (ChangeSpec.witness6 (enc := enc) (C := Try.checked) false ⟨#[], #[.agg #[.int .i64 0, .int .i64 0, .int .i64 0]], []⟩ 8 (by kernel_rfl) (by kernel_rfl) (by kernel_rfl) (by kernel_rfl)) ?_
  intro W base args ds gs before hval0 hW hcnd hsz0 _
  have hval : ∀ (j : Nat) t v, Try.f3.params[j]? = some t → args[j]? = some v → Value.okWide Try.prog W .any base t v := hval0
  have hW' := hW
  obtain ⟨p, q, hA0, hV, rfl, hfz, hnd⟩ := hW
  have hA : DataW.TrodAll enc Try.prog W 0 (fun _ => true) true Try.f3.params.toList args.toList ds p := hA0
  rw [Try.params3] at hA hval
  obtain ⟨v0, d0, rfl, rfl, h0⟩ := trodAll_one hA
  obtain ⟨rfl, rfl⟩ := trodVars_none hV
  obtain ⟨c0, c1, c2, y0, y1, y2, m, rfl, rfl, rfl, hy0, hy1, hy2⟩ := open_agg3 Try.underlying23 (by kernel_rfl) cells23 (hval 0 23 v0 rfl rfl) h0
  obtain ⟨a, e0, rfl, wa⟩ := DataW.trod_int Try.underlying3 hy0
  obtain ⟨b, e1, rfl, wb⟩ := DataW.trod_int Try.underlying3 hy1
  obtain ⟨c, e2, rfl, wc⟩ := DataW.trod_int Try.underlying3 hy2
  simp at e0 e1 e2
  subst e0 e1 e2
  clear hA0 hval0 hsz0
  simp only [List.append_nil] at hW'
  have reads : ∀ (W' : World) (sp : Nat → Bool), DataW.Trod enc Try.prog W' 0 sp true 23 (.agg #[.int .i64 a, .int .i64 b, .int .i64 c]) (.agg [.lit (.int .i64 a), .lit (.int .i64 b), .lit (.int .i64 c)]) [] := fun W' sp =>
    shut_agg3 (y0 := (.lit (.int .i64 a), [])) (y1 := (.lit (.int .i64 b), [])) (y2 := (.lit (.int .i64 c), [])) Try.underlying23 (by kernel_rfl) cells23
      ⟨1, by simp [DataW.trod, Try.underlying3, wa]⟩ ⟨1, by simp [DataW.trod, Try.underlying3, wb]⟩ ⟨1, by simp [DataW.trod, Try.underlying3, wc]⟩
  refine (PGaugeChecks.augurlaw17_GaugeChecks.calls a b c true W (Pure.GaugeChecks a b c)).mono fun e W' ⟨he, bel⟩ => ?_
  subst he
  exact ⟨_, rfl, _, _, _, [], _, [], hW', trodAll_mk1 (shut_bool Try.underlying4 _), (trodAll_cons_mk (reads _ _) trodAll_mk0), rfl, bel.frame _, fun h => by cases h⟩
theorem over : Rows.gaugeChecksRow.holds Try.pinned (OpenSpec.ofChange Rows.gaugeChecksSpec) :=
  OpenClaim.holds_of_wide 3 Try.f3 rfl rfl rfl rfl rfl rfl rfl ⟨rfl, rfl, rfl, rfl, rfl⟩ rfl rfl rfl rfl rfl (by kernel_rfl) Try.func3 (by kernel_rfl)
    (of_decide_eq_true (by kernel_rfl)) (by unfold Func.isWrapper; first | (rw [if_pos (by decide +kernel)]; kernel_rfl) | (rw [if_neg (by decide +kernel)]; exact ⟨rfl, rfl⟩))
    (fun os started H enc _ => lifted os started H enc)
end Go.Proofs.Ytljkfbmpokcpjaa.gaugeChecks
namespace Go.Proofs.Ytljkfbmpokcpjaa
theorem gaugeChecks_holds : Rows.GaugeChecksSaid := gaugeChecks.over
#print axioms gaugeChecks_holds
end Go.Proofs.Ytljkfbmpokcpjaa
