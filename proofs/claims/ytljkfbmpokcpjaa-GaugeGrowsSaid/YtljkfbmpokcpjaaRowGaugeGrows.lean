/- For every gauge and every list of numbers: from a right gauge, of trees all of whose guesses come true the Size never falls, and is Most behind Most of them. No conditions. -/
import Derived.Test.YtljkfbmpokcpjaaRows
import Derived.Test.YtljkfbmpokcpjaaGr
import Derived.Test.YtljkfbmpokcpjaaWSized
import Derived.WalkKit
import Derived.ProofKit
import Derived.OpenShut
import Derived.ShutString
import Derived.ChangeOld
import Derived.Below
import Derived.SizedLaws
import Derived.Lib.SmallJoins
import Derived.Deep.SlicePairs
namespace Go.Proofs.Ytljkfbmpokcpjaa.gaugeGrows
open Go.ChangeShapes Go.WideShapes Go.ChangeAt Go.RowKit Go.Joins Go.Proofs.Ytljkfbmpokcpjaa.M Go.Proofs.Ytljkfbmpokcpjaa.Nx
set_option linter.unusedVariables false
theorem own : ownKnob Try.prog.godebug = none := by kernel_rfl
theorem laidOut : laidOutB Try.prog = true := by kernel_rfl
set_option maxRecDepth 100000 in
theorem lifted (os : Os) (started : os.Started) (H : Type) (enc : TypeId × Value → H) :
    ReturnsInHanded {} Try.checked os 7 .any (Rows.gaugeGrowsSpec.pre6 enc Try.prog Try.f7 Rows.gaugeGrowsRow.domain false) (Rows.gaugeGrowsSpec.post enc Try.prog Try.f7 false true false false) := by
  refine returnsInHanded_of_change_sized (C := Try.checked) own started (by kernel_rfl) Try.func7
    (ChangeSpec.witness6 (enc := enc) (C := Try.checked) false ⟨#[], #[.agg #[.int .i64 0, .int .i64 0, .int .i64 0], .slice none 0 0], []⟩ 8 (by kernel_rfl) (by kernel_rfl) (by kernel_rfl) (by kernel_rfl)) ?_
  intro W base args ds gs before hval0 hW hcnd hsz0 _
  have hsz : (DataW.weightsEach Try.prog (Try.f7.params.toList ++ Rows.gaugeGrowsSpec.plain.varTypes Try.prog) (ds ++ gs)).all (· ≤ reachBytes) = true := hsz0
  have hval : ∀ (j : Nat) t v, Try.f7.params[j]? = some t → args[j]? = some v → Value.okWide Try.prog W .any base t v := hval0
  have hW' := hW
  obtain ⟨p, q, hA0, hV, rfl, hfz, hnd⟩ := hW
  have hA : DataW.TrodAll enc Try.prog W 0 (fun _ => true) true Try.f7.params.toList args.toList ds p := hA0
  rw [Try.params7] at hA hval hsz
  obtain ⟨v0, vs0, d0, ds0, p0, q0, hargs, rfl, rfl, h0, r0⟩ := trodAll_cons hA
  obtain ⟨v1, vs1, d1, ds1, p1, q1, rfl, rfl, rfl, h1, r1⟩ := trodAll_cons r0
  obtain ⟨rfl, rfl, rfl⟩ := trodAll_nil r1
  obtain rfl : args = #[v0, v1] := by cases args; simp_all
  obtain ⟨rfl, rfl⟩ := trodVars_none hV
  obtain ⟨c0, c1, c2, y0, y1, y2, mm, rfl, rfl, rfl, hy0, hy1, hy2⟩ := open_agg3 Try.underlying23 (by kernel_rfl) (show Try.prog.cellsOf 23 = 3 by kernel_rfl) (hval 0 23 v0 rfl rfl) h0
  obtain ⟨g0, e0, rfl, wg0⟩ := DataW.trod_int Try.underlying3 hy0
  obtain ⟨g1, e1, rfl, wg1⟩ := DataW.trod_int Try.underlying3 hy1
  obtain ⟨g2, e2, rfl, wg2⟩ := DataW.trod_int Try.underlying3 hy2
  simp at e0 e1 e2
  subst e0 e1 e2
  have reads : ∀ (W' : World) (sp : Nat → Bool), DataW.Trod enc Try.prog W' 0 sp true 23 (.agg #[.int .i64 g0, .int .i64 g1, .int .i64 g2]) (.agg [.lit (.int .i64 g0), .lit (.int .i64 g1), .lit (.int .i64 g2)]) [] := fun W' sp =>
    shut_agg3 (y0 := (.lit (.int .i64 g0), [])) (y1 := (.lit (.int .i64 g1), [])) (y2 := (.lit (.int .i64 g2), [])) Try.underlying23 (by kernel_rfl) (show Try.prog.cellsOf 23 = 3 by kernel_rfl)
      ⟨1, by simp [DataW.trod, Try.underlying3, wg0]⟩ ⟨1, by simp [DataW.trod, Try.underlying3, wg1]⟩ ⟨1, by simp [DataW.trod, Try.underlying3, wg2]⟩
  obtain ⟨a1, len1, cap1, rfl⟩ := okWide_slice Try.underlying32 (hval 1 32 v1 rfl rfl)
  have k1 := h1
  have lt1 : ∀ x ∈ p1, x.block < W.heap.size := by obtain ⟨m, hm⟩ := k1; exact DataW.trod_lt m _ _ _ hm
  have y1 : len1 * 8 ≤ 140737488351232 := Go.Proofs.YtljkfbmpokcpjaaW.PrintWords.sized_ints hsz (j := 1) (t := 32) rfl rfl Try.underlying32 Try.underlying3 (by kernel_rfl) (by kernel_rfl) h1
  have ix1 : Ints W a1 len1 := by
    obtain ⟨fuel, hf⟩ := h1
    rcases open_ints Try.underlying32 Try.underlying3 (by kernel_rfl) hf with ⟨hcs, _⟩ | ⟨x, l, c, zs, hcs, _, hl, hm, hz, _, hcell, hwz⟩
    · simp [Value.cells] at hcs
      obtain ⟨rfl, rfl, rfl⟩ := hcs
      exact fun k hk => by omega
    · simp [Value.cells] at hcs
      obtain ⟨rfl, rfl, rfl⟩ := hcs
      have hz' : zs.length = cap1 := by simpa using hz
      exact fun k hk => by
        obtain ⟨b, off, rfl, hc⟩ := ints_at hcell (show 0 < zs.length by omega)
        have h1 := hc k (by omega)
        exact ⟨b, off, _, rfl, h1, World.block_lt_of_cell? W _ h1⟩
  clear hA0 hval0 hsz0 hsz
  refine (grows_calls g0 g1 g2 a1 len1 cap1 (by omega) W ix1).mono fun e W' ⟨he, bel⟩ => ?_
  subst he
  exact ⟨_, rfl, _, _, _, [], _, [], hW', trodAll_mk1 (shut_bool Try.underlying4 _), (trodAll_cons_mk (reads _ _) (trodAll_cons_mk (Below.trod laidOut (by kernel_rfl) (of_decide_eq_true (by kernel_rfl)) k1 bel lt1) trodAll_mk0)), rfl, bel.frame _, fun h => by cases h⟩
theorem over : Rows.gaugeGrowsRow.holds Try.pinned (OpenSpec.ofChange Rows.gaugeGrowsSpec) :=
  OpenClaim.holds_of_wide 7 Try.f7 rfl rfl rfl rfl rfl rfl rfl ⟨rfl, rfl, rfl, rfl, rfl⟩ rfl rfl rfl rfl rfl (by kernel_rfl) Try.func7 (by kernel_rfl)
    (of_decide_eq_true (by kernel_rfl)) (by unfold Func.isWrapper; first | (rw [if_pos (by decide +kernel)]; kernel_rfl) | (rw [if_neg (by decide +kernel)]; exact ⟨rfl, rfl⟩))
    (fun os started H enc _ => lifted os started H enc)
end Go.Proofs.Ytljkfbmpokcpjaa.gaugeGrows
namespace Go.Proofs.Ytljkfbmpokcpjaa
theorem gaugeGrows_holds : Rows.GaugeGrowsSaid := gaugeGrows.over
#print axioms gaugeGrows_holds
end Go.Proofs.Ytljkfbmpokcpjaa
