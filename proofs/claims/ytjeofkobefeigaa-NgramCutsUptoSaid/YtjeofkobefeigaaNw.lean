/- The walks of ngram's New and Len. -/
import Derived.Test.YtjeofkobefeigaaEs
set_option linter.unusedVariables false
set_option linter.unusedSimpArgs false
namespace Go.Proofs.Ytjeofkobefeigaa.Wk
open Go.RowKit Go.Proofs.YtjeofkobefeigaaW.PrintWords Go.Proofs.YtjeofkobefeigaaW.PrintLast Go.Proofs.YtjeofkobefeigaaW.PrintMore Go.Proofs.Ytjeofkobefeigaa.Mp
open Go.ChangeMaps (setBlock)
attribute [local go_sem] max2_int min2_int max_two min_two

set_option maxHeartbeats 2000000 in
theorem new_bad {n : Int} (w : World) (h : n < 1 ∨ 4 < n) : Calls Try.prog 21 #[.int .i64 n] w fun e w' => e = .returned (.tuple #[.pointer none, .int .i64 1]) ∧ w' = w := by
  by_cases c : n < 1
  · have c' : decide (n < 1) = true := decide_eq_true c
    go_enter Try.func21, Try.ntmps21
    go_wp2
    go_ret2
    exact ⟨rfl, rfl⟩
  · have c' : decide (n < 1) = false := decide_eq_false c
    have d' : decide (4 < n) = true := decide_eq_true (by omega)
    go_enter Try.func21, Try.ntmps21
    go_wp2
    go_ret2
    exact ⟨rfl, rfl⟩
set_option maxHeartbeats 2000000 in
theorem new_calls {n : Nat} {F : Nat → Prop} (w : World) (h1 : 1 ≤ n) (h4 : n ≤ 4) (hF : ∀ k, w.heap.size ≤ k → F k) : Calls Try.prog 21 #[.int .i64 n] w fun e w' => ∃ B m, e = .returned (.tuple #[.pointer (some ⟨B, 0, none⟩), .int .i64 0]) ∧ w.heap.size ≤ B ∧ Idx w' F B m n [] (ocM n []) ∧ Below w.heap.size w w' := by
  have HF := Lib.hid hF
  clear hF
  have c' : decide ((n : Int) < 1) = false := decide_eq_false (by omega)
  have d' : decide (4 < (n : Int)) = false := decide_eq_false (by omega)
  have hmk : (Instr.makeMap 66 none).run Try.prog w = .ok (.map (some w.heap.size)) (w.alloc (.map #[] 0)) := by
    simp [Instr.makeMap, run_underlying Try.underlying66, Result.andThen]
  go_enter Try.func21, Try.ntmps21
  go_wp2
  go_ret2
  have b1 := blk_new w (.map #[] 0)
  have b2 := blk_new (w.alloc (.map #[] 0)) (.cells #[.int .i64 n, .slice none 0 0, .map (some w.heap.size)] 68)
  rw [show (w.alloc (.map #[] 0)).heap.size = w.heap.size + 1 from Array.size_push _] at b2
  have hb : Below w.heap.size w ((w.alloc (.map #[] 0)).alloc (.cells #[.int .i64 n, .slice none 0 0, .map (some w.heap.size)] 68)) := below_alloc (below_alloc (Below.refl _ _) _) _
  refine ⟨w.heap.size + 1, w.heap.size, rfl, by omega, ⟨⟨.slice none 0 0, #[], 0, b2, R_nilA, blk_alloc b1 _, ⟨fun x (hx : x ∈ ([] : List MapEntry)) => absurd hx (by simp), List.nodup_nil⟩, ⟨fun j e (he : ([] : List MapEntry)[j]? = some e) => absurd he (by simp), fun g hg _ => ?_, List.nodup_nil, fun i j e e' _ (he : ([] : List MapEntry)[i]? = some e) => absurd he (by simp), fun e (he : e ∈ ([] : List MapEntry)) => absurd he (by simp)⟩⟩, HF.out _ (by omega), HF.out _ (Nat.le_refl _)⟩, hb⟩
  unfold ocM
  split
  · have := occ_length1 hg (t := [])
    exact List.eq_nil_of_length_eq_zero (by simpa using this)
  · rfl
theorem len_none (w : World) : Calls Try.prog 17 #[.pointer none] w fun e w' => e = .returned (.int .i64 0) ∧ w' = w := by
  go_enter Try.func17, Try.ntmps17
  go_wp2
  go_ret
  exact ⟨rfl, rfl⟩
theorem len_calls {F : Nat → Prop} {B m : Nat} {most : Int} {t : List Int} {O : List Int → List Int} (w : World) (hI : Idx w F B m most t O) : Calls Try.prog 17 #[.pointer (some ⟨B, 0, none⟩)] w fun e w' => e = .returned (.int .i64 t.length) ∧ w' = w := by
  obtain ⟨tv, es, clock, hE⟩ := hI.open
  obtain ⟨At, ct, eAt, hct, hCt⟩ := Kd.R_reads hE.text
  subst eAt
  have k1 : w.cell? ⟨B, 1, none⟩ = some (.slice At t.length ct) := (blk_cell hE.box 1).trans rfl
  clear hE hI hct hCt
  go_enter Try.func17, Try.ntmps17
  go_wp2
  go_ret
  exact ⟨rfl, rfl⟩
end Go.Proofs.Ytjeofkobefeigaa.Wk
