/- The walk of augurlaw03.fixed: MatVec of [3, -4] and [5, 6] is -9. -/
import Derived.Test.YtnioohhiphpplaaMv
namespace Go.Proofs.Ytnioohhiphpplaa.Wk
open Go.RowKit Go.Proofs.YtnioohhiphpplaaW.PrintWords Go.Proofs.YtnioohhiphpplaaW.PrintLast Go.Proofs.YtnioohhiphpplaaW.PrintMore Go.Proofs.Ytnioohhiphpplaa.M Go.Proofs.Ytnioohhiphpplaa.Br

/-- A row of numbers written out, in a block of its own. -/
theorem lit_C {w : World} {g : Nat} {cs : Array Value} {e : TypeId} {k : IntKind} {xs : List Int} (h : w.heap[g]? = some (.cells cs e (0, 0))) (hcs : cs = (xs.map (Value.int k)).toArray) (hl : xs.length ≤ 9223372036854775807) :
    Kd.C (Kd.int k) w (some ⟨g, 0, none⟩) xs.length xs := by
  subst hcs
  refine Kd.C_of_reads (d := (0 : Int)) (h1 := fun _ => rfl) ⟨rfl, hl, fun _ => ⟨_, rfl, fun j hj => ?_⟩⟩
  rw [show (⟨g, 0, none⟩ : Addr).add j = ⟨g, j, none⟩ from by rw [Go.WideShapes.add_plain, Nat.zero_add]]
  refine (blk_cell h j).trans ?_
  simp [hj]

theorem fx_mat : IsMat 1 2 [3, -4] := ⟨by decide, by decide, by decide, by decide⟩
theorem fx_s1 : Small [3, -4] := by unfold Small; decide
theorem fx_s2 : Small [5, 6] := by unfold Small; decide
theorem fx_n : (([3, -4] : List Int).length : Int) ≤ 140737488351232 := by simp
theorem fx_mv : mvN [3, -4] [5, 6] (2 : Int).toNat (1 : Int).toNat = [-9] := by decide
set_option maxHeartbeats 400000 in
theorem fixed_calls (w : World) : Calls Try.prog 7 #[] w fun e w' => e = .returned (.bool true) ∧ Below w.heap.size w w' := by
  go_enter Try.func7, Try.ntmps7
  go_wp2_with fail
  have hA : Kd.C (Kd.int .i8) ((w.alloc (.cells #[.int .i8 3, .int .i8 (-4)] 31 (0, 0))).alloc (.cells #[.int .i8 5, .int .i8 6] 31 (0, 0))) (some ⟨w.heap.size, 0, none⟩) ([3, -4] : List Int).length [3, -4] := lit_C (blk_alloc (blk_new w _) _) rfl (by simp)
  have hB : Kd.C (Kd.int .i8) ((w.alloc (.cells #[.int .i8 3, .int .i8 (-4)] 31 (0, 0))).alloc (.cells #[.int .i8 5, .int .i8 6] 31 (0, 0))) (some ⟨w.heap.size + 1, 0, none⟩) ([5, 6] : List Int).length [5, 6] := lit_C (by have := blk_new (w.alloc (.cells #[.int .i8 3, .int .i8 (-4)] 31 (0, 0))) (.cells #[.int .i8 5, .int .i8 6] 31 (0, 0)); rwa [show (w.alloc (.cells #[.int .i8 3, .int .i8 (-4)] 31 (0, 0))).heap.size = w.heap.size + 1 from Array.size_push _] at this) rfl (by simp)
  refine (mv_calls (rows := 1) (cols := 2) (D := [3, -4]) (v := [5, 6]) _ hA (by simp) hB (by simp) fx_mat (by simp) fx_s1 fx_s2 fx_n (by simp)).mono ?_
  rintro e w1 ⟨v0, rfl, hR, hb⟩
  rw [fx_mv] at hR
  obtain ⟨g, cap, hv0, _, _, _⟩ := Kd.R_form hR (by decide)
  subst hv0
  obtain ⟨hx, hf⟩ := Kd.R_celln 0 hR 0 (by decide) (by decide)
  rw [show rdOf 0 [-9] 0 = (-9 : Int) by decide] at hx
  have hx' : w1.cell? ⟨g, 0, none⟩ = some (.int .i64 (-9)) := hx
  clear hx hf
  have HB : Hid (Below w.heap.size w w1) := Lib.hid (below_step (below_alloc (below_alloc (Below.refl _ _) _) _) hb)
  clear hR hb
  go_wp2
  go_ret
  exact ⟨rfl, HB.out⟩
end Go.Proofs.Ytnioohhiphpplaa.Wk
