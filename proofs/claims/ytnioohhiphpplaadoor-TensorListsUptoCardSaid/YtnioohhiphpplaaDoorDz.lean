/- The walk of TensorCalls: every operation of a script, one after another. -/
import Derived.Test.YtnioohhiphpplaaDoorDy
set_option linter.unusedVariables false
set_option linter.unusedSimpArgs false
namespace Go.Proofs.YtnioohhiphpplaaDoor.Dp
open Go.RowKit Go.Proofs.YtnioohhiphpplaaDoor.Pplays Go.Proofs.YtnioohhiphpplaaDoorW.PrintWords Go.Proofs.YtnioohhiphpplaaDoorW.PrintLast Go.Proofs.YtnioohhiphpplaaDoorW.PrintMore Go.Proofs.YtnioohhiphpplaaDoor.M Go.Proofs.YtnioohhiphpplaaDoor.Wk Go.Lib
namespace Wk
theorem lit_C {w : World} {g : Nat} {cs : Array Value} {e : TypeId} {k : IntKind} {xs : List Int} (h : w.heap[g]? = some (.cells cs e (0, 0))) (hcs : cs = (xs.map (Value.int k)).toArray) (hl : xs.length ≤ 9223372036854775807) :
  Kd.C (Kd.int k) w (some ⟨g, 0, none⟩) xs.length xs := by
 subst hcs
 refine Kd.C_of_reads (d := (0 : Int)) (h1 := fun _ => rfl) ⟨rfl, hl, fun _ => ⟨_, rfl, fun j hj => ?_⟩⟩
 rw [show (⟨g, 0, none⟩ : Addr).add j = ⟨g, j, none⟩ from by rw [Go.WideShapes.add_plain, Nat.zero_add]]
 refine (blk_cell h j).trans ?_
 simp [hj]
theorem fx_mv : mvV 1 2 [3, -4] [5, 6] = ([-9], 0) := by decide +kernel
set_option maxHeartbeats 400000 in
set_option maxRecDepth 100000 in
theorem fixed_calls (w : World) : Calls Tryd.prog 10 #[] w fun e w' => e = .returned (.bool true) ∧ Below w.heap.size w w' := by
 have hu35 := Tryd.underlying35
 go_enter Tryd.func10, Tryd.ntmps10
 go_wp2_with fail
 have hA : Kd.C (Kd.int .i8) ((w.alloc (.cells #[.int .i8 3, .int .i8 (-4)] 57 (0, 0))).alloc (.cells #[.int .i8 5, .int .i8 6] 57 (0, 0))) (some ⟨w.heap.size, 0, none⟩) ([3, -4] : List Int).length [3, -4] := lit_C (blk_alloc (blk_new w _) _) rfl (by simp)
 have hB : Kd.C (Kd.int .i8) ((w.alloc (.cells #[.int .i8 3, .int .i8 (-4)] 57 (0, 0))).alloc (.cells #[.int .i8 5, .int .i8 6] 57 (0, 0))) (some ⟨w.heap.size + 1, 0, none⟩) ([5, 6] : List Int).length [5, 6] := lit_C (blk_new2 w _ _) rfl (by simp)
 refine Calls.mono (mv_prog (rows := 1) (cols := 2) (D := [3, -4]) (v := [5, 6]) (c0 := 2) (c1 := 2) hA (by simp) hB (by simp) (by unfold Small; decide) (by unfold Small; decide) (by simp)) ?_
 rw [fx_mv]
 rintro e w1 ⟨v0, rfl, ⟨p, c, rfl, hc, hC⟩, hb⟩
 obtain ⟨ad, rfl, hcell⟩ := Kd.at_int hC 0 (by decide) (by decide)
 have hx0 : w1.cell? ad = some (.int .i64 (-9)) := hcell
 have HB : Hid (Below w.heap.size w w1) := Lib.hid (below_step (below_alloc (below_alloc (Below.refl _ _) _) _) hb)
 clear hb hA hB hcell hC hc
 go_wp2
 go_ret
 exact ⟨rfl, HB.out⟩
theorem long_calls (n : Int) (w : World) : Calls Tryd.prog 9 #[.int .i64 n] w fun e w' => e = .returned (.bool (decide (2147483647 < n))) ∧ w' = w := by
 go_enter Tryd.func9, Tryd.ntmps9
 go_wp2_with fail
 go_ret
 exact ⟨rfl, rfl⟩
structure COp where
 kd : Int
 rw : Int
 cl : Int
 d : List Int
 a : List Int
 b : List Int
 x : List Int
 vs : List (List Int)
 t : List S87
 n : Int
def COp.At (p : COp) (w : World) (ad : Addr) : Prop := ∃ (A B D X T V : Option Addr) (cA cB cD cX cT cV : Nat), w.cell? (ad.add 0) = some (.int .i64 p.kd) ∧ w.cell? (ad.add 1) = some (.int .i64 p.rw) ∧ w.cell? (ad.add 2) = some (.int .i64 p.cl) ∧ w.cell? (ad.add 3) = some (.slice D p.d.length cD) ∧ w.cell? (ad.add 4) = some (.slice A p.a.length cA) ∧ w.cell? (ad.add 5) = some (.slice B p.b.length cB) ∧ w.cell? (ad.add 6) = some (.slice X p.x.length cX) ∧ w.cell? (ad.add 7) = some (.slice V p.vs.length cV) ∧ w.cell? (ad.add 8) = some (.slice T p.t.length cT) ∧ w.cell? (ad.add 9) = some (.int .i64 p.n) ∧
 OpAt w A B D X T V cA cB cD cX cT cV p.a p.b p.d p.x p.t p.vs ∧ OpFit p.a p.b p.d p.x p.vs
def OpsC (w : World) (A : Option Addr) (ps : List COp) : Prop := ps.length ≤ 17592186044416 ∧ ∀ (i : Nat) (p : COp), ps[i]? = some p → ∃ ad : Addr, A = some ad ∧ p.At w (ad.add (i * 10))
end Wk
end Go.Proofs.YtnioohhiphpplaaDoor.Dp
