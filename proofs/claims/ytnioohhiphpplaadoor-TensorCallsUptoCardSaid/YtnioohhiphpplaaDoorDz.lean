/- The walk of TensorCalls: every operation of a script, one after another. -/
import Derived.Test.YtnioohhiphpplaaDoorDy
set_option linter.unusedVariables false
set_option linter.unusedSimpArgs false
namespace Go.Proofs.YtnioohhiphpplaaDoor.Dp
open Go.RowKit Go.Proofs.YtnioohhiphpplaaDoor.Pplays Go.Proofs.YtnioohhiphpplaaDoorW.PrintWords Go.Proofs.YtnioohhiphpplaaDoorW.PrintLast Go.Proofs.YtnioohhiphpplaaDoorW.PrintMore Go.Proofs.YtnioohhiphpplaaDoor.M Go.Proofs.YtnioohhiphpplaaDoor.Wk Go.Lib
namespace Wk

/-- A row of numbers written out, in a block of its own. -/
theorem lit_C {w : World} {g : Nat} {cs : Array Value} {e : TypeId} {k : IntKind} {xs : List Int} (h : w.heap[g]? = some (.cells cs e (0, 0))) (hcs : cs = (xs.map (Value.int k)).toArray) (hl : xs.length ≤ 9223372036854775807) :
    Kd.C (Kd.int k) w (some ⟨g, 0, none⟩) xs.length xs := by
  subst hcs
  refine Kd.C_of_reads (d := (0 : Int)) (h1 := fun _ => rfl) ⟨rfl, hl, fun _ => ⟨_, rfl, fun j hj => ?_⟩⟩
  rw [show (⟨g, 0, none⟩ : Addr).add j = ⟨g, j, none⟩ from by rw [Go.WideShapes.add_plain, Nat.zero_add]]
  refine (blk_cell h j).trans ?_
  simp [hj]
theorem fx_mv : mvV 1 2 [3, -4] [5, 6] = ([-9], 0) := by decide +kernel
set_option maxHeartbeats 400000 in
set_option maxRecDepth 100000 in
theorem fixed_calls (w : World) : Calls Tryd.prog 10 #[] w fun e w' => e = .returned (.bool true) ∧ Below w.heap.size w w' := by
  have hu35 := Tryd.underlying35
  go_enter Tryd.func10, Tryd.ntmps10
  go_wp2_with fail
  have hA : Kd.C (Kd.int .i8) ((w.alloc (.cells #[.int .i8 3, .int .i8 (-4)] 57 (0, 0))).alloc (.cells #[.int .i8 5, .int .i8 6] 57 (0, 0))) (some ⟨w.heap.size, 0, none⟩) ([3, -4] : List Int).length [3, -4] := lit_C (blk_alloc (blk_new w _) _) rfl (by simp)
  have hB : Kd.C (Kd.int .i8) ((w.alloc (.cells #[.int .i8 3, .int .i8 (-4)] 57 (0, 0))).alloc (.cells #[.int .i8 5, .int .i8 6] 57 (0, 0))) (some ⟨w.heap.size + 1, 0, none⟩) ([5, 6] : List Int).length [5, 6] := lit_C (blk_new2 w _ _) rfl (by simp)
  refine Calls.mono (mv_prog (rows := 1) (cols := 2) (D := [3, -4]) (v := [5, 6]) (c0 := 2) (c1 := 2) hA (by simp) hB (by simp) (by unfold Small; decide) (by unfold Small; decide) (by simp)) ?_
  rw [fx_mv]
  rintro e w1 ⟨v0, rfl, ⟨p, c, rfl, hc, hC⟩, hb⟩
  obtain ⟨ad, rfl, hcell⟩ := Kd.at_int hC 0 (by decide) (by decide)
  have hx0 : w1.cell? ad = some (.int .i64 (-9)) := hcell
  have HB : Hid (Below w.heap.size w w1) := Lib.hid (below_step (below_alloc (below_alloc (Below.refl _ _) _) _) hb)
  clear hb hA hB hcell hC hc
  go_wp2

  go_ret
  exact ⟨rfl, HB.out⟩
theorem long_calls (n : Int) (w : World) : Calls Tryd.prog 9 #[.int .i64 n] w fun e w' => e = .returned (.bool (decide (2147483647 < n))) ∧ w' = w := by
  go_enter Tryd.func9, Tryd.ntmps9
  go_wp2_with fail
  go_ret
  exact ⟨rfl, rfl⟩
/-- One operation of a script. -/
structure COp where
  kd : Int
  rw : Int
  cl : Int
  d : List Int
  a : List Int
  b : List Int
  x : List Int
  vs : List (List Int)
  t : List S87
  n : Int
def COp.At (p : COp) (w : World) (ad : Addr) : Prop := ∃ (A B D X T V : Option Addr) (cA cB cD cX cT cV : Nat), w.cell? (ad.add 0) = some (.int .i64 p.kd) ∧ w.cell? (ad.add 1) = some (.int .i64 p.rw) ∧ w.cell? (ad.add 2) = some (.int .i64 p.cl) ∧ w.cell? (ad.add 3) = some (.slice D p.d.length cD) ∧ w.cell? (ad.add 4) = some (.slice A p.a.length cA) ∧ w.cell? (ad.add 5) = some (.slice B p.b.length cB) ∧ w.cell? (ad.add 6) = some (.slice X p.x.length cX) ∧ w.cell? (ad.add 7) = some (.slice V p.vs.length cV) ∧ w.cell? (ad.add 8) = some (.slice T p.t.length cT) ∧ w.cell? (ad.add 9) = some (.int .i64 p.n) ∧
  OpAt w A B D X T V cA cB cD cX cT cV p.a p.b p.d p.x p.t p.vs ∧ OpFit p.a p.b p.d p.x p.vs
/-- A script, as the memory holds it. -/
def OpsC (w : World) (A : Option Addr) (ps : List COp) : Prop := ps.length ≤ 17592186044416 ∧ ∀ (i : Nat) (p : COp), ps[i]? = some p → ∃ ad : Addr, A = some ad ∧ p.At w (ad.add (i * 10))
set_option maxHeartbeats 2000000 in
set_option maxRecDepth 100000 in
theorem tensor_calls {w : World} {A : Option Addr} {c : Nat} {ps : List COp} (ht : Terms w) (hO : OpsC w A ps) (hc : ps.length ≤ c) :
    Calls Tryd.prog 4 #[.slice A ps.length c] w fun e w' => e = .returned (.bool true) ∧ Below w.heap.size w w' := by
  obtain ⟨N, hN⟩ : ∃ N, ps.length = N := ⟨_, rfl⟩
  have HN := Lib.hid hN
  rw [hN] at hc ⊢
  have HO := Lib.hid hO
  have HT := Lib.hid ht
  have HCC := Lib.hid hc
  have HNL : Hid (N ≤ 17592186044416) := Lib.hid (hN ▸ hO.1)
  clear hN hO hc ht
  go_enter Tryd.func4, Tryd.ntmps4
  by_cases hl : (2147483647 : Int) < (N : Int)
  · have d0 : decide ((2147483647 : Int) < (N : Int)) = true := decide_eq_true hl
    clear hl
    go_wp2_with fail
    refine (long_calls _ _).mono ?_
    rintro e w1 ⟨rfl, rfl⟩
    go_wp2
    go_ret
    exact ⟨rfl, Below.refl _ _⟩
  · have d0 : decide ((2147483647 : Int) < (N : Int)) = false := decide_eq_false hl
    have hl2 : (N : Int) ≤ 2147483647 := by omega
    clear hl
    go_wp2_with fail
    refine (long_calls _ _).mono ?_
    rintro e w1 ⟨rfl, rfl⟩
    go_wp2_with fail
    refine (fixed_calls _).mono ?_
    rintro e w2 ⟨rfl, hb⟩
    have HB2 := Lib.hid hb
    clear hb d0
    go_wp2
    go_loopw [3, 4] (fun x y wr => ∃ i : Nat, x = .bool true ∧ y = .int .i64 i ∧ i ≤ N ∧ Below w1.heap.size w1 wr) (fun _ y _ => N - (intOf y).toNat)
    case atStart => exact ⟨0, rfl, rfl, Nat.zero_le _, HB2.out⟩
    case round =>
      obtain ⟨i, rfl, rfl, hi, hB⟩ := hrel
      rename World => wa
      have HB := Lib.hid hB
      clear HB2 hB
      by_cases hlt : i < N
      · have d1 : decide ((i : Int) < (N : Int)) = true := decide_eq_true (by omega)
        obtain ⟨p, hp⟩ : ∃ p, ps[i]? = some p := ⟨_, List.getElem?_eq_getElem (by rw [HN.out]; exact hlt)⟩
        obtain ⟨ad, e1, A0, B, D, X, T, V, cA, cB, cD, cX, cT, cV, j0, j1, j2, j3, j4, j5, j6, j7, j8, j9, hO, hF⟩ := HO.out.2 i p hp
        subst e1
        have k0 : wa.cell? (ad.add (i * 10)) = _ := pw_cell_below HB.out j0
        have k1 : wa.cell? ⟨(ad.add (i * 10)).block, (ad.add (i * 10)).off + 1, none⟩ = some (.int .i64 p.rw) := pw_cell_below HB.out j1
        have k2 : wa.cell? ⟨(ad.add (i * 10)).block, (ad.add (i * 10)).off + 2, none⟩ = some (.int .i64 p.cl) := pw_cell_below HB.out j2
        have k3 : wa.cell? ⟨(ad.add (i * 10)).block, (ad.add (i * 10)).off + 3, none⟩ = some (.slice D p.d.length cD) := pw_cell_below HB.out j3
        have k4 : wa.cell? ⟨(ad.add (i * 10)).block, (ad.add (i * 10)).off + 4, none⟩ = some (.slice A0 p.a.length cA) := pw_cell_below HB.out j4
        have k5 : wa.cell? ⟨(ad.add (i * 10)).block, (ad.add (i * 10)).off + 5, none⟩ = some (.slice B p.b.length cB) := pw_cell_below HB.out j5
        have k6 : wa.cell? ⟨(ad.add (i * 10)).block, (ad.add (i * 10)).off + 6, none⟩ = some (.slice X p.x.length cX) := pw_cell_below HB.out j6
        have k7 : wa.cell? ⟨(ad.add (i * 10)).block, (ad.add (i * 10)).off + 7, none⟩ = some (.slice V p.vs.length cV) := pw_cell_below HB.out j7
        have k8 : wa.cell? ⟨(ad.add (i * 10)).block, (ad.add (i * 10)).off + 8, none⟩ = some (.slice T p.t.length cT) := pw_cell_below HB.out j8
        have k9 : wa.cell? ⟨(ad.add (i * 10)).block, (ad.add (i * 10)).off + 9, none⟩ = some (.int .i64 p.n) := pw_cell_below HB.out j9
        have him : (i : Int) < (N : Int) := by omega
        have hi0 : (0 : Int) ≤ (i : Int) := by omega
        have HO2 := Lib.hid (hO.below HB.out)
        have HF := Lib.hid hF
        have HX := Lib.hid hlt
        have d2 : decide (i < N) = true := decide_eq_true hlt
        clear j0 j1 j2 j3 j4 j5 j6 j7 j8 j9 hO hF hlt hi hp
        go_wp2_with fail
        refine (plays_calls p.kd p.rw p.cl p.n wa (HT.out.below HB.out) HO2.out HF.out).mono ?_
        rintro e wb ⟨rfl, hbb⟩
        have HB3 := Lib.hid (below_step HB.out hbb)
        have hnl : (N : Int) ≤ 17592186044416 := by have := HNL.out; omega
        clear hbb k0 k1 k2 k3 k4 k5 k6 k7 k8 k9
        go_wp2
        go_roundw
        case rel => exact ⟨i + 1, rfl, rfl, HX.out, HB3.out⟩
        case measure => have := HX.out; simp [intOf]; omega
      · have d1 : decide ((i : Int) < (N : Int)) = false := decide_eq_false (by omega)
        have d2 : decide (i < N) = false := decide_eq_false hlt
        clear hlt hi
        go_wp2
        go_ret
        exact ⟨rfl, HB.out⟩
end Wk
end Go.Proofs.YtnioohhiphpplaaDoor.Dp
