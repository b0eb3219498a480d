/- The walk of augurlaw13's works: true. -/
import Derived.Test.YtjeofkobefeigaaBg
set_option linter.unusedVariables false
set_option linter.unusedSimpArgs false
namespace Go.Proofs.Ytjeofkobefeigaa.Wk
open Go.RowKit Go.Shelf Go.Proofs.YtjeofkobefeigaaW.PrintWords Go.Proofs.YtjeofkobefeigaaW.PrintLast Go.Proofs.YtjeofkobefeigaaW.PrintMore Go.Proofs.Ytjeofkobefeigaa.Mp Go.Proofs.Ytjeofkobefeigaa.PEqRaw Go.Proofs.Ytjeofkobefeigaa.PCopyInts
open Go.ChangeMaps (setBlock)

theorem add_0 (a : Addr) : a.add (0 : Int).toNat = a := by cases a; rfl
theorem add_02 (a : Addr) : a.add ((0 : Int).toNat * 2) = a := by cases a; rfl
theorem works_places : firstL (stPl (some (2, [7, 8, 7]))).reverse 0 = [1] := by decide +kernel
theorem works_raw : stPr (some (2, [7, 8, 7])) 1 1 = [⟨-1, 8⟩] := by
  have h : stPl (some (2, [7, 8, 7])) = [1] := by decide +kernel
  unfold stPr
  rw [h]
  rfl
set_option maxHeartbeats 2000000 in
theorem works_calls (w : World) : Calls Try.prog 11 #[] w fun e w' => e = .returned (.bool true) ∧ Below w.heap.size w w' := by
  go_enter Try.func11, Try.ntmps11
  go_wp2_with fail
  refine (new_calls (F := fun k => w.heap.size ≤ k) (n := 2) w (by omega) (by omega) (fun _ h => h)).mono ?_
  rintro e w1 ⟨B, m, rfl, hB, hI, hb⟩
  have hS : Slot w1 (fun k => w.heap.size ≤ k) (.pointer (some ⟨B, 0, none⟩)) (some (2, [])) := ⟨B, m, rfl, hI, by omega, by omega, fun x hx => absurd hx (by simp)⟩
  have HS := Lib.hid hS
  have HB := Lib.hid hb
  clear hI hS hb hB
  go_wp2_with fail
  obtain ⟨w2, hw2⟩ : ∃ w2, w1.alloc (.cells #[.int .i64 7, .int .i64 8, .int .i64 7] 3) = w2 := ⟨_, rfl⟩
  have hz : w2.heap.size = w1.heap.size + 1 := by rw [← hw2, World.size_alloc]
  have hb2 : Below w1.heap.size w1 w2 := by rw [← hw2]; exact below_alloc (Below.refl _ _) _
  have hblk : w2.heap[w1.heap.size]? = some (.cells #[.int .i64 7, .int .i64 8, .int .i64 7] 3 (0, 0)) := by rw [← hw2]; exact blk_new _ _
  have hC : Kd.C (Kd.int .i64) w2 (some ⟨w1.heap.size, 0, none⟩) ([7, 8, 7] : List Int).length [7, 8, 7] := Kd.C_of_reads (d := (0 : Int)) (h1 := fun _ => rfl) ⟨rfl, by decide, fun _ => ⟨_, rfl, fun j hj => by
    rcases (show j = 0 ∨ j = 1 ∨ j = 2 by simp at hj; omega) with rfl | rfl | rfl <;> exact (blk_cell hblk _).trans rfl⟩⟩
  rw [hw2]
  have HB2 := Lib.hid hb2
  have HC := Lib.hid hC
  have HZ := Lib.hid hz
  clear hw2 hb2 hblk hC hz
  have hS2 : Slot w2 (fun k => (w.heap.size ≤ k ∧ k < w1.heap.size) ∨ w2.heap.size ≤ k) (.pointer (some ⟨B, 0, none⟩)) (some (2, [])) := (HS.out.reF (F' := fun k => (w.heap.size ≤ k ∧ k < w1.heap.size) ∨ w2.heap.size ≤ k) (fun k h1 h2 => .inl ⟨h1, h2⟩)).below HB2.out
  refine (append_slot (A := some ⟨w1.heap.size, 0, none⟩) (c := 3) hS2 (fun k h => .inr h) (fun x hx => by simp at hx; rcases hx with rfl | rfl | rfl <;> decide) HC.out (by decide) (fun _ ad e h => by cases e; have := HZ.out; rcases h with h | h <;> simp at h <;> omega) (by decide)).mono ?_
  rintro e w3 ⟨rfl, hS3, hf⟩
  have hbz : Below w.heap.size w w2 := HB.out.trans (HB2.out.mono HB.out.size)
  have hb3 : Below w.heap.size w w3 := hbz.trans (hf.below (fun k h => by rcases h with h | h; exact h.1; exact Nat.le_trans hbz.size h) hbz.size)
  have HB3 := Lib.hid hb3
  have HS3 : Hid (Slot w3 (fun k => (w.heap.size ≤ k ∧ k < w1.heap.size) ∨ w2.heap.size ≤ k) (.pointer (some ⟨B, 0, none⟩)) (some (2, [7, 8, 7]))) := Lib.hid hS3
  clear hS2 hS3 hf hbz hb3
  go_wp2_with fail
  refine (places_slot HS3.out (by decide)).mono ?_
  rintro e w4 ⟨v, rfl, hR, hb⟩
  rw [works_places] at hR
  obtain ⟨A4, c4, rfl, hc4, hC4⟩ := Kd.R_reads hR
  have HS4 := Lib.hid (HS3.out.below hb)
  have HB4 := Lib.hid (HB3.out.trans (hb.mono HB3.out.size))
  obtain ⟨a4, e4, k4⟩ := Kd.at_int hC4 (0 : Int) (by omega) (by decide)
  subst e4
  have k4' : w4.cell? a4 = some (.int .i64 1) := by rw [add_0] at k4; exact k4
  have HK4 := Lib.hid k4'
  clear hR hb hC4 k4 k4' hc4
  go_wp2_with fail
  refine (propose_slot HS4.out (by decide) (by decide)).mono ?_
  rintro e w5 ⟨v, rfl, hR, hb⟩
  rw [works_raw] at hR
  obtain ⟨A5, c5, rfl, hc5, hC5⟩ := Kd.R_reads hR
  have HS5 := Lib.hid (HS4.out.below hb)
  have HB5 := Lib.hid (HB4.out.trans (hb.mono HB4.out.size))
  have k4 : w5.cell? a4 = some (.int .i64 1) := pw_cell_below hb HK4.out
  obtain ⟨a5, e5, k5, k6⟩ := at_T35 hC5 (0 : Int) (by omega) (by decide)
  subst e5
  have k5' : w5.cell? a5 = some (.int .i64 (-1)) := by
    rw [add_02] at k5; exact k5
  have k6' : w5.cell? ⟨a5.block, a5.off + 1, none⟩ = some (.int .i64 8) := by
    rw [add_02] at k6; exact k6
  clear hR hb hC5 k5 k6 hc5
  go_wp2_with (go_at_call 17; refine (len_slot HS5.out).mono ?_; rintro e w' ⟨rfl, rfl⟩)
  go_ret
  exact ⟨rfl, HB5.out⟩
end Go.Proofs.Ytjeofkobefeigaa.Wk
