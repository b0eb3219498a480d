/- The walk of gauge.Next: what it returns for every gauge and every two numbers. -/
import Derived.Test.YtljkfbmpokcpjaaRowGaugeChecks
import Derived.WalkKit
import Derived.Outline
import Derived.Lib.Hide
namespace Go.Proofs.Ytljkfbmpokcpjaa.Nx
open Go.RowKit Go.Proofs.Ytljkfbmpokcpjaa.PGaugeChecks Go.Proofs.YtljkfbmpokcpjaaW.PrintWords Go.Proofs.YtljkfbmpokcpjaaW.PrintLast Go.Proofs.YtljkfbmpokcpjaaW.PrintMore Go.Proofs.Ytljkfbmpokcpjaa.M Go.Proofs.Ytljkfbmpokcpjaa.Pure
attribute [local go_sem] max2_int min2_int max_two min_two

/-- Is it a gauge? -/
def Good (s m r : Int) : Prop := 1 ≤ m ∧ m ≤ 32 ∧ 1 ≤ s ∧ s ≤ m ∧ 0 ≤ r ∧ r ≤ 3
instance (s m r : Int) : Decidable (Good s m r) := by unfold Good; infer_instance
theorem check_yes {s m r : Int} (h : Good s m r) (w : World) : Calls Try.prog 10 #[.agg #[.int .i64 s, .int .i64 m, .int .i64 r]] w fun e w' => e = .returned (.int .i64 0) ∧ Below w.heap.size w w' := by
  refine gauge_Check.calls s m r 0 w ?_
  rw [GaugeChecks.one, if_neg]
  unfold Good at h; omega
theorem check_no {s m r : Int} (h : ¬ Good s m r) (w : World) : Calls Try.prog 10 #[.agg #[.int .i64 s, .int .i64 m, .int .i64 r]] w fun e w' => e = .returned (.int .i64 1) ∧ Below w.heap.size w w' := by
  refine gauge_Check.calls s m r 1 w ?_
  rw [GaugeChecks.one, if_pos]
  unfold Good at h; omega

theorem bcell {W w1 : World} (hb : Below W.heap.size W w1) : (∀ b o, b < W.heap.size → w1.cell? ⟨b, o, none⟩ = W.cell? ⟨b, o, none⟩) ∧ (∀ b o, b < W.heap.size → w1.frozen? ⟨b, o, none⟩ = W.frozen? ⟨b, o, none⟩) :=
  ⟨fun b o h => hb.cell (p := ⟨b, o, none⟩) h, fun b o h => hb.frozen (p := ⟨b, o, none⟩) h⟩

/-- What a call hands back: a gauge, an error. -/
def Tells (v1 v2 v3 v4 : Int) (w : World) (e : Ending) (w' : World) : Prop := e = .returned (.tuple #[.agg #[.int .i64 v1, .int .i64 v2, .int .i64 v3], .int .i64 v4]) ∧ Below w.heap.size w w'

set_option maxHeartbeats 2000000 in
theorem next_bad {s m r n a : Int}  (h : ¬ Good s m r) (w : World) : Calls Try.prog 14 #[.agg #[.int .i64 s, .int .i64 m, .int .i64 r], .int .i64 n, .int .i64 a] w (Tells (0) (0) (0) (1) w) := by
  have H := Lib.hid h
  clear h
  go_enter Try.func14, Try.ntmps14
  go_wp2_with fail
  refine (check_no H.out _).mono ?_
  rintro e w1 ⟨rfl, hb⟩
  obtain ⟨hc, hf⟩ := bcell hb
  have hz := hb.size
  simp at hz
  go_wp2
  refine bodyPost_ret (v := .tuple #[.agg #[.int .i64 (0), .int .i64 (0), .int .i64 (0)], .int .i64 (1)]) (by simp [results, Try.results14, go_sem, hc]) rfl ⟨rfl, ?_⟩
  exact ((((((Below.refl _ _).alloc (Nat.le_refl _) _).alloc (by simp) _).trans (hb.mono (by simp; omega))).setCell (by simp) _).setCell (by simp) _).setCell (by simp) _
set_option maxHeartbeats 2000000 in
theorem next_n0 {s m r n a : Int} (c1 : n < 1) (h : Good s m r) (w : World) : Calls Try.prog 14 #[.agg #[.int .i64 s, .int .i64 m, .int .i64 r], .int .i64 n, .int .i64 a] w (Tells (0) (0) (0) (1) w) := by
  have H := Lib.hid h
  obtain ⟨m0, m1, s0, s1, r0, r1⟩ := h

  go_enter Try.func14, Try.ntmps14
  go_wp2_with fail
  refine (check_yes H.out _).mono ?_
  rintro e w1 ⟨rfl, hb⟩
  obtain ⟨hc, hf⟩ := bcell hb
  have hz := hb.size
  simp at hz
  go_wp2
  refine bodyPost_ret (v := .tuple #[.agg #[.int .i64 (0), .int .i64 (0), .int .i64 (0)], .int .i64 (1)]) (by simp [results, Try.results14, go_sem, hc]) rfl ⟨rfl, ?_⟩
  exact ((((((Below.refl _ _).alloc (Nat.le_refl _) _).alloc (by simp) _).trans (hb.mono (by simp; omega))).setCell (by simp) _).setCell (by simp) _).setCell (by simp) _
set_option maxHeartbeats 2000000 in
theorem next_n1 {s m r n a : Int} (c1 : ¬ n < 1) (c2 : 32 < n) (h : Good s m r) (w : World) : Calls Try.prog 14 #[.agg #[.int .i64 s, .int .i64 m, .int .i64 r], .int .i64 n, .int .i64 a] w (Tells (0) (0) (0) (1) w) := by
  have H := Lib.hid h
  obtain ⟨m0, m1, s0, s1, r0, r1⟩ := h

  go_enter Try.func14, Try.ntmps14
  go_wp2_with fail
  refine (check_yes H.out _).mono ?_
  rintro e w1 ⟨rfl, hb⟩
  obtain ⟨hc, hf⟩ := bcell hb
  have hz := hb.size
  simp at hz
  go_wp2
  refine bodyPost_ret (v := .tuple #[.agg #[.int .i64 (0), .int .i64 (0), .int .i64 (0)], .int .i64 (1)]) (by simp [results, Try.results14, go_sem, hc]) rfl ⟨rfl, ?_⟩
  exact ((((((Below.refl _ _).alloc (Nat.le_refl _) _).alloc (by simp) _).trans (hb.mono (by simp; omega))).setCell (by simp) _).setCell (by simp) _).setCell (by simp) _
set_option maxHeartbeats 2000000 in
theorem next_a0 {s m r n a : Int} (c1 : ¬ n < 1) (c2 : ¬ 32 < n) (c3 : a < 0) (h : Good s m r) (w : World) : Calls Try.prog 14 #[.agg #[.int .i64 s, .int .i64 m, .int .i64 r], .int .i64 n, .int .i64 a] w (Tells (0) (0) (0) (1) w) := by
  have H := Lib.hid h
  obtain ⟨m0, m1, s0, s1, r0, r1⟩ := h

  go_enter Try.func14, Try.ntmps14
  go_wp2_with fail
  refine (check_yes H.out _).mono ?_
  rintro e w1 ⟨rfl, hb⟩
  obtain ⟨hc, hf⟩ := bcell hb
  have hz := hb.size
  simp at hz
  go_wp2
  refine bodyPost_ret (v := .tuple #[.agg #[.int .i64 (0), .int .i64 (0), .int .i64 (0)], .int .i64 (1)]) (by simp [results, Try.results14, go_sem, hc]) rfl ⟨rfl, ?_⟩
  exact ((((((Below.refl _ _).alloc (Nat.le_refl _) _).alloc (by simp) _).trans (hb.mono (by simp; omega))).setCell (by simp) _).setCell (by simp) _).setCell (by simp) _
set_option maxHeartbeats 2000000 in
theorem next_a1 {s m r n a : Int} (c1 : ¬ n < 1) (c2 : ¬ 32 < n) (c3 : ¬ a < 0) (c4 : n ≤ a) (h : Good s m r) (w : World) : Calls Try.prog 14 #[.agg #[.int .i64 s, .int .i64 m, .int .i64 r], .int .i64 n, .int .i64 a] w (Tells (0) (0) (0) (1) w) := by
  have H := Lib.hid h
  obtain ⟨m0, m1, s0, s1, r0, r1⟩ := h

  go_enter Try.func14, Try.ntmps14
  go_wp2_with fail
  refine (check_yes H.out _).mono ?_
  rintro e w1 ⟨rfl, hb⟩
  obtain ⟨hc, hf⟩ := bcell hb
  have hz := hb.size
  simp at hz
  go_wp2
  refine bodyPost_ret (v := .tuple #[.agg #[.int .i64 (0), .int .i64 (0), .int .i64 (0)], .int .i64 (1)]) (by simp [results, Try.results14, go_sem, hc]) rfl ⟨rfl, ?_⟩
  exact ((((((Below.refl _ _).alloc (Nat.le_refl _) _).alloc (by simp) _).trans (hb.mono (by simp; omega))).setCell (by simp) _).setCell (by simp) _).setCell (by simp) _
set_option maxHeartbeats 2000000 in
theorem next_keep {s m r n a : Int} (c1 : ¬ n < 1) (c2 : ¬ 32 < n) (c3 : ¬ a < 0) (c4 : ¬ n ≤ a) (cn : (n == 1) = true) (cs : 1 < s) (h : Good s m r) (w : World) : Calls Try.prog 14 #[.agg #[.int .i64 s, .int .i64 m, .int .i64 r], .int .i64 n, .int .i64 a] w (Tells (s) (m) (r) (0) w) := by
  have H := Lib.hid h
  obtain ⟨m0, m1, s0, s1, r0, r1⟩ := h

  go_enter Try.func14, Try.ntmps14
  go_wp2_with fail
  refine (check_yes H.out _).mono ?_
  rintro e w1 ⟨rfl, hb⟩
  obtain ⟨hc, hf⟩ := bcell hb
  have hz := hb.size
  simp at hz
  go_wp2
  refine bodyPost_ret (v := .tuple #[.agg #[.int .i64 (s), .int .i64 (m), .int .i64 (r)], .int .i64 (0)]) (by simp [results, Try.results14, go_sem, hc]) rfl ⟨rfl, ?_⟩
  exact ((((((Below.refl _ _).alloc (Nat.le_refl _) _).alloc (by simp) _).trans (hb.mono (by simp; omega))).setCell (by simp) _).setCell (by simp) _).setCell (by simp) _
set_option maxHeartbeats 2000000 in
theorem next_wait {s m r n a : Int} (c1 : ¬ n < 1) (c2 : ¬ 32 < n) (c3 : ¬ a < 0) (c4 : ¬ n ≤ a) (cn : (n == 1) = true) (cs : ¬ 1 < s) (cr : r < 3) (h : Good s m r) (w : World) : Calls Try.prog 14 #[.agg #[.int .i64 s, .int .i64 m, .int .i64 r], .int .i64 n, .int .i64 a] w (Tells (s) (m) (r + 1) (0) w) := by
  have H := Lib.hid h
  obtain ⟨m0, m1, s0, s1, r0, r1⟩ := h

  go_enter Try.func14, Try.ntmps14
  go_wp2_with fail
  refine (check_yes H.out _).mono ?_
  rintro e w1 ⟨rfl, hb⟩
  obtain ⟨hc, hf⟩ := bcell hb
  have hz := hb.size
  simp at hz
  have k2 : w1.cell? ⟨w.heap.size, 2, none⟩ = some (.int .i64 r) := by rw [hc _ _ (by simp; omega)]; simp
  go_wp2
  refine bodyPost_ret (v := .tuple #[.agg #[.int .i64 (s), .int .i64 (m), .int .i64 (r + 1)], .int .i64 (0)]) (by simp [results, Try.results14, go_sem, hc]) rfl ⟨rfl, ?_⟩
  exact (((((((Below.refl _ _).alloc (Nat.le_refl _) _).alloc (by simp) _).trans (hb.mono (by simp; omega))).setCell (by simp) _).setCell (by simp) _).setCell (by simp) _).setCell (by simp) _
set_option maxHeartbeats 2000000 in
theorem next_two {s m r n a : Int} (c1 : ¬ n < 1) (c2 : ¬ 32 < n) (c3 : ¬ a < 0) (c4 : ¬ n ≤ a) (cn : (n == 1) = true) (cs : ¬ 1 < s) (cr : ¬ r < 3) {j : Int} (hj : (if m < 2 then m else 2) = j) (h : Good s m r) (w : World) : Calls Try.prog 14 #[.agg #[.int .i64 s, .int .i64 m, .int .i64 r], .int .i64 n, .int .i64 a] w (Tells (j) (m) (0) (0) w) := by
  have H := Lib.hid h
  obtain ⟨m0, m1, s0, s1, r0, r1⟩ := h

  go_enter Try.func14, Try.ntmps14
  go_wp2_with fail
  refine (check_yes H.out _).mono ?_
  rintro e w1 ⟨rfl, hb⟩
  obtain ⟨hc, hf⟩ := bcell hb
  have hz := hb.size
  simp at hz
  go_wp2
  refine bodyPost_ret (v := .tuple #[.agg #[.int .i64 (j), .int .i64 (m), .int .i64 (0)], .int .i64 (0)]) (by simp [results, Try.results14, go_sem, hc]) rfl ⟨rfl, ?_⟩
  exact ((((((Below.refl _ _).alloc (Nat.le_refl _) _).alloc (by simp) _).trans (hb.mono (by simp; omega))).setCell (by simp) _).setCell (by simp) _).setCell (by simp) _
set_option maxHeartbeats 2000000 in
theorem next_half {s m r n a : Int} (c1 : ¬ n < 1) (c2 : ¬ 32 < n) (c3 : ¬ a < 0) (c4 : ¬ n ≤ a) (cn : (n == 1) = false) (ca : (a == 0) = true) {j : Int} (hj : (if s / 2 < 1 then 1 else s / 2) = j) (hj1 : ¬ m < j) (h : Good s m r) (w : World) : Calls Try.prog 14 #[.agg #[.int .i64 s, .int .i64 m, .int .i64 r], .int .i64 n, .int .i64 a] w (Tells (j) (m) (0) (0) w) := by
  have H := Lib.hid h
  obtain ⟨m0, m1, s0, s1, r0, r1⟩ := h

  go_enter Try.func14, Try.ntmps14
  go_wp2_with fail
  refine (check_yes H.out _).mono ?_
  rintro e w1 ⟨rfl, hb⟩
  obtain ⟨hc, hf⟩ := bcell hb
  have hz := hb.size
  simp at hz
  go_wp2
  refine bodyPost_ret (v := .tuple #[.agg #[.int .i64 (j), .int .i64 (m), .int .i64 (0)], .int .i64 (0)]) (by simp [results, Try.results14, go_sem, hc]) rfl ⟨rfl, ?_⟩
  exact ((((((Below.refl _ _).alloc (Nat.le_refl _) _).alloc (by simp) _).trans (hb.mono (by simp; omega))).setCell (by simp) _).setCell (by simp) _).setCell (by simp) _
set_option maxHeartbeats 2000000 in
theorem next_more {s m r n a : Int} (c1 : ¬ n < 1) (c2 : ¬ 32 < n) (c3 : ¬ a < 0) (c4 : ¬ n ≤ a) (cn : (n == 1) = false) (ca : (a == 0) = false) (cm : n - 1 ≤ 2 * a) {j : Int} (hj : (if m < s + (a + 1) then m else s + (a + 1)) = j) (h : Good s m r) (w : World) : Calls Try.prog 14 #[.agg #[.int .i64 s, .int .i64 m, .int .i64 r], .int .i64 n, .int .i64 a] w (Tells (j) (m) (0) (0) w) := by
  have H := Lib.hid h
  obtain ⟨m0, m1, s0, s1, r0, r1⟩ := h

  go_enter Try.func14, Try.ntmps14
  go_wp2_with fail
  refine (check_yes H.out _).mono ?_
  rintro e w1 ⟨rfl, hb⟩
  obtain ⟨hc, hf⟩ := bcell hb
  have hz := hb.size
  simp at hz
  go_wp2
  refine bodyPost_ret (v := .tuple #[.agg #[.int .i64 (j), .int .i64 (m), .int .i64 (0)], .int .i64 (0)]) (by simp [results, Try.results14, go_sem, hc]) rfl ⟨rfl, ?_⟩
  exact ((((((Below.refl _ _).alloc (Nat.le_refl _) _).alloc (by simp) _).trans (hb.mono (by simp; omega))).setCell (by simp) _).setCell (by simp) _).setCell (by simp) _
set_option maxHeartbeats 2000000 in
theorem next_same {s m r n a : Int} (c1 : ¬ n < 1) (c2 : ¬ 32 < n) (c3 : ¬ a < 0) (c4 : ¬ n ≤ a) (cn : (n == 1) = false) (ca : (a == 0) = false) (cm : ¬ n - 1 ≤ 2 * a) (h : Good s m r) (w : World) : Calls Try.prog 14 #[.agg #[.int .i64 s, .int .i64 m, .int .i64 r], .int .i64 n, .int .i64 a] w (Tells (s) (m) (0) (0) w) := by
  have H := Lib.hid h
  obtain ⟨m0, m1, s0, s1, r0, r1⟩ := h

  go_enter Try.func14, Try.ntmps14
  go_wp2_with fail
  refine (check_yes H.out _).mono ?_
  rintro e w1 ⟨rfl, hb⟩
  obtain ⟨hc, hf⟩ := bcell hb
  have hz := hb.size
  simp at hz
  go_wp2
  refine bodyPost_ret (v := .tuple #[.agg #[.int .i64 (s), .int .i64 (m), .int .i64 (0)], .int .i64 (0)]) (by simp [results, Try.results14, go_sem, hc]) rfl ⟨rfl, ?_⟩
  exact ((((((Below.refl _ _).alloc (Nat.le_refl _) _).alloc (by simp) _).trans (hb.mono (by simp; omega))).setCell (by simp) _).setCell (by simp) _).setCell (by simp) _
end Go.Proofs.Ytljkfbmpokcpjaa.Nx
