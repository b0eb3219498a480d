/- The walk of the document's Next: what it returns for every gauge and every two numbers. -/
import Derived.Test.YtljkfbmpokcpjaaNx
namespace Go.Proofs.Ytljkfbmpokcpjaa.Nx
open Go.RowKit Go.Proofs.Ytljkfbmpokcpjaa.PGaugeChecks Go.Proofs.YtljkfbmpokcpjaaW.PrintWords Go.Proofs.YtljkfbmpokcpjaaW.PrintLast Go.Proofs.YtljkfbmpokcpjaaW.PrintMore Go.Proofs.Ytljkfbmpokcpjaa.M Go.Proofs.Ytljkfbmpokcpjaa.Pure
attribute [local go_sem] max2_int min2_int max_two min_two

theorem cell_far {W : World} {g : Nat} {v x : Value} (h : W.cell? ⟨g, 0, none⟩ = some v) : ((W.setCell ⟨g, 2, none⟩ x).cell? ⟨g, 0, none⟩).isSome = true := by
  have e : (W.setCell ⟨g, 2, none⟩ x).cell? ⟨g, 0, none⟩ = W.cell? ⟨g, 0, none⟩ := World.cell?_setCell_other W ⟨g, 2, none⟩ ⟨g, 0, none⟩ x (by simp)
  rw [e, h]; rfl

theorem rcheck_yes {s m r : Int} (h : Good s m r) (w : World) : Calls Try.prog 11 #[.agg #[.int .i64 s, .int .i64 m, .int .i64 r]] w fun e w' => e = .returned (.int .i64 0) ∧ Below w.heap.size w w' := by
  refine augurref17_Check.calls s m r 0 w ?_
  rw [GaugeChecks.two, if_neg]
  unfold Good at h; omega
theorem rcheck_no {s m r : Int} (h : ¬ Good s m r) (w : World) : Calls Try.prog 11 #[.agg #[.int .i64 s, .int .i64 m, .int .i64 r]] w fun e w' => e = .returned (.int .i64 1) ∧ Below w.heap.size w w' := by
  refine augurref17_Check.calls s m r 1 w ?_
  rw [GaugeChecks.two, if_pos]
  unfold Good at h; omega

set_option maxHeartbeats 2000000 in
theorem rnext_bad {s m r n a : Int}  (h : ¬ Good s m r) (w : World) : Calls Try.prog 15 #[.agg #[.int .i64 s, .int .i64 m, .int .i64 r], .int .i64 n, .int .i64 a] w (Tells (0) (0) (0) (1) w) := by
  have H := Lib.hid h
  clear h
  go_enter Try.func15, Try.ntmps15
  go_wp2_with fail
  refine (rcheck_no H.out _).mono ?_
  rintro e w1 ⟨rfl, hb⟩
  obtain ⟨hc, hf⟩ := bcell hb
  have hz := hb.size
  simp at hz
  have k0 : w1.cell? ⟨w.heap.size, 0, none⟩ = some (.int .i64 s) := by rw [hc _ _ (by simp; omega)]; simp
  have k1 : w1.cell? ⟨w.heap.size, 1, none⟩ = some (.int .i64 m) := by rw [hc _ _ (by simp; omega)]; simp
  have k2 : w1.cell? ⟨w.heap.size, 2, none⟩ = some (.int .i64 r) := by rw [hc _ _ (by simp; omega)]; simp
  go_wp2
  refine bodyPost_ret (v := .tuple #[.agg #[.int .i64 (0), .int .i64 (0), .int .i64 (0)], .int .i64 (1)]) (by simp [results, Try.results15, go_sem, hc]) rfl ⟨rfl, ?_⟩
  exact ((((((Below.refl _ _).alloc (Nat.le_refl _) _).alloc (by simp) _).trans (hb.mono (by simp; omega))).setCell (by simp) _).setCell (by simp) _).setCell (by simp) _
set_option maxHeartbeats 2000000 in
theorem rnext_n0 {s m r n a : Int} (c1 : n < 1) (h : Good s m r) (w : World) : Calls Try.prog 15 #[.agg #[.int .i64 s, .int .i64 m, .int .i64 r], .int .i64 n, .int .i64 a] w (Tells (0) (0) (0) (1) w) := by
  have H := Lib.hid h
  obtain ⟨m0, m1, s0, s1, r0, r1⟩ := h
  go_enter Try.func15, Try.ntmps15
  go_wp2_with fail
  refine (rcheck_yes H.out _).mono ?_
  rintro e w1 ⟨rfl, hb⟩
  obtain ⟨hc, hf⟩ := bcell hb
  have hz := hb.size
  simp at hz
  have k0 : w1.cell? ⟨w.heap.size, 0, none⟩ = some (.int .i64 s) := by rw [hc _ _ (by simp; omega)]; simp
  have k1 : w1.cell? ⟨w.heap.size, 1, none⟩ = some (.int .i64 m) := by rw [hc _ _ (by simp; omega)]; simp
  have k2 : w1.cell? ⟨w.heap.size, 2, none⟩ = some (.int .i64 r) := by rw [hc _ _ (by simp; omega)]; simp
  go_wp2
  refine bodyPost_ret (v := .tuple #[.agg #[.int .i64 (0), .int .i64 (0), .int .i64 (0)], .int .i64 (1)]) (by simp [results, Try.results15, go_sem, hc]) rfl ⟨rfl, ?_⟩
  exact ((((((Below.refl _ _).alloc (Nat.le_refl _) _).alloc (by simp) _).trans (hb.mono (by simp; omega))).setCell (by simp) _).setCell (by simp) _).setCell (by simp) _
set_option maxHeartbeats 2000000 in
theorem rnext_n1 {s m r n a : Int} (c1 : ¬ n < 1) (c2 : 32 < n) (h : Good s m r) (w : World) : Calls Try.prog 15 #[.agg #[.int .i64 s, .int .i64 m, .int .i64 r], .int .i64 n, .int .i64 a] w (Tells (0) (0) (0) (1) w) := by
  have H := Lib.hid h
  obtain ⟨m0, m1, s0, s1, r0, r1⟩ := h
  go_enter Try.func15, Try.ntmps15
  go_wp2_with fail
  refine (rcheck_yes H.out _).mono ?_
  rintro e w1 ⟨rfl, hb⟩
  obtain ⟨hc, hf⟩ := bcell hb
  have hz := hb.size
  simp at hz
  have k0 : w1.cell? ⟨w.heap.size, 0, none⟩ = some (.int .i64 s) := by rw [hc _ _ (by simp; omega)]; simp
  have k1 : w1.cell? ⟨w.heap.size, 1, none⟩ = some (.int .i64 m) := by rw [hc _ _ (by simp; omega)]; simp
  have k2 : w1.cell? ⟨w.heap.size, 2, none⟩ = some (.int .i64 r) := by rw [hc _ _ (by simp; omega)]; simp
  go_wp2
  refine bodyPost_ret (v := .tuple #[.agg #[.int .i64 (0), .int .i64 (0), .int .i64 (0)], .int .i64 (1)]) (by simp [results, Try.results15, go_sem, hc]) rfl ⟨rfl, ?_⟩
  exact ((((((Below.refl _ _).alloc (Nat.le_refl _) _).alloc (by simp) _).trans (hb.mono (by simp; omega))).setCell (by simp) _).setCell (by simp) _).setCell (by simp) _
set_option maxHeartbeats 2000000 in
theorem rnext_a0 {s m r n a : Int} (c1 : ¬ n < 1) (c2 : ¬ 32 < n) (c3 : a < 0) (h : Good s m r) (w : World) : Calls Try.prog 15 #[.agg #[.int .i64 s, .int .i64 m, .int .i64 r], .int .i64 n, .int .i64 a] w (Tells (0) (0) (0) (1) w) := by
  have H := Lib.hid h
  obtain ⟨m0, m1, s0, s1, r0, r1⟩ := h
  go_enter Try.func15, Try.ntmps15
  go_wp2_with fail
  refine (rcheck_yes H.out _).mono ?_
  rintro e w1 ⟨rfl, hb⟩
  obtain ⟨hc, hf⟩ := bcell hb
  have hz := hb.size
  simp at hz
  have k0 : w1.cell? ⟨w.heap.size, 0, none⟩ = some (.int .i64 s) := by rw [hc _ _ (by simp; omega)]; simp
  have k1 : w1.cell? ⟨w.heap.size, 1, none⟩ = some (.int .i64 m) := by rw [hc _ _ (by simp; omega)]; simp
  have k2 : w1.cell? ⟨w.heap.size, 2, none⟩ = some (.int .i64 r) := by rw [hc _ _ (by simp; omega)]; simp
  go_wp2
  refine bodyPost_ret (v := .tuple #[.agg #[.int .i64 (0), .int .i64 (0), .int .i64 (0)], .int .i64 (1)]) (by simp [results, Try.results15, go_sem, hc]) rfl ⟨rfl, ?_⟩
  exact ((((((Below.refl _ _).alloc (Nat.le_refl _) _).alloc (by simp) _).trans (hb.mono (by simp; omega))).setCell (by simp) _).setCell (by simp) _).setCell (by simp) _
set_option maxHeartbeats 2000000 in
theorem rnext_a1 {s m r n a : Int} (c1 : ¬ n < 1) (c2 : ¬ 32 < n) (c3 : ¬ a < 0) (c4 : n - 1 < a) (h : Good s m r) (w : World) : Calls Try.prog 15 #[.agg #[.int .i64 s, .int .i64 m, .int .i64 r], .int .i64 n, .int .i64 a] w (Tells (0) (0) (0) (1) w) := by
  have H := Lib.hid h
  obtain ⟨m0, m1, s0, s1, r0, r1⟩ := h
  go_enter Try.func15, Try.ntmps15
  go_wp2_with fail
  refine (rcheck_yes H.out _).mono ?_
  rintro e w1 ⟨rfl, hb⟩
  obtain ⟨hc, hf⟩ := bcell hb
  have hz := hb.size
  simp at hz
  have k0 : w1.cell? ⟨w.heap.size, 0, none⟩ = some (.int .i64 s) := by rw [hc _ _ (by simp; omega)]; simp
  have k1 : w1.cell? ⟨w.heap.size, 1, none⟩ = some (.int .i64 m) := by rw [hc _ _ (by simp; omega)]; simp
  have k2 : w1.cell? ⟨w.heap.size, 2, none⟩ = some (.int .i64 r) := by rw [hc _ _ (by simp; omega)]; simp
  go_wp2
  refine bodyPost_ret (v := .tuple #[.agg #[.int .i64 (0), .int .i64 (0), .int .i64 (0)], .int .i64 (1)]) (by simp [results, Try.results15, go_sem, hc]) rfl ⟨rfl, ?_⟩
  exact ((((((Below.refl _ _).alloc (Nat.le_refl _) _).alloc (by simp) _).trans (hb.mono (by simp; omega))).setCell (by simp) _).setCell (by simp) _).setCell (by simp) _
set_option maxHeartbeats 2000000 in
theorem rnext_keep {s m r n a : Int} (c1 : ¬ n < 1) (c2 : ¬ 32 < n) (c3 : ¬ a < 0) (c4 : ¬ n - 1 < a) (cn : (n == 1) = true) (cs : 1 < s) (cs' : (s == 1) = false) (h : Good s m r) (w : World) : Calls Try.prog 15 #[.agg #[.int .i64 s, .int .i64 m, .int .i64 r], .int .i64 n, .int .i64 a] w (Tells (s) (m) (r) (0) w) := by
  have H := Lib.hid h
  obtain ⟨m0, m1, s0, s1, r0, r1⟩ := h
  go_enter Try.func15, Try.ntmps15
  go_wp2_with fail
  refine (rcheck_yes H.out _).mono ?_
  rintro e w1 ⟨rfl, hb⟩
  obtain ⟨hc, hf⟩ := bcell hb
  have hz := hb.size
  simp at hz
  have k0 : w1.cell? ⟨w.heap.size, 0, none⟩ = some (.int .i64 s) := by rw [hc _ _ (by simp; omega)]; simp
  have k1 : w1.cell? ⟨w.heap.size, 1, none⟩ = some (.int .i64 m) := by rw [hc _ _ (by simp; omega)]; simp
  have k2 : w1.cell? ⟨w.heap.size, 2, none⟩ = some (.int .i64 r) := by rw [hc _ _ (by simp; omega)]; simp
  go_wp2
  refine bodyPost_ret (v := .tuple #[.agg #[.int .i64 (s), .int .i64 (m), .int .i64 (r)], .int .i64 (0)]) (by simp [results, Try.results15, go_sem, hc]) rfl ⟨rfl, ?_⟩
  exact ((((((Below.refl _ _).alloc (Nat.le_refl _) _).alloc (by simp) _).trans (hb.mono (by simp; omega))).setCell (by simp) _).setCell (by simp) _).setCell (by simp) _
set_option maxHeartbeats 2000000 in
theorem rnext_wait {s m r n a : Int} (c1 : ¬ n < 1) (c2 : ¬ 32 < n) (c3 : ¬ a < 0) (c4 : ¬ n - 1 < a) (cn : (n == 1) = true) (cs : ¬ 1 < s) (cs' : (s == 1) = true) (cr : r < 3) (h : Good s m r) (w : World) : Calls Try.prog 15 #[.agg #[.int .i64 s, .int .i64 m, .int .i64 r], .int .i64 n, .int .i64 a] w (Tells (s) (m) (r + 1) (0) w) := by
  have H := Lib.hid h
  obtain ⟨m0, m1, s0, s1, r0, r1⟩ := h
  go_enter Try.func15, Try.ntmps15
  go_wp2_with fail
  refine (rcheck_yes H.out _).mono ?_
  rintro e w1 ⟨rfl, hb⟩
  obtain ⟨hc, hf⟩ := bcell hb
  have hz := hb.size
  simp at hz
  have k0 : w1.cell? ⟨w.heap.size, 0, none⟩ = some (.int .i64 s) := by rw [hc _ _ (by simp; omega)]; simp
  have k1 : w1.cell? ⟨w.heap.size, 1, none⟩ = some (.int .i64 m) := by rw [hc _ _ (by simp; omega)]; simp
  have k2 : w1.cell? ⟨w.heap.size, 2, none⟩ = some (.int .i64 r) := by rw [hc _ _ (by simp; omega)]; simp
  go_wp2
  refine bodyPost_ret (v := .tuple #[.agg #[.int .i64 (s), .int .i64 (m), .int .i64 (r + 1)], .int .i64 (0)]) (by simp [results, Try.results15, go_sem, hc]) rfl ⟨rfl, ?_⟩
  exact (((((((Below.refl _ _).alloc (Nat.le_refl _) _).alloc (by simp) _).trans (hb.mono (by simp; omega))).setCell (by simp) _).setCell (by simp) _).setCell (by simp) _).setCell (by simp) _
set_option maxHeartbeats 2000000 in
theorem rnext_two {s m r n a : Int} (c1 : ¬ n < 1) (c2 : ¬ 32 < n) (c3 : ¬ a < 0) (c4 : ¬ n - 1 < a) (cn : (n == 1) = true) (cs : ¬ 1 < s) (cr : ¬ r < 3) (cm : ¬ m < 2) (h : Good s m r) (w : World) : Calls Try.prog 15 #[.agg #[.int .i64 s, .int .i64 m, .int .i64 r], .int .i64 n, .int .i64 a] w (Tells (2) (m) (0) (0) w) := by
  have H := Lib.hid h
  obtain ⟨m0, m1, s0, s1, r0, r1⟩ := h
  go_enter Try.func15, Try.ntmps15
  go_wp2_with fail
  refine (rcheck_yes H.out _).mono ?_
  rintro e w1 ⟨rfl, hb⟩
  obtain ⟨hc, hf⟩ := bcell hb
  have hz := hb.size
  simp at hz
  have k0 : w1.cell? ⟨w.heap.size, 0, none⟩ = some (.int .i64 s) := by rw [hc _ _ (by simp; omega)]; simp
  have k1 : w1.cell? ⟨w.heap.size, 1, none⟩ = some (.int .i64 m) := by rw [hc _ _ (by simp; omega)]; simp
  have k2 : w1.cell? ⟨w.heap.size, 2, none⟩ = some (.int .i64 r) := by rw [hc _ _ (by simp; omega)]; simp
  go_wp2
  refine bodyPost_ret (v := .tuple #[.agg #[.int .i64 (2), .int .i64 (m), .int .i64 (0)], .int .i64 (0)]) (by simp [results, Try.results15, go_sem, hc]) rfl ⟨rfl, ?_⟩
  exact ((((((((Below.refl _ _).alloc (Nat.le_refl _) _).alloc (by simp) _).trans (hb.mono (by simp; omega))).setCell (by simp) _).setCell (by simp) _).setCell (by simp) _).setCell (by simp) _).setCell (by simp) _
set_option maxHeartbeats 2000000 in
theorem rnext_two1 {s m r n a : Int} (c1 : ¬ n < 1) (c2 : ¬ 32 < n) (c3 : ¬ a < 0) (c4 : ¬ n - 1 < a) (cn : (n == 1) = true) (cs : ¬ 1 < s) (cr : ¬ r < 3) (cm : m < 2) (h : Good s m r) (w : World) : Calls Try.prog 15 #[.agg #[.int .i64 s, .int .i64 m, .int .i64 r], .int .i64 n, .int .i64 a] w (Tells (m) (m) (0) (0) w) := by
  have H := Lib.hid h
  obtain ⟨m0, m1, s0, s1, r0, r1⟩ := h
  go_enter Try.func15, Try.ntmps15
  go_wp2_with fail
  refine (rcheck_yes H.out _).mono ?_
  rintro e w1 ⟨rfl, hb⟩
  obtain ⟨hc, hf⟩ := bcell hb
  have hz := hb.size
  simp at hz
  have k0 : w1.cell? ⟨w.heap.size, 0, none⟩ = some (.int .i64 s) := by rw [hc _ _ (by simp; omega)]; simp
  have k1 : w1.cell? ⟨w.heap.size, 1, none⟩ = some (.int .i64 m) := by rw [hc _ _ (by simp; omega)]; simp
  have k2 : w1.cell? ⟨w.heap.size, 2, none⟩ = some (.int .i64 r) := by rw [hc _ _ (by simp; omega)]; simp
  have kk : ∀ x y : Value, ((w1.setCell ⟨w.heap.size, 2, none⟩ x).setCell ⟨w.heap.size, 0, none⟩ y).cell? ⟨w.heap.size, 0, none⟩ = some y := fun x y => World.cell?_setCell_same' _ _ _ (cell_far k0)
  go_wp2
  refine bodyPost_ret (v := .tuple #[.agg #[.int .i64 (m), .int .i64 (m), .int .i64 (0)], .int .i64 (0)]) (by simp [results, Try.results15, go_sem, hc]) rfl ⟨rfl, ?_⟩
  exact (((((((((Below.refl _ _).alloc (Nat.le_refl _) _).alloc (by simp) _).trans (hb.mono (by simp; omega))).setCell (by simp) _).setCell (by simp) _).setCell (by simp) _).setCell (by simp) _).setCell (by simp) _).setCell (by simp) _
set_option maxHeartbeats 2000000 in
theorem rnext_half {s m r n a : Int} (c1 : ¬ n < 1) (c2 : ¬ 32 < n) (c3 : ¬ a < 0) (c4 : ¬ n - 1 < a) (cn : (n == 1) = false) (ca : (a == 0) = true) (cm : ¬ s / 2 < 1) (h : Good s m r) (w : World) : Calls Try.prog 15 #[.agg #[.int .i64 s, .int .i64 m, .int .i64 r], .int .i64 n, .int .i64 a] w (Tells (s / 2) (m) (0) (0) w) := by
  have H := Lib.hid h
  obtain ⟨m0, m1, s0, s1, r0, r1⟩ := h
  go_enter Try.func15, Try.ntmps15
  go_wp2_with fail
  refine (rcheck_yes H.out _).mono ?_
  rintro e w1 ⟨rfl, hb⟩
  obtain ⟨hc, hf⟩ := bcell hb
  have hz := hb.size
  simp at hz
  have k0 : w1.cell? ⟨w.heap.size, 0, none⟩ = some (.int .i64 s) := by rw [hc _ _ (by simp; omega)]; simp
  have k1 : w1.cell? ⟨w.heap.size, 1, none⟩ = some (.int .i64 m) := by rw [hc _ _ (by simp; omega)]; simp
  have k2 : w1.cell? ⟨w.heap.size, 2, none⟩ = some (.int .i64 r) := by rw [hc _ _ (by simp; omega)]; simp
  go_wp2
  refine bodyPost_ret (v := .tuple #[.agg #[.int .i64 (s / 2), .int .i64 (m), .int .i64 (0)], .int .i64 (0)]) (by simp [results, Try.results15, go_sem, hc]) rfl ⟨rfl, ?_⟩
  exact ((((((((Below.refl _ _).alloc (Nat.le_refl _) _).alloc (by simp) _).trans (hb.mono (by simp; omega))).setCell (by simp) _).setCell (by simp) _).setCell (by simp) _).setCell (by simp) _).setCell (by simp) _
set_option maxHeartbeats 2000000 in
theorem rnext_half1 {s m r n a : Int} (c1 : ¬ n < 1) (c2 : ¬ 32 < n) (c3 : ¬ a < 0) (c4 : ¬ n - 1 < a) (cn : (n == 1) = false) (ca : (a == 0) = true) (cm : s / 2 < 1) (h : Good s m r) (w : World) : Calls Try.prog 15 #[.agg #[.int .i64 s, .int .i64 m, .int .i64 r], .int .i64 n, .int .i64 a] w (Tells (1) (m) (0) (0) w) := by
  have H := Lib.hid h
  obtain ⟨m0, m1, s0, s1, r0, r1⟩ := h
  go_enter Try.func15, Try.ntmps15
  go_wp2_with fail
  refine (rcheck_yes H.out _).mono ?_
  rintro e w1 ⟨rfl, hb⟩
  obtain ⟨hc, hf⟩ := bcell hb
  have hz := hb.size
  simp at hz
  have k0 : w1.cell? ⟨w.heap.size, 0, none⟩ = some (.int .i64 s) := by rw [hc _ _ (by simp; omega)]; simp
  have k1 : w1.cell? ⟨w.heap.size, 1, none⟩ = some (.int .i64 m) := by rw [hc _ _ (by simp; omega)]; simp
  have k2 : w1.cell? ⟨w.heap.size, 2, none⟩ = some (.int .i64 r) := by rw [hc _ _ (by simp; omega)]; simp
  have kk : ∀ x y : Value, ((w1.setCell ⟨w.heap.size, 2, none⟩ x).setCell ⟨w.heap.size, 0, none⟩ y).cell? ⟨w.heap.size, 0, none⟩ = some y := fun x y => World.cell?_setCell_same' _ _ _ (cell_far k0)
  go_wp2
  refine bodyPost_ret (v := .tuple #[.agg #[.int .i64 (1), .int .i64 (m), .int .i64 (0)], .int .i64 (0)]) (by simp [results, Try.results15, go_sem, hc]) rfl ⟨rfl, ?_⟩
  exact (((((((((Below.refl _ _).alloc (Nat.le_refl _) _).alloc (by simp) _).trans (hb.mono (by simp; omega))).setCell (by simp) _).setCell (by simp) _).setCell (by simp) _).setCell (by simp) _).setCell (by simp) _).setCell (by simp) _
set_option maxHeartbeats 2000000 in
theorem rnext_more {s m r n a : Int} (c1 : ¬ n < 1) (c2 : ¬ 32 < n) (c3 : ¬ a < 0) (c4 : ¬ n - 1 < a) (cn : (n == 1) = false) (ca : (a == 0) = false) (cm : n - 1 ≤ 2 * a) (cb : ¬ m < s + a + 1) (h : Good s m r) (w : World) : Calls Try.prog 15 #[.agg #[.int .i64 s, .int .i64 m, .int .i64 r], .int .i64 n, .int .i64 a] w (Tells (s + a + 1) (m) (0) (0) w) := by
  have H := Lib.hid h
  obtain ⟨m0, m1, s0, s1, r0, r1⟩ := h
  go_enter Try.func15, Try.ntmps15
  go_wp2_with fail
  refine (rcheck_yes H.out _).mono ?_
  rintro e w1 ⟨rfl, hb⟩
  obtain ⟨hc, hf⟩ := bcell hb
  have hz := hb.size
  simp at hz
  have k0 : w1.cell? ⟨w.heap.size, 0, none⟩ = some (.int .i64 s) := by rw [hc _ _ (by simp; omega)]; simp
  have k1 : w1.cell? ⟨w.heap.size, 1, none⟩ = some (.int .i64 m) := by rw [hc _ _ (by simp; omega)]; simp
  have k2 : w1.cell? ⟨w.heap.size, 2, none⟩ = some (.int .i64 r) := by rw [hc _ _ (by simp; omega)]; simp
  go_wp2
  refine bodyPost_ret (v := .tuple #[.agg #[.int .i64 (s + a + 1), .int .i64 (m), .int .i64 (0)], .int .i64 (0)]) (by simp [results, Try.results15, go_sem, hc]) rfl ⟨rfl, ?_⟩
  exact ((((((((Below.refl _ _).alloc (Nat.le_refl _) _).alloc (by simp) _).trans (hb.mono (by simp; omega))).setCell (by simp) _).setCell (by simp) _).setCell (by simp) _).setCell (by simp) _).setCell (by simp) _
set_option maxHeartbeats 2000000 in
theorem rnext_more1 {s m r n a : Int} (c1 : ¬ n < 1) (c2 : ¬ 32 < n) (c3 : ¬ a < 0) (c4 : ¬ n - 1 < a) (cn : (n == 1) = false) (ca : (a == 0) = false) (cm : n - 1 ≤ 2 * a) (cb : m < s + a + 1) (h : Good s m r) (w : World) : Calls Try.prog 15 #[.agg #[.int .i64 s, .int .i64 m, .int .i64 r], .int .i64 n, .int .i64 a] w (Tells (m) (m) (0) (0) w) := by
  have H := Lib.hid h
  obtain ⟨m0, m1, s0, s1, r0, r1⟩ := h
  go_enter Try.func15, Try.ntmps15
  go_wp2_with fail
  refine (rcheck_yes H.out _).mono ?_
  rintro e w1 ⟨rfl, hb⟩
  obtain ⟨hc, hf⟩ := bcell hb
  have hz := hb.size
  simp at hz
  have k0 : w1.cell? ⟨w.heap.size, 0, none⟩ = some (.int .i64 s) := by rw [hc _ _ (by simp; omega)]; simp
  have k1 : w1.cell? ⟨w.heap.size, 1, none⟩ = some (.int .i64 m) := by rw [hc _ _ (by simp; omega)]; simp
  have k2 : w1.cell? ⟨w.heap.size, 2, none⟩ = some (.int .i64 r) := by rw [hc _ _ (by simp; omega)]; simp
  have kk : ∀ x y : Value, ((w1.setCell ⟨w.heap.size, 2, none⟩ x).setCell ⟨w.heap.size, 0, none⟩ y).cell? ⟨w.heap.size, 0, none⟩ = some y := fun x y => World.cell?_setCell_same' _ _ _ (cell_far k0)
  go_wp2
  refine bodyPost_ret (v := .tuple #[.agg #[.int .i64 (m), .int .i64 (m), .int .i64 (0)], .int .i64 (0)]) (by simp [results, Try.results15, go_sem, hc]) rfl ⟨rfl, ?_⟩
  exact (((((((((Below.refl _ _).alloc (Nat.le_refl _) _).alloc (by simp) _).trans (hb.mono (by simp; omega))).setCell (by simp) _).setCell (by simp) _).setCell (by simp) _).setCell (by simp) _).setCell (by simp) _).setCell (by simp) _
set_option maxHeartbeats 2000000 in
theorem rnext_same {s m r n a : Int} (c1 : ¬ n < 1) (c2 : ¬ 32 < n) (c3 : ¬ a < 0) (c4 : ¬ n - 1 < a) (cn : (n == 1) = false) (ca : (a == 0) = false) (cm : ¬ n - 1 ≤ 2 * a) (h : Good s m r) (w : World) : Calls Try.prog 15 #[.agg #[.int .i64 s, .int .i64 m, .int .i64 r], .int .i64 n, .int .i64 a] w (Tells (s) (m) (0) (0) w) := by
  have H := Lib.hid h
  obtain ⟨m0, m1, s0, s1, r0, r1⟩ := h
  go_enter Try.func15, Try.ntmps15
  go_wp2_with fail
  refine (rcheck_yes H.out _).mono ?_
  rintro e w1 ⟨rfl, hb⟩
  obtain ⟨hc, hf⟩ := bcell hb
  have hz := hb.size
  simp at hz
  have k0 : w1.cell? ⟨w.heap.size, 0, none⟩ = some (.int .i64 s) := by rw [hc _ _ (by simp; omega)]; simp
  have k1 : w1.cell? ⟨w.heap.size, 1, none⟩ = some (.int .i64 m) := by rw [hc _ _ (by simp; omega)]; simp
  have k2 : w1.cell? ⟨w.heap.size, 2, none⟩ = some (.int .i64 r) := by rw [hc _ _ (by simp; omega)]; simp
  go_wp2
  refine bodyPost_ret (v := .tuple #[.agg #[.int .i64 (s), .int .i64 (m), .int .i64 (0)], .int .i64 (0)]) (by simp [results, Try.results15, go_sem, hc]) rfl ⟨rfl, ?_⟩
  exact (((((((Below.refl _ _).alloc (Nat.le_refl _) _).alloc (by simp) _).trans (hb.mono (by simp; omega))).setCell (by simp) _).setCell (by simp) _).setCell (by simp) _).setCell (by simp) _
end Go.Proofs.Ytljkfbmpokcpjaa.Nx
