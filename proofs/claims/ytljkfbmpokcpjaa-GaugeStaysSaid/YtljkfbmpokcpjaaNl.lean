/- gauge.Next and the document's Next in one function of whole numbers; the walk of GaugeNexts. -/
import Derived.Test.YtljkfbmpokcpjaaNr
namespace Go.Proofs.Ytljkfbmpokcpjaa.Nx
open Go.RowKit Go.Proofs.Ytljkfbmpokcpjaa.PGaugeChecks Go.Proofs.YtljkfbmpokcpjaaW.PrintWords Go.Proofs.YtljkfbmpokcpjaaW.PrintLast Go.Proofs.YtljkfbmpokcpjaaW.PrintMore Go.Proofs.Ytljkfbmpokcpjaa.M Go.Proofs.Ytljkfbmpokcpjaa.Pure
attribute [local go_sem] max2_int min2_int max_two min_two
attribute [local go_sem high] eqA23

structure G4 where
  size : Int
  most : Int
  run : Int
  err : Int
/-- Next in whole numbers. -/
def nextF (s m r n a : Int) : G4 :=
  if ¬ Good s m r ∨ n < 1 ∨ 32 < n ∨ a < 0 ∨ n ≤ a then ⟨0, 0, 0, 1⟩
  else if n = 1 then (if 1 < s then ⟨s, m, r, 0⟩ else if r < 3 then ⟨s, m, r + 1, 0⟩ else ⟨if m < 2 then m else 2, m, 0, 0⟩)
  else if a = 0 then ⟨if s / 2 < 1 then 1 else s / 2, m, 0, 0⟩
  else if n - 1 ≤ 2 * a then ⟨if m < s + (a + 1) then m else s + (a + 1), m, 0, 0⟩
  else ⟨s, m, 0, 0⟩
def TellsG (g : G4) (w : World) (e : Ending) (w' : World) : Prop := Tells g.size g.most g.run g.err w e w'

theorem next_calls (s m r n a : Int) (w : World) : Calls Try.prog 14 #[.agg #[.int .i64 s, .int .i64 m, .int .i64 r], .int .i64 n, .int .i64 a] w (TellsG (nextF s m r n a) w) := by
  unfold nextF
  by_cases h : Good s m r
  · by_cases c1 : n < 1
    · rw [if_pos (.inr (.inl c1))]; exact next_n0 c1 h w
    by_cases c2 : 32 < n
    · rw [if_pos (.inr (.inr (.inl c2)))]; exact next_n1 c1 c2 h w
    by_cases c3 : a < 0
    · rw [if_pos (.inr (.inr (.inr (.inl c3))))]; exact next_a0 c1 c2 c3 h w
    by_cases c4 : n ≤ a
    · rw [if_pos (.inr (.inr (.inr (.inr c4))))]; exact next_a1 c1 c2 c3 c4 h w
    rw [if_neg (by intro q; rcases q with q | q | q | q | q <;> contradiction)]
    by_cases cn : n = 1
    · have cb : (n == 1) = true := beq_iff_eq.2 cn
      rw [if_pos cn]
      by_cases cs : 1 < s
      · rw [if_pos cs]; exact next_keep c1 c2 c3 c4 cb cs h w
      rw [if_neg cs]
      by_cases cr : r < 3
      · rw [if_pos cr]; exact next_wait c1 c2 c3 c4 cb cs cr h w
      rw [if_neg cr]; exact next_two c1 c2 c3 c4 cb cs cr rfl h w
    · have cb : (n == 1) = false := beq_eq_false_iff_ne.2 cn
      rw [if_neg cn]
      by_cases ca : a = 0
      · rw [if_pos ca]
        refine next_half c1 c2 c3 c4 cb (beq_iff_eq.2 ca) rfl ?_ h w
        obtain ⟨m0, m1, s0, s1, r0, r1⟩ := h
        split <;> omega
      have cb' : (a == 0) = false := beq_eq_false_iff_ne.2 ca
      rw [if_neg ca]
      by_cases cm : n - 1 ≤ 2 * a
      · rw [if_pos cm]; exact next_more c1 c2 c3 c4 cb cb' cm rfl h w
      · rw [if_neg cm]; exact next_same c1 c2 c3 c4 cb cb' cm h w
  · rw [if_pos (.inl h)]; exact next_bad h w

theorem rnext_calls (s m r n a : Int) (w : World) : Calls Try.prog 15 #[.agg #[.int .i64 s, .int .i64 m, .int .i64 r], .int .i64 n, .int .i64 a] w (TellsG (nextF s m r n a) w) := by
  unfold nextF
  by_cases h : Good s m r
  · by_cases c1 : n < 1
    · rw [if_pos (.inr (.inl c1))]; exact rnext_n0 c1 h w
    by_cases c2 : 32 < n
    · rw [if_pos (.inr (.inr (.inl c2)))]; exact rnext_n1 c1 c2 h w
    by_cases c3 : a < 0
    · rw [if_pos (.inr (.inr (.inr (.inl c3))))]; exact rnext_a0 c1 c2 c3 h w
    by_cases c4 : n ≤ a
    · rw [if_pos (.inr (.inr (.inr (.inr c4))))]; exact rnext_a1 c1 c2 c3 (by omega) h w
    rw [if_neg (by intro q; rcases q with q | q | q | q | q <;> contradiction)]
    have c4' : ¬ n - 1 < a := by omega
    by_cases cn : n = 1
    · have cb : (n == 1) = true := beq_iff_eq.2 cn
      rw [if_pos cn]
      by_cases cs : 1 < s
      · rw [if_pos cs]; exact rnext_keep c1 c2 c3 c4' cb cs (beq_eq_false_iff_ne.2 (by omega)) h w
      rw [if_neg cs]
      by_cases cr : r < 3
      · rw [if_pos cr]
        have s1 := h.2.2.1
        exact rnext_wait c1 c2 c3 c4' cb cs (beq_iff_eq.2 (by omega)) cr h w
      rw [if_neg cr]
      by_cases cm : m < 2
      · rw [if_pos cm]; exact rnext_two1 c1 c2 c3 c4' cb cs cr cm h w
      · rw [if_neg cm]; exact rnext_two c1 c2 c3 c4' cb cs cr cm h w
    · have cb : (n == 1) = false := beq_eq_false_iff_ne.2 cn
      rw [if_neg cn]
      by_cases ca : a = 0
      · rw [if_pos ca]
        by_cases cm : s / 2 < 1
        · rw [if_pos cm]; exact rnext_half1 c1 c2 c3 c4' cb (beq_iff_eq.2 ca) cm h w
        · rw [if_neg cm]; exact rnext_half c1 c2 c3 c4' cb (beq_iff_eq.2 ca) cm h w
      have cb' : (a == 0) = false := beq_eq_false_iff_ne.2 ca
      rw [if_neg ca]
      by_cases cm : n - 1 ≤ 2 * a
      · rw [if_pos cm]
        by_cases cq : m < s + (a + 1)
        · rw [if_pos cq]; exact rnext_more1 c1 c2 c3 c4' cb cb' cm (by omega) h w
        · rw [if_neg cq, show s + (a + 1) = s + a + 1 by omega]; exact rnext_more c1 c2 c3 c4' cb cb' cm (by omega) h w
      · rw [if_neg cm]; exact rnext_same c1 c2 c3 c4' cb cb' cm h w
  · rw [if_pos (.inl h)]; exact rnext_bad h w

set_option maxHeartbeats 1000000 in
theorem nexts_calls (s m r n a : Int) (w : World) : Calls Try.prog 5 #[.agg #[.int .i64 s, .int .i64 m, .int .i64 r], .int .i64 n, .int .i64 a] w fun e w' => e = .returned (.bool true) ∧ Below w.heap.size w w' := by
  obtain ⟨⟨v1, v2, v3, v4⟩, hv⟩ : ∃ g, nextF s m r n a = g := ⟨_, rfl⟩
  have h1 := next_calls s m r n a
  have h2 := rnext_calls s m r n a
  rw [hv] at h1 h2
  have H1 := Lib.hid h1
  have H2 := Lib.hid h2
  clear h1 h2 hv
  go_enter Try.func5, Try.ntmps5
  go_wp2_with fail
  refine (H1.out _).mono ?_
  rintro e w1 ⟨rfl, hb⟩
  dsimp only
  obtain ⟨hc, hf⟩ := bcell hb
  have hz := hb.size
  simp at hz
  have k0 : w1.cell? ⟨w.heap.size, 0, none⟩ = some (.int .i64 s) := by rw [hc _ _ (by simp)]; simp
  have k1 : w1.cell? ⟨w.heap.size, 1, none⟩ = some (.int .i64 m) := by rw [hc _ _ (by simp)]; simp
  have k2 : w1.cell? ⟨w.heap.size, 2, none⟩ = some (.int .i64 r) := by rw [hc _ _ (by simp)]; simp
  have HB := Lib.hid hb
  have hlt : w.heap.size < w1.heap.size := by omega
  clear hb hc hf hz
  go_wp2_with fail
  refine (H2.out _).mono ?_
  rintro e w2 ⟨rfl, hb⟩
  dsimp only
  obtain ⟨hc, hf⟩ := bcell hb
  have hz := hb.size
  simp at hz
  have l0 : w2.cell? ⟨w1.heap.size, 0, none⟩ = some (.int .i64 v1) := by rw [hc _ _ (by simp)]; simp
  have l1 : w2.cell? ⟨w1.heap.size, 1, none⟩ = some (.int .i64 v2) := by rw [hc _ _ (by simp)]; simp
  have l2 : w2.cell? ⟨w1.heap.size, 2, none⟩ = some (.int .i64 v3) := by rw [hc _ _ (by simp)]; simp
  have HB2 := Lib.hid hb
  have hlt2 : w1.heap.size < w2.heap.size := by omega
  clear hb hc hf hz
  go_wp2
  go_ret
  refine ⟨rfl, ?_⟩
  have b1 := ((Below.refl w.heap.size w).alloc (Nat.le_refl _) _).trans (HB.out.mono (by simp))
  exact ((b1.alloc (by omega) _).trans (HB2.out.mono (by simp; omega))).alloc (by omega) _
end Go.Proofs.Ytljkfbmpokcpjaa.Nx
