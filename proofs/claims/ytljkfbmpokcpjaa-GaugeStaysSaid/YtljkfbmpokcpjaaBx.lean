/- A gauge in memory of the call's own, and the walk of 'right'. -/
import Derived.Test.YtljkfbmpokcpjaaNl
namespace Go.Proofs.Ytljkfbmpokcpjaa.Nx
open Go.RowKit Go.Proofs.Ytljkfbmpokcpjaa.PGaugeChecks Go.Proofs.YtljkfbmpokcpjaaW.PrintWords Go.Proofs.YtljkfbmpokcpjaaW.PrintLast Go.Proofs.YtljkfbmpokcpjaaW.PrintMore Go.Proofs.Ytljkfbmpokcpjaa.M Go.Proofs.Ytljkfbmpokcpjaa.Pure
attribute [local go_sem] max2_int min2_int max_two min_two

/-- Block g holds a gauge. -/
structure Box (W : World) (g : Nat) (s m r : Int) : Prop where
  c0 : W.cell? ⟨g, 0, none⟩ = some (.int .i64 s)
  c1 : W.cell? ⟨g, 1, none⟩ = some (.int .i64 m)
  c2 : W.cell? ⟨g, 2, none⟩ = some (.int .i64 r)
  f0 : W.frozen? ⟨g, 0, none⟩ = false
  f1 : W.frozen? ⟨g, 1, none⟩ = false
  f2 : W.frozen? ⟨g, 2, none⟩ = false
  lt : g < W.heap.size
theorem Box.below {W w1 : World} {g : Nat} {s m r : Int} (h : Box W g s m r) (hb : Below W.heap.size W w1) : Box w1 g s m r := by
  obtain ⟨hc, hf⟩ := bcell hb
  exact ⟨(hc g 0 h.lt).trans h.c0, (hc g 1 h.lt).trans h.c1, (hc g 2 h.lt).trans h.c2, (hf g 0 h.lt).trans h.f0, (hf g 1 h.lt).trans h.f1, (hf g 2 h.lt).trans h.f2, Nat.lt_of_lt_of_le h.lt hb.size⟩
theorem Box.alloc {W : World} {g : Nat} {s m r : Int} (h : Box W g s m r) (o : Obj) : Box (W.alloc o) g s m r :=
  h.below ((Below.refl _ _).alloc (Nat.le_refl _) _)
theorem Box.mk_alloc (W : World) (s m r : Int) : Box (W.alloc (.cells #[.int .i64 s, .int .i64 m, .int .i64 r] 23)) W.heap.size s m r :=
  ⟨by simp, by simp, by simp, by simp, by simp, by simp, by simp⟩
theorem Box.put {W : World} {g : Nat} {s m r : Int} (h : Box W g s m r) (s' m' r' : Int) :
    Box (((W.setCell ⟨g, 0, none⟩ (.int .i64 s')).setCell ⟨g, 1, none⟩ (.int .i64 m')).setCell ⟨g, 2, none⟩ (.int .i64 r')) g s' m' r' := by
  obtain ⟨c0, c1, c2, f0, f1, f2, lt⟩ := h
  have d0 : (W.setCell ⟨g, 0, none⟩ (.int .i64 s')).cell? ⟨g, 0, none⟩ = some (.int .i64 s') := World.cell?_setCell_same _ _ _ c0
  have d1 : (W.setCell ⟨g, 0, none⟩ (.int .i64 s')).cell? ⟨g, 1, none⟩ = some (.int .i64 m) := (World.cell?_setCell_other _ _ _ _ (by simp)).trans c1
  have d2 : (W.setCell ⟨g, 0, none⟩ (.int .i64 s')).cell? ⟨g, 2, none⟩ = some (.int .i64 r) := (World.cell?_setCell_other _ _ _ _ (by simp)).trans c2
  generalize hW : W.setCell ⟨g, 0, none⟩ (.int .i64 s') = W1 at *
  have e0 : (W1.setCell ⟨g, 1, none⟩ (.int .i64 m')).cell? ⟨g, 0, none⟩ = some (.int .i64 s') := (World.cell?_setCell_other _ _ _ _ (by simp)).trans d0
  have e1 : (W1.setCell ⟨g, 1, none⟩ (.int .i64 m')).cell? ⟨g, 1, none⟩ = some (.int .i64 m') := World.cell?_setCell_same _ _ _ d1
  have e2 : (W1.setCell ⟨g, 1, none⟩ (.int .i64 m')).cell? ⟨g, 2, none⟩ = some (.int .i64 r) := (World.cell?_setCell_other _ _ _ _ (by simp)).trans d2
  refine ⟨(World.cell?_setCell_other _ _ _ _ (by simp)).trans e0, (World.cell?_setCell_other _ _ _ _ (by simp)).trans e1, World.cell?_setCell_same _ _ _ e2, ?_, ?_, ?_, ?_⟩
  · rw [← hW]; simp [f0]
  · rw [← hW]; simp [f1]
  · rw [← hW]; simp [f2]
  · rw [← hW]; simpa using lt

/-- 'right', of a gauge and its own Most. -/
theorem right_yes {s m r : Int} (c1 : ¬ s < 1) (c2 : ¬ m < s) (c3 : ¬ r < 0) (c4 : ¬ 3 < r) (w : World) :
    Calls Try.prog 16 #[.agg #[.int .i64 s, .int .i64 m, .int .i64 r], .int .i64 m] w fun e w' => e = .returned (.bool true) ∧ Below w.heap.size w w' := by
  go_enter Try.func16, Try.ntmps16
  go_wp2
  go_ret
  exact ⟨rfl, (Below.refl _ _).alloc (Nat.le_refl _) _⟩
theorem right_no {s m r : Int} (h : s < 1 ∨ (¬ s < 1 ∧ m < s) ∨ (¬ s < 1 ∧ ¬ m < s ∧ r < 0) ∨ (¬ s < 1 ∧ ¬ m < s ∧ ¬ r < 0 ∧ 3 < r)) (w : World) :
    Calls Try.prog 16 #[.agg #[.int .i64 s, .int .i64 m, .int .i64 r], .int .i64 m] w fun e w' => e = .returned (.bool false) ∧ Below w.heap.size w w' := by
  rcases h with c1 | ⟨c1, c2⟩ | ⟨c1, c2, c3⟩ | ⟨c1, c2, c3, c4⟩
  all_goals
    go_enter Try.func16, Try.ntmps16
    go_wp2
    go_ret
    first | exact ⟨rfl, (Below.refl _ _).alloc (Nat.le_refl _) _⟩ | exact ⟨by simp; omega, (Below.refl _ _).alloc (Nat.le_refl _) _⟩
end Go.Proofs.Ytljkfbmpokcpjaa.Nx
