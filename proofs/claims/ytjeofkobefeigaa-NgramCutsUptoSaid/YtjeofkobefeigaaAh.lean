/- The walk of ngram's ahead: the run of n tokens ahead of a place. -/
import Derived.Test.YtjeofkobefeigaaMp
import Derived.Test.YtjeofkobefeigaaWMore
import Derived.Test.YtjeofkobefeigaaPEqIntsx1
import Derived.Lib.Hide
import Derived.Deep.DeepCutAuto
import Derived.Deep.CutBlock
import Derived.Deep.QuietTactic
import Derived.BigQuiet
import Derived.WideLaws
import Derived.IntWalk
import Derived.StillTailTactics
import Derived.Laws.CopyOwn
set_option linter.unusedVariables false
set_option linter.unusedSimpArgs false
namespace Go.Proofs.Ytjeofkobefeigaa.Wk
open Go.RowKit Go.Proofs.YtjeofkobefeigaaW.PrintWords Go.Proofs.YtjeofkobefeigaaW.PrintLast Go.Proofs.YtjeofkobefeigaaW.PrintMore Go.Proofs.Ytjeofkobefeigaa.Mp
attribute [local go_sem] max2_int min2_int max_two min_two

/-- The number at a place; 0 beyond. -/
def nth (l : List Int) (i : Nat) : Int := l.getD i 0
theorem rd_nth (l : List Int) (i : Nat) : rd l (i : Int) = nth l i := by
  unfold rd nth; rfl
/-- The run of n tokens ahead of a place. -/
def runF (t : List Int) (p n j : Nat) : Int := if j < n then nth t (p - n + j) else 0

theorem info3 : (Try.prog.info? 3).map (fun i => (i.zero, i.size, i.bytes)) = some (some (.int .i64 0), 1, 8) := by kernel_rfl
set_option maxHeartbeats 2000000 in
theorem ahead_calls {B m : Nat} {most : Int} {At : Option Addr} {ct : Nat} {t : List Int} (w : World) (hB : w.heap[B]? = some (.cells #[.int .i64 most, .slice At t.length ct, .map (some m)] 68 (0, 0))) (hC : Kd.C (Kd.int .i64) w At t.length t) (hc : t.length ≤ ct)
    {p n : Nat} (h1 : 1 ≤ n) (h4 : n ≤ 4) (hnp : n ≤ p) (hp : p ≤ t.length) :
    Calls Try.prog 37 #[.pointer (some ⟨B, 0, none⟩), .int .i64 p, .int .i64 n] w fun e w' => e = .returned (keyV n (runF t p n)) ∧ Below w.heap.size w w' := by
  have HB := Lib.hid hB
  have HC := Lib.hid hC
  have k1 : w.cell? ⟨B, 1, none⟩ = some (.slice At t.length ct) := (blk_cell hB 1).trans rfl
  have hlt : B < w.heap.size := blk_lt hB
  clear hB hC
  go_enter Try.func37, Try.ntmps37
  go_upto_region 2 with (fail)
  obtain ⟨wq, hwq⟩ : ∃ x, x = (w.alloc (.cells #[.int .i64 0, .int .i64 0, .int .i64 0, .int .i64 0, .int .i64 0] 72)).alloc (.cells #[.int .i64 n, .int .i64 0, .int .i64 0, .int .i64 0, .int .i64 0] 72) := ⟨_, rfl⟩
  rw [← hwq]
  obtain ⟨g6, hg6⟩ : ∃ x, x = w.heap.size := ⟨_, rfl⟩
  rw [← hg6]
  have b6 : wq.heap[g6]? = some (.cells #[.int .i64 0, .int .i64 0, .int .i64 0, .int .i64 0, .int .i64 0] 72 (0, 0)) := by rw [hwq, hg6]; exact blk_alloc (blk_new _ _) _
  have b7 : wq.heap[g6 + 1]? = some (.cells #[.int .i64 n, .int .i64 0, .int .i64 0, .int .i64 0, .int .i64 0] 72 (0, 0)) := by
    rw [hwq, hg6]
    have := blk_new (w.alloc (.cells #[.int .i64 0, .int .i64 0, .int .i64 0, .int .i64 0, .int .i64 0] 72)) (.cells #[.int .i64 n, .int .i64 0, .int .i64 0, .int .i64 0, .int .i64 0] 72)
    rwa [show (w.alloc (.cells #[.int .i64 0, .int .i64 0, .int .i64 0, .int .i64 0, .int .i64 0] 72)).heap.size = w.heap.size + 1 from Array.size_push _] at this
  have hwb : Below w.heap.size w wq := by rw [hwq]; exact below_alloc (below_alloc (Below.refl _ _) _) _
  have B6 := Lib.hid b6
  have B7 := Lib.hid b7
  have HW := Lib.hid hwb
  have HGG := Lib.hid hg6
  have k1 : wq.cell? ⟨B, 1, none⟩ = some (.slice At t.length ct) := pw_cell_below hwb k1
  obtain ⟨lo, hlo⟩ : ∃ lo, lo = p - n := ⟨_, rfl⟩
  have e1 : IntKind.i64.wrap ((p : Int) - (n : Int)) = (lo : Int) := by rw [IntWalk.i64_in _ (by have := Kd.C_max HC.out; omega)]; omega
  obtain ⟨i0, hi0, _, hsz, _⟩ := info_parts info3
  have hcut := cut_mid (P := Try.prog) 22 3 .i64 .i64 Try.underlying22 hi0 1 hsz At t.length ct (lo : Int) (p : Int) (by omega) (by omega) (by omega) hc
  rw [Int.toNat_natCast, Int.toNat_natCast, show p - lo = n by omega] at hcut
  obtain ⟨As, hAs⟩ : ∃ As, (if ct = lo then At else At.map (·.add (lo * 1))) = As := ⟨_, rfl⟩
  rw [hAs] at hcut
  have HLO := Lib.hid hlo
  have HAS := Lib.hid hAs
  clear hwq b6 b7 hwb hi0 hsz hg6 hlo hAs
  go_still_tail 11, (by kernel_rfl)
  change wpList _ _ _ _ _ wq.drew
  have hsrc : ∃ ad, As = some ad ∧ ∀ j, j < n → wq.drew.cell? (ad.add j) = some (.int .i64 (runF t p n j)) := by
    have hC2 := Kd.C_mid (k := Kd.int .i64) (xs := t) (c := ct) (lo := lo) (hi := p) (Kd.C_below HC.out HW.out) (by have := HLO.out; omega) hp hc
    have hl : ((t.take p).drop lo).length = n := by rw [List.length_drop, List.length_take]; have := HLO.out; omega
    rw [hl] at hC2
    have hA2 : (if ct = lo then At else At.map (·.add (lo * (Kd.int .i64).sz))) = As := HAS.out
    rw [hA2] at hC2
    obtain ⟨ad, e, _⟩ := hC2.2.2 (by omega)
    refine ⟨ad, e, fun j hj => ?_⟩
    obtain ⟨ad2, e2, h2⟩ := Kd.at_int hC2 (j : Int) (by omega) (by omega)
    rw [e] at e2
    injection e2 with e2
    subst e2
    rw [rd_nth, Int.toNat_natCast] at h2
    have hv : nth ((t.take p).drop lo) j = runF t p n j := by
      unfold nth runF nth
      rw [if_pos hj, List.getD_eq_getElem?_getD, List.getD_eq_getElem?_getD, List.getElem?_drop, List.getElem?_take, if_pos (by have := HLO.out; omega), HLO.out]
    rw [hv] at h2
    exact h2
  refine wpList_copy_splice rfl (.tmp 11) (.tmp 20) 22 22 rfl 3 Try.underlying22 (by kernel_rfl) (some ⟨g6 + 1, 1, none⟩) As 4 4 n (ct - lo) rfl rfl (g6 + 1) 1 [.int .i64 n, .int .i64 0, .int .i64 0, .int .i64 0, .int .i64 0] 72 B7.out ((List.range n).map fun j => .int .i64 (runF t p n j)) (by rw [List.length_map, List.length_range]; exact (Nat.min_eq_left h4).symm) (fun _ => ⟨rfl, ?_⟩) (by simp; omega) (by simp [Value.oneCell']) (g6 + 1) wq.drew (Below.refl _ _) (Nat.le_refl _) ?_
  · obtain ⟨ad, e, h⟩ := hsrc
    refine ⟨ad, e, fun j v hv => ?_⟩
    rw [List.getElem?_map] at hv
    obtain ⟨q, hq, rfl⟩ := Option.map_eq_some_iff.1 hv
    obtain ⟨hq1, hq2⟩ := List.getElem?_eq_some_iff.1 hq
    rw [List.length_range] at hq1
    rw [List.getElem_range] at hq2
    subst hq2
    exact h j hq1
  · intro w' hg hb
    have hs : splice [.int .i64 (n : Int), .int .i64 0, .int .i64 0, .int .i64 0, .int .i64 0] 1 ((List.range n).map fun j => Value.int .i64 (runF t p n j)) = [.int .i64 n, .int .i64 (runF t p n 0), .int .i64 (runF t p n 1), .int .i64 (runF t p n 2), .int .i64 (runF t p n 3)] := by
      rcases (show n = 1 ∨ n = 2 ∨ n = 3 ∨ n = 4 by omega) with rfl | rfl | rfl | rfl <;> simp [splice, runF, List.range, List.range.loop]
    have h7 := hg.out
    rw [hs] at h7
    have h6 : w'.heap[g6]? = some (.cells #[.int .i64 0, .int .i64 0, .int .i64 0, .int .i64 0, .int .i64 0] 72 (0, 0)) := (hb.block g6 (by omega)).trans B6.out
    have hbb : Below w.heap.size w w' := HW.out.trans ((below_drew (Below.refl w.heap.size wq)).trans (hb.mono (by have := HGG.out; omega)))
    have HBB := Lib.hid hbb
    obtain ⟨r0, hr0⟩ : ∃ x, runF t p n 0 = x := ⟨_, rfl⟩
    obtain ⟨r1, hr1⟩ : ∃ x, runF t p n 1 = x := ⟨_, rfl⟩
    obtain ⟨r2, hr2⟩ : ∃ x, runF t p n 2 = x := ⟨_, rfl⟩
    obtain ⟨r3, hr3⟩ : ∃ x, runF t p n 3 = x := ⟨_, rfl⟩
    have HK : Hid (Value.agg #[.int .i64 n, .int .i64 r0, .int .i64 r1, .int .i64 r2, .int .i64 r3] = keyV n (runF t p n)) := Lib.hid (by rw [← hr0, ← hr1, ← hr2, ← hr3]; rfl)
    rw [hr0, hr1, hr2, hr3] at h7
    have H7 := Lib.hid h7
    have H6 := Lib.hid h6
    have c0 : w'.cell? ⟨g6 + 1, 0, none⟩ = some (.int .i64 n) := (blk_cell h7 0).trans rfl
    have c1 : w'.cell? ⟨g6 + 1, 1, none⟩ = some (.int .i64 r0) := (blk_cell h7 1).trans rfl
    have c2 : w'.cell? ⟨g6 + 1, 2, none⟩ = some (.int .i64 r1) := (blk_cell h7 2).trans rfl
    have c3 : w'.cell? ⟨g6 + 1, 3, none⟩ = some (.int .i64 r2) := (blk_cell h7 3).trans rfl
    have c4 : w'.cell? ⟨g6 + 1, 4, none⟩ = some (.int .i64 r3) := (blk_cell h7 4).trans rfl
    have d0 : w'.cell? ⟨g6, 0, none⟩ = some (.int .i64 0) := (blk_cell h6 0).trans rfl
    have d1 : w'.cell? ⟨g6, 1, none⟩ = some (.int .i64 0) := (blk_cell h6 1).trans rfl
    have d2 : w'.cell? ⟨g6, 2, none⟩ = some (.int .i64 0) := (blk_cell h6 2).trans rfl
    have d3 : w'.cell? ⟨g6, 3, none⟩ = some (.int .i64 0) := (blk_cell h6 3).trans rfl
    have d4 : w'.cell? ⟨g6, 4, none⟩ = some (.int .i64 0) := (blk_cell h6 4).trans rfl
    have f0 := blk_frozen h6 0
    have f1 := blk_frozen h6 1
    have f2 := blk_frozen h6 2
    have f3 := blk_frozen h6 3
    have f4 := blk_frozen h6 4
    clear hs h7 h6 hb hbb hg hsrc hcut e1 k1 hr0 hr1 hr2 hr3
    go_wp2
    have z := blk_put (blk_put (blk_put (blk_put (blk_put H6.out 0 (.int .i64 n) rfl) 1 (.int .i64 r0) rfl) 2 (.int .i64 r1) rfl) 3 (.int .i64 r2) rfl) 4 (.int .i64 r3) rfl
    have hZ : Below w.heap.size w (((((w'.setCell ⟨g6, 0, none⟩ (.int .i64 n)).setCell ⟨g6, 1, none⟩ (.int .i64 r0)).setCell ⟨g6, 2, none⟩ (.int .i64 r1)).setCell ⟨g6, 3, none⟩ (.int .i64 r2)).setCell ⟨g6, 4, none⟩ (.int .i64 r3)) := by
      have hg : w.heap.size ≤ g6 := by rw [HGG.out]; exact Nat.le_refl _
      exact below_set (below_set (below_set (below_set (below_set HBB.out hg) hg) hg) hg) hg
    exact bodyPost_ret (results_single (r := .cell 6 72) rfl (.cell g6 72 _ (0, 0) _ rfl z Try.underlying72 rfl (by kernel_rfl) .nil)) rfl ⟨by rw [← HK.out]; rfl, hZ⟩
end Go.Proofs.Ytjeofkobefeigaa.Wk
