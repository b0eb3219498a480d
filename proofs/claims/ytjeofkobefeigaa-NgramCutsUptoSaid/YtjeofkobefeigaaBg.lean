/- The walk of augurlaw13's begun: an index over a text. -/
import Derived.Test.YtjeofkobefeigaaSl
import Derived.Test.YtjeofkobefeigaaPCopyIntsx1
set_option linter.unusedVariables false
set_option linter.unusedSimpArgs false
namespace Go.Proofs.Ytjeofkobefeigaa.Wk
open Go.RowKit Go.Shelf Go.Proofs.YtjeofkobefeigaaW.PrintWords Go.Proofs.YtjeofkobefeigaaW.PrintLast Go.Proofs.YtjeofkobefeigaaW.PrintMore Go.Proofs.Ytjeofkobefeigaa.Mp Go.Proofs.Ytjeofkobefeigaa.PEqRaw Go.Proofs.Ytjeofkobefeigaa.PCopyInts
open Go.ChangeMaps (setBlock)

theorem copy_l0 (l : List Int) (hl : l.length ≤ 17592186044416) : ∀ (d k i : Nat), i + d = l.length → d < k → augurref00_CopyInts.l0 k l (l.take i) (i : Int) = some l := by
  intro d
  induction d with
  | zero =>
    intro k i hi hk
    obtain ⟨k, rfl⟩ : ∃ m, k = m + 1 := ⟨k - 1, by omega⟩
    simp only [augurref00_CopyInts.l0]
    rw [if_neg (by omega), List.take_of_length_le (by omega)]
  | succ d ih =>
    intro k i hi hk
    obtain ⟨k, rfl⟩ : ∃ m, k = m + 1 := ⟨k - 1, by omega⟩
    simp only [augurref00_CopyInts.l0]
    rw [if_pos (by omega), if_pos (by omega), if_pos (by rw [List.length_take]; omega), IntWalk.wrap64_in _ (by omega), rd_nth, ← take_step (by omega)]
    exact ih k (i + 1) (by omega) (by omega)
theorem copy_f (l : List Int) (hl : l.length ≤ 17592186044416) : augurref00_CopyInts.f (l.length + 1) l = some l := by
  have := copy_l0 l hl l.length (l.length + 1) 0 (by omega) (by omega)
  unfold augurref00_CopyInts.f
  simpa using this
theorem copy_calls {w : World} {A : Option Addr} {c : Nat} {t : List Int} (hC : Kd.C (Kd.int .i64) w A t.length t) (hc : t.length ≤ c) (hl : t.length ≤ 17592186044416) :
    Calls Try.prog 34 #[.slice A t.length c] w fun e w' => ∃ A' c', e = .returned (.slice A' t.length c') ∧ Kd.R (Kd.int .i64) 3 w' w.heap.size (fun _ => True) (.slice A' t.length c') t ∧ Below w.heap.size w w' := by
  refine (augurref00_CopyInts.calls _ A c t t w hC hc (copy_f t hl)).mono ?_
  rintro e w' ⟨v, rfl, hR, hb⟩
  obtain ⟨A', c', rfl, _, _⟩ := Kd.R_reads hR
  exact ⟨A', c', rfl, hR, hb⟩
set_option maxHeartbeats 2000000 in
theorem begun_calls {w : World} {A : Option Addr} {c most : Nat} {t : List Int} (h1 : 1 ≤ most) (h4 : most ≤ 4) (hC : Kd.C (Kd.int .i64) w A t.length t) (hc : t.length ≤ c) (ht : Wf t) (hl : t.length * 8 ≤ 140737488355328) :
    Calls Try.prog 13 #[.int .i64 most, .slice A t.length c] w fun e w' => ∃ B, e = .returned (.pointer (some ⟨B, 0, none⟩)) ∧ Slot w' (fun k => w.heap.size ≤ k) (.pointer (some ⟨B, 0, none⟩)) (some (most, t)) ∧ Below w.heap.size w w' := by
  have HC := Lib.hid hC
  have HT := Lib.hid ht
  have HLL := Lib.hid hl
  have HCC := Lib.hid hc
  clear hC ht hl hc
  go_enter Try.func13, Try.ntmps13
  go_wp2_with fail
  refine (new_calls (F := fun k => w.heap.size ≤ k) w h1 h4 (fun _ h => h)).mono ?_
  rintro e w1 ⟨B, m, rfl, hB, hI, hb⟩
  have hS : Slot w1 (fun k => w.heap.size ≤ k) (.pointer (some ⟨B, 0, none⟩)) (some (most, [])) := ⟨B, m, rfl, hI, h1, h4, fun x hx => absurd hx (by simp)⟩
  have HS := Lib.hid hS
  have HB := Lib.hid hb
  clear hI hS hb hB
  go_wp2_with fail
  have hcp := copy_calls (Kd.C_below HC.out HB.out) HCC.out (by have := HLL.out; omega)
  refine hcp.mono ?_
  rintro e w2 ⟨A', c', rfl, hR, hb⟩
  have HR := Lib.hid hR
  have HB2 := Lib.hid hb
  clear hcp hR hb
  have hS2 : Slot w2 (fun k => (w.heap.size ≤ k ∧ k < w1.heap.size) ∨ w2.heap.size ≤ k) (.pointer (some ⟨B, 0, none⟩)) (some (most, [])) := (HS.out.reF (F' := fun k => (w.heap.size ≤ k ∧ k < w1.heap.size) ∨ w2.heap.size ≤ k) (fun k h1 h2 => .inl ⟨h1, h2⟩)).below HB2.out
  have hR2 := Kd.R_reads' HR.out
  have hown : ∀ ad, A' = some ad → ¬ ((w.heap.size ≤ ad.block ∧ ad.block < w1.heap.size) ∨ w2.heap.size ≤ ad.block) := fun ad e h => by
    subst e
    obtain ⟨_, inner, hown, _⟩ := HR.out
    rcases hown.2 with ⟨h0, _⟩ | ⟨g, cap, cur, h0, h2, hc, _⟩
    · cases h0
    · injection h0 with h0
      injection h0 with h0
      subst h0
      have := blk_lt hc
      rcases h with h | h <;> simp at h <;> omega
  have hap := append_slot (A := A') (c := c') hS2 (fun k h => .inr h) HT.out hR2.2.2 hR2.2.1 (fun _ => hown) (by simp [stText]; exact HLL.out)
  go_wp2_with fail
  refine hap.mono ?_
  rintro e w3 ⟨rfl, hS3, hf⟩
  have HS3 := Lib.hid hS3
  have HF := Lib.hid hf
  clear hap hS3 hf hS2 hR2 hown
  go_wp2_with fail
  go_ret
  have hbz : Below w.heap.size w w2 := HB.out.trans (HB2.out.mono HB.out.size)
  refine ⟨B, rfl, ?_, hbz.trans (HF.out.below (fun k h => ?_) hbz.size)⟩
  · have := HS3.out.reF (F' := fun k => w.heap.size ≤ k) (fun k h _ => by
      rcases h with h | h
      · exact h.1
      · exact Nat.le_trans hbz.size h)
    simpa [stApp] using this
  · rcases h with h | h
    · exact h.1
    · exact Nat.le_trans hbz.size h
end Go.Proofs.Ytjeofkobefeigaa.Wk
