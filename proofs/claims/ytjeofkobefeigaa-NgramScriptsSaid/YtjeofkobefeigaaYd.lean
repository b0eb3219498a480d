/- The document's index: New, Len, Append, Cut, Places. -/
import Derived.Test.YtjeofkobefeigaaYc
set_option linter.unusedVariables false
set_option linter.unusedSimpArgs false
/- The document's index: what each of its methods does. -/
namespace Go.Proofs.Ytjeofkobefeigaa.Wk
open Go.RowKit Go.Shelf Go.Proofs.YtjeofkobefeigaaW.PrintWords Go.Proofs.YtjeofkobefeigaaW.PrintLast Go.Proofs.YtjeofkobefeigaaW.PrintMore Go.Proofs.Ytjeofkobefeigaa.Mp Go.Proofs.Ytjeofkobefeigaa.PEqRaw

/-- The document's index, or none. -/
def RSlot (w : World) (F : Nat → Prop) (p : Value) : Option (Nat × List Int) → Prop
  | none => p = .pointer none
  | some (most, t) => ∃ B tv, p = .pointer (some ⟨B, 0, none⟩) ∧ w.heap[B]? = some (.cells #[.int .i64 (most : Int), tv] 75 (0, 0)) ∧ Kd.R (Kd.int .i64) 3 w 0 F tv t ∧ F B ∧ 1 ≤ most ∧ most ≤ 4 ∧ Wf t
def RSlotA (p : Value) (st : Option (Nat × List Int)) : Asr := fun w F => RSlot w F p st
theorem RSlotA.ok (p : Value) (st : Option (Nat × List Int)) : Asr.Ok (RSlotA p st) := by
  refine ⟨fun {w w' F G} h hf hne => ?_, fun {w F F'} h hF => ?_⟩
  · cases st with
    | none => exact h
    | some s =>
      obtain ⟨B, tv, h1, h2, h3, h4, h5⟩ := h
      exact ⟨B, tv, h1, (hf.block B (blk_lt h2) (hne B h4 (blk_lt h2))).trans h2, R_fr h3 hf (fun k hk => hne k (h3.1 k hk) (Kd.R_lt h3 k hk)), h4, h5⟩
  · cases st with
    | none => exact h
    | some s =>
      obtain ⟨B, tv, h1, h2, h3, h4, h5⟩ := h
      exact ⟨B, tv, h1, h2, R_reF h3 hF, hF B h4 (blk_lt h2), h5⟩
theorem Stt.rslot {base : Nat} {w : World} {p : Value} {st : Option (Nat × List Int)} {Q : Asr} (h : Stt base w (Star (RSlotA p st) Q)) : ∃ F, RSlot w F p st := by
  obtain ⟨F, ⟨Fp, Fq, h1, _⟩, _⟩ := h
  exact ⟨Fp, h1⟩
theorem RSlot.below {w w1 : World} {F : Nat → Prop} {p : Value} {st : Option (Nat × List Int)} (h : RSlot w F p st) (hb : Below w.heap.size w w1) : RSlot w1 F p st := by
  cases st with
  | none => exact h
  | some s => obtain ⟨B, tv, h1, h2, h3, h4⟩ := h; exact ⟨B, tv, h1, blk_below h2 hb, Kd.R_below h3 hb, h4⟩
theorem R_ne75 {w : World} {F : Nat → Prop} {v : Value} {xs : List Int} (h : Kd.R (Kd.int .i64) 3 w 0 F v xs) {B : Nat} {cs : Array Value} (hB : w.heap[B]? = some (.cells cs 75 (0, 0))) : ∀ k, v.ownBlock = some k → k ≠ B := fun k hk e => Kd.R_ne h hB (by decide) (by rw [hk, e])
set_option maxHeartbeats 2000000 in
theorem rnew_slot {w : World} {F : Nat → Prop} {n : Int} (hF : ∀ k, w.heap.size ≤ k → F k) :
    Calls Try.prog 22 #[.int .i64 n] w fun e w' => ∃ p, e = .returned (.tuple #[p, .int .i64 (if n < 1 ∨ 4 < n then 1 else 0)]) ∧ RSlot w' F p (stNew n) ∧ Below w.heap.size w w' := by
  have HF := Lib.hid hF
  clear hF
  unfold stNew
  by_cases c : n < 1
  · rw [if_pos (.inl c), if_pos (.inl c)]
    have c' : decide (n < 1) = true := decide_eq_true c
    go_enter Try.func22, Try.ntmps22
    go_wp2
    go_ret2
    exact ⟨_, rfl, rfl, Below.refl _ _⟩
  · have c' : decide (n < 1) = false := decide_eq_false c
    by_cases d : 4 < n
    · rw [if_pos (.inr d), if_pos (.inr d)]
      have d' : decide (4 < n) = true := decide_eq_true d
      go_enter Try.func22, Try.ntmps22
      go_wp2
      go_ret2
      exact ⟨_, rfl, rfl, Below.refl _ _⟩
    · rw [if_neg (by omega), if_neg (by omega)]
      have d' : decide (4 < n) = false := decide_eq_false d
      go_enter Try.func22, Try.ntmps22
      go_wp2
      go_ret2
      refine ⟨_, rfl, ⟨w.heap.size, .slice none 0 0, rfl, ?_, R_nilA, HF.out _ (Nat.le_refl _), by omega, by omega, fun x hx => absurd hx (by simp)⟩, below_alloc (Below.refl _ _) _⟩
      rw [show ((n.toNat : Nat) : Int) = n by omega]
      exact blk_new w _
theorem rlen_slot {w : World} {F : Nat → Prop} {p : Value} {st : Option (Nat × List Int)} (h : RSlot w F p st) : Calls Try.prog 28 #[p] w fun e w' => e = .returned (.int .i64 (stText st).length) ∧ w = w' := by
  cases st with
  | none =>
    obtain rfl : p = .pointer none := h
    go_enter Try.func28, Try.ntmps28
    go_wp2
    go_ret
    exact ⟨rfl, rfl⟩
  | some s =>
    obtain ⟨B, tv, rfl, h2, h3, _⟩ := h
    obtain ⟨At, ct, eAt, hct, hCt⟩ := Kd.R_reads h3
    subst eAt
    have k1 : w.cell? ⟨B, 1, none⟩ = some (.slice At s.2.length ct) := (blk_cell h2 1).trans rfl
    clear h3 hct hCt h2
    go_enter Try.func28, Try.ntmps28
    go_wp2
    go_ret
    exact ⟨rfl, rfl⟩
def RaRel2 (w : World) (F : Nat → Prop) (B most : Nat) (t ts : List Int) (x : Value) (wr : World) : Prop :=
  ∃ i : Nat, x = .int .i64 i ∧ i ≤ ts.length ∧ RSlot wr F (.pointer (some ⟨B, 0, none⟩)) (some (most, t ++ ts.take i)) ∧ Fr F w wr
set_option maxHeartbeats 4000000 in
set_option maxRecDepth 100000 in
theorem rappend_some {F : Nat → Prop} {B most : Nat} {A : Option Addr} {c : Nat} {t ts : List Int} (w : World) (hF : ∀ k, w.heap.size ≤ k → F k) (hI : RSlot w F (.pointer (some ⟨B, 0, none⟩)) (some (most, t)))
    (hts : Wf ts) (hC : Kd.C (Kd.int .i64) w A ts.length ts) (hc : ts.length ≤ c) (hA : ts ≠ [] → ∀ ad, A = some ad → ¬ F ad.block) (hl : (t.length + ts.length) * 8 ≤ 140737488355328) :
    Calls Try.prog 24 #[.pointer (some ⟨B, 0, none⟩), .slice A ts.length c] w fun e w' => e = .returned (.tuple #[]) ∧ RSlot w' F (.pointer (some ⟨B, 0, none⟩)) (some (most, t ++ ts)) ∧ Fr F w w' := by
  have HF := Lib.hid hF
  have HI := Lib.hid hI
  have HTS := Lib.hid hts
  have HC := Lib.hid hC
  have HA := Lib.hid hA
  have HL := Lib.hid hl
  obtain ⟨k, hk⟩ : ∃ k, ts.length = k := ⟨_, rfl⟩
  rw [hk]
  have HK := Lib.hid hk
  clear hF hI hts hC hA hl hc hk
  go_enter Try.func24, Try.ntmps24
  go_wp2
  go_loopw [4] (fun x wr => RaRel2 w F B most t ts x wr) (fun x _ => k - (intOf x).toNat)
  case atStart => exact ⟨0, rfl, Nat.zero_le _, by simpa using HI.out, Fr.refl F w⟩
  case round =>
    obtain ⟨i, rfl, hi, hI, hf⟩ := hrel
    rw [HK.out] at hi
    have HFR := Lib.hid hf
    have HI1 := Lib.hid hI
    clear hI hf HI
    rename World => wa
    by_cases hlt : i < k
    · have d1 : decide ((i : Int) < (k : Int)) = true := decide_eq_true (by omega)
      have d1' : decide (i < k) = true := decide_eq_true hlt
      obtain ⟨tt, htt⟩ : ∃ tt, t ++ ts.take i = tt := ⟨_, rfl⟩
      have HI2 := HI1.out
      rw [htt] at HI2
      obtain ⟨B', tv, hB', hbox, hR, hFB, hm1, hm4, hwt⟩ := HI2
      injection hB' with hB'
      injection hB' with hB'
      injection hB' with hB'
      subst hB'
      obtain ⟨At, ct, eAt, hct, hCt⟩ := Kd.R_reads hR
      obtain ⟨n0, hn0⟩ : ∃ n0, tt.length = n0 := ⟨_, rfl⟩
      rw [hn0] at eAt hct
      subst eAt
      obtain ⟨ad, e1, k0⟩ := Kd.at_int (C_fr HC.out HFR.out (HA.out (fun e => by have := HK.out; rw [e] at this; simp at this; omega))) (i : Int) (by omega) (by rw [HK.out]; omega)
      subst e1
      obtain ⟨y, hy⟩ : ∃ y, nth ts i = y := ⟨_, rfl⟩
      rw [Int.toNat_natCast, rd_nth, hy] at k0
      have kt : wa.cell? ⟨B, 1, none⟩ = some (.slice At n0 ct) := (blk_cell hbox 1).trans rfl
      have ky : wa.cell? (ad.add i) = some (.int .i64 y) := k0
      have q1 : (0 : Int) ≤ (i : Int) := by omega
      have q2 : (i : Int) < (k : Int) := by omega
      have hstep : t ++ ts.take (i + 1) = tt ++ [y] := by rw [take_step (by rw [HK.out]; exact hlt), hy, ← List.append_assoc, htt]
      have hkb : (i : Int) ≤ 17592186044416 := by have h1 := HL.out; rw [HK.out] at h1; omega
      have HRT : Hid (Kd.R (Kd.int .i64) 3 wa.drew 0 F (.slice At n0 ct) tt) := Lib.hid (Kd.R_drew hR)
      have HFF : Hid (∀ k, wa.drew.heap.size ≤ k → F k) := Lib.hid (fun k hk => HF.out k (Nat.le_trans HFR.out.size hk))
      have HLE : Hid ((tt.length + 1) * 8 ≤ 140737488355328) := Lib.hid (by
        rw [← htt, List.length_append, List.length_take]
        have := HL.out
        have := HK.out
        omega)
      have HKY : Hid (wa.cell? (ad.add i) = some (.int .i64 y)) := Lib.hid ky
      have hadF : ¬ F ad.block := HA.out (fun e => by have := HK.out; rw [e] at this; simp at this; omega) ad rfl
      have STEP : Hid (∀ v1 w1, Kd.R (Kd.int .i64) 3 w1 0 F v1 (tt ++ [y]) → wa.drew.grownBy w1 (Value.slice At n0 ct).ownBlock → (v1.ownBlock = (Value.slice At n0 ct).ownBlock ∨ ∃ b, v1.ownBlock = some b ∧ wa.drew.heap.size ≤ b) →
          ∃ A1 c1, v1 = .slice A1 (n0 + 1) c1 ∧ w1.cell? ⟨B, 1, none⟩ = some (.slice At n0 ct) ∧ w1.frozen? ⟨B, 1, none⟩ = false ∧ w1.cell? (ad.add i) = some (.int .i64 y) ∧
            (RSlot (w1.setCell ⟨B, 1, none⟩ v1) F (.pointer (some ⟨B, 0, none⟩)) (some (most, t ++ ts.take (i + 1))) ∧ Fr F w (w1.setCell ⟨B, 1, none⟩ v1))) := Lib.hid (fun v1 w1 ho hg hat => by
        obtain ⟨A1, c1, e1, hc1, hC1⟩ := Kd.R_reads ho
        rw [List.length_append, List.length_singleton, hn0] at e1
        have hne := R_ne75 hR hbox
        have hB1 : w1.heap[B]? = some (.cells #[.int .i64 (most : Int), .slice At n0 ct] 75 (0, 0)) := blk_grown (w := wa.drew) hbox hg (fun e => hne B e.symm rfl)
        have hne1 := R_ne75 ho hB1
        refine ⟨A1, c1, e1, (blk_cell hB1 1).trans rfl, blk_frozen hB1 1, cell_grown hg HKY.out (fun e => hadF (by rw [add_block] at e; exact hR.1 _ e.symm)), ⟨B, v1, rfl, blk_put hB1 1 v1 rfl, hstep ▸ R_same ho (fun k hk => Below.heap_setCell w1 ⟨B, 1, none⟩ v1 k (fun e => hne1 k hk e)), hFB, hm1, hm4, ?_⟩, ?_⟩
        · rw [hstep]; exact Wf.app hwt (fun z hz => by rw [List.mem_singleton.1 hz, ← hy]; exact nth_wf HTS.out i)
        · exact (((HFR.out.trans (Fr.of_below (below_drew (Below.refl wa.heap.size wa)))).trans (Fr.of_grown hg (fun k hk => hR.1 k hk))).set hFB 1 v1))
      have HSTEP := Lib.hid hstep
      clear HI1 htt hbox hR hFB hm1 hm4 hwt hCt hct hn0 hy k0 hadF hstep
      go_wp2_with fail
      refine start_ (n := 14) (S := fun w' => w'.cell? ⟨B, 1, none⟩ = some (.slice At n0 ct) ∧ w'.cell? (ad.add i) = some (.int .i64 y)) (ds := [13]) #[false, false, false, false, false, false, false, false, false, false, false, false, false, false] (by kernel_rfl) rfl rfl ⟨kt, ky⟩ (fun hHeld => ?_)
      refine pure_ (i := 0) (N := some 13) (v := ?_) (a' := ?_) #[true, false, false, false, false, false, false, false, false, false, false, false, false, false] rfl rfl (by kernel_rfl) (fun _ _ _ h => h) (Or.inl ⟨by rfl, ?_⟩) ?_ ?_
      rotate_left
      · intro w'
        go_simp
        with_reducible rfl
      rotate_left
      · simp only [Act.put, List.setIfInBounds_toArray, List.set_cons_zero, List.set_cons_succ, i64_w, i32_w]
        rfl
      refine pure_ (i := 1) (N := some 14) (v := ?_) (a' := ?_) #[true, true, false, false, false, false, false, false, false, false, false, false, false, false] rfl rfl (by kernel_rfl) (fun _ _ _ h => h) (Or.inl ⟨by rfl, ?_⟩) ?_ ?_
      rotate_left
      · intro w'
        go_simp
        with_reducible rfl
      rotate_left
      · simp only [Act.put, List.setIfInBounds_toArray, List.set_cons_zero, List.set_cons_succ, i64_w, i32_w]
        rfl
      refine pure_ (i := 2) (N := some 15) (v := ?_) (a' := ?_) #[true, true, true, false, false, false, false, false, false, false, false, false, false, false] rfl rfl (by kernel_rfl) (fun _ _ _ h => h) (Or.inl ⟨by rfl, ?_⟩) ?_ ?_
      rotate_left
      · intro w'
        go_simp
        with_reducible rfl
      rotate_left
      · simp only [Act.put, List.setIfInBounds_toArray, List.set_cons_zero, List.set_cons_succ, i64_w, i32_w]
        rfl
      refine pure_ (i := 3) (N := some 16) (v := ?_) (a' := ?_) #[true, true, true, true, false, false, false, false, false, false, false, false, false, false] rfl rfl (by kernel_rfl) (fun _ _ _ h => h) (Or.inl ⟨by rfl, ?_⟩) ?_ ?_
      rotate_left
      · intro w'
        go_simp
        with_reducible rfl
      rotate_left
      · simp only [Act.put, List.setIfInBounds_toArray, List.set_cons_zero, List.set_cons_succ, i64_w, i32_w]
        rfl
      refine pure_ (i := 5) (N := some 18) (v := ?_) (a' := ?_) #[true, true, true, true, false, true, false, false, false, false, false, false, false, false] rfl rfl (by kernel_rfl) (fun _ _ _ h => h) (Or.inl ⟨by rfl, ?_⟩) ?_ ?_
      rotate_left
      · intro w'
        go_simp
        with_reducible rfl
      rotate_left
      · simp only [Act.put, List.setIfInBounds_toArray, List.set_cons_zero, List.set_cons_succ, i64_w, i32_w]
        rfl
      refine pure_ (i := 6) (N := some 19) (v := ?_) (a' := ?_) #[true, true, true, true, false, true, true, false, false, false, false, false, false, false] rfl rfl (by kernel_rfl) (fun _ _ _ h => h) (Or.inl ⟨by rfl, ?_⟩) ?_ ?_
      rotate_left
      · intro w'
        go_simp
        with_reducible rfl
      rotate_left
      · simp only [Act.put, List.setIfInBounds_toArray, List.set_cons_zero, List.set_cons_succ, i64_w, i32_w]
        rfl
      refine pure_ (i := 7) (N := some 20) (v := ?_) (a' := ?_) #[true, true, true, true, false, true, true, true, false, false, false, false, false, false] rfl rfl (by kernel_rfl) (fun _ _ _ h => h) (Or.inl ⟨by rfl, ?_⟩) ?_ ?_
      rotate_left
      · intro w'
        go_simp
        with_reducible rfl
      rotate_left
      · simp only [Act.put, List.setIfInBounds_toArray, List.set_cons_zero, List.set_cons_succ, i64_w, i32_w]
        rfl
      refine take_ (i := 4) (N := some 17) (v := ?_) (a' := ?_) #[true, true, true, true, true, true, true, true, false, false, false, false, false, false] rfl rfl (by kernel_rfl) (fun _ _ _ h => h) (Or.inl ⟨by rfl, ?_⟩) hHeld ?_ ?_
      rotate_left
      · rintro w' ⟨s0, s1⟩
        go_simp
        with_reducible rfl
      rotate_left
      · simp only [Act.put, List.setIfInBounds_toArray, List.set_cons_zero, List.set_cons_succ, i64_w, i32_w]
        rfl
      refine take_ (i := 8) (N := some 21) (v := ?_) (a' := ?_) #[true, true, true, true, true, true, true, true, true, false, false, false, false, false] rfl rfl (by kernel_rfl) (fun _ _ _ h => h) (Or.inl ⟨by rfl, ?_⟩) hHeld ?_ ?_
      rotate_left
      · rintro w' ⟨s0, s1⟩
        go_simp
        with_reducible rfl
      rotate_left
      · simp only [Act.put, List.setIfInBounds_toArray, List.set_cons_zero, List.set_cons_succ, i64_w, i32_w]
        rfl
      refine one_ (i := 9) (N := some 22) #[true, true, true, true, true, true, true, true, true, true, false, false, false, false] rfl rfl (by kernel_rfl) (by decide) (fun K hK => ?_)
      refine value_ (w1 := ?_) (v := ?_) (by rfl) rfl ?_ ?_
      rotate_left 2
      · go_simp
        constructor
        · rfl
        · rfl
      refine hK.out _ _ ⟨pw_cell_below (below_alloc (Below.refl wa.drew.heap.size wa.drew) _) kt, pw_cell_below (below_alloc (Below.refl wa.drew.heap.size wa.drew) _) ky⟩ (fun hHeld => ?_)
      clear hK K
      refine norm_ (a' := ?_) ?_ ?_
      rotate_left
      · show Act.put _ (some 22) _ = _
        simp only [Act.put, List.setIfInBounds_toArray, List.set_cons_zero, List.set_cons_succ, i64_w, i32_w]
        rfl
      refine one_ (i := 10) (N := some 23) #[true, true, true, true, true, true, true, true, true, true, true, false, false, false] rfl rfl (by kernel_rfl) (by decide) (fun K hK => ?_)
      refine Kd.R_append_step (P := Try.prog) (Kc := K) (Kd.int .i64) (w0 := wa.drew) (W := wa.drew) 0 ?c1 (.tmp 17) (.tmp 22) 22 3 (.int .i64 0) 8 rfl Try.underlying22 info3 rfl (by decide) (by omega) (.slice At n0 ct) tt y [.int .i64 y] F (fun _ => False) rfl rfl rfl (fun _ h => h.elim) HFF.out HRT.out (Below.refl 0 _) (Nat.zero_le _) HLE.out ?_
      case c1 => rfl
      intro v1 w1 ho hb hg hat
      obtain ⟨A1, c1, rfl, kt1, kf1, ky1, hst⟩ := STEP.out v1 w1 ho hg hat
      have HST := Lib.hid hst
      clear ho hb hg hat hst
      refine hK.out _ _ ⟨kt1, ky1⟩ (fun hHeld => ?_)
      clear hK K
      refine norm_ (a' := ?_) ?_ ?_
      rotate_left
      · show Act.put _ (some 23) _ = _
        simp only [Act.put, List.setIfInBounds_toArray, List.set_cons_zero, List.set_cons_succ, i64_w, i32_w]
        rfl
      refine pure_ (i := 11) (N := some 24) (v := ?_) (a' := ?_) #[true, true, true, true, true, true, true, true, true, true, true, true, false, false] rfl rfl (by kernel_rfl) (fun _ _ _ h => h) (Or.inl ⟨by rfl, ?_⟩) ?_ ?_
      rotate_left
      · intro w'
        go_simp
        with_reducible rfl
      rotate_left
      · simp only [Act.put, List.setIfInBounds_toArray, List.set_cons_zero, List.set_cons_succ, i64_w, i32_w]
        rfl
      refine pure_ (i := 12) (N := some 25) (v := ?_) (a' := ?_) #[true, true, true, true, true, true, true, true, true, true, true, true, true, false] rfl rfl (by kernel_rfl) (fun _ _ _ h => h) (Or.inl ⟨by rfl, ?_⟩) ?_ ?_
      rotate_left
      · intro w'
        go_simp
        with_reducible rfl
      rotate_left
      · simp only [Act.put, List.setIfInBounds_toArray, List.set_cons_zero, List.set_cons_succ, i64_w, i32_w]
        rfl
      refine last_ (i := 13) (N := none) #[true, true, true, true, true, true, true, true, true, true, true, true, true, true] rfl rfl (by kernel_rfl) (by decide) (fun K hK => ?_)
      refine skip_ (w1 := ?_) (by rfl) rfl ?_ ?_
      rotate_left
      · go_simp
        rfl
      refine hK.out _ _ ?_
      clear hK K
      refine done_ (by kernel_rfl) ?_
      obtain ⟨wx, hwx⟩ : ∃ wx, w1.setCell ⟨B, 1, none⟩ (.slice A1 (n0 + 1) c1) = wx := ⟨_, rfl⟩
      have hst := HST.out
      rw [hwx] at hst ⊢
      obtain ⟨s1, s2⟩ := hst
      have S1 := Lib.hid s1
      have S2 := Lib.hid s2
      have HLT := Lib.hid hlt
      clear s1 s2 hwx kt1 kf1 ky1 hHeld HST STEP d1 d1' kt ky q1 q2
      go_wp2_with fail
      exact ⟨⟨i + 1, rfl, by rw [HK.out]; exact HLT.out, S1.out, S2.out⟩, by have := HLT.out; simp [intOf] <;> omega⟩
    · have d1 : decide ((i : Int) < (k : Int)) = false := decide_eq_false (by omega)
      have d1' : decide (i < k) = false := decide_eq_false hlt
      have HI2 : Hid (RSlot wa F (.pointer (some ⟨B, 0, none⟩)) (some (most, t ++ ts))) := Lib.hid (by have := HI1.out; rwa [List.take_of_length_le (by rw [HK.out]; omega)] at this)
      clear HI1 hlt
      go_wp2
      go_end0
      exact ⟨rfl, HI2.out, HFR.out⟩
theorem rappend_slot {w : World} {F : Nat → Prop} {p : Value} {st : Option (Nat × List Int)} {A : Option Addr} {c : Nat} {ts : List Int} (h : RSlot w F p st) (hF : ∀ k, w.heap.size ≤ k → F k) (hts : Wf ts) (hC : Kd.C (Kd.int .i64) w A ts.length ts) (hc : ts.length ≤ c) (hA : ts ≠ [] → ∀ ad, A = some ad → ¬ F ad.block)
    (hl : ((stText st).length + ts.length) * 8 ≤ 140737488355328) :
    Calls Try.prog 24 #[p, .slice A ts.length c] w fun e w' => e = .returned (.tuple #[]) ∧ RSlot w' F p (stApp ts st) ∧ Fr F w w' := by
  cases st with
  | none =>
    obtain rfl : p = .pointer none := h
    go_enter Try.func24, Try.ntmps24
    go_wp2
    exact bodyPost_ret (results_none rfl _ _ _) rfl ⟨rfl, rfl, Fr.refl _ _⟩
  | some s =>
    have h0 := h
    obtain ⟨B, tv, rfl, h2⟩ := h
    exact rappend_some w hF h0 hts hC hc hA hl
theorem R_F {w w1 : World} {F : Nat → Prop} {v : Value} {xs : List Int} (h : Kd.R (Kd.int .i64) 3 w1 w.heap.size (fun _ => True) v xs) (hF : ∀ k, w.heap.size ≤ k → F k) : Kd.R (Kd.int .i64) 3 w1 0 F v xs :=
  Kd.R_reok rfl (Kd.R_raise (b := w.heap.size) (b' := 0) (fun _ _ _ _ hm => hm) h (fun _ _ => Nat.zero_le _)) (fun k hk => hF k (Kd.R_base h k hk))
set_option maxHeartbeats 2000000 in
theorem rcut_some {F : Nat → Prop} {B most : Nat} {t : List Int} {n : Int} (w : World) (hF : ∀ k, w.heap.size ≤ k → F k) (hI : RSlot w F (.pointer (some ⟨B, 0, none⟩)) (some (most, t))) (hl : t.length ≤ 17592186044416) :
    Calls Try.prog 27 #[.pointer (some ⟨B, 0, none⟩), .int .i64 n] w fun e w' => e = .returned (.tuple #[]) ∧ RSlot w' F (.pointer (some ⟨B, 0, none⟩)) (some (most, t.take n.toNat)) ∧ Fr F w w' := by
  have HF := Lib.hid hF
  have HI := Lib.hid hI
  obtain ⟨B', tv, hB', hbox, hR, hFB, hm1, hm4, hwt⟩ := hI
  injection hB' with hB'
  injection hB' with hB'
  injection hB' with hB'
  subst hB'
  obtain ⟨At, ct, eAt, hct, hCt⟩ := Kd.R_reads hR
  subst eAt
  have kt : w.cell? ⟨B, 1, none⟩ = some (.slice At t.length ct) := (blk_cell hbox 1).trans rfl
  by_cases hn : (t.length : Int) ≤ n
  · have d1 : decide ((t.length : Int) ≤ n) = true := decide_eq_true hn
    have HE : Hid (RSlot w F (.pointer (some ⟨B, 0, none⟩)) (some (most, t.take n.toNat))) := Lib.hid (by rw [List.take_of_length_le (by omega)]; exact HI.out)
    clear hF hbox hR hct hCt HI hn
    go_enter Try.func27, Try.ntmps27
    go_wp2
    exact bodyPost_ret (results_none rfl _ _ _) rfl ⟨rfl, HE.out, Fr.refl _ _⟩
  · have d1 : decide ((t.length : Int) ≤ n) = false := decide_eq_false hn
    obtain ⟨m, hm⟩ : ∃ m, n.toNat = m := ⟨_, rfl⟩
    rw [hm]
    have hmt : m ≤ t.length := by omega
    obtain ⟨i0, hi0, _, hsz, _⟩ := info_parts info3
    have hcut := cut_to (P := Try.prog) 22 3 .i64 Try.underlying22 hi0 At t.length ct (m : Int) (by omega) (by omega) hct
    rw [Int.toNat_natCast] at hcut
    have hcut0 := cut_to (P := Try.prog) 22 3 .i64 Try.underlying22 hi0 At t.length ct (0 : Int) (by omega) (by omega) hct
    have hCm := Kd.C_take hCt hmt
    have hlm : (t.take m).length = m := by rw [List.length_take]; omega
    have HCM : Hid (∀ w', Below w.heap.size w w' → Calls Try.prog 34 #[.slice At m ct] w' fun e w2 => ∃ A' c', e = .returned (.slice A' m c') ∧ Kd.R (Kd.int .i64) 3 w2 w'.heap.size (fun _ => True) (.slice A' m c') (t.take m) ∧ Below w'.heap.size w' w2) := Lib.hid (fun w' hb => by
      have := copy_calls (w := w') (A := At) (c := ct) (t := t.take m) (Kd.C_below hCm hb) (by rw [hlm]; omega) (by rw [hlm]; omega)
      rw [hlm] at this
      exact this)
    have HBOX := Lib.hid hbox
    have HR := Lib.hid hR
    have HWT := Lib.hid hwt
    have HM := Lib.hid hm
    clear hF HI hbox hR hct hCt hCm hlm hi0 hsz hwt
    go_enter Try.func27, Try.ntmps27
    go_upto_if 16 with (fail)
    go_cut [1] (fun s1 wx => w = wx ∧ s1 = .int .i64 m)
    case first =>
      by_cases c1 : n < 0
      · rw [decide_eq_true c1]
        have hm0 : m = 0 := by omega
        subst hm0
        clear hm c1 d1 hn
        go_wp2_with fail
        all_goals go_meet
        all_goals exact ⟨rfl, rfl⟩
      · rw [decide_eq_false c1]
        have hnm : n = (m : Int) := by omega
        subst hnm
        clear hm c1 d1 hn
        go_wp2_with fail
        all_goals go_meet
        all_goals exact ⟨rfl, rfl⟩
    case rest =>
    obtain ⟨rfl, rfl⟩ := hcut
    go_wp2_with fail
    refine (HCM.out _ (Below.refl _ _)).mono ?_
    rintro e w2 ⟨A', c', rfl, hR2, hb⟩
    have hbox2 := blk_below HBOX.out hb
    have kf2 := blk_frozen hbox2 1
    have kt2 : w2.cell? ⟨B, 1, none⟩ = some (.slice At t.length ct) := (blk_cell hbox2 1).trans rfl
    have hR3 := R_F hR2 HF.out
    have hne := R_ne75 hR3 hbox2
    have hfin : RSlot (w2.setCell ⟨B, 1, none⟩ (.slice A' m c')) F (.pointer (some ⟨B, 0, none⟩)) (some (most, t.take m)) := ⟨B, _, rfl, blk_put hbox2 1 _ rfl, R_same hR3 (fun k hk => Below.heap_setCell w2 ⟨B, 1, none⟩ _ k (fun e => hne k hk e)), hFB, hm1, hm4, Wf.take HWT.out _⟩
    have HFIN := Lib.hid hfin
    have HFR2 := Lib.hid ((Fr.of_below hb).set (F := F) hFB 1 (.slice A' m c'))
    clear hR2 hb hbox2 hR3 hne hfin hcut0
    go_wp2_with fail
    go_end0
    exact ⟨rfl, HFIN.out, HFR2.out⟩
theorem rcut_slot {w : World} {F : Nat → Prop} {p : Value} {st : Option (Nat × List Int)} {n : Int} (h : RSlot w F p st) (hF : ∀ k, w.heap.size ≤ k → F k) (hl : (stText st).length ≤ 17592186044416) :
    Calls Try.prog 27 #[p, .int .i64 n] w fun e w' => e = .returned (.tuple #[]) ∧ RSlot w' F p (stCut n st) ∧ Fr F w w' := by
  cases st with
  | none =>
    obtain rfl : p = .pointer none := h
    go_enter Try.func27, Try.ntmps27
    go_wp2
    exact bodyPost_ret (results_none rfl _ _ _) rfl ⟨rfl, rfl, Fr.refl _ _⟩
  | some s =>
    have h0 := h
    obtain ⟨B, tv, rfl, h2⟩ := h
    exact rcut_some w hF h0 hl
theorem rappend_fr {base : Nat} {w w1 : World} {p : Value} {st : Option (Nat × List Int)} {Q : Asr} {A : Option Addr} {c : Nat} {ts : List Int} (hQ : Asr.Ok Q) (h : Stt base w (Star (RSlotA p st) Q)) (hb : Below w.heap.size w w1) (hbase : base ≤ w.heap.size)
    (hts : Wf ts) (hC : Kd.C (Kd.int .i64) w1 A ts.length ts) (hc : ts.length ≤ c) (hA : ts ≠ [] → Away base w w1 A) (hl : ((stText st).length + ts.length) * 8 ≤ 140737488355328) :
    Calls Try.prog 24 #[p, .slice A ts.length c] w1 fun e w' => e = .returned (.tuple #[]) ∧ Stt base w' (Star (RSlotA p (stApp ts st)) Q) ∧ Below base w1 w' :=
  Stt.frame (RSlotA.ok _ _) (RSlotA.ok _ _) hQ h hb hbase fun F hp h1 h2 => rappend_slot hp h1 hts hC hc (fun hn ad e hf => by
    obtain ⟨a, b⟩ := hA hn ad e
    rcases h2 _ hf with h2 | h2 <;> omega) hl
theorem rcut_fr {base : Nat} {w w1 : World} {p : Value} {st : Option (Nat × List Int)} {Q : Asr} {n : Int} (hQ : Asr.Ok Q) (h : Stt base w (Star (RSlotA p st) Q)) (hb : Below w.heap.size w w1) (hbase : base ≤ w.heap.size) (hl : (stText st).length ≤ 17592186044416) :
    Calls Try.prog 27 #[p, .int .i64 n] w1 fun e w' => e = .returned (.tuple #[]) ∧ Stt base w' (Star (RSlotA p (stCut n st)) Q) ∧ Below base w1 w' :=
  Stt.frame (RSlotA.ok _ _) (RSlotA.ok _ _) hQ h hb hbase fun F hp h1 _ => rcut_slot hp h1 hl
end Go.Proofs.Ytjeofkobefeigaa.Wk
/- The walk of the document's Places. -/
namespace Go.Proofs.Ytjeofkobefeigaa.Wk
open Go.RowKit Go.Shelf Go.Proofs.YtjeofkobefeigaaW.PrintWords Go.Proofs.YtjeofkobefeigaaW.PrintLast Go.Proofs.YtjeofkobefeigaaW.PrintMore Go.Proofs.Ytjeofkobefeigaa.Mp Go.Proofs.Ytjeofkobefeigaa.PEqRaw

/-- The places q.. of those below n ahead of which the run of l tokens stands, the latest first. -/
def downQ (t : List Int) (l q : Nat) : List Int := (((placesAt t l).filter (fun p => decide (q ≤ p))).map fun p : Nat => (p : Int)).reverse
theorem filter_ge_nil {l : List Nat} {q n : Nat} (h : ∀ p ∈ l, p < n) (hq : n ≤ q) : l.filter (fun p => decide (q ≤ p)) = [] := by
  rw [List.filter_eq_nil_iff]
  intro p hp
  have := h p hp
  simp
  omega
theorem placesAt_lt {t : List Int} {l p : Nat} (h : p ∈ placesAt t l) : p < t.length := (alikeB_lt (placesAt_mem h)).2
theorem downQ_end (t : List Int) (l : Nat) {q : Nat} (h : t.length ≤ q) : downQ t l q = [] := by
  unfold downQ
  rw [filter_ge_nil (fun p hp => placesAt_lt hp) h]
  rfl
theorem filter_range_step (f : Nat → Bool) (q : Nat) : ∀ n, q < n → ((List.range n).filter f).filter (fun p => decide (q ≤ p)) = (if f q = true then [q] else []) ++ ((List.range n).filter f).filter (fun p => decide (q + 1 ≤ p))
  | 0, h => absurd h (by omega)
  | n + 1, h => by
    rw [List.range_succ, List.filter_append, List.filter_append, List.filter_append]
    by_cases c : q = n
    · subst c
      have h1 : ((List.range q).filter f).filter (fun p => decide (q ≤ p)) = [] := filter_ge_nil (fun p hp => List.mem_range.1 (List.mem_filter.1 hp).1) (Nat.le_refl _)
      have h2 : ((List.range q).filter f).filter (fun p => decide (q + 1 ≤ p)) = [] := filter_ge_nil (n := q) (fun p hp => List.mem_range.1 (List.mem_filter.1 hp).1) (by omega)
      rw [h1, h2]
      by_cases d : f q = true
      · simp [d]
      · simp [d]
    · rw [filter_range_step f q n (by omega), List.append_assoc]
      congr 2
      by_cases d : f n = true
      · rw [show [n].filter f = [n] by simp [d], List.filter_cons_of_pos (by simp; omega), List.filter_cons_of_pos (by simp; omega)]
        rfl
      · simp [d]
theorem downQ_step {t : List Int} {l q : Nat} (h : q < t.length) : downQ t l q = downQ t l (q + 1) ++ (if alikeB t q l = true then [(q : Int)] else []) := by
  unfold downQ placesAt
  rw [filter_range_step (fun p => alikeB t p l) q t.length h, List.map_append, List.reverse_append]
  congr 1
  by_cases c : alikeB t q l = true
  · simp [c]
  · simp [c]
theorem downQ_low {t : List Int} {l q : Nat} (h : q ≤ l) : downQ t l q = ((placesAt t l).map fun p : Nat => (p : Int)).reverse := by
  unfold downQ
  rw [List.filter_eq_self.2 (fun p hp => decide_eq_true (Nat.le_trans h (alikeB_lt (placesAt_mem hp)).1))]
theorem downQ_length (t : List Int) (l q : Nat) : (downQ t l q).length ≤ t.length := by
  unfold downQ
  rw [List.length_reverse, List.length_map]
  refine Nat.le_trans (List.length_filter_le _ _) ?_
  unfold placesAt
  exact Nat.le_trans (List.length_filter_le _ _) (by rw [List.length_range]; exact Nat.le_refl _)
/-- What the document tells of runs of up to l tokens. -/
def rlN (t : List Int) : Nat → List Int
  | 0 => []
  | l + 1 => if downQ t (l + 1) (l + 1) = [] then rlN t l else downQ t (l + 1) (l + 1)
theorem rlN_eq (t : List Int) : ∀ l, rlN t l = (plAt t (longestN t l)).reverse
  | 0 => rfl
  | l + 1 => by
    unfold rlN longestN
    rw [downQ_low (Nat.le_refl _)]
    by_cases c : hasQ t (l + 1) t.length = true
    · rw [if_pos c, plAt_cons (by omega), if_neg]
      intro h
      exact hasQ_iff.1 c (by simpa using h)
    · rw [if_neg c, if_pos, rlN_eq t l]
      have : placesAt t (l + 1) = [] := Classical.byContradiction fun hh => c (hasQ_iff.2 hh)
      rw [this]
      rfl
theorem rlN_places (most : Nat) (t : List Int) : rlN t most = (stPl (some (most, t))).reverse := by
  rw [rlN_eq]
  show _ = (placesL most t).reverse
  rw [placesL_eq]
theorem cut_runs {w : World} {A : Option Addr} {c q l : Nat} {t : List Int} (hC : Kd.C (Kd.int .i64) w A t.length t) (hc : t.length ≤ c) (c1 : l ≤ q) (c2 : q < t.length) :
    ∃ (A1 A2 : Option Addr) (n1 n2 x1 x2 lo L : Nat), (q : Int) - (l : Int) = (lo : Int) ∧ (t.length : Int) - (l : Int) = (L : Int) ∧ lo ≤ q ∧ L ≤ t.length ∧
      (∀ W : World, (Instr.slice 22 (.slice A t.length c) (some (.int .i64 (lo : Int))) (some (.int .i64 (q : Int))) none).run Try.prog W = .ok (.slice A1 n1 x1) W) ∧
      (∀ W : World, (Instr.slice 22 (.slice A t.length c) (some (.int .i64 (L : Int))) none none).run Try.prog W = .ok (.slice A2 n2 x2) W) ∧
      (∀ w' : World, Below w.heap.size w w' → Calls Try.prog 30 #[.slice A1 n1 x1, .slice A2 n2 x2] w' fun e w2 => e = .returned (.bool (alikeB t q l)) ∧ Drawn0 w' w2) := by
  obtain ⟨L, hL⟩ : ∃ L, t.length - l = L := ⟨_, rfl⟩
  obtain ⟨lo, hlo⟩ : ∃ lo, q - l = lo := ⟨_, rfl⟩
  obtain ⟨i0, hi0, _, hsz, _⟩ := info_parts info3
  have hcut1 := cut_mid (P := Try.prog) 22 3 .i64 .i64 Try.underlying22 hi0 1 hsz A t.length c (lo : Int) (q : Int) (by omega) (by omega) (by omega) hc
  have hcut2 := cut_from (P := Try.prog) 22 3 .i64 Try.underlying22 hi0 1 hsz A t.length c (L : Int) (by omega) (by omega)
  have hC1 := Kd.C_mid (k := Kd.int .i64) (xs := t) (c := c) (lo := lo) (hi := q) hC (by omega) (by omega) hc
  have hC2 := Kd.C_mid (k := Kd.int .i64) (xs := t) (c := c) (lo := L) (hi := t.length) hC (by omega) (by omega) hc
  obtain ⟨g1, hg1⟩ : ∃ g, gramAt t q l = g := ⟨_, rfl⟩
  obtain ⟨g2, hg2⟩ : ∃ g, gramAt t t.length l = g := ⟨_, rfl⟩
  rw [show (t.take q).drop lo = g1 by rw [← hg1, ← hlo]; rfl] at hC1
  rw [show (t.take t.length).drop L = g2 by rw [← hg2, ← hL]; rfl] at hC2
  have hl1 : q - lo = g1.length := by rw [← hg1, gramAt_length c1 (by omega)]; omega
  have hl2 : t.length - L = g2.length := by rw [← hg2, gramAt_length (by omega) (Nat.le_refl _)]; omega
  rw [Int.toNat_natCast, Int.toNat_natCast, hl1] at hcut1
  rw [Int.toNat_natCast, hl2] at hcut2
  refine ⟨_, _, _, _, _, _, lo, L, by omega, by omega, by omega, by omega, hcut1, hcut2, fun w' hb => ?_⟩
  have hres : alikeB t q l = decide (g1 = g2) := by unfold alikeB; rw [hg1, hg2]; exact decide_eq_decide.2 ⟨fun h => h.2.2, fun h => ⟨c1, c2, h⟩⟩
  rw [hres]
  exact eqints_calls (w := w') (Kd.C_below hC1 hb) (by omega) (Kd.C_below hC2 hb) (by omega)
/-- Outer loop: runs of more than l tokens have no place. -/
def RpRel (w : World) (most : Nat) (t : List Int) (s4 : Value) (wr : World) : Prop :=
  ∃ l : Nat, s4 = .int .i64 l ∧ l ≤ most ∧ rlN t most = rlN t l ∧ Below w.heap.size w wr
def RqRel (w : World) (t : List Int) (l : Nat) (s5 s6 : Value) (wr : World) : Prop :=
  ∃ (q : Nat) (v : Value), s6 = .int .i64 ((q : Int) - 1) ∧ s5 = v ∧ (l ≤ q ∨ t.length ≤ q) ∧ q ≤ t.length ∧ Kd.R (Kd.int .i64) 3 wr w.heap.size (fun _ => True) v (downQ t l q) ∧ Below w.heap.size w wr
set_option maxHeartbeats 4000000 in
set_option maxRecDepth 100000 in
theorem rplaces_some {F : Nat → Prop} {B most : Nat} {t : List Int} (w : World) (hI : RSlot w F (.pointer (some ⟨B, 0, none⟩)) (some (most, t))) (hl : t.length * 8 ≤ 140737488355328) :
    Calls Try.prog 29 #[.pointer (some ⟨B, 0, none⟩)] w fun e w' => ∃ v, e = .returned v ∧ Kd.R (Kd.int .i64) 3 w' w.heap.size (fun _ => True) v (rlN t most) ∧ Below w.heap.size w w' := by
  obtain ⟨B', tv, hB', hbox, hR, hFB, hm1, hm4, hwt⟩ := hI
  injection hB' with hB'
  injection hB' with hB'
  injection hB' with hB'
  subst hB'
  obtain ⟨At, ct, eAt, hct, hCt⟩ := Kd.R_reads hR
  subst eAt
  have km : w.cell? ⟨B, 0, none⟩ = some (.int .i64 (most : Int)) := (blk_cell hbox 0).trans rfl
  have kt : w.cell? ⟨B, 1, none⟩ = some (.slice At t.length ct) := (blk_cell hbox 1).trans rfl
  have HBOX := Lib.hid hbox
  have HC := Lib.hid hCt
  have HCT := Lib.hid hct
  have HLL := Lib.hid hl
  clear hbox hR hct hCt hl hwt
  go_enter Try.func29, Try.ntmps29
  go_wp2_with fail
  clear km kt
  go_loopw [4] (fun x wr => RpRel w most t x wr) (fun x _ => (intOf x).toNat)
  case atStart => exact ⟨most, rfl, Nat.le_refl _, rfl, Below.refl _ _⟩
  case round =>
    obtain ⟨l, rfl, hlm, hrl, hb⟩ := hrel
    rename World => wa
    have HRL := Lib.hid hrl
    have HB := Lib.hid hb
    clear hrl hb
    have hLm : (t.length : Int) ≤ 17592186044416 := by have := HLL.out; omega
    by_cases hl0 : l = 0
    · have d1 : decide ((0 : Int) < (l : Int)) = false := decide_eq_false (by omega)
      have d1' : decide (0 < l) = false := decide_eq_false (by omega)
      have HL0 := Lib.hid hl0
      clear hl0
      go_wp2_with fail
      go_ret
      exact ⟨_, rfl, by rw [HRL.out, HL0.out]; exact Kd.R_nil _ _ _ _ _, HB.out⟩
    · have d1 : decide ((0 : Int) < (l : Int)) = true := decide_eq_true (by omega)
      have d1' : decide (0 < l) = true := decide_eq_true (by omega)
      have HL0 : Hid (1 ≤ l) := Lib.hid (by omega)
      have HLM := Lib.hid hlm
      clear hl0
      go_wp2_with fail
      go_loopw [5, 6] (fun x y wr => RqRel w t l x y wr) (fun _ y _ => (intOf y + 1).toNat)
      case atStart => exact ⟨t.length, _, by first | rfl | (rw [IntWalk.wrap64_in _ (by omega)]), rfl, .inr (Nat.le_refl _), Nat.le_refl _, by rw [downQ_end t l (Nat.le_refl _)]; exact Kd.R_nil _ _ _ _ _, HB.out⟩
      case round =>
        obtain ⟨q, v, rfl, rfl, hq1, hq2, hRv, hb⟩ := hrel
        rename World => wb
        have HRV := Lib.hid hRv
        have HB2 := Lib.hid hb
        clear hRv hb d1 d1'
        obtain ⟨Av, cv, ev, hcv, hCv⟩ := Kd.R_reads HRV.out
        obtain ⟨nv, hnv⟩ : ∃ nv, (downQ t l q).length = nv := ⟨_, rfl⟩
        rw [hnv] at ev
        subst ev
        have HNV := Lib.hid hnv
        clear hcv hCv hnv
        by_cases hlt : l < q
        · obtain ⟨p, hp⟩ : ∃ p, q = p + 1 := ⟨q - 1, by omega⟩
          subst hp
          have hpq : ((p + 1 : Nat) : Int) - 1 = (p : Int) := by omega
          rw [hpq]
          have d2 : decide ((l : Int) ≤ (p : Int)) = true := decide_eq_true (by omega)
          have d2' : decide (l ≤ p) = true := decide_eq_true (by omega)
          have kt : wb.cell? ⟨B, 1, none⟩ = some (.slice At t.length ct) := (blk_cell (blk_below HBOX.out HB2.out) 1).trans rfl
          obtain ⟨A1, A2, n1, n2, x1, x2, lo, L, e1, e2, g1, g2, hcut1, hcut2, hcall⟩ := cut_runs (q := p) (l := l) HC.out HCT.out (by omega) (by omega)
          have w1 : wrap64 ((p : Int) - (l : Int)) = (lo : Int) := by rw [IntWalk.wrap64_in _ (by omega)]; exact e1
          have w1' : IntKind.i64.wrap ((p : Int) - (l : Int)) = (lo : Int) := by rw [IntWalk.i64_in _ (by omega)]; exact e1
          have w2 : wrap64 ((t.length : Int) - (l : Int)) = (L : Int) := by rw [IntWalk.wrap64_in _ (by omega)]; exact e2
          have w2' : IntKind.i64.wrap ((t.length : Int) - (l : Int)) = (L : Int) := by rw [IntWalk.i64_in _ (by omega)]; exact e2
          have HCALL := Lib.hid hcall
          have hst := downQ_step (t := t) (l := l) (q := p) (by omega)
          have HQ2 := Lib.hid hq2
          have HLT : Hid (l ≤ p) := Lib.hid (by omega)
          have hpm : (p : Int) ≤ 17592186044416 := by omega
          clear hcall hlt hq1 e1 e2 g1 g2 hpq
          cases hal : alikeB t p l
          · rw [hal] at hst
            rw [if_neg (by simp), List.append_nil] at hst
            have HST := Lib.hid hst
            have HAL := Lib.hid hal
            clear hst hal hq2
            go_wp2_with fail
            go_quiet ((go_at_call 30; refine (HCALL.out _ (HB2.out.trans ((Drawn0.below (w := wb) ⟨⟨_, rfl⟩⟩).mono HB2.out.size))).mono ?_; rintro e w' ⟨rfl, ⟨nd, rfl⟩⟩; rw [HAL.out]; first | exact ⟨rfl, _, World.drewN_drewN _ _ _⟩ | exact ⟨rfl, _, Eq.trans (World.drewN_drewN _ _ _) (congrArg (World.drewN _) (Nat.add_assoc _ _ _))⟩))
            have hd : Below wb.heap.size wb (wb.drewN nq) := Drawn0.below ⟨⟨_, rfl⟩⟩
            have HR3 := Lib.hid (Kd.R_below HRV.out hd)
            have HB3 := Lib.hid (HB2.out.trans (hd.mono HB2.out.size))
            clear hd
            go_wp2_with fail
            exact ⟨⟨p, _, rfl, rfl, .inl HLT.out, by have := HQ2.out; omega, by rw [HST.out]; exact HR3.out, HB3.out⟩, by simp [intOf] <;> omega⟩
          · rw [hal] at hst
            rw [if_pos rfl] at hst
            have HST := Lib.hid hst
            have HAL := Lib.hid hal
            clear hst hal hq2
            go_wp2_with fail
            go_quiet ((go_at_call 30; refine (HCALL.out _ (HB2.out.trans ((Drawn0.below (w := wb) ⟨⟨_, rfl⟩⟩).mono HB2.out.size))).mono ?_; rintro e w' ⟨rfl, ⟨nd, rfl⟩⟩; rw [HAL.out]; first | exact ⟨rfl, _, World.drewN_drewN _ _ _⟩ | exact ⟨rfl, _, Eq.trans (World.drewN_drewN _ _ _) (congrArg (World.drewN _) (Nat.add_assoc _ _ _))⟩))
            have hd : Below wb.heap.size wb (wb.drewN nq) := Drawn0.below ⟨⟨_, rfl⟩⟩
            have HR3 := Lib.hid (Kd.R_below HRV.out hd)
            have HB3 := Lib.hid (HB2.out.trans (hd.mono HB2.out.size))
            have HLN : Hid (((downQ t l (p + 1)).length + 1) * 8 ≤ 140737488355328) := Lib.hid (by
              have h1 := downQ_length t l p
              rw [HST.out, List.length_append, List.length_singleton] at h1
              have := HLL.out
              omega)
            clear hd
            go_wp2_with (first | ((with_reducible refine gate_builtin (b := .append) (xs := #[.tmp 49, .tmp 51]) rfl ?_); at_builtin; refine Kd.R_append (Kd.int .i64) (w0 := w) (W := wb.drewN nq) w.heap.size rfl (.tmp 49) (.tmp 51) 22 3 (.int .i64 0) 8 rfl Try.underlying22 info3 rfl (by decide) (by omega) (.slice Av nv cv) (downQ t l (p + 1)) (p : Int) [.int .i64 (p : Int)] (fun _ => True) (fun _ => False) rfl rfl rfl (fun _ h => h.elim) (fun _ _ => trivial) HR3.out HB3.out HB3.out.size HLN.out ?_; intro v1 w8 ho hb hg hat; have HO := Lib.hid ho; have HB8 := Lib.hid hb; clear ho hb hg hat))
            exact ⟨⟨p, _, rfl, rfl, .inl HLT.out, by have := HQ2.out; omega, by rw [HST.out]; exact HO.out, HB8.out⟩, by simp [intOf] <;> omega⟩
        · have d2 : decide ((l : Int) ≤ (q : Int) - 1) = false := decide_eq_false (by omega)
          have hdq : downQ t l q = downQ t l l := by
            by_cases c : q = l
            · rw [c]
            · rw [downQ_end t l (by omega), downQ_end t l (by omega)]
          obtain ⟨l0, hl0⟩ : ∃ l0, l = l0 + 1 := ⟨l - 1, by have := HL0.out; omega⟩
          by_cases hnv : nv = 0
          · have d3 : decide ((0 : Int) < (nv : Int)) = false := decide_eq_false (by omega)
            have d3' : decide (0 < nv) = false := decide_eq_false (by omega)
            have hnil : downQ t l q = [] := List.eq_nil_of_length_eq_zero (by rw [HNV.out]; exact hnv)
            have HRN : Hid (rlN t most = rlN t l0) := Lib.hid (by
              have h1 := HRL.out
              rw [hdq] at hnil
              subst hl0
              rw [h1, rlN, if_pos hnil])
            have HL1 := Lib.hid hl0
            clear hnil hdq hlt hq1 hq2 hnv hl0
            go_wp2_with fail
            exact ⟨⟨l0, by have := HL1.out; congr 1; omega, by have := HL1.out; have := HLM.out; omega, HRN.out, HB2.out⟩, by have := HL1.out; simp [intOf] <;> omega⟩
          · have d3 : decide ((0 : Int) < (nv : Int)) = true := decide_eq_true (by omega)
            have d3' : decide (0 < nv) = true := decide_eq_true (by omega)
            have HRN : Hid (rlN t most = downQ t l q) := Lib.hid (by
              have h1 := HRL.out
              have h2 : downQ t l q ≠ [] := fun h => hnv (by rw [← HNV.out, h]; rfl)
              rw [hdq] at h2 ⊢
              subst hl0
              rw [h1, rlN, if_neg h2])
            clear hdq hlt hq1 hq2 hnv hl0
            go_wp2_with fail
            go_ret
            exact ⟨_, rfl, by rw [HRN.out]; exact HRV.out, HB2.out⟩
theorem rplaces_slot {w : World} {F : Nat → Prop} {p : Value} {st : Option (Nat × List Int)} (h : RSlot w F p st) (hl : (stText st).length * 8 ≤ 140737488355328) :
    Calls Try.prog 29 #[p] w fun e w' => ∃ v, e = .returned v ∧ Kd.R (Kd.int .i64) 3 w' w.heap.size (fun _ => True) v (stPl st).reverse ∧ Below w.heap.size w w' := by
  cases st with
  | none =>
    obtain rfl : p = .pointer none := h
    go_enter Try.func29, Try.ntmps29
    go_wp2
    go_ret
    exact ⟨_, rfl, Kd.R_nil _ _ _ _ _, Below.refl _ _⟩
  | some s =>
    have h0 := h
    obtain ⟨B, tv, rfl, h2⟩ := h
    rw [show stPl (some s) = stPl (some (s.1, s.2)) from rfl, ← rlN_places]
    exact rplaces_some w h0 hl
end Go.Proofs.Ytjeofkobefeigaa.Wk
