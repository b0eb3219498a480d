/- The walk of NgramTold. -/
import Derived.Test.YtjeofkobefeigaaPm
import Derived.Test.YtjeofkobefeigaaPgramx1
set_option linter.unusedVariables false
set_option linter.unusedSimpArgs false
namespace Go.Proofs.Ytjeofkobefeigaa.Wk
open Go.RowKit Go.Shelf Go.Proofs.YtjeofkobefeigaaW.PrintWords Go.Proofs.YtjeofkobefeigaaW.PrintLast Go.Proofs.YtjeofkobefeigaaW.PrintMore Go.Proofs.Ytjeofkobefeigaa.Mp Go.Proofs.Ytjeofkobefeigaa.PEqRaw Go.Proofs.Ytjeofkobefeigaa.Pgram

/-- A number brought to 1 to 4. -/
def gramN (n : Int) : Nat := (n % 4).toNat + 1
theorem gramN_le (n : Int) : 1 ≤ gramN n ∧ gramN n ≤ 4 := by unfold gramN; omega
theorem gram_f (n : Int) : augurlaw13_gram.f n = some (gramN n : Int) := by
  unfold augurlaw13_gram.f gramN
  have h := Int.tmod_eq_emod (a := n) (b := 4)
  by_cases c : Int.tmod n 4 < 0
  · rw [if_pos c, IntWalk.wrap64_in (Int.tmod n 4 + 4) (by have := Int.lt_tmod_of_pos n (show (0 : Int) < 4 by omega); omega), IntWalk.wrap64_in _ (by have := Int.lt_tmod_of_pos n (show (0 : Int) < 4 by omega); omega)]
    congr 1
    simp only [Int.natAbs] at h
    split at h <;> omega
  · rw [if_neg c, IntWalk.wrap64_in _ (by have := Int.tmod_lt_of_pos n (show (0 : Int) < 4 by omega); omega)]
    congr 1
    simp only [Int.natAbs] at h
    split at h <;> omega
theorem gram_calls (n : Int) (w : World) : Calls Try.prog 12 #[.int .i64 n] w fun e w' => e = .returned (.int .i64 (gramN n : Nat)) ∧ Drawn0 w w' := augurlaw13_gram.calls n _ w (gram_f n)
def T1Rel (w : World) (t : List Int) (r : Nat) (s10 s11 : Value) (wr : World) : Prop :=
  ∃ q : Nat, s11 = .int .i64 q ∧ 1 ≤ q ∧ (q ≤ t.length ∨ q = 1) ∧ s10 = .int .i64 (cntQ t r q : Nat) ∧ Drawn0 w wr
def T2Rel (w : World) (n : Nat) (s12 : Value) (wr : World) : Prop :=
  ∃ i : Nat, s12 = .int .i64 i ∧ i ≤ n ∧ Drawn0 w wr
set_option maxHeartbeats 4000000 in
theorem told_calls {w : World} {A : Option Addr} {c : Nat} {n : Int} {t : List Int} (hC : Kd.C (Kd.int .i64) w A t.length t) (hc : t.length ≤ c) (ht : Wf t) (hl : t.length * 8 ≤ 140737488355328) :
    Calls Try.prog 3 #[.int .i64 n, .slice A t.length c] w fun e w' => e = .returned (.bool true) ∧ Below w.heap.size w w' := by
  obtain ⟨g1, g4⟩ := gramN_le n
  have HC := Lib.hid hC
  have HT := Lib.hid ht
  have HLL := Lib.hid hl
  have HCC := Lib.hid hc
  clear hC ht hl hc
  go_enter Try.func3, Try.ntmps3
  go_wp2_with (first | (go_at_call 11; refine (works_calls _).mono ?_; rintro e w1 ⟨rfl, hb1⟩) | (go_at_call 12; refine (gram_calls _ _).mono ?_; rintro e w2 ⟨rfl, hd2⟩) | (fail))
  have hb2 := hb1.trans (hd2.below.mono hb1.size)
  have HB2 := Lib.hid hb2
  clear hb1 hd2 hb2
  obtain ⟨most, hm⟩ : ∃ most, gramN n = most := ⟨_, rfl⟩
  rw [hm] at g1 g4 ⊢
  clear hm
  refine (begun_calls g1 g4 (Kd.C_below HC.out HB2.out) HCC.out HT.out HLL.out).mono ?_
  rintro e w3 ⟨B, rfl, hS, hb⟩
  have HS := Lib.hid hS
  have HB3 := Lib.hid (HB2.out.trans (hb.mono HB2.out.size))
  clear hS hb HB2
  go_wp2_with fail
  refine (places_slot (most := 0) HS.out HLL.out).mono ?_
  rintro e w4 ⟨v, rfl, hR, hb⟩
  obtain ⟨r, hr⟩ : ∃ r, longestN t most = r := ⟨_, rfl⟩
  have hr4 : r ≤ 4 := by have := longestN_le t most; omega
  have hpl : firstL (stPl (some (most, t))).reverse 0 = (plAt t r).reverse := by
    rw [← hr]
    show (placesL most t).reverse = _
    rw [placesL_eq]
  rw [hpl] at hR
  obtain ⟨Al, cl, rfl, hcl, hCl⟩ := Kd.R_reads hR
  obtain ⟨pl, hpp⟩ : ∃ pl, (plAt t r).reverse = pl := ⟨_, rfl⟩
  rw [hpp] at hCl hcl ⊢
  have HP := Lib.hid hpp
  have HR := Lib.hid hr
  have HCl := Lib.hid hCl
  have HCLL := Lib.hid hcl
  have HS4 := Lib.hid (HS.out.below hb)
  have HB4 := Lib.hid (HB3.out.trans (hb.mono HB3.out.size))
  clear hR hCl hcl hb hpl hpp hr HS HB3
  go_wp2_with fail
  refine (longest_calls (Kd.C_below HC.out HB4.out) HCC.out g4 (by have := HLL.out; omega)).mono ?_
  rintro e w5 ⟨rfl, hd⟩
  rw [HR.out]
  have HB5 := Lib.hid (HB4.out.trans (hd.below.mono HB4.out.size))
  have HCl5 := Lib.hid (Kd.C_below HCl.out hd.below)
  have HS5 := Lib.hid (HS4.out.below hd.below)
  clear hd HB4 HCl HS4
  go_wp2_with fail
  go_loopw [10, 11] (fun x y wr => T1Rel w5 t r x y wr) (fun _ y _ => t.length + 1 - (intOf y).toNat)
  case atStart => exact ⟨1, rfl, Nat.le_refl _, .inr rfl, by rw [cntQ_one]; rfl, Drawn0.refl _⟩
  case round =>
    obtain ⟨q, rfl, q1, q2, rfl, hd⟩ := hrel
    rename World => wb
    have HD := Lib.hid hd
    obtain ⟨k, hk⟩ : ∃ k, cntQ t r q = k := ⟨_, rfl⟩
    rw [hk]
    have hkq : k ≤ q := by rw [← hk]; exact cntQ_le t r q
    have HK := Lib.hid hk
    clear hd hk
    have hqm : (q : Int) ≤ 17592186044420 := by have := HLL.out; omega
    by_cases hlt : q < t.length
    · have d1 : decide ((q : Int) < (t.length : Int)) = true := decide_eq_true (by omega)
      have d1' : decide (q < t.length) = true := decide_eq_true hlt
      have HLT := Lib.hid hlt
      clear q2 hlt
      by_cases hr0 : r = 0
      · have d2 : decide ((0 : Int) < (r : Int)) = false := decide_eq_false (by omega)
        have d2' : decide (0 < r) = false := decide_eq_false (by omega)
        have HR0 := Lib.hid hr0
        clear hr0
        go_wp2_with fail
        refine ⟨⟨q + 1, rfl, by omega, .inl HLT.out, by rw [cntQ_succ, if_pos HR0.out, HK.out]; rfl, HD.out⟩, by have := HLT.out; simp [intOf] <;> omega⟩
      · have d2 : decide ((0 : Int) < (r : Int)) = true := decide_eq_true (by omega)
        have d2' : decide (0 < r) = true := decide_eq_true (by omega)
        have HR0 := Lib.hid hr0
        clear hr0
        cases hal : alikeB t q r
        all_goals
          have HAL := Lib.hid hal
          have hcall := alike_calls (w := wb) (Kd.C_below HC.out (HB5.out.trans (HD.out.below.mono HB5.out.size))) HCC.out (q := q) (l := r) hr4 (by have := HLT.out; have := HLL.out; omega)
          rw [hal] at hcall
          have HCALL := Lib.hid hcall
          clear hal hcall
          go_wp2_with (go_at_call 16; refine HCALL.out.mono ?_; rintro e w' ⟨rfl, hd⟩)
          refine ⟨⟨q + 1, rfl, by omega, .inl HLT.out, by rw [cntQ_succ, if_neg HR0.out, HK.out, HAL.out]; rfl, drawn_trans HD.out hd⟩, by have := HLT.out; simp [intOf] <;> omega⟩
    · have d1 : decide ((q : Int) < (t.length : Int)) = false := decide_eq_false (by omega)
      have d1' : decide (q < t.length) = false := decide_eq_false hlt
      have HK2 : Hid (pl.length = k) := Lib.hid (by
        rw [← HP.out, List.length_reverse, ← cntQ_end, ← HK.out]
        rcases q2 with q2 | q2
        · rw [show q = t.length by omega]
        · subst q2
          rcases (show t.length = 0 ∨ t.length = 1 by omega) with h | h
          · rw [h, cntQ_one]; unfold cntQ; split <;> rfl
          · rw [h])
      clear q2 hlt
      go_wp2_with fail
      go_loopw [12] (fun x wr => T2Rel w5 pl.length x wr) (fun x _ => pl.length - (intOf x).toNat)
      case atStart => exact ⟨0, rfl, Nat.zero_le _, HD.out⟩
      case round =>
        obtain ⟨i, rfl, hi, hd⟩ := hrel
        rename World => wc
        have HD2 := Lib.hid hd
        have HI := Lib.hid hi
        clear hd hi d1 d1'
        have hplm : (pl.length : Int) ≤ 17592186044420 := by
          have h1 := HLL.out
          have h2 := HK2.out
          omega
        by_cases hlt : i < pl.length
        · have d1 : decide ((i : Int) < (pl.length : Int)) = true := decide_eq_true (by omega)
          have d1' : decide (i < pl.length) = true := decide_eq_true hlt
          have HLT := Lib.hid hlt
          obtain ⟨p, hp, hal⟩ := down_at (t := t) (r := r) (i := i) (by rw [HP.out]; exact hlt)
          rw [HP.out] at hp
          obtain ⟨ad, e1, k0⟩ := Kd.at_int HCl5.out (i : Int) (by omega) (by omega)
          subst e1
          rw [Int.toNat_natCast, rd_nth, hp] at k0
          have k0 : wc.cell? (ad.add i) = some (.int .i64 p) := pw_cell_below HD2.out.below k0
          have hpl := (alikeB_lt hal).2
          have hcall := fun w' (hd : Drawn0 wc w') => alike_calls (w := w') (Kd.C_below HC.out (HB5.out.trans ((HD2.out.below.mono HB5.out.size).trans (hd.below.mono (Nat.le_trans HB5.out.size HD2.out.below.size))))) HCC.out (q := p) (l := r) hr4 (by have := HLL.out; omega)
          rw [hal] at hcall
          have HCALL := Lib.hid hcall
          have q1 : (0 : Int) ≤ (i : Int) := by omega
          have q2 : (i : Int) < (pl.length : Int) := by omega
          have HPI := Lib.hid hp
          clear hal hcall hpl hp
          by_cases hi0 : i = 0
          · have d2 : decide ((0 : Int) < (i : Int)) = false := decide_eq_false (by omega)
            have d2' : decide (0 < i) = false := decide_eq_false (by omega)
            clear hi0
            go_wp2_with fail
            go_quiet ((go_at_call 16; refine (HCALL.out _ ⟨⟨_, rfl⟩⟩).mono ?_; rintro e w' ⟨rfl, ⟨nd, rfl⟩⟩; first | exact ⟨rfl, _, World.drewN_drewN _ _ _⟩ | exact ⟨rfl, _, Eq.trans (World.drewN_drewN _ _ _) (congrArg (World.drewN _) (Nat.add_assoc _ _ _))⟩))
            go_wp2_with fail
            exact ⟨⟨i + 1, rfl, HLT.out, drawn_trans HD2.out ⟨⟨_, rfl⟩⟩⟩, by have := HLT.out; simp [intOf] <;> omega⟩
          · have d2 : decide ((0 : Int) < (i : Int)) = true := decide_eq_true (by omega)
            have d2' : decide (0 < i) = true := decide_eq_true (by omega)
            obtain ⟨i0, hi1⟩ : ∃ i0, i = i0 + 1 := ⟨i - 1, by omega⟩
            have hw : wrap64 ((i : Int) - 1) = (i0 : Int) := by rw [IntWalk.wrap64_in _ (by omega)]; omega
            have hw2 : IntKind.i64.wrap ((i : Int) - 1) = (i0 : Int) := by rw [IntWalk.i64_in _ (by omega)]; omega
            have hdn := down_lt (t := t) (r := r) (i := i0) (by rw [HP.out, ← hi1]; exact hlt)
            rw [HP.out, ← hi1, HPI.out] at hdn
            obtain ⟨y, hy⟩ : ∃ y, nth pl i0 = y := ⟨_, rfl⟩
            rw [hy] at hdn
            obtain ⟨ad2, e2, k1⟩ := Kd.at_int HCl5.out (i0 : Int) (by omega) (by omega)
            cases e2
            rw [Int.toNat_natCast, rd_nth, hy] at k1
            have k1 : wc.cell? (ad.add i0) = some (.int .i64 y) := pw_cell_below HD2.out.below k1
            have d3 : decide (y ≤ (p : Int)) = false := decide_eq_false (by omega)
            have q3 : (0 : Int) ≤ (i0 : Int) := by omega
            have q4 : (i0 : Int) < (pl.length : Int) := by omega
            clear hi0 hi1 hdn hy
            go_wp2_with fail
            go_quiet ((go_at_call 16; refine (HCALL.out _ ⟨⟨_, rfl⟩⟩).mono ?_; rintro e w' ⟨rfl, ⟨nd, rfl⟩⟩; first | exact ⟨rfl, _, World.drewN_drewN _ _ _⟩ | exact ⟨rfl, _, Eq.trans (World.drewN_drewN _ _ _) (congrArg (World.drewN _) (Nat.add_assoc _ _ _))⟩))
            go_wp2_with fail
            exact ⟨⟨i + 1, rfl, HLT.out, drawn_trans HD2.out ⟨⟨_, rfl⟩⟩⟩, by have := HLT.out; simp [intOf] <;> omega⟩
        · have d1 : decide ((i : Int) < (pl.length : Int)) = false := decide_eq_false (by omega)
          have d1' : decide (i < pl.length) = false := decide_eq_false hlt
          have d2 : ((pl.length : Int) == (k : Int)) = true := beq_iff_eq.2 (by rw [HK2.out])
          have d2' : (pl.length == k) = true := beq_iff_eq.2 HK2.out
          clear hlt
          go_wp2_with (go_at_call 17; refine (len_slot (HS5.out.below HD2.out.below)).mono ?_; rintro e w' ⟨rfl, rfl⟩)
          go_ret
          exact ⟨by first | rfl | simp [stText], HB5.out.trans (HD2.out.below.mono HB5.out.size)⟩
end Go.Proofs.Ytjeofkobefeigaa.Wk
