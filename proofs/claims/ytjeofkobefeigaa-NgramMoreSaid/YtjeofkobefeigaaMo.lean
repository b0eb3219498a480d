/- The walk of NgramMore. -/
import Derived.Test.YtjeofkobefeigaaTd
set_option linter.unusedVariables false
set_option linter.unusedSimpArgs false
namespace Go.Proofs.Ytjeofkobefeigaa.Wk
open Go.RowKit Go.Shelf Go.Proofs.YtjeofkobefeigaaW.PrintWords Go.Proofs.YtjeofkobefeigaaW.PrintLast Go.Proofs.YtjeofkobefeigaaW.PrintMore Go.Proofs.Ytjeofkobefeigaa.Mp Go.Proofs.Ytjeofkobefeigaa.Pgram

theorem gramAt_sub {t : List Int} {q n k : Nat} (h : k ≤ n) (hn : n ≤ q) : gramAt t q k = (gramAt t q n).drop (n - k) := by
  unfold gramAt
  rw [List.drop_drop, show q - n + (n - k) = q - k by omega]
theorem alikeB_mono {t : List Int} {q n k : Nat} (h : k ≤ n) (ha : alikeB t q n = true) : alikeB t q k = true := by
  unfold alikeB at *
  obtain ⟨h1, h2, h3⟩ := of_decide_eq_true ha
  refine decide_eq_true ⟨by omega, h2, ?_⟩
  rw [gramAt_sub h h1, gramAt_sub (t := t) (q := t.length) h (by omega), h3]
theorem hasQ_mono {t : List Int} {n k : Nat} (h : k ≤ n) (ha : hasQ t n t.length = true) : hasQ t k t.length = true := by
  unfold hasQ at *
  rw [List.any_eq_true] at *
  obtain ⟨q, h1, h2⟩ := ha
  exact ⟨q, h1, alikeB_mono h h2⟩
theorem longestN_has {t : List Int} : ∀ {n : Nat}, longestN t n ≠ 0 → hasQ t (longestN t n) t.length = true
  | 0, h => absurd rfl h
  | n + 1, h => by
    unfold longestN at *
    split
    · assumption
    · rename_i c
      rw [if_neg c] at h
      exact longestN_has h
theorem longestN_ge {t : List Int} {k : Nat} (hk : k ≠ 0) (h : hasQ t k t.length = true) : ∀ {n : Nat}, k ≤ n → k ≤ longestN t n
  | 0, hn => absurd (Nat.le_zero.1 hn) hk
  | n + 1, hn => by
    unfold longestN
    split
    · exact hn
    · rename_i c
      have : k ≠ n + 1 := fun e => c (e ▸ h)
      exact longestN_ge hk h (by omega)
theorem longestN_mono {t : List Int} {a b : Nat} (h : a ≤ b) : longestN t a = min a (longestN t b) := by
  have h1 := longestN_le t a
  have h2 := longestN_le t b
  by_cases c : longestN t b = 0
  · rw [c, Nat.min_zero]
    refine Classical.byContradiction fun h3 => ?_
    have := longestN_ge h3 (longestN_has h3) (show longestN t a ≤ b by omega)
    omega
  · by_cases c2 : a = 0
    · subst c2; rw [Nat.zero_min]; rfl
    · have h3 := hasQ_mono (Nat.min_le_right a (longestN t b)) (longestN_has c)
      have h4 := longestN_ge (t := t) (k := min a (longestN t b)) (by omega) h3 (n := a) (by omega)
      by_cases c3 : longestN t a = 0
      · omega
      · have h5 := longestN_ge c3 (longestN_has c3) (show longestN t a ≤ b by omega)
        omega
theorem plAt_more {t : List Int} {a b : Nat} (ha : 1 ≤ a) (h : a ≤ b) : ((0 < (plAt t (longestN t a)).length) ↔ (0 < (plAt t (longestN t b)).length)) ∧ ∀ x ∈ plAt t (longestN t b), x ∈ plAt t (longestN t a) := by
  have hm := longestN_mono (t := t) h
  have hpos : ∀ n, longestN t n ≠ 0 → 0 < (plAt t (longestN t n)).length := fun n hn => by
    rw [plAt_length, if_neg hn]
    exact List.length_pos_iff.2 (hasQ_iff.1 (longestN_has hn))
  by_cases c : longestN t b = 0
  · have c2 : longestN t a = 0 := by omega
    rw [c, c2]
    exact ⟨Iff.rfl, fun x h => h⟩
  · have c2 : longestN t a ≠ 0 := by omega
    refine ⟨⟨fun _ => hpos b c, fun _ => hpos a c2⟩, fun x hx => ?_⟩
    rw [plAt_cons c] at hx
    obtain ⟨q, hq, rfl⟩ := List.mem_map.1 hx
    rw [plAt_cons c2]
    obtain ⟨h1, h2⟩ := List.mem_filter.1 hq
    exact List.mem_map.2 ⟨q, List.mem_filter.2 ⟨h1, alikeB_mono (by omega) h2⟩, rfl⟩
theorem nth_mem {l : List Int} {i : Nat} (h : i < l.length) : nth l i ∈ l := by
  unfold nth
  rw [List.getD_eq_getElem?_getD, List.getElem?_eq_getElem h]
  exact List.getElem_mem h
theorem mem_step {y x : Int} {l : List Int} {k : Nat} (h : k < l.length) (hx : nth l k = x) : decide (y ∈ l.take (k + 1)) = (decide (y ∈ l.take k) || (x == y)) := by
  rw [Bool.eq_iff_iff]
  simp only [decide_eq_true_eq, Bool.or_eq_true, beq_iff_eq, take_step h, hx, List.mem_append, List.mem_singleton]
  exact or_congr_right eq_comm
def M1Rel (w : World) (m : List Int) (s11 : Value) (wr : World) : Prop :=
  ∃ i : Nat, s11 = .int .i64 i ∧ i ≤ m.length ∧ Drawn0 w wr
def M2Rel (w : World) (l : List Int) (y : Int) (s12 s13 : Value) (wr : World) : Prop :=
  ∃ k : Nat, s13 = .int .i64 k ∧ k ≤ l.length ∧ s12 = .bool (decide (y ∈ l.take k)) ∧ Drawn0 w wr
set_option maxHeartbeats 4000000 in
set_option maxRecDepth 100000 in
theorem more_calls {w : World} {A : Option Addr} {c : Nat} {n : Int} {t : List Int} (hC : Kd.C (Kd.int .i64) w A t.length t) (hc : t.length ≤ c) (ht : Wf t) (hl : t.length * 8 ≤ 140737488355328) :
    Calls Try.prog 5 #[.int .i64 n, .slice A t.length c] w fun e w' => e = .returned (.bool true) ∧ Below w.heap.size w w' := by
  obtain ⟨g1, g4⟩ := gramN_le n
  have HC := Lib.hid hC
  have HT := Lib.hid ht
  have HLL := Lib.hid hl
  have HCC := Lib.hid hc
  clear hC ht hl hc
  go_enter Try.func5, Try.ntmps5
  go_wp2_with (first | (go_at_call 11; refine (works_calls _).mono ?_; rintro e w1 ⟨rfl, hb1⟩) | (go_at_call 12; refine (gram_calls _ _).mono ?_; rintro e w2 ⟨rfl, hd2⟩) | (fail))
  have hb2 := hb1.trans (hd2.below.mono hb1.size)
  have HB2 := Lib.hid hb2
  clear hb1 hd2 hb2
  obtain ⟨most, hm⟩ : ∃ most, gramN n = most := ⟨_, rfl⟩
  rw [hm] at g1 g4 ⊢
  clear hm
  refine (begun_calls g1 g4 (Kd.C_below HC.out HB2.out) HCC.out HT.out HLL.out).mono ?_
  rintro e w3 ⟨B, rfl, hS, hb⟩
  have HS := Lib.hid hS
  have HB3 := Lib.hid (HB2.out.trans (hb.mono HB2.out.size))
  clear hS hb HB2
  go_wp2_with fail
  refine (begun_calls (most := 4) (by omega) (by omega) (Kd.C_below HC.out HB3.out) HCC.out HT.out HLL.out).mono ?_
  rintro e w4 ⟨By, rfl, hS, hb⟩
  have HSy := Lib.hid hS
  have HSx := Lib.hid (HS.out.below hb)
  have HB4 := Lib.hid (HB3.out.trans (hb.mono HB3.out.size))
  clear hS hb HB3 HS
  go_wp2_with fail
  refine (places_slot (most := 0) HSx.out HLL.out).mono ?_
  rintro e w5 ⟨v, rfl, hR, hb⟩
  have hpl : firstL (stPl (some (most, t))).reverse 0 = (plAt t (longestN t most)).reverse := by
    show (placesL most t).reverse = _
    rw [placesL_eq]
  rw [hpl] at hR
  obtain ⟨Al, cl, rfl, hcl, hCl⟩ := Kd.R_reads hR
  obtain ⟨pl, hpp⟩ : ∃ pl, (plAt t (longestN t most)).reverse = pl := ⟨_, rfl⟩
  rw [hpp] at hCl hcl ⊢
  have HP := Lib.hid hpp
  have HCl := Lib.hid hCl
  have HSy5 := Lib.hid (HSy.out.below hb)
  have HB5 := Lib.hid (HB4.out.trans (hb.mono HB4.out.size))
  clear hR hCl hcl hb hpl hpp HSx HSy HB4
  go_wp2_with fail
  refine (places_slot (most := 0) HSy5.out HLL.out).mono ?_
  rintro e w6 ⟨v, rfl, hR, hb⟩
  have hpl : firstL (stPl (some (4, t))).reverse 0 = (plAt t (longestN t 4)).reverse := by
    show (placesL 4 t).reverse = _
    rw [placesL_eq]
  rw [hpl] at hR
  obtain ⟨Am, cm, rfl, hcm, hCm⟩ := Kd.R_reads hR
  obtain ⟨pm, hpp⟩ : ∃ pm, (plAt t (longestN t 4)).reverse = pm := ⟨_, rfl⟩
  rw [hpp] at hCm hcm ⊢
  have HPm := Lib.hid hpp
  have HCm := Lib.hid hCm
  have HCl6 := Lib.hid (Kd.C_below HCl.out hb)
  have HB6 := Lib.hid (HB5.out.trans (hb.mono HB5.out.size))
  clear hR hCm hcm hb hpl hpp HSy5 HB5 HCl
  obtain ⟨hiff, hsub⟩ := plAt_more (t := t) g1 g4
  have HIFF : Hid (decide (0 < pl.length) = decide (0 < pm.length)) := Lib.hid (by
    rw [← HP.out, ← HPm.out, List.length_reverse, List.length_reverse]
    exact decide_eq_decide.2 hiff)
  have HSUB : Hid (∀ x ∈ pm, x ∈ pl) := Lib.hid (fun x hx => by
    rw [← HP.out]
    rw [← HPm.out] at hx
    exact List.mem_reverse.2 (hsub x (List.mem_reverse.1 hx)))
  have hlen : ∀ r, (plAt t r).length ≤ t.length := fun r => by
    rw [plAt_length]
    split
    · exact Nat.zero_le _
    · exact Nat.le_trans (List.length_filter_le _ _) (by rw [List.length_range]; exact Nat.le_refl _)
  have hplm : (pl.length : Int) ≤ 17592186044416 := by
    have h1 := hlen (longestN t most)
    rw [← List.length_reverse, HP.out] at h1
    have := HLL.out
    omega
  have hpmm : (pm.length : Int) ≤ 17592186044416 := by
    have h1 := hlen (longestN t 4)
    rw [← List.length_reverse, HPm.out] at h1
    have := HLL.out
    omega
  clear hiff hsub hlen
  go_wp2_with fail
  go_loopw [11] (fun x wr => M1Rel w6 pm x wr) (fun x _ => pm.length - (intOf x).toNat)
  case atStart => exact ⟨0, rfl, Nat.zero_le _, Drawn0.refl _⟩
  case round =>
    obtain ⟨i, rfl, hi, hd⟩ := hrel
    rename World => wa
    have HD := Lib.hid hd
    have HI := Lib.hid hi
    clear hd hi
    by_cases hlt : i < pm.length
    · have d1 : decide ((i : Int) < (pm.length : Int)) = true := decide_eq_true (by omega)
      have d1' : decide (i < pm.length) = true := decide_eq_true hlt
      obtain ⟨y, hy⟩ : ∃ y, nth pm i = y := ⟨_, rfl⟩
      have HY : Hid (y ∈ pl) := Lib.hid (HSUB.out y (hy ▸ nth_mem hlt))
      have HYN := Lib.hid hy
      have HLT := Lib.hid hlt
      clear hlt hy
      go_wp2_with fail
      go_loopw [12, 13] (fun x z wr => M2Rel w6 pl y x z wr) (fun _ z _ => pl.length - (intOf z).toNat)
      case atStart => exact ⟨0, rfl, Nat.zero_le _, by simp, HD.out⟩
      case round =>
        obtain ⟨k, rfl, hk, rfl, hd⟩ := hrel
        rename World => wb
        have HD2 := Lib.hid hd
        clear hd d1 d1'
        by_cases hkl : k < pl.length
        · have d2 : decide ((k : Int) < (pl.length : Int)) = true := decide_eq_true (by omega)
          have d2' : decide (k < pl.length) = true := decide_eq_true hkl
          obtain ⟨ad, e1, k0⟩ := Kd.at_int HCm.out (i : Int) (by omega) (by have := HLT.out; omega)
          subst e1
          rw [Int.toNat_natCast, rd_nth, HYN.out] at k0
          have k0 : wb.cell? (ad.add i) = some (.int .i64 y) := pw_cell_below HD2.out.below k0
          obtain ⟨al, e2, k1⟩ := Kd.at_int HCl6.out (k : Int) (by omega) (by omega)
          subst e2
          obtain ⟨x, hx⟩ : ∃ x, nth pl k = x := ⟨_, rfl⟩
          rw [Int.toNat_natCast, rd_nth, hx] at k1
          have k1 : wb.cell? (al.add k) = some (.int .i64 x) := pw_cell_below HD2.out.below k1
          have q1 : (0 : Int) ≤ (i : Int) := by omega
          have q2 : (i : Int) < (pm.length : Int) := by have := HLT.out; omega
          have q3 : (0 : Int) ≤ (k : Int) := by omega
          have q4 : (k : Int) < (pl.length : Int) := by omega
          have HKL := Lib.hid hkl
          have HX := Lib.hid hx
          clear hk hkl hx
          have hst := mem_step (y := y) HKL.out HX.out
          cases hf : decide (y ∈ pl.take k)
          · rw [hf, Bool.false_or] at hst
            have HST := Lib.hid hst
            clear hst hf
            go_wp2_with fail
            go_quiet (fail)
            go_wp2_with fail
            exact ⟨⟨k + 1, rfl, HKL.out, by rw [HST.out], drawn_trans HD2.out ⟨⟨_, rfl⟩⟩⟩, by have := HKL.out; simp [intOf] <;> omega⟩
          · rw [hf, Bool.true_or] at hst
            have HST := Lib.hid hst
            clear hst hf
            go_wp2_with fail
            go_quiet (fail)
            go_wp2_with fail
            exact ⟨⟨k + 1, rfl, HKL.out, by rw [HST.out], drawn_trans HD2.out ⟨⟨_, rfl⟩⟩⟩, by have := HKL.out; simp [intOf] <;> omega⟩
        · have d2 : decide ((k : Int) < (pl.length : Int)) = false := decide_eq_false (by omega)
          have d2' : decide (k < pl.length) = false := decide_eq_false hkl
          rw [List.take_of_length_le (by omega), decide_eq_true HY.out]
          have him : (i : Int) ≤ 17592186044416 := by have := HLT.out; omega
          clear hkl hk
          go_wp2_with fail
          exact ⟨⟨i + 1, rfl, HLT.out, HD2.out⟩, by have := HLT.out; simp [intOf] <;> omega⟩
    · have d1 : decide ((i : Int) < (pm.length : Int)) = false := decide_eq_false (by omega)
      have d1' : decide (i < pm.length) = false := decide_eq_false hlt
      clear hlt
      go_wp2_with fail
      go_ret
      exact ⟨by show Ending.returned (Value.bool (decide (0 < pl.length) == decide (0 < pm.length))) = _; rw [HIFF.out]; simp, HB6.out.trans (HD.out.below.mono HB6.out.size)⟩
end Go.Proofs.Ytjeofkobefeigaa.Wk
