/- The walk of NgramRaws. -/
import Derived.Test.YtjeofkobefeigaaTd
set_option linter.unusedVariables false
set_option linter.unusedSimpArgs false
namespace Go.Proofs.Ytjeofkobefeigaa.Wk
open Go.RowKit Go.Shelf Go.Proofs.YtjeofkobefeigaaW.PrintWords Go.Proofs.YtjeofkobefeigaaW.PrintLast Go.Proofs.YtjeofkobefeigaaW.PrintMore Go.Proofs.Ytjeofkobefeigaa.Mp Go.Proofs.Ytjeofkobefeigaa.PEqRaw Go.Proofs.Ytjeofkobefeigaa.Pgram

theorem chainN_get {t : List Int} {p k m : Nat} {out : List S35} (h : k < m) : (chainN t p out m)[out.length + k]? = some ⟨if k = 0 then -1 else (out.length : Int) + k - 1, nth t (p + k)⟩ := by
  unfold chainN
  rw [List.getElem?_append_right (by omega), Nat.add_sub_cancel_left, List.getElem?_map, List.getElem?_range h]
  rfl
theorem proposeL_prefix (t : List Int) (deep : Int) (a b : List Int) : proposeL t deep a <+: proposeL t deep (a ++ b) := by
  unfold proposeL
  rw [List.foldl_append]
  generalize a.foldl (chain t deep) [] = x
  induction b generalizing x with
  | nil => exact List.prefix_refl _
  | cons p b ih => exact List.IsPrefix.trans (by unfold chain chainN; exact List.prefix_append _ _) (ih (chain t deep x p))
theorem raw_at {t : List Int} {deep : Int} {pl : List Int} {i n p k : Nat} (hi : i < pl.length) (hn : i < n) (hp : nth pl i = p) (hk : k < deepN t deep p (proposeL t deep (pl.take i)).length) :
    rd_T35 (proposeL t deep (pl.take n)) (((proposeL t deep (pl.take i)).length + k : Nat) : Int) = ⟨if k = 0 then -1 else ((proposeL t deep (pl.take i)).length : Int) + k - 1, nth t (p + k)⟩ ∧ (proposeL t deep (pl.take i)).length + k < (proposeL t deep (pl.take n)).length := by
  have h1 : proposeL t deep (pl.take (i + 1)) = chainN t p (proposeL t deep (pl.take i)) (deepN t deep p (proposeL t deep (pl.take i)).length) := by
    rw [take_step hi, proposeL_snoc, hp]
    unfold chain
    rw [Int.toNat_natCast]
  have h2 : pl.take n = pl.take (i + 1) ++ (pl.drop (i + 1)).take (n - (i + 1)) := by
    rw [← List.take_add, show i + 1 + (n - (i + 1)) = n by omega]
  have hpre := proposeL_prefix t deep (pl.take (i + 1)) ((pl.drop (i + 1)).take (n - (i + 1)))
  rw [← h2, h1] at hpre
  have hg := chainN_get (t := t) (p := p) (out := proposeL t deep (pl.take i)) hk
  have hlt : (proposeL t deep (pl.take i)).length + k < (chainN t p (proposeL t deep (pl.take i)) (deepN t deep p (proposeL t deep (pl.take i)).length)).length := by rw [chainN_length]; omega
  have hle := hpre.length_le
  obtain ⟨c, hc⟩ := hpre
  refine ⟨?_, Nat.lt_of_lt_of_le hlt hle⟩
  unfold rd_T35
  rw [Int.toNat_natCast, List.getD_eq_getElem?_getD, ← hc, List.getElem?_append_left hlt, hg]
  rfl
/-- Outer loop: so many nodes have been held against the list. -/
def RaRel (w : World) (t : List Int) (deep : Int) (pl : List Int) (n : Nat) (s13 s14 : Value) (wr : World) : Prop :=
  ∃ i : Nat, s14 = .int .i64 i ∧ i ≤ pl.length ∧ i ≤ n ∧ s13 = .int .i64 ((proposeL t deep (pl.take i)).length : Nat) ∧ Drawn0 w wr
def RbRel (w : World) (N0 m : Nat) (s13 s15 : Value) (wr : World) : Prop :=
  ∃ k : Nat, s15 = .int .i64 k ∧ k ≤ m ∧ s13 = .int .i64 (N0 + k : Nat) ∧ Drawn0 w wr
set_option maxHeartbeats 4000000 in
set_option maxRecDepth 100000 in
theorem raws_calls {w : World} {A : Option Addr} {c : Nat} {n ways deep : Int} {t : List Int} (hC : Kd.C (Kd.int .i64) w A t.length t) (hc : t.length ≤ c) (ht : Wf t) (hl : t.length * 8 ≤ 140737488355328) (hw : ways ≤ 9223372036854775807) :
    Calls Try.prog 4 #[.int .i64 n, .slice A t.length c, .int .i64 ways, .int .i64 deep] w fun e w' => e = .returned (.bool true) ∧ Below w.heap.size w w' := by
  obtain ⟨g1, g4⟩ := gramN_le n
  have HC := Lib.hid hC
  have HT := Lib.hid ht
  have HLL := Lib.hid hl
  have HCC := Lib.hid hc
  clear hC ht hl hc
  go_enter Try.func4, Try.ntmps4
  go_wp2_with (first | (go_at_call 11; refine (works_calls _).mono ?_; rintro e w1 ⟨rfl, hb1⟩) | (go_at_call 12; refine (gram_calls _ _).mono ?_; rintro e w2 ⟨rfl, hd2⟩) | (fail))
  have hb2 := hb1.trans (hd2.below.mono hb1.size)
  have HB2 := Lib.hid hb2
  clear hb1 hd2 hb2
  obtain ⟨most, hm⟩ : ∃ most, gramN n = most := ⟨_, rfl⟩
  rw [hm] at g1 g4 ⊢
  clear hm
  refine (begun_calls g1 g4 (Kd.C_below HC.out HB2.out) HCC.out HT.out HLL.out).mono ?_
  rintro e w3 ⟨B, rfl, hS, hb⟩
  have HS := Lib.hid hS
  have HB3 := Lib.hid (HB2.out.trans (hb.mono HB2.out.size))
  clear hS hb HB2
  go_wp2_with fail
  refine (places_slot (most := 0) HS.out HLL.out).mono ?_
  rintro e w4 ⟨v, rfl, hR, hb⟩
  have hpl : firstL (stPl (some (most, t))).reverse 0 = (stPl (some (most, t))).reverse := rfl
  rw [hpl] at hR
  obtain ⟨Al, cl, rfl, hcl, hCl⟩ := Kd.R_reads hR
  obtain ⟨pl, hpp⟩ : ∃ pl, (stPl (some (most, t))).reverse = pl := ⟨_, rfl⟩
  rw [hpp] at hCl hcl ⊢
  have HP := Lib.hid hpp
  have HCl := Lib.hid hCl
  have HS4 := Lib.hid (HS.out.below hb)
  have HB4 := Lib.hid (HB3.out.trans (hb.mono HB3.out.size))
  clear hR hCl hcl hb hpl hpp HS HB3
  go_wp2_with fail
  refine (propose_slot (ways := ways) (deep := deep) HS4.out HLL.out hw).mono ?_
  rintro e w5 ⟨v, rfl, hR, hb⟩
  have hpr : stPr (some (most, t)) ways deep = proposeL t deep (pl.take ways.toNat) := by unfold stPr; rw [HP.out]; rfl
  rw [hpr] at hR
  obtain ⟨Ar, cr, rfl, hcr, hCr⟩ := Kd.R_reads hR
  obtain ⟨PR, hPR⟩ : ∃ PR, proposeL t deep (pl.take ways.toNat) = PR := ⟨_, rfl⟩
  rw [hPR] at hCr hcr ⊢
  have HPR := Lib.hid hPR
  have HCr := Lib.hid hCr
  have HCl5 := Lib.hid (Kd.C_below HCl.out hb)
  have HB5 := Lib.hid (HB4.out.trans (hb.mono HB4.out.size))
  clear hR hCr hcr hb hpr hPR HS4 HB4 HCl
  have HPL : Hid (∀ i, i < pl.length → ∃ p : Nat, nth pl i = p ∧ p ≤ t.length) := Lib.hid (fun i hi => by
    have hm : nth pl i ∈ pl := by
      unfold nth
      rw [List.getD_eq_getElem?_getD, List.getElem?_eq_getElem hi]
      exact List.getElem_mem hi
    have hm2 : nth pl i ∈ (stPl (some (most, t))).reverse := by rw [HP.out]; exact hm
    exact stPl_mem (List.mem_reverse.1 hm2))
  have HPM : Hid (pl.length ≤ 17592186044416) := Lib.hid (by
    have := stPl_length (some (most, t))
    rw [← HP.out, List.length_reverse]
    have := HLL.out
    show _
    simp only [stText] at *
    omega)
  go_wp2_with fail
  go_loopw [13, 14] (fun x y wr => RaRel w5 t deep pl ways.toNat x y wr) (fun _ y _ => pl.length - (intOf y).toNat)
  case atStart => exact ⟨0, rfl, Nat.zero_le _, Nat.zero_le _, rfl, Drawn0.refl _⟩
  case round =>
    obtain ⟨i, rfl, i1, i2, rfl, hd⟩ := hrel
    rename World => wa
    have HD := Lib.hid hd
    have HI1 := Lib.hid i1
    have HI2 := Lib.hid i2
    obtain ⟨N0, hN0⟩ : ∃ N0, (proposeL t deep (pl.take i)).length = N0 := ⟨_, rfl⟩
    rw [hN0]
    have HN0 := Lib.hid hN0
    have hN96 : N0 ≤ 96 := by rw [← hN0]; exact proposeL_le _ _ _
    clear hd i1 i2 hN0
    by_cases hlt : i < pl.length ∧ (i : Int) < ways
    · obtain ⟨l1, l2⟩ := hlt
      have d1 : decide ((i : Int) < (pl.length : Int)) = true := decide_eq_true (by omega)
      have d1' : decide (i < pl.length) = true := decide_eq_true l1
      have d2 : decide ((i : Int) < ways) = true := decide_eq_true l2
      obtain ⟨p, hp, hpt⟩ := HPL.out i l1
      obtain ⟨m, hm⟩ : ∃ m, deepN t deep p N0 = m := ⟨_, rfl⟩
      have HM := Lib.hid hm
      have HL1 := Lib.hid l1
      have HL2 := Lib.hid l2
      have HPI := Lib.hid hp
      have HPT := Lib.hid hpt
      clear hm l1 l2 hp hpt
      go_wp2_with fail
      go_loopw [13, 15] (fun x y wr => RbRel w5 N0 m x y wr) (fun _ y _ => m - (intOf y).toNat)
      case atStart => exact ⟨0, rfl, Nat.zero_le _, rfl, HD.out⟩
      case round =>
        obtain ⟨k, rfl, hk, rfl, hd⟩ := hrel
        rename World => wb
        have HD2 := Lib.hid hd
        clear hd d1 d1' d2
        obtain ⟨ad, e1, k0⟩ := Kd.at_int HCl5.out (i : Int) (by omega) (by have := HL1.out; omega)
        subst e1
        rw [Int.toNat_natCast, rd_nth, HPI.out] at k0
        have k0 : wb.cell? (ad.add i) = some (.int .i64 p) := pw_cell_below HD2.out.below k0
        have q1 : (0 : Int) ≤ (i : Int) := by omega
        have q2 : (i : Int) < (pl.length : Int) := by have := HL1.out; omega
        have hpm : (p : Int) ≤ 17592186044416 := by have := HPT.out; have := HLL.out; omega
        have hLm : (t.length : Int) ≤ 17592186044416 := by have := HLL.out; omega
        have hkm : (k : Int) ≤ 96 := by have h1 := HM.out; unfold deepN at h1; omega
        by_cases hk2 : k < m
        · obtain ⟨g5, g6, g7⟩ := lt_deep.1 (show k < deepN t deep p N0 by rw [HM.out]; exact hk2)
          have d3 : decide ((k : Int) < deep) = true := decide_eq_true g5
          have d4 : decide ((p : Int) + (k : Int) < (t.length : Int)) = true := decide_eq_true (by omega)
          obtain ⟨n1, hn1⟩ : ∃ n1, N0 + k = n1 := ⟨_, rfl⟩
          rw [hn1]
          have d5 : decide ((n1 : Int) < 96) = true := decide_eq_true (by omega)
          have d5' : decide (n1 < 96) = true := decide_eq_true (by omega)
          obtain ⟨at1, e2, ky⟩ := Kd.at_int HC.out ((p : Int) + (k : Int)) (by omega) (by omega)
          subst e2
          have ht : ((p : Int) + (k : Int)).toNat = p + k := by omega
          rw [ht] at ky
          obtain ⟨y, hy⟩ : ∃ y, rd t ((p : Int) + (k : Int)) = y := ⟨_, rfl⟩
          rw [hy] at ky
          have hyn : nth t (p + k) = y := by rw [← hy, ← rd_nth]; rfl
          have ky : wb.cell? (at1.add (p + k)) = some (.int .i64 y) := pw_cell_below (HB5.out.trans (HD2.out.below.mono HB5.out.size)) ky
          obtain ⟨hraw, hrl⟩ := raw_at (t := t) (deep := deep) (pl := pl) (i := i) (n := ways.toNat) (p := p) (k := k) HL1.out (by have := HL2.out; omega) HPI.out (by rw [HN0.out, HM.out]; exact hk2)
          rw [HN0.out, HPR.out, hn1, hyn] at hraw
          rw [HN0.out, HPR.out, hn1] at hrl
          have d6 : decide ((PR.length : Int) ≤ (n1 : Int)) = false := decide_eq_false (by omega)
          have d6' : decide (PR.length ≤ n1) = false := decide_eq_false (by omega)
          obtain ⟨ar, e3, k5, k6⟩ := at_T35 HCr.out (n1 : Int) (by omega) (by omega)
          subst e3
          rw [hraw] at k5 k6
          rw [Int.toNat_natCast] at k5 k6
          have q3 : (0 : Int) ≤ (n1 : Int) := by omega
          have q4 : (n1 : Int) < (PR.length : Int) := by omega
          have q5 : (0 : Int) ≤ (p : Int) + (k : Int) := by omega
          have q6 : (p : Int) + (k : Int) < (t.length : Int) := by omega
          have hn1m : (n1 : Int) < 96 := by omega
          have HK2 := Lib.hid hk2
          have HN1 := Lib.hid hn1
          clear hraw hrl hy hyn g5 g6 g7 hk2
          by_cases hk0 : k = 0
          · rw [if_pos hk0] at k5
            have k5 : wb.cell? (ar.add (n1 * 2)) = some (.int .i64 (-1)) := pw_cell_below HD2.out.below k5
            have k6 : wb.cell? ⟨(ar.add (n1 * 2)).block, (ar.add (n1 * 2)).off + 1, none⟩ = some (.int .i64 y) := pw_cell_below HD2.out.below k6
            have d7 : ((k : Int) == 0) = true := beq_iff_eq.2 (by omega)
            have d7' : (k == 0) = true := beq_iff_eq.2 hk0
            clear hn1 hk hk0
            go_wp2_with fail
            go_quiet (fail)
            go_wp2_with fail
            exact ⟨⟨k + 1, rfl, HK2.out, by have := HN1.out; congr 1; omega, drawn_trans HD2.out ⟨⟨_, rfl⟩⟩⟩, by have := HK2.out; simp [intOf] <;> omega⟩
          · rw [if_neg hk0] at k5
            rw [show (N0 : Int) + (k : Int) - 1 = (n1 : Int) - 1 by omega] at k5
            have k5 : wb.cell? (ar.add (n1 * 2)) = some (.int .i64 ((n1 : Int) - 1)) := pw_cell_below HD2.out.below k5
            have k6 : wb.cell? ⟨(ar.add (n1 * 2)).block, (ar.add (n1 * 2)).off + 1, none⟩ = some (.int .i64 y) := pw_cell_below HD2.out.below k6
            have d7 : ((k : Int) == 0) = false := beq_eq_false_iff_ne.2 (by omega)
            have d7' : (k == 0) = false := beq_eq_false_iff_ne.2 hk0
            clear hn1 hk hk0
            go_wp2_with fail
            go_quiet (fail)
            go_wp2_with fail
            exact ⟨⟨k + 1, rfl, HK2.out, by have := HN1.out; congr 1; omega, drawn_trans HD2.out ⟨⟨_, rfl⟩⟩⟩, by have := HK2.out; simp [intOf] <;> omega⟩
        · obtain rfl : k = m := by omega
          have HNL : Hid (¬ ((k : Int) < deep ∧ p + k < t.length ∧ N0 + k < 96)) := Lib.hid (fun h => by
            have := lt_deep.2 h
            rw [HM.out] at this
            exact hk2 this)
          have HEND : Hid ((proposeL t deep (pl.take (i + 1))).length = N0 + k) := Lib.hid (by
            rw [take_step HL1.out, proposeL_snoc, HPI.out]
            unfold chain
            rw [Int.toNat_natCast, HN0.out, HM.out, chainN_length, HN0.out])
          obtain ⟨n1, hn1⟩ : ∃ n1, N0 + k = n1 := ⟨_, rfl⟩
          rw [hn1]
          have HN1 := Lib.hid hn1
          have hn1m : (n1 : Int) ≤ 96 + 96 := by omega
          have him : (i : Int) ≤ 17592186044416 := by have h1 := HPM.out; have h2 := HL1.out; omega
          by_cases c1 : (k : Int) < deep
          · have d3 : decide ((k : Int) < deep) = true := decide_eq_true c1
            by_cases c2 : p + k < t.length
            · have d4 : decide ((p : Int) + (k : Int) < (t.length : Int)) = true := decide_eq_true (by omega)
              have d5 : decide ((n1 : Int) < 96) = false := decide_eq_false (by have := HNL.out; omega)
              have d5' : decide (n1 < 96) = false := decide_eq_false (by have := HNL.out; omega)
              clear c1 c2 hk2 hk hn1
              go_wp2_with fail
              exact ⟨⟨i + 1, rfl, HL1.out, by have := HL2.out; omega, by rw [HEND.out, HN1.out], HD2.out⟩, by have := HL1.out; simp [intOf] <;> omega⟩
            · have d4 : decide ((p : Int) + (k : Int) < (t.length : Int)) = false := decide_eq_false (by omega)
              clear c1 c2 hk2 hk hn1
              go_wp2_with fail
              exact ⟨⟨i + 1, rfl, HL1.out, by have := HL2.out; omega, by rw [HEND.out, HN1.out], HD2.out⟩, by have := HL1.out; simp [intOf] <;> omega⟩
          · have d3 : decide ((k : Int) < deep) = false := decide_eq_false c1
            clear c1 hk2 hk hn1
            go_wp2_with fail
            exact ⟨⟨i + 1, rfl, HL1.out, by have := HL2.out; omega, by rw [HEND.out, HN1.out], HD2.out⟩, by have := HL1.out; simp [intOf] <;> omega⟩
    · have hlen : PR.length = N0 := by
        rw [← HPR.out, ← HN0.out]
        congr 2
        have h1 := HI1.out
        have h2 := HI2.out
        by_cases c : i < pl.length
        · rw [show i = ways.toNat by omega]
        · rw [List.take_of_length_le (by omega), List.take_of_length_le (by omega)]
      have d9 : ((N0 : Int) == (PR.length : Int)) = true := beq_iff_eq.2 (by rw [hlen])
      have d9' : (N0 == PR.length) = true := beq_iff_eq.2 hlen.symm
      clear hlen
      by_cases l1 : i < pl.length
      · have d1 : decide ((i : Int) < (pl.length : Int)) = true := decide_eq_true (by omega)
        have d1' : decide (i < pl.length) = true := decide_eq_true l1
        have d2 : decide ((i : Int) < ways) = false := decide_eq_false (by omega)
        clear hlt l1
        go_wp2_with fail
        go_ret
        exact ⟨rfl, HB5.out.trans (HD.out.below.mono HB5.out.size)⟩
      · have d1 : decide ((i : Int) < (pl.length : Int)) = false := decide_eq_false (by omega)
        have d1' : decide (i < pl.length) = false := decide_eq_false l1
        clear hlt l1
        go_wp2_with fail
        go_ret
        exact ⟨rfl, HB5.out.trans (HD.out.below.mono HB5.out.size)⟩
end Go.Proofs.Ytjeofkobefeigaa.Wk
