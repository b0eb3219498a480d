/- The walk of GaugeGrows: it returns true for every gauge and every list of numbers. -/
import Derived.Test.YtljkfbmpokcpjaaFl
namespace Go.Proofs.Ytljkfbmpokcpjaa.Nx
open Go.RowKit Go.Proofs.Ytljkfbmpokcpjaa.PGaugeChecks Go.Proofs.YtljkfbmpokcpjaaW.PrintWords Go.Proofs.YtljkfbmpokcpjaaW.PrintLast Go.Proofs.YtljkfbmpokcpjaaW.PrintMore Go.Proofs.Ytljkfbmpokcpjaa.M Go.Proofs.Ytljkfbmpokcpjaa.Pure
attribute [local go_sem] max2_int min2_int max_two min_two

/-- Behind i rounds of guesses that come true. -/
def GrowRel (w : World) (g : Nat) (m : Int) (v : Value) (wr : World) : Prop :=
  ∃ i s r : Int, v = .int .i64 i ∧ 0 ≤ i ∧ i ≤ m ∧ Box wr g s m r ∧ Below w.heap.size w wr ∧ Good s m r ∧ (i + 1 ≤ s ∨ s = m) ∧ (0 < i → r = 0)

set_option maxHeartbeats 4000000 in
theorem grows_good {s m r : Int} (h : Good s m r) (p : Option Addr) (len cap : Nat) (_hlen : (len : Int) ≤ 9223372036854775807) (w : World) (hp : Ints w p len) :
    Calls Try.prog 7 #[.agg #[.int .i64 s, .int .i64 m, .int .i64 r], .slice p len cap] w fun e w' => e = .returned (.bool true) ∧ Below w.heap.size w w' := by
  have HG := Lib.hid h
  have HP := Lib.hid hp
  obtain ⟨m0, m1, s0, s1, r0, r1⟩ := h
  clear hp
  go_enter Try.func7, Try.ntmps7
  go_wp2_with fail
  refine (check_yes HG.out _).mono ?_
  rintro e w1 ⟨rfl, hb⟩
  have B1 : Box w1 w.heap.size s m r := (Box.mk_alloc w s m r).below hb
  have b1 : Below w.heap.size w w1 := ((Below.refl w.heap.size w).alloc (Nat.le_refl _) _).trans (hb.mono (by simp))
  have HB1 := Lib.hid B1
  have Hb1 := Lib.hid b1
  clear hb b1
  obtain ⟨k0, k1, k2, _, _, _, klt⟩ := B1
  go_wp2_with fail
  refine (right_yes (by omega) (by omega) (by omega) (by omega) _).mono ?_
  rintro e w2 ⟨rfl, hb⟩
  have B2 := HB1.out.below hb
  have b2 := Hb1.out.trans (hb.mono Hb1.out.size)
  have HB2 := Lib.hid B2
  have Hb2 := Lib.hid b2
  clear hb b2 k0 k1 k2 klt HB1 Hb1
  obtain ⟨k0, k1, k2, _, _, _, klt⟩ := B2
  go_wp2_with fail
  go_loopw [7] (fun v wr => GrowRel w w.heap.size m v wr) (fun v _ => (m - intOf v).toNat)
  case atStart => exact ⟨0, s, r, rfl, by omega, by omega, HB2.out, Hb2.out, HG.out, by omega, fun h => by omega⟩
  case round =>
    clear k0 k1 k2 klt HB2 Hb2 m0 m1 s0 s1 r0 r1
    obtain ⟨i, s', r', rfl, i0, i5, hbox, hbel, hgood, hst, hr⟩ := hrel
    obtain ⟨m0, m1, s0, s1, r0, r1⟩ := hgood
    have HBX := Lib.hid hbox
    have HBL := Lib.hid hbel
    have HST := Lib.hid hst
    have HRR := Lib.hid hr
    obtain ⟨k0, k1, k2, _, _, _, klt⟩ := hbox
    clear hst hbel hr
    by_cases hi : i < m
    · have HI : Hid (Ints wr p len) := Lib.hid (ints_below HP.out HBL.out)
      go_upto_region 9 with (fail)
      go_cut [49] (TakeRel wr p len i)
      case first =>
        by_cases hlt : i < len
        · obtain ⟨b, off, x, hpe, hcell, hb0⟩ := HI.out i.toNat (by omega)
          subst hpe
          have i2 : i.toNat < len := by omega
          by_cases x2 : 2 ≤ x
          · by_cases x3 : x ≤ 32
            · go_wp2
              go_meet
              case rel => exact ⟨true, rfl, rfl, fun _ => ⟨b, off, x, rfl, hcell, hlt, x2, x3⟩⟩
            · go_wp2
              go_meet
              case rel => exact ⟨false, rfl, rfl, fun h => by cases h⟩
          · go_wp2
            go_meet
            case rel => exact ⟨false, rfl, rfl, fun h => by cases h⟩
        · go_wp2
          go_meet
          case rel => exact ⟨false, rfl, rfl, fun h => by cases h⟩
      case rest =>
        obtain ⟨c, rfl, rfl, hx⟩ := hcut
        have HX := Lib.hid hx
        clear hx
        go_upto_if 49 with (fail)
        go_cut [8] (NumRel wc)
        case first =>
          cases c with
          | true =>
            obtain ⟨b, off, x, rfl, hcell, hlt, x2, x3⟩ := HX.out rfl
            have i2 : i.toNat < len := by omega
            go_wp2
            go_meet
            case rel => exact ⟨x, rfl, x2, x3, rfl⟩
          | false =>
            go_wp2
            go_meet
            case rel => exact ⟨2, rfl, by omega, by omega, rfl⟩
        case rest =>
          obtain ⟨n, rfl, n2, n3, rfl⟩ := hcut
          clear HX HI
          obtain ⟨j, hj⟩ : ∃ j : Int, (if m < s' + (n - 1 + 1) then m else s' + (n - 1 + 1)) = j := ⟨_, rfl⟩
          have j0 : s' ≤ j := by rw [← hj]; split <;> omega
          have j1 : j ≤ m := by rw [← hj]; split <;> omega
          have j2 : s' + 1 ≤ j ∨ j = m := by rw [← hj]; split <;> omega
          have HJ := Lib.hid hj
          have HJ2 := Lib.hid j2
          have HGD : Hid (Good s' m r') := Lib.hid ⟨m0, m1, s0, s1, r0, r1⟩
          clear hj j2
          go_wp2_with fail
          refine (next_more (by omega) (by omega) (by omega) (by omega) (beq_eq_false_iff_ne.2 (by omega)) (beq_eq_false_iff_ne.2 (by omega)) (by omega) HJ.out HGD.out _).mono ?_
          rintro e w3 ⟨rfl, hb⟩
          have B3 := HBX.out.below hb
          have b3 := HBL.out.trans (hb.mono HBL.out.size)
          have HB3 := Lib.hid B3
          have Hb3 := Lib.hid b3
          clear hb b3 k0 k1 k2 klt HBX HBL
          obtain ⟨k0, k1, k2, _, _, _, klt⟩ := B3
          go_wp2
          go_roundw
          case rel =>
            refine ⟨i + 1, j, 0, rfl, by omega, by omega, (HB3.out.put j m 0).alloc _, (((Hb3.out.setCell (Nat.le_refl _) _).setCell (Nat.le_refl _) _).setCell (Nat.le_refl _) _).alloc (by simp; omega) _, ⟨by omega, by omega, by omega, by omega, by omega, by omega⟩, ?_, fun _ => rfl⟩
            rcases HST.out with q | q <;> rcases HJ2.out with q' | q' <;> omega
          case measure => simp [intOf]; omega
    · have st : s' = m := by
        rcases HST.out with q | q <;> omega
      have sr : r' = 0 := HRR.out (by omega)
      subst sr
      have hq : (s' == m) = true := beq_iff_eq.2 st
      clear st HST HRR
      go_wp2
      go_ret
      exact ⟨rfl, HBL.out⟩

set_option maxHeartbeats 2000000 in
theorem grows_bad {s m r : Int} (h : ¬ Good s m r) (p : Option Addr) (len cap : Nat) (w : World) :
    Calls Try.prog 7 #[.agg #[.int .i64 s, .int .i64 m, .int .i64 r], .slice p len cap] w fun e w' => e = .returned (.bool true) ∧ Below w.heap.size w w' := by
  have HG := Lib.hid h
  by_cases hr : s < 1 ∨ (¬ s < 1 ∧ m < s) ∨ (¬ s < 1 ∧ ¬ m < s ∧ r < 0) ∨ (¬ s < 1 ∧ ¬ m < s ∧ ¬ r < 0 ∧ 3 < r)
  · have HR := Lib.hid hr
    clear hr h
    go_enter Try.func7, Try.ntmps7
    go_wp2_with fail
    refine (check_no HG.out _).mono ?_
    rintro e w1 ⟨rfl, hb⟩
    have B1 : Box w1 w.heap.size s m r := (Box.mk_alloc w s m r).below hb
    have b1 : Below w.heap.size w w1 := ((Below.refl w.heap.size w).alloc (Nat.le_refl _) _).trans (hb.mono (by simp))
    have Hb1 := Lib.hid b1
    clear hb b1
    obtain ⟨k0, k1, k2, _, _, _, klt⟩ := B1
    go_wp2_with fail
    refine (right_no (by have := HR.out; omega) _).mono ?_
    rintro e w2 ⟨rfl, hb⟩
    go_wp2
    go_ret
    exact ⟨rfl, Hb1.out.trans (hb.mono Hb1.out.size)⟩
  · have hm : 32 < m := by unfold Good at h; omega
    have q1 : 1 ≤ s := by omega
    have q2 : s ≤ m := by omega
    have q3 : 0 ≤ r := by omega
    have q4 : r ≤ 3 := by omega
    have hmd : decide (m ≤ 32) = false := decide_eq_false (by omega)
    clear hr h
    go_enter Try.func7, Try.ntmps7
    go_wp2_with fail
    refine (check_no HG.out _).mono ?_
    rintro e w1 ⟨rfl, hb⟩
    have B1 : Box w1 w.heap.size s m r := (Box.mk_alloc w s m r).below hb
    have b1 : Below w.heap.size w w1 := ((Below.refl w.heap.size w).alloc (Nat.le_refl _) _).trans (hb.mono (by simp))
    have HB1 := Lib.hid B1
    have Hb1 := Lib.hid b1
    clear hb b1
    obtain ⟨k0, k1, k2, _, _, _, klt⟩ := B1
    go_wp2_with fail
    refine (right_yes (by omega) (by omega) (by omega) (by omega) _).mono ?_
    rintro e w2 ⟨rfl, hb⟩
    have B2 := HB1.out.below hb
    have b2 := Hb1.out.trans (hb.mono Hb1.out.size)
    have Hb2 := Lib.hid b2
    clear hb b2 k0 k1 k2 klt HB1 Hb1
    obtain ⟨k0, k1, k2, _, _, _, klt⟩ := B2
    go_wp2
    go_ret
    exact ⟨rfl, Hb2.out⟩

theorem grows_calls (s m r : Int) (p : Option Addr) (len cap : Nat) (hlen : (len : Int) ≤ 9223372036854775807) (w : World) (hp : Ints w p len) :
    Calls Try.prog 7 #[.agg #[.int .i64 s, .int .i64 m, .int .i64 r], .slice p len cap] w fun e w' => e = .returned (.bool true) ∧ Below w.heap.size w w' := by
  by_cases h : Good s m r
  · exact grows_good h p len cap hlen w hp
  · exact grows_bad h p len cap w
end Go.Proofs.Ytljkfbmpokcpjaa.Nx
