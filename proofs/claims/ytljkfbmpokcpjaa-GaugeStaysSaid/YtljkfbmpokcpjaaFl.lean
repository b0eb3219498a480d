/- The walk of GaugeFalls: it returns true for every gauge and every list of numbers. -/
import Derived.Test.YtljkfbmpokcpjaaBx
import Derived.Deep.DeepCutAuto
import Derived.Deep.CutBlock
namespace Go.Proofs.Ytljkfbmpokcpjaa.Nx
open Go.RowKit Go.Proofs.Ytljkfbmpokcpjaa.PGaugeChecks Go.Proofs.YtljkfbmpokcpjaaW.PrintWords Go.Proofs.YtljkfbmpokcpjaaW.PrintLast Go.Proofs.YtljkfbmpokcpjaaW.PrintMore Go.Proofs.Ytljkfbmpokcpjaa.M Go.Proofs.Ytljkfbmpokcpjaa.Pure
attribute [local go_sem] max2_int min2_int max_two min_two

/-- A list of numbers that came in: what its places hold. -/
def Ints (w : World) (p : Option Addr) (len : Nat) : Prop := ∀ k, k < len → ∃ b off x, p = some ⟨b, off, none⟩ ∧ w.cell? ⟨b, off + k, none⟩ = some (.int .i64 x) ∧ b < w.heap.size

/-- Behind i rounds of guesses that fail. -/
def FallRel (w : World) (g : Nat) (m : Int) (v : Value) (wr : World) : Prop :=
  ∃ i s r : Int, v = .int .i64 i ∧ 0 ≤ i ∧ i ≤ 5 ∧ Box wr g s m r ∧ Below w.heap.size w wr ∧ Good s m r ∧
    ((i = 0 ∧ s ≤ 32) ∨ (i = 1 ∧ s ≤ 16 ∧ r = 0) ∨ (i = 2 ∧ s ≤ 8 ∧ r = 0) ∨ (i = 3 ∧ s ≤ 4 ∧ r = 0) ∨ (i = 4 ∧ s ≤ 2 ∧ r = 0) ∨ (i = 5 ∧ s ≤ 1 ∧ r = 0))
/-- Whether the i-th number may be taken, and what it is then. -/
def TakeRel (w : World) (p : Option Addr) (len : Nat) (i : Int) (v : Value) (wc : World) : Prop :=
  ∃ c : Bool, v = .bool c ∧ wc = w ∧ (c = true → ∃ b off x, p = some ⟨b, off, none⟩ ∧ w.cell? ⟨b, off + i.toNat, none⟩ = some (.int .i64 x) ∧ i < len ∧ 2 ≤ x ∧ x ≤ 32)
/-- Behind i rounds of the root alone, of Size 1. -/
def WaitRel (w : World) (g : Nat) (m : Int) (v : Value) (wr : World) : Prop :=
  ∃ i s r : Int, v = .int .i64 i ∧ 0 ≤ i ∧ i ≤ 4 ∧ Box wr g s m r ∧ Below w.heap.size w wr ∧ Good s m r ∧ ((i < 4 ∧ s = 1 ∧ r = i) ∨ (i = 4 ∧ s = if m < 2 then m else 2))
def NumRel (w : World) (v : Value) (wc : World) : Prop := ∃ n : Int, v = .int .i64 n ∧ 2 ≤ n ∧ n ≤ 32 ∧ wc = w

theorem ints_below {w wr : World} {p : Option Addr} {len : Nat} (h : Ints w p len) (hb : Below w.heap.size w wr) : Ints wr p len := fun k hk => by
  obtain ⟨b, off, x, e, hc, hl⟩ := h k hk
  exact ⟨b, off, x, e, (hb.cell (p := ⟨b, off + k, none⟩) hl).trans hc, Nat.lt_of_lt_of_le hl hb.size⟩

set_option maxHeartbeats 4000000 in
theorem falls_good {s m r : Int} (h : Good s m r) (p : Option Addr) (len cap : Nat) (_hlen : (len : Int) ≤ 9223372036854775807) (w : World) (hp : Ints w p len) :
    Calls Try.prog 6 #[.agg #[.int .i64 s, .int .i64 m, .int .i64 r], .slice p len cap] w fun e w' => e = .returned (.bool true) ∧ Below w.heap.size w w' := by
  have HG := Lib.hid h
  have HP := Lib.hid hp
  obtain ⟨m0, m1, s0, s1, r0, r1⟩ := h
  clear hp
  go_enter Try.func6, Try.ntmps6
  go_wp2_with fail
  refine (check_yes HG.out _).mono ?_
  rintro e w1 ⟨rfl, hb⟩
  have B1 : Box w1 w.heap.size s m r := (Box.mk_alloc w s m r).below hb
  have b1 : Below w.heap.size w w1 := ((Below.refl w.heap.size w).alloc (Nat.le_refl _) _).trans (hb.mono (by simp))
  have HB1 := Lib.hid B1
  have Hb1 := Lib.hid b1
  clear hb b1
  obtain ⟨k0, k1, k2, _, _, _, klt⟩ := B1
  go_wp2_with fail
  refine (right_yes (by omega) (by omega) (by omega) (by omega) _).mono ?_
  rintro e w2 ⟨rfl, hb⟩
  have B2 := HB1.out.below hb
  have b2 := Hb1.out.trans (hb.mono Hb1.out.size)
  have HB2 := Lib.hid B2
  have Hb2 := Lib.hid b2
  clear hb b2 k0 k1 k2 klt HB1 Hb1
  obtain ⟨k0, k1, k2, _, _, _, klt⟩ := B2
  go_wp2_with fail
  go_loopw [7] (fun v wr => FallRel w w.heap.size m v wr) (fun v _ => 5 - (intOf v).toNat)
  case atStart => exact ⟨0, s, r, rfl, by omega, by omega, HB2.out, Hb2.out, HG.out, .inl ⟨rfl, by omega⟩⟩
  case round =>
    clear k0 k1 k2 klt HB2 Hb2 m0 m1 s0 s1 r0 r1
    obtain ⟨i, s', r', rfl, i0, i5, hbox, hbel, hgood, hst⟩ := hrel
    obtain ⟨m0, m1, s0, s1, r0, r1⟩ := hgood
    have HBX := Lib.hid hbox
    have HBL := Lib.hid hbel
    have HST := Lib.hid hst
    obtain ⟨k0, k1, k2, _, _, _, klt⟩ := hbox
    clear hst hbel
    by_cases hi : i < 5
    · have HI : Hid (Ints wr p len) := Lib.hid (ints_below HP.out HBL.out)
      go_upto_region 9 with (fail)
      go_cut [50] (TakeRel wr p len i)
      case first =>
        by_cases hlt : i < len
        · obtain ⟨b, off, x, hpe, hcell, hb0⟩ := HI.out i.toNat (by omega)
          subst hpe
          have i2 : i.toNat < len := by omega
          by_cases x2 : 2 ≤ x
          · by_cases x3 : x ≤ 32
            · go_wp2
              go_meet
              case rel => exact ⟨true, rfl, rfl, fun _ => ⟨b, off, x, rfl, hcell, hlt, x2, x3⟩⟩
            · go_wp2
              go_meet
              case rel => exact ⟨false, rfl, rfl, fun h => by cases h⟩
          · go_wp2
            go_meet
            case rel => exact ⟨false, rfl, rfl, fun h => by cases h⟩
        · go_wp2
          go_meet
          case rel => exact ⟨false, rfl, rfl, fun h => by cases h⟩
      case rest =>
        obtain ⟨c, rfl, rfl, hx⟩ := hcut
        have HX := Lib.hid hx
        clear hx
        go_upto_if 50 with (fail)
        go_cut [8] (NumRel wc)
        case first =>
          cases c with
          | true =>
            obtain ⟨b, off, x, rfl, hcell, hlt, x2, x3⟩ := HX.out rfl
            have i2 : i.toNat < len := by omega
            go_wp2
            go_meet
            case rel => exact ⟨x, rfl, x2, x3, rfl⟩
          | false =>
            go_wp2
            go_meet
            case rel => exact ⟨2, rfl, by omega, by omega, rfl⟩
        case rest =>
          obtain ⟨n, rfl, n2, n3, rfl⟩ := hcut
          clear HX HI
          obtain ⟨j, hj⟩ : ∃ j : Int, (if s' / 2 < 1 then 1 else s' / 2) = j := ⟨_, rfl⟩
          have j0 : 1 ≤ j := by rw [← hj]; split <;> omega
          have j1 : j ≤ s' := by rw [← hj]; split <;> omega
          have j2 : 2 * j ≤ s' ∨ j = 1 := by rw [← hj]; split <;> omega
          have HJ := Lib.hid hj
          have HJ2 := Lib.hid j2
          have HGD : Hid (Good s' m r') := Lib.hid ⟨m0, m1, s0, s1, r0, r1⟩
          clear hj j2
          go_wp2_with fail
          refine (next_half (by omega) (by omega) (by omega) (by omega) (beq_eq_false_iff_ne.2 (by omega)) rfl HJ.out (by omega) HGD.out _).mono ?_
          rintro e w3 ⟨rfl, hb⟩
          have B3 := HBX.out.below hb
          have b3 := HBL.out.trans (hb.mono HBL.out.size)
          have HB3 := Lib.hid B3
          have Hb3 := Lib.hid b3
          clear hb b3 k0 k1 k2 klt HBX HBL
          obtain ⟨k0, k1, k2, _, _, _, klt⟩ := B3
          go_wp2
          go_roundw
          case rel =>
            refine ⟨i + 1, j, 0, rfl, by omega, by omega, (HB3.out.put j m 0).alloc _, (((Hb3.out.setCell (Nat.le_refl _) _).setCell (Nat.le_refl _) _).setCell (Nat.le_refl _) _).alloc (by simp; omega) _, ⟨by omega, by omega, by omega, by omega, by omega, by omega⟩, ?_⟩
            rcases HST.out with q | q | q | q | q | q <;> rcases HJ2.out with q' | q' <;> omega
          case measure => simp [intOf]; omega
    · have st : i = 5 ∧ s' = 1 ∧ r' = 0 := by
        rcases HST.out with q | q | q | q | q | q <;> omega
      obtain ⟨rfl, rfl, rfl⟩ := st
      clear HST HP i0 i5 hi
      go_wp2
      go_loopw [11] (fun v wr => WaitRel w w.heap.size m v wr) (fun v _ => 4 - (intOf v).toNat)
      case atStart => exact ⟨0, 1, 0, rfl, by omega, by omega, HBX.out, HBL.out, ⟨m0, m1, s0, s1, r0, r1⟩, .inl ⟨by omega, rfl, rfl⟩⟩
      case round =>
        clear k0 k1 k2 klt HBX HBL m0 m1 s0 s1 r0 r1
        obtain ⟨i, s', r', rfl, i0, i4, hbox, hbel, hgood, hst⟩ := hrel
        obtain ⟨m0, m1, s0, s1, r0, r1⟩ := hgood
        have HBX := Lib.hid hbox
        have HBL := Lib.hid hbel
        have HGD : Hid (Good s' m r') := Lib.hid ⟨m0, m1, s0, s1, r0, r1⟩
        obtain ⟨k0, k1, k2, _, _, _, klt⟩ := hbox
        clear hbel
        rcases hst with ⟨hi, rfl, rfl⟩ | ⟨rfl, hs⟩
        · by_cases h3 : r' < 3
          · go_wp2_with fail
            refine (next_wait (by omega) (by omega) (by omega) (by omega) rfl (by omega) h3 HGD.out _).mono ?_
            rintro e w3 ⟨rfl, hb⟩
            have B3 := HBX.out.below hb
            have b3 := HBL.out.trans (hb.mono HBL.out.size)
            have HB3 := Lib.hid B3
            have Hb3 := Lib.hid b3
            clear hb b3 k0 k1 k2 klt HBX HBL
            obtain ⟨k0, k1, k2, _, _, _, klt⟩ := B3
            go_wp2
            go_roundw
            case rel =>
              exact ⟨r' + 1, 1, r' + 1, rfl, by omega, by omega, (HB3.out.put 1 m (r' + 1)).alloc _, (((Hb3.out.setCell (Nat.le_refl _) _).setCell (Nat.le_refl _) _).setCell (Nat.le_refl _) _).alloc (by simp; omega) _, ⟨by omega, by omega, by omega, by omega, by omega, by omega⟩, .inl ⟨by omega, rfl, rfl⟩⟩
            case measure => simp [intOf]; omega
          · obtain ⟨j, hj⟩ : ∃ j : Int, (if m < 2 then m else 2) = j := ⟨_, rfl⟩
            have j0 : 1 ≤ j := by rw [← hj]; split <;> omega
            have j1 : j ≤ m := by rw [← hj]; split <;> omega
            have HJ := Lib.hid hj
            clear hj
            go_wp2_with fail
            refine (next_two (by omega) (by omega) (by omega) (by omega) rfl (by omega) (by omega) HJ.out HGD.out _).mono ?_
            rintro e w3 ⟨rfl, hb⟩
            have B3 := HBX.out.below hb
            have b3 := HBL.out.trans (hb.mono HBL.out.size)
            have HB3 := Lib.hid B3
            have Hb3 := Lib.hid b3
            clear hb b3 k0 k1 k2 klt HBX HBL
            obtain ⟨k0, k1, k2, _, _, _, klt⟩ := B3
            go_wp2
            go_roundw
            case rel =>
              exact ⟨r' + 1, j, 0, rfl, by omega, by omega, (HB3.out.put j m 0).alloc _, (((Hb3.out.setCell (Nat.le_refl _) _).setCell (Nat.le_refl _) _).setCell (Nat.le_refl _) _).alloc (by simp; omega) _, ⟨by omega, by omega, by omega, by omega, by omega, by omega⟩, .inr ⟨by omega, HJ.out.symm⟩⟩
            case measure => simp [intOf]; omega
        · by_cases cm : m < 2
          · rw [if_pos cm] at hs
            have hq : (s' == m) = true := beq_iff_eq.2 hs
            clear hs
            go_wp2
            go_ret
            exact ⟨rfl, HBL.out⟩
          · rw [if_neg cm] at hs
            have hq : (s' == 2) = true := beq_iff_eq.2 hs
            clear hs
            go_wp2
            go_ret
            exact ⟨rfl, HBL.out⟩

set_option maxHeartbeats 2000000 in
theorem falls_bad {s m r : Int} (h : ¬ Good s m r) (p : Option Addr) (len cap : Nat) (w : World) :
    Calls Try.prog 6 #[.agg #[.int .i64 s, .int .i64 m, .int .i64 r], .slice p len cap] w fun e w' => e = .returned (.bool true) ∧ Below w.heap.size w w' := by
  have HG := Lib.hid h
  by_cases hr : s < 1 ∨ (¬ s < 1 ∧ m < s) ∨ (¬ s < 1 ∧ ¬ m < s ∧ r < 0) ∨ (¬ s < 1 ∧ ¬ m < s ∧ ¬ r < 0 ∧ 3 < r)
  · have HR := Lib.hid hr
    clear hr h
    go_enter Try.func6, Try.ntmps6
    go_wp2_with fail
    refine (check_no HG.out _).mono ?_
    rintro e w1 ⟨rfl, hb⟩
    have B1 : Box w1 w.heap.size s m r := (Box.mk_alloc w s m r).below hb
    have b1 : Below w.heap.size w w1 := ((Below.refl w.heap.size w).alloc (Nat.le_refl _) _).trans (hb.mono (by simp))
    have Hb1 := Lib.hid b1
    clear hb b1
    obtain ⟨k0, k1, k2, _, _, _, klt⟩ := B1
    go_wp2_with fail
    refine (right_no (by have := HR.out; omega) _).mono ?_
    rintro e w2 ⟨rfl, hb⟩
    go_wp2
    go_ret
    exact ⟨rfl, Hb1.out.trans (hb.mono Hb1.out.size)⟩
  · have hm : 32 < m := by unfold Good at h; omega
    have q1 : 1 ≤ s := by omega
    have q2 : s ≤ m := by omega
    have q3 : 0 ≤ r := by omega
    have q4 : r ≤ 3 := by omega
    have hmd : decide (m ≤ 32) = false := decide_eq_false (by omega)
    clear hr h
    go_enter Try.func6, Try.ntmps6
    go_wp2_with fail
    refine (check_no HG.out _).mono ?_
    rintro e w1 ⟨rfl, hb⟩
    have B1 : Box w1 w.heap.size s m r := (Box.mk_alloc w s m r).below hb
    have b1 : Below w.heap.size w w1 := ((Below.refl w.heap.size w).alloc (Nat.le_refl _) _).trans (hb.mono (by simp))
    have HB1 := Lib.hid B1
    have Hb1 := Lib.hid b1
    clear hb b1
    obtain ⟨k0, k1, k2, _, _, _, klt⟩ := B1
    go_wp2_with fail
    refine (right_yes (by omega) (by omega) (by omega) (by omega) _).mono ?_
    rintro e w2 ⟨rfl, hb⟩
    have B2 := HB1.out.below hb
    have b2 := Hb1.out.trans (hb.mono Hb1.out.size)
    have Hb2 := Lib.hid b2
    clear hb b2 k0 k1 k2 klt HB1 Hb1
    obtain ⟨k0, k1, k2, _, _, _, klt⟩ := B2
    go_wp2
    go_ret
    exact ⟨rfl, Hb2.out⟩

theorem falls_calls (s m r : Int) (p : Option Addr) (len cap : Nat) (hlen : (len : Int) ≤ 9223372036854775807) (w : World) (hp : Ints w p len) :
    Calls Try.prog 6 #[.agg #[.int .i64 s, .int .i64 m, .int .i64 r], .slice p len cap] w fun e w' => e = .returned (.bool true) ∧ Below w.heap.size w w' := by
  by_cases h : Good s m r
  · exact falls_good h p len cap hlen w hp
  · exact falls_bad h p len cap w
end Go.Proofs.Ytljkfbmpokcpjaa.Nx
