/- The walks of EqInts (plainly), alike and longest. -/
import Derived.Test.YtjeofkobefeigaaWo
set_option linter.unusedVariables false
set_option linter.unusedSimpArgs false
namespace Go.Proofs.Ytjeofkobefeigaa.Wk
open Go.RowKit Go.Shelf Go.Proofs.YtjeofkobefeigaaW.PrintWords Go.Proofs.YtjeofkobefeigaaW.PrintLast Go.Proofs.YtjeofkobefeigaaW.PrintMore Go.Proofs.Ytjeofkobefeigaa.Mp Go.Proofs.Ytjeofkobefeigaa.PEqInts
open Go.ChangeMaps (setBlock)

theorem eqints_l0 (a b : List Int) (he : a.length = b.length) (hl : a.length ≤ 9223372036854775807) : ∀ (d k i : Nat), i + d = a.length → d < k → augurref00_EqInts.l0 k a b (i : Int) = some (decide (a.drop i = b.drop i)) := by
  intro d
  induction d with
  | zero =>
    intro k i hi hk
    obtain ⟨k, rfl⟩ : ∃ m, k = m + 1 := ⟨k - 1, by omega⟩
    simp only [augurref00_EqInts.l0]
    rw [if_neg (by omega), List.drop_of_length_le (by omega), List.drop_of_length_le (by omega)]
    simp
  | succ d ih =>
    intro k i hi hk
    obtain ⟨k, rfl⟩ : ∃ m, k = m + 1 := ⟨k - 1, by omega⟩
    have e1 : a.drop i = nth a i :: a.drop (i + 1) := by
      rw [List.drop_eq_getElem_cons (by omega)]; congr 1; unfold nth; rw [List.getD_eq_getElem?_getD, List.getElem?_eq_getElem (by omega)]; rfl
    have e2 : b.drop i = nth b i :: b.drop (i + 1) := by
      rw [List.drop_eq_getElem_cons (by omega)]; congr 1; unfold nth; rw [List.getD_eq_getElem?_getD, List.getElem?_eq_getElem (by omega)]; rfl
    simp only [augurref00_EqInts.l0]
    rw [if_pos (by omega), if_pos (by omega), if_pos (by omega), rd_nth, rd_nth]
    by_cases c : nth a i = nth b i
    · rw [if_pos c, IntWalk.wrap64_in _ (by omega)]
      rw [show ((i : Int) + 1) = ((i + 1 : Nat) : Int) by omega, ih k (i + 1) (by omega) (by omega), e1, e2, c]
      simp
    · rw [if_neg c, e1, e2]
      simp [c]
theorem eqints_f (a b : List Int) (hl : a.length ≤ 9223372036854775807) : augurref00_EqInts.f (a.length + 1) a b = some (decide (a = b)) := by
  unfold augurref00_EqInts.f
  by_cases he : a.length = b.length
  · rw [if_pos (by omega)]
    have := eqints_l0 a b he hl a.length (a.length + 1) 0 (by omega) (by omega)
    simpa using this
  · rw [if_neg (by omega)]
    have : a ≠ b := fun e => he (by rw [e])
    simp [this]
theorem eqints_calls {w : World} {A0 A1 : Option Addr} {c0 c1 : Nat} {a b : List Int} (h0 : Kd.C (Kd.int .i64) w A0 a.length a) (hc0 : a.length ≤ c0) (h1 : Kd.C (Kd.int .i64) w A1 b.length b) (hc1 : b.length ≤ c1) :
    Calls Try.prog 30 #[.slice A0 a.length c0, .slice A1 b.length c1] w fun e w' => e = .returned (.bool (decide (a = b))) ∧ Drawn0 w w' :=
  augurref00_EqInts.calls _ A0 c0 a A1 c1 b _ w h0 hc0 h1 hc1 (eqints_f a b (Kd.C_max h0))
/-- Does the run of l tokens of the end stand ahead of place q too? -/
def alikeB (t : List Int) (q l : Nat) : Bool := decide (l ≤ q ∧ q < t.length ∧ gramAt t q l = gramAt t t.length l)
set_option maxHeartbeats 2000000 in
theorem alike_calls {w : World} {A : Option Addr} {c q l : Nat} {t : List Int} (hC : Kd.C (Kd.int .i64) w A t.length t) (hc : t.length ≤ c) (hl : l ≤ 4) (hq : q ≤ 9223372036854775807) :
    Calls Try.prog 16 #[.slice A t.length c, .int .i64 q, .int .i64 l] w fun e w' => e = .returned (.bool (alikeB t q l)) ∧ Drawn0 w w' := by
  have hmax := Kd.C_max hC
  by_cases c1 : l ≤ q
  · have d1 : decide ((l : Int) ≤ (q : Int)) = true := decide_eq_true (by omega)
    have d1' : decide (l ≤ q) = true := decide_eq_true c1
    by_cases c2 : q < t.length
    · have d2 : decide ((q : Int) < (t.length : Int)) = true := decide_eq_true (by omega)
      have d2' : decide (q < t.length) = true := decide_eq_true c2
      obtain ⟨L, hL⟩ : ∃ L, t.length - l = L := ⟨_, rfl⟩
      obtain ⟨lo, hlo⟩ : ∃ lo, q - l = lo := ⟨_, rfl⟩
      have e1 : IntKind.i64.wrap ((q : Int) - (l : Int)) = (lo : Int) := by rw [IntWalk.i64_in _ (by omega)]; omega
      have e2 : IntKind.i64.wrap ((t.length : Int) - (l : Int)) = (L : Int) := by rw [IntWalk.i64_in _ (by omega)]; omega
      have e1' : wrap64 ((q : Int) - (l : Int)) = (lo : Int) := by rw [IntWalk.wrap64_in _ (by omega)]; omega
      have e2' : wrap64 ((t.length : Int) - (l : Int)) = (L : Int) := by rw [IntWalk.wrap64_in _ (by omega)]; omega
      obtain ⟨i0, hi0, _, hsz, _⟩ := info_parts info3
      have hcut1 := cut_mid (P := Try.prog) 22 3 .i64 .i64 Try.underlying22 hi0 1 hsz A t.length c (lo : Int) (q : Int) (by omega) (by omega) (by omega) hc
      have hcut2 := cut_from (P := Try.prog) 22 3 .i64 Try.underlying22 hi0 1 hsz A t.length c (L : Int) (by omega) (by omega)
      have hC1 := Kd.C_mid (k := Kd.int .i64) (xs := t) (c := c) (lo := lo) (hi := q) hC (by omega) (by omega) hc
      have hC2 := Kd.C_mid (k := Kd.int .i64) (xs := t) (c := c) (lo := L) (hi := t.length) hC (by omega) (by omega) hc
      obtain ⟨g1, hg1⟩ : ∃ g, gramAt t q l = g := ⟨_, rfl⟩
      obtain ⟨g2, hg2⟩ : ∃ g, gramAt t t.length l = g := ⟨_, rfl⟩
      rw [show (t.take q).drop lo = g1 by rw [← hg1, ← hlo]; rfl] at hC1
      rw [show (t.take t.length).drop L = g2 by rw [← hg2, ← hL]; rfl] at hC2
      have hl1 : q - lo = g1.length := by rw [← hg1, gramAt_length c1 (by omega)]; omega
      have hl2 : t.length - L = g2.length := by rw [← hg2, gramAt_length (by omega) (Nat.le_refl _)]; omega
      rw [Int.toNat_natCast, Int.toNat_natCast, hl1] at hcut1
      rw [Int.toNat_natCast, hl2] at hcut2
      obtain ⟨A1, hA1⟩ : ∃ A1, (if c = lo then A else A.map (·.add (lo * 1))) = A1 := ⟨_, rfl⟩
      obtain ⟨A2, hA2⟩ : ∃ A2, (if c = L then A else A.map (·.add (L * 1))) = A2 := ⟨_, rfl⟩
      rw [hA1] at hcut1
      rw [hA2] at hcut2
      rw [show (if c = lo then A else A.map (·.add (lo * (Kd.int .i64).sz))) = A1 from hA1] at hC1
      rw [show (if c = L then A else A.map (·.add (L * (Kd.int .i64).sz))) = A2 from hA2] at hC2
      obtain ⟨x1, hx1⟩ : ∃ x, c - lo = x := ⟨_, rfl⟩
      obtain ⟨x2, hx2⟩ : ∃ x, c - L = x := ⟨_, rfl⟩
      rw [hx1] at hcut1
      rw [hx2] at hcut2
      have hy1 : g1.length ≤ x1 := by omega
      have hy2 : g2.length ≤ x2 := by omega
      have hcall := fun w' (hd : Drawn0 w w') => eqints_calls (w := w') (Kd.C_below hC1 hd.below) hy1 (Kd.C_below hC2 hd.below) hy2
      have HCALL := Lib.hid hcall
      have HR : Hid (alikeB t q l = decide (g1 = g2)) := Lib.hid (by unfold alikeB; rw [hg1, hg2]; exact decide_eq_decide.2 ⟨fun h => h.2.2, fun h => ⟨c1, c2, h⟩⟩)
      rw [HR.out]
      clear hC hC1 hC2 hcall hg1 hg2 hl1 hl2 hA1 hA2 hx1 hx2 hy1 hy2 hi0 hsz hL hlo hmax hc
      go_enter Try.func16, Try.ntmps16
      go_wp2
      go_quiet ((go_at_call 30; refine (HCALL.out _ ⟨⟨_, rfl⟩⟩).mono ?_; rintro e w' ⟨rfl, ⟨nd, rfl⟩⟩; first | exact ⟨rfl, _, World.drewN_drewN _ _ _⟩ | exact ⟨rfl, _, Eq.trans (World.drewN_drewN _ _ _) (congrArg (World.drewN _) (Nat.add_assoc _ _ _))⟩))
      go_wp2
      go_ret
      exact ⟨rfl, ⟨_, rfl⟩⟩
    · have d2 : decide ((q : Int) < (t.length : Int)) = false := decide_eq_false (by omega)
      have d2' : decide (q < t.length) = false := decide_eq_false c2
      have HR : Hid (alikeB t q l = false) := Lib.hid (by unfold alikeB; exact decide_eq_false (fun h => c2 h.2.1))
      rw [HR.out]
      go_enter Try.func16, Try.ntmps16
      go_wp2
      go_quiet (fail)
      go_wp2
      go_ret
      exact ⟨rfl, ⟨_, rfl⟩⟩
  · have d1 : decide ((l : Int) ≤ (q : Int)) = false := decide_eq_false (by omega)
    have d1' : decide (l ≤ q) = false := decide_eq_false c1
    have HR : Hid (alikeB t q l = false) := Lib.hid (by unfold alikeB; exact decide_eq_false (fun h => c1 h.1))
    rw [HR.out]
    go_enter Try.func16, Try.ntmps16
    go_wp2
    go_quiet (fail)
    go_wp2
    go_ret
    exact ⟨rfl, ⟨_, rfl⟩⟩
/-- Does the run of l tokens of the end stand ahead of a place before q? -/
def hasQ (t : List Int) (l q : Nat) : Bool := (List.range q).any (fun p => alikeB t p l)
def longestN (t : List Int) : Nat → Nat
  | 0 => 0
  | n + 1 => if hasQ t (n + 1) t.length = true then n + 1 else longestN t n
theorem hasQ_succ (t : List Int) (l q : Nat) : hasQ t l (q + 1) = (hasQ t l q || alikeB t q l) := by
  unfold hasQ
  rw [List.range_succ, List.any_append]
  simp
theorem hasQ_low (t : List Int) (l : Nat) : ∀ q, q ≤ l → hasQ t l q = false
  | 0, _ => rfl
  | q + 1, h => by
    rw [hasQ_succ, hasQ_low t l q (by omega)]
    unfold alikeB
    simp
    omega
theorem hasQ_high (t : List Int) (l : Nat) {q : Nat} (h : t.length ≤ q) : hasQ t l q = hasQ t l t.length := by
  obtain ⟨d, rfl⟩ : ∃ d, q = t.length + d := ⟨q - t.length, by omega⟩
  clear h
  induction d with
  | zero => rfl
  | succ d ih =>
    rw [← Nat.add_assoc, hasQ_succ, ih]
    have : alikeB t (t.length + d) l = false := decide_eq_false (fun h => by omega)
    rw [this, Bool.or_false]
theorem longestN_le (t : List Int) : ∀ n, longestN t n ≤ n
  | 0 => Nat.le_refl _
  | n + 1 => by
    unfold longestN
    split
    · exact Nat.le_refl _
    · exact Nat.le_succ_of_le (longestN_le t n)
theorem drawn_trans {a b c : World} (h : Drawn0 a b) (k : Drawn0 b c) : Drawn0 a c := by
  obtain ⟨n, rfl⟩ := h
  obtain ⟨m, rfl⟩ := k
  exact ⟨⟨n + m, World.drewN_drewN ..⟩⟩
def L1Rel (w : World) (t : List Int) (most : Nat) (s5 s6 : Value) (wr : World) : Prop :=
  ∃ l : Nat, s6 = .int .i64 l ∧ 1 ≤ l ∧ l ≤ most + 1 ∧ s5 = .int .i64 (longestN t (l - 1) : Nat) ∧ Drawn0 w wr
def L2Rel (w : World) (t : List Int) (l : Nat) (s5 s7 : Value) (wr : World) : Prop :=
  ∃ q : Nat, s7 = .int .i64 q ∧ l ≤ q ∧ (q ≤ t.length ∨ q = l) ∧ s5 = .int .i64 ((if hasQ t l q = true then l else longestN t (l - 1) : Nat)) ∧ Drawn0 w wr
set_option maxHeartbeats 2000000 in
theorem longest_calls {w : World} {A : Option Addr} {c most : Nat} {t : List Int} (hC : Kd.C (Kd.int .i64) w A t.length t) (hc : t.length ≤ c) (h4 : most ≤ 4) (hl : t.length ≤ 17592186044416) :
    Calls Try.prog 15 #[.slice A t.length c, .int .i64 most] w fun e w' => e = .returned (.int .i64 (longestN t most : Nat)) ∧ Drawn0 w w' := by
  have HC := Lib.hid hC
  have HCC := Lib.hid hc
  have HL := Lib.hid hl
  clear hC hc hl
  go_enter Try.func15, Try.ntmps15
  go_wp2
  go_loopw [5, 6] (fun x y wr => L1Rel w t most x y wr) (fun _ y _ => most + 1 - (intOf y).toNat)
  case atStart => exact ⟨1, rfl, Nat.le_refl _, by omega, rfl, Drawn0.refl _⟩
  case round =>
    obtain ⟨l, rfl, h1, h2, rfl, hd⟩ := hrel
    rename World => wa
    have HD := Lib.hid hd
    obtain ⟨b, hb⟩ : ∃ b, longestN t (l - 1) = b := ⟨_, rfl⟩
    rw [hb]
    have HB := Lib.hid hb
    clear hd hb
    by_cases hle : l ≤ most
    · have d1 : decide ((l : Int) ≤ (most : Int)) = true := decide_eq_true (by omega)
      have d1' : decide (l ≤ most) = true := decide_eq_true hle
      have HLE := Lib.hid hle
      clear hle
      go_wp2
      go_loopw [5, 7] (fun x y wr => L2Rel w t l x y wr) (fun _ y _ => t.length + 5 - (intOf y).toNat)
      case atStart => exact ⟨l, rfl, Nat.le_refl _, .inr rfl, by rw [hasQ_low t l l (Nat.le_refl _), ← HB.out]; rfl, HD.out⟩
      case round =>
        obtain ⟨q, rfl, g1, g2, rfl, hd⟩ := hrel
        rename World => wb
        have HD2 := Lib.hid hd
        obtain ⟨x, hx⟩ : ∃ x, (if hasQ t l q = true then l else longestN t (l - 1)) = x := ⟨_, rfl⟩
        rw [hx]
        have HX := Lib.hid hx
        have hq5 : q ≤ t.length + 4 := by have := HLE.out; omega
        have HQ5 := Lib.hid hq5
        clear hd hx d1 d1' hq5
        have hqm : (q : Int) ≤ 17592186044420 := by have := HL.out; have := HQ5.out; omega
        by_cases hlt : q < t.length
        · have d2 : decide ((q : Int) < (t.length : Int)) = true := decide_eq_true (by omega)
          have d2' : decide (q < t.length) = true := decide_eq_true hlt
          have HLT := Lib.hid hlt
          cases hal : alikeB t q l
          all_goals
            have HAL := Lib.hid hal
            have hcall := alike_calls (w := wb) (Kd.C_below HC.out HD2.out.below) HCC.out (q := q) (l := l) (by have := HLE.out; omega) (by have := HLT.out; have := HL.out; omega)
            rw [hal] at hcall
            have HCALL := Lib.hid hcall
            clear hal hcall hlt g2
            go_wp2_with (go_at_call 16; refine HCALL.out.mono ?_; rintro e w' ⟨rfl, hd⟩)
            have hw := IntWalk.wrap64_in ((q : Int) + 1) (by omega)
            refine ⟨⟨q + 1, by first | rfl | rw [hw]; rfl, by omega, .inl HLT.out, ?_, drawn_trans HD2.out hd⟩, ?_⟩
            · rw [hasQ_succ, HAL.out]
              have := HX.out
              first
              | (rw [Bool.or_false]; rw [this])
              | (rw [Bool.or_true]; rfl)
            · have := HLT.out
              simp [intOf] <;> omega
        · have d2 : decide ((q : Int) < (t.length : Int)) = false := decide_eq_false (by omega)
          have d2' : decide (q < t.length) = false := decide_eq_false hlt
          have HGE : Hid (t.length ≤ q) := Lib.hid (by omega)
          clear hlt g2
          go_wp2
          refine ⟨⟨l + 1, by first | rfl | skip, by omega, by have := HLE.out; omega, ?_, HD2.out⟩, ?_⟩
          · rw [Nat.add_sub_cancel]
            obtain ⟨l0, rfl⟩ : ∃ l0, l = l0 + 1 := ⟨l - 1, by omega⟩
            have := HX.out
            rw [hasQ_high t _ HGE.out, Nat.add_sub_cancel] at this
            rw [← this]
            rfl
          · have := HLE.out
            simp [intOf] <;> omega
    · have d1 : decide ((l : Int) ≤ (most : Int)) = false := decide_eq_false (by omega)
      have d1' : decide (l ≤ most) = false := decide_eq_false hle
      have HM : Hid (l - 1 = most) := Lib.hid (by omega)
      go_wp2
      go_ret
      exact ⟨by have h1 := HB.out; rw [HM.out] at h1; rw [h1]; rfl, HD.out⟩
end Go.Proofs.Ytjeofkobefeigaa.Wk
