/- The walk of tensor.Softmax, of a list of at most 2^44 scores, where fix.terms holds the five numbers: the weights in new memory, and their sum. -/
import Derived.Test.YtnioohhiphpplaaDoorEx
import Derived.Test.YtnioohhiphpplaaDoorSx
import Derived.Deep.DeepCutAuto
import Derived.Deep.CutBlock
set_option linter.unusedVariables false
set_option linter.unusedSimpArgs false
namespace Go.Proofs.YtnioohhiphpplaaDoor.Wk
open Go.RowKit Go.Proofs.YtnioohhiphpplaaDoorW.PrintWords Go.Proofs.YtnioohhiphpplaaDoorW.PrintLast Go.Proofs.YtnioohhiphpplaaDoorW.PrintMore Go.Proofs.YtnioohhiphpplaaDoor.M Go.Proofs.YtnioohhiphpplaaDoor.Br
attribute [local go_sem] max2_int min2_int max_two min_two

theorem info2 : (Tryd.prog.info? 2).map (fun i => (i.zero, i.size, i.bytes)) = some (some (.int .i64 0), 1, 8) := by kernel_rfl
theorem Terms.below {w w1 : World} (h : Terms w) (hb : Below w.heap.size w w1) : Terms w1 :=
  ⟨pw_cell_below hb h.t0, pw_cell_below hb h.t1, pw_cell_below hb h.t2, pw_cell_below hb h.t3, pw_cell_below hb h.t4⟩

/-- The scores, not beyond Wide, in new memory. -/
theorem clamped_calls {A0 : Option Addr} {c0 : Nat} {s : List Int} (w : World) (hr0 : Kd.C (Kd.int .i64) w A0 s.length s) (hc0 : s.length ≤ c0) (hn : s.length ≤ 17592186044416) :
    Calls Tryd.prog 19 #[.slice A0 s.length c0] w fun e w' => ∃ v0 : Value, e = .returned v0 ∧ Kd.R (Kd.int .i64) 2 w' w.heap.size (fun _ => True) v0 (tb (cW s) s.length) ∧ Below w.heap.size w w' :=
  Pclamped.tensor_clamped.calls (s.length + 1) A0 c0 s (tb (cW s) s.length) w hr0 hc0 (clamped_is s (by omega))

/-- Behind i scores: the greatest. -/
def S1Rel (w : World) (s : List Int) (b x : Value) (wr : World) : Prop := ∃ i : Nat, x = .int .i64 i ∧ b = .int .i64 (bestN s i) ∧ i ≤ s.length ∧ w = wr
/-- Behind i scores: the weights and their sum. -/
def S2Rel (w : World) (v : Value) (s : List Int) (b x : Value) (wr : World) : Prop :=
  ∃ i : Nat, x = .int .i64 i ∧ b = .int .i64 (sumN (wt s) i) ∧ i ≤ s.length ∧ Kd.R (Kd.int .i64) 2 wr w.heap.size (fun _ => True) v (tb (overF (wt s) (cW s) i) s.length) ∧ Below w.heap.size w wr

set_option maxHeartbeats 2000000 in
set_option maxRecDepth 100000 in
theorem softmax_calls {A0 : Option Addr} {c0 : Nat} {s : List Int} (w : World) (ht : Terms w) (hr0 : Kd.C (Kd.int .i64) w A0 s.length s) (hc0 : s.length ≤ c0) (hn : s.length ≤ 17592186044416) :
    Calls Tryd.prog 6 #[.slice A0 s.length c0] w fun e w' =>
      ∃ v0, e = .returned (.tuple #[v0, .int .i64 (sumN (wt s) s.length)]) ∧ Kd.R (Kd.int .i64) 2 w' w.heap.size (fun _ => True) v0 (tb (wt s) s.length) ∧ Below w.heap.size w w' := by
  have HR0 := Lib.hid hr0
  have HT := Lib.hid ht
  clear hr0 ht
  go_enter Tryd.func6, Tryd.ntmps6
  go_wp2_with fail
  refine (clamped_calls w HR0.out hc0 hn).mono ?_
  rintro e w1 ⟨v0, rfl, hR, hb⟩
  obtain ⟨A1, c1, ev, hc1, _⟩ := Kd.R_reads hR
  rw [tb_length] at ev hc1
  subst ev
  have HR := Lib.hid hR
  have HB := Lib.hid hb
  clear hR hb
  by_cases hz : s.length = 0
  · have hz' : ((s.length : Int) == 0) = true := beq_iff_eq.2 (by omega)
    obtain rfl : s = [] := List.length_eq_zero_iff.1 hz
    go_wp2
    go_ret2
    exact ⟨_, rfl, Kd.R_nil _ _ _ _ _, HB.out⟩
  · have hz' : ((s.length : Int) == 0) = false := beq_eq_false_iff_ne.2 (by omega)
    obtain ⟨g, cap, e1, hg, _, _⟩ := Kd.R_form HR.out (by rw [tb_length]; omega)
    rw [tb_length] at e1
    injection e1 with e1 _ e3
    subst e1 e3
    have HG := Lib.hid hg
    clear hg hz
    obtain ⟨n, hnn⟩ : ∃ n, s.length = n := ⟨_, rfl⟩
    rw [hnn]
    rw [hnn] at hz' hc1
    have HN := Lib.hid hnn
    clear hnn
    have n0 : 0 < n := by
      rcases Nat.eq_zero_or_pos n with h | h
      · subst h; exact absurd hz' (by decide)
      · exact h
    have hnb : n ≤ 17592186044416 := by rw [← HN.out]; exact hn
    have RC : Hid (∀ i, i < n → w1.cell? ⟨g, i, none⟩ = some (.int .i64 (cW s i))) := Lib.hid (fun i hi => by
      have hR := HR.out
      rw [HN.out] at hR
      have h := (Kd.R_celln 0 hR (i : Int) (by omega) (by omega)).1
      have e : rdOf 0 (tb (cW s) n) (i : Int) = cW s i := by
        have := tb_nth (f := cW s) hi
        unfold nth at this
        unfold rdOf
        rw [Int.toNat_natCast]
        exact this
      rw [e, Int.toNat_natCast] at h
      exact h)
    have c0' : w1.cell? ⟨g, 0, none⟩ = some (.int .i64 (cW s 0)) := RC.out 0 n0
    go_wp2
    clear c0' hz'
    go_loopw [5, 21] (fun b x wr => S1Rel w1 s b x wr) (fun _ x _ => n - (intOf x).toNat)
    case atStart => exact ⟨0, rfl, rfl, by omega, rfl⟩
    case round =>
      obtain ⟨i, rfl, rfl, hi, rfl⟩ := hrel
      rw [HN.out] at hi
      by_cases hlt : i < n
      · have hlt' : decide ((i : Int) < (n : Int)) = true := decide_eq_true (by omega)
        have ci : w1.cell? ⟨g, i, none⟩ = some (.int .i64 (cW s i)) := RC.out i hlt
        obtain ⟨j, hj⟩ : ∃ j, mx (bestN s i) (cW s i) = j := ⟨_, rfl⟩
        have hj_ : (if bestN s i < cW s i then cW s i else bestN s i) = j := hj
        have hjb : Hid (bestN s (i + 1) = j) := Lib.hid hj
        clear hj hi
        go_wp2
        go_roundw
        case rel => exact ⟨i + 1, rfl, by rw [hjb.out], by rw [HN.out]; omega, rfl⟩
        case measure => simp [intOf]; omega
      · have hlt' : decide ((i : Int) < (n : Int)) = false := decide_eq_false (by omega)
        obtain rfl : n = i := by omega
        obtain ⟨B, hB0⟩ : ∃ B, bestN s n = B := ⟨_, rfl⟩
        have BI := bestN_in s n
        rw [hB0] at BI ⊢
        have HB0 := Lib.hid hB0
        have HW : Hid (∀ k, expF (64 * (cW s k - B)) = wt s k) := Lib.hid (fun k => by unfold wt; rw [HN.out, HB0.out])
        clear hlt hlt' hi hB0
        go_wp2
        go_loopw [6, 31] (fun b x wr => S2Rel w (.slice (some ⟨g, 0, none⟩) n c1) s b x wr) (fun _ x _ => n - (intOf x).toNat)
        case atStart => exact ⟨0, rfl, rfl, by omega, by rw [over_zero, ← HN.out]; exact HR.out, HB.out⟩
        case round =>
          clear RC HR HB
          obtain ⟨k, rfl, rfl, hk, hR, hB⟩ := hrel
          have HR := Lib.hid hR
          have HB := Lib.hid hB
          clear hR hB
          rename World => wa
          rw [HN.out] at hk
          by_cases hlt : k < n
          · have hlt' : decide ((k : Int) < (n : Int)) = true := decide_eq_true (by omega)
            obtain ⟨ck, fk⟩ := Kd.R_celln 0 HR.out (k : Int) (by omega) (by omega)
            have e : rdOf 0 (tb (overF (wt s) (cW s) k) s.length) (k : Int) = cW s k := by
              have := tb_nth (f := overF (wt s) (cW s) k) (n := s.length) (i := k) (by rw [HN.out]; exact hlt)
              unfold nth at this
              unfold rdOf
              rw [Int.toNat_natCast]
              rw [show overF (wt s) (cW s) k k = cW s k by unfold overF; rw [if_neg (by omega)]] at this
              exact this
            rw [e, Int.toNat_natCast] at ck
            rw [Int.toNat_natCast] at fk
            clear e
            obtain ⟨x, hx⟩ : ∃ x, cW s k = x := ⟨_, rfl⟩
            have XI := cW_in s k
            rw [hx] at XI ck
            obtain ⟨z, hz⟩ : ∃ z, wrap64 (64 * wrap64 (x - B)) = z := ⟨_, rfl⟩
            have hz2 : 64 * (x - B) = z := by rw [← hz, w64' (n := x - B) (by omega) (by omega), w64' (by omega) (by omega)]
            have hzr : rng z := by rw [← hz2]; unfold rng; omega
            have hv : expF z = wt s k := by rw [← hz2, ← hx]; exact HW.out k
            have HX := Lib.hid hx
            have HZ := Lib.hid hzr
            have HV := Lib.hid hv
            clear XI hz2 hzr hv hx hk
            go_wp2_with fail
            rw [hz]
            refine (exp_calls HZ.out wa (HT.out.below HB.out)).mono ?_
            rintro e w3 ⟨rfl, nd, rfl⟩
            rw [HV.out]
            clear hz
            go_upto_region 14 with (fail)
            clear ck fk
            obtain ⟨ws, hws⟩ : ∃ x, x = (wa.drewN nd).setCell ⟨g, k, none⟩ (.int .i64 (wt s k)) := ⟨_, rfl⟩
            rw [← hws]
            have hp := Kd.R_putn (Kd.R_drewN HR.out nd) (k : Int) (wt s k)
            rw [Int.toNat_natCast] at hp
            have hp' : Kd.R (Kd.int .i64) 2 ws w.heap.size (fun _ => True) (.slice (some ⟨g, 0, none⟩) n c1) (tb (overF (wt s) (cW s) (k + 1)) s.length) := by
              rw [hws, ← over_set (wt s) (cW s) (show k < s.length by rw [HN.out]; exact hlt)]
              exact hp
            have HR2 := Lib.hid hp'
            have HB2 : Hid (Below w.heap.size w ws) := Lib.hid (by rw [hws]; exact below_set (pw_below_drewN HB.out nd) HG.out)
            clear hp hp' hws HB HR
            obtain ⟨ck, fk⟩ := Kd.R_celln 0 HR2.out (k : Int) (by omega) (by omega)
            have e : rdOf 0 (tb (overF (wt s) (cW s) (k + 1)) s.length) (k : Int) = wt s k := by
              have := tb_nth (f := overF (wt s) (cW s) (k + 1)) (n := s.length) (i := k) (by rw [HN.out]; exact hlt)
              unfold nth at this
              unfold rdOf
              rw [Int.toNat_natCast]
              rw [show overF (wt s) (cW s) (k + 1) k = wt s k by unfold overF; rw [if_pos (by omega)]] at this
              exact this
            rw [e, Int.toNat_natCast] at ck
            clear e fk
            obtain ⟨su, hsu⟩ : ∃ x, sumN (wt s) k = x := ⟨_, rfl⟩
            obtain ⟨wk, hwk⟩ : ∃ x, wt s k = x := ⟨_, rfl⟩
            have b1 := sumN_in (f := wt s) (B := 65536) (wt_in s) k
            have b2 := wt_in s k
            have hs2 : Hid (sumN (wt s) (k + 1) = su + wk) := Lib.hid (by rw [← hsu, ← hwk]; rfl)
            rw [hsu] at b1 ⊢
            rw [hwk] at b2 ck
            have hw : wrap64 (su + wk) = su + wk := w64' (by omega) (by omega)
            clear b1 b2 hsu hwk
            go_wp2
            go_roundw
            case rel => exact ⟨k + 1, rfl, by rw [hs2.out, hw], by rw [HN.out]; omega, HR2.out, HB2.out⟩
            case measure => simp [intOf]; omega
          · have hlt' : decide ((k : Int) < (n : Int)) = false := decide_eq_false (by omega)
            obtain rfl : n = k := by omega
            have HE : Hid (Kd.R (Kd.int .i64) 2 wa w.heap.size (fun _ => True) (.slice (some ⟨g, 0, none⟩) n c1) (tb (wt s) n)) := Lib.hid (by have := HR.out; rwa [HN.out, over_all] at this)
            clear hlt hk
            go_wp2
            go_ret2
            exact ⟨.slice (some ⟨g, 0, none⟩) n c1, by rw [HN.out]; rfl, by rw [HN.out]; exact HE.out, HB.out⟩
end Go.Proofs.YtnioohhiphpplaaDoor.Wk
