/- Softmax: its values, its walk (of at most 2^44 scores, where fix.terms holds the five numbers), the document's Softmax plainly. -/
import Derived.Test.YtnioohhiphpplaaDoorDn
import Derived.Test.YtnioohhiphpplaaDoorEx
set_option linter.unusedVariables false
set_option linter.unusedSimpArgs false
namespace Go.Proofs.YtnioohhiphpplaaDoor.Dp
open Go.RowKit Go.Proofs.YtnioohhiphpplaaDoor.Pplays Go.Proofs.YtnioohhiphpplaaDoorW.PrintWords Go.Proofs.YtnioohhiphpplaaDoorW.PrintLast Go.Proofs.YtnioohhiphpplaaDoorW.PrintMore Go.Proofs.YtnioohhiphpplaaDoor.M
def overF (f g : Nat → Int) (i j : Nat) : Int := if j < i then f j else g j
theorem over_set (f g : Nat → Int) {n i : Nat} (_h : i < n) : (tb (overF f g i) n).set i (f i) = tb (overF f g (i + 1)) n := by
 refine List.ext_getElem (by rw [List.length_set, tb_length, tb_length]) fun j h1 h2 => ?_
 rw [tb_length] at h2
 rw [List.getElem_set]
 by_cases c : i = j
 ·rw [if_pos c]; subst c; simp [tb, overF]
 ·rw [if_neg c]
  simp only [tb, overF, List.getElem_map, List.getElem_range]
  by_cases c2 : j < i
  ·rw [if_pos c2, if_pos (by omega)]
  ·rw [if_neg c2, if_neg (by omega)]
theorem over_zero (f g : Nat → Int) (n : Nat) : tb (overF f g 0) n = tb g n := tb_congr fun i _ => by unfold overF; rw [if_neg (by omega)]
theorem over_all (f g : Nat → Int) (n : Nat) : tb (overF f g n) n = tb f n := tb_congr fun i hi => by unfold overF; rw [if_pos hi]
def sumN (f : Nat → Int) : Nat → Int
 | 0 => 0
 | n + 1 => sumN f n + f n
theorem sumN_in {f : Nat → Int} {B : Int} (h : ∀ j, 0 ≤ f j ∧ f j ≤ B) (n : Nat) : 0 ≤ sumN f n ∧ sumN f n ≤ n * B := by
 induction n with
 | zero => simp [sumN]
 | succ n ih =>
  have := h n
  have e : ((n + 1 : Nat) : Int) * B = n * B + B := by rw [Int.natCast_add, Int.add_mul]; simp
  rw [e]
  show 0 ≤ sumN f n + f n ∧ sumN f n + f n ≤ _
  omega
def bestN (s : List Int) : Nat → Int
 | 0 => cwF s 0
 | n + 1 => mx (bestN s n) (cwF s n)
def wt (s : List Int) (i : Nat) : Int := expF (64 * (cwF s i - bestN s s.length))
theorem cl_in (a : Int) : -16777216 ≤ clampF a 16777216 ∧ clampF a 16777216 ≤ 16777216 := by
 have := clampF_in (a := a) (m := 16777216) (by unfold rng; omega)
 unfold mx at this; omega
theorem cwF_in (s : List Int) (i : Nat) : -16777216 ≤ cwF s i ∧ cwF s i ≤ 16777216 := cl_in _
theorem bestN_in (s : List Int) (n : Nat) : -16777216 ≤ bestN s n ∧ bestN s n ≤ 16777216 := by
 induction n with
 | zero => exact cwF_in s 0
 | succ n ih =>
  have := cwF_in s n
  show -16777216 ≤ mx _ _ ∧ mx _ _ ≤ 16777216
  unfold mx; split <;> omega
theorem wt_in (s : List Int) (i : Nat) : 0 ≤ wt s i ∧ wt s i ≤ 65536 := expF_in _
end Go.Proofs.YtnioohhiphpplaaDoor.Dp
namespace Go.Proofs.YtnioohhiphpplaaDoor.Wk
open Go.RowKit Go.Proofs.YtnioohhiphpplaaDoorW.PrintWords Go.Proofs.YtnioohhiphpplaaDoorW.PrintLast Go.Proofs.YtnioohhiphpplaaDoorW.PrintMore Go.Proofs.YtnioohhiphpplaaDoor.M Go.Proofs.YtnioohhiphpplaaDoor.Dp
attribute [local go_sem] max2_int min2_int max_two min_two
theorem info2 : (Tryd.prog.info? 2).map (fun i => (i.zero, i.size, i.bytes)) = some (some (.int .i64 0), 1, 8) := by kernel_rfl
theorem Terms.below {w w1 : World} (h : Terms w) (hb : Below w.heap.size w w1) : Terms w1 :=
 ⟨pw_cell_below hb h.t0, pw_cell_below hb h.t1, pw_cell_below hb h.t2, pw_cell_below hb h.t3, pw_cell_below hb h.t4⟩
theorem clamped_calls {A0 : Option Addr} {c0 : Nat} {s : List Int} (w : World) (hr0 : Kd.C (Kd.int .i64) w A0 s.length s) (hc0 : s.length ≤ c0) (hn : s.length ≤ 17592186044416) :
  Calls Tryd.prog 19 #[.slice A0 s.length c0] w fun e w' => ∃ v0 : Value, e = .returned v0 ∧ Kd.R (Kd.int .i64) 2 w' w.heap.size (fun _ => True) v0 (tb (cwF s) s.length) ∧ Below w.heap.size w w' :=
 Pplays.tensor_clamped.calls (s.length + 1) A0 c0 s (tb (cwF s) s.length) w hr0 hc0 (clamped_is (by omega) (by omega))
def S1Rel (w : World) (s : List Int) (b x : Value) (wr : World) : Prop := ∃ i : Nat, x = .int .i64 i ∧ b = .int .i64 (bestN s i) ∧ i ≤ s.length ∧ w = wr
def S2Rel (w : World) (v : Value) (s : List Int) (b x : Value) (wr : World) : Prop :=
 ∃ i : Nat, x = .int .i64 i ∧ b = .int .i64 (sumN (wt s) i) ∧ i ≤ s.length ∧ Kd.R (Kd.int .i64) 2 wr w.heap.size (fun _ => True) v (tb (overF (wt s) (cwF s) i) s.length) ∧ Below w.heap.size w wr
set_option maxHeartbeats 2000000 in
set_option maxRecDepth 100000 in
theorem softmax_calls {A0 : Option Addr} {c0 : Nat} {s : List Int} (w : World) (ht : Terms w) (hr0 : Kd.C (Kd.int .i64) w A0 s.length s) (hc0 : s.length ≤ c0) (hn : s.length ≤ 17592186044416) :
  Calls Tryd.prog 6 #[.slice A0 s.length c0] w fun e w' =>
   ∃ v0, e = .returned (.tuple #[v0, .int .i64 (sumN (wt s) s.length)]) ∧ Kd.R (Kd.int .i64) 2 w' w.heap.size (fun _ => True) v0 (tb (wt s) s.length) ∧ Below w.heap.size w w' := by
 have HR0 := Lib.hid hr0
 have HT := Lib.hid ht
 clear hr0 ht
 go_enter Tryd.func6, Tryd.ntmps6
 go_wp2_with fail
 refine (clamped_calls w HR0.out hc0 hn).mono ?_
 rintro e w1 ⟨v0, rfl, hR, hb⟩
 obtain ⟨A1, c1, ev, hc1, _⟩ := Kd.R_reads hR
 rw [tb_length] at ev hc1
 subst ev
 have HR := Lib.hid hR
 have HB := Lib.hid hb
 clear hR hb
 by_cases hz : s.length = 0
 ·have hz' : ((s.length : Int) == 0) = true := beq_iff_eq.2 (by omega)
  obtain rfl : s = [] := List.length_eq_zero_iff.1 hz
  go_wp2
  go_ret2
  exact ⟨_, rfl, Kd.R_nil _ _ _ _ _, HB.out⟩
 ·have hz' : ((s.length : Int) == 0) = false := beq_eq_false_iff_ne.2 (by omega)
  obtain ⟨g, cap, e1, hg, _, _⟩ := Kd.R_form HR.out (by rw [tb_length]; omega)
  rw [tb_length] at e1
  injection e1 with e1 _ e3
  subst e1 e3
  have HG := Lib.hid hg
  clear hg hz
  obtain ⟨n, hnn⟩ : ∃ n, s.length = n := ⟨_, rfl⟩
  rw [hnn]
  rw [hnn] at hz' hc1
  have HN := Lib.hid hnn
  clear hnn
  have n0 : 0 < n := by
   rcases Nat.eq_zero_or_pos n with h | h
   ·subst h; exact absurd hz' (by decide)
   ·exact h
  have hnb : n ≤ 17592186044416 := by rw [← HN.out]; exact hn
  have RC : Hid (∀ i, i < n → w1.cell? ⟨g, i, none⟩ = some (.int .i64 (cwF s i))) := Lib.hid (fun i hi => by
   have hR := HR.out
   rw [HN.out] at hR
   have h := (Kd.R_celln 0 hR (i : Int) (by omega) (by omega)).1
   have e : rdOf 0 (tb (cwF s) n) (i : Int) = cwF s i := by
    have := tb_nth (f := cwF s) hi
    unfold nth at this
    unfold rdOf
    rw [Int.toNat_natCast]
    exact this
   rw [e, Int.toNat_natCast] at h
   exact h)
  have c0' : w1.cell? ⟨g, 0, none⟩ = some (.int .i64 (cwF s 0)) := RC.out 0 n0
  go_wp2
  clear c0' hz'
  go_loopw [5, 21] (fun b x wr => S1Rel w1 s b x wr) (fun _ x _ => n - (intOf x).toNat)
  case atStart => exact ⟨0, rfl, rfl, by omega, rfl⟩
  case round =>
   obtain ⟨i, rfl, rfl, hi, rfl⟩ := hrel
   rw [HN.out] at hi
   by_cases hlt : i < n
   ·have hlt' : decide ((i : Int) < (n : Int)) = true := decide_eq_true (by omega)
    have ci : w1.cell? ⟨g, i, none⟩ = some (.int .i64 (cwF s i)) := RC.out i hlt
    obtain ⟨j, hj⟩ : ∃ j, mx (bestN s i) (cwF s i) = j := ⟨_, rfl⟩
    have hj_ : (if bestN s i < cwF s i then cwF s i else bestN s i) = j := hj
    have hjb : Hid (bestN s (i + 1) = j) := Lib.hid hj
    clear hj hi
    go_wp2
    go_roundw
    case rel => exact ⟨i + 1, rfl, by rw [hjb.out], by rw [HN.out]; omega, rfl⟩
    case measure => simp [intOf]; omega
   ·have hlt' : decide ((i : Int) < (n : Int)) = false := decide_eq_false (by omega)
    obtain rfl : n = i := by omega
    obtain ⟨B, hB0⟩ : ∃ B, bestN s n = B := ⟨_, rfl⟩
    have BI := bestN_in s n
    rw [hB0] at BI ⊢
    have HB0 := Lib.hid hB0
    have HW : Hid (∀ k, expF (64 * (cwF s k - B)) = wt s k) := Lib.hid (fun k => by unfold wt; rw [HN.out, HB0.out])
    clear hlt hlt' hi hB0
    go_wp2
    go_loopw [6, 31] (fun b x wr => S2Rel w (.slice (some ⟨g, 0, none⟩) n c1) s b x wr) (fun _ x _ => n - (intOf x).toNat)
    case atStart => exact ⟨0, rfl, rfl, by omega, by rw [over_zero, ← HN.out]; exact HR.out, HB.out⟩
    case round =>
     clear RC HR HB
     obtain ⟨k, rfl, rfl, hk, hR, hB⟩ := hrel
     have HR := Lib.hid hR
     have HB := Lib.hid hB
     clear hR hB
     rename World => wa
     rw [HN.out] at hk
     by_cases hlt : k < n
     ·have hlt' : decide ((k : Int) < (n : Int)) = true := decide_eq_true (by omega)
      obtain ⟨ck, fk⟩ := Kd.R_celln 0 HR.out (k : Int) (by omega) (by omega)
      have e : rdOf 0 (tb (overF (wt s) (cwF s) k) s.length) (k : Int) = cwF s k := by
       have := tb_nth (f := overF (wt s) (cwF s) k) (n := s.length) (i := k) (by rw [HN.out]; exact hlt)
       unfold nth at this
       unfold rdOf
       rw [Int.toNat_natCast]
       rw [show overF (wt s) (cwF s) k k = cwF s k by unfold overF; rw [if_neg (by omega)]] at this
       exact this
      rw [e, Int.toNat_natCast] at ck
      rw [Int.toNat_natCast] at fk
      clear e
      obtain ⟨x, hx⟩ : ∃ x, cwF s k = x := ⟨_, rfl⟩
      have XI := cwF_in s k
      rw [hx] at XI ck
      obtain ⟨z, hz⟩ : ∃ z, wrap64 (64 * wrap64 (x - B)) = z := ⟨_, rfl⟩
      have hz2 : 64 * (x - B) = z := by rw [← hz, w64' (n := x - B) (by omega) (by omega), w64' (by omega) (by omega)]
      have hzr : rng z := by rw [← hz2]; unfold rng; omega
      have hv : expF z = wt s k := by rw [← hz2, ← hx]; exact HW.out k
      have HX := Lib.hid hx
      have HZ := Lib.hid hzr
      have HV := Lib.hid hv
      clear XI hz2 hzr hv hx hk
      go_wp2_with fail
      rw [hz]
      refine (exp_calls HZ.out wa (HT.out.below HB.out)).mono ?_
      rintro e w3 ⟨rfl, nd, rfl⟩
      rw [HV.out]
      clear hz
      go_upto_region 14 with (fail)
      clear ck fk
      obtain ⟨ws, hws⟩ : ∃ x, x = (wa.drewN nd).setCell ⟨g, k, none⟩ (.int .i64 (wt s k)) := ⟨_, rfl⟩
      rw [← hws]
      have hp := Kd.R_putn (Kd.R_drewN HR.out nd) (k : Int) (wt s k)
      rw [Int.toNat_natCast] at hp
      have hp' : Kd.R (Kd.int .i64) 2 ws w.heap.size (fun _ => True) (.slice (some ⟨g, 0, none⟩) n c1) (tb (overF (wt s) (cwF s) (k + 1)) s.length) := by
       rw [hws, ← over_set (wt s) (cwF s) (show k < s.length by rw [HN.out]; exact hlt)]
       exact hp
      have HR2 := Lib.hid hp'
      have HB2 : Hid (Below w.heap.size w ws) := Lib.hid (by rw [hws]; exact below_set (pw_below_drewN HB.out nd) HG.out)
      clear hp hp' hws HB HR
      obtain ⟨ck, fk⟩ := Kd.R_celln 0 HR2.out (k : Int) (by omega) (by omega)
      have e : rdOf 0 (tb (overF (wt s) (cwF s) (k + 1)) s.length) (k : Int) = wt s k := by
       have := tb_nth (f := overF (wt s) (cwF s) (k + 1)) (n := s.length) (i := k) (by rw [HN.out]; exact hlt)
       unfold nth at this
       unfold rdOf
       rw [Int.toNat_natCast]
       rw [show overF (wt s) (cwF s) (k + 1) k = wt s k by unfold overF; rw [if_pos (by omega)]] at this
       exact this
      rw [e, Int.toNat_natCast] at ck
      clear e fk
      obtain ⟨su, hsu⟩ : ∃ x, sumN (wt s) k = x := ⟨_, rfl⟩
      obtain ⟨wk, hwk⟩ : ∃ x, wt s k = x := ⟨_, rfl⟩
      have b1 := sumN_in (f := wt s) (B := 65536) (wt_in s) k
      have b2 := wt_in s k
      have hs2 : Hid (sumN (wt s) (k + 1) = su + wk) := Lib.hid (by rw [← hsu, ← hwk]; rfl)
      rw [hsu] at b1 ⊢
      rw [hwk] at b2 ck
      have hw : wrap64 (su + wk) = su + wk := w64' (by omega) (by omega)
      clear b1 b2 hsu hwk
      go_wp2
      go_roundw
      case rel => exact ⟨k + 1, rfl, by rw [hs2.out, hw], by rw [HN.out]; omega, HR2.out, HB2.out⟩
      case measure => simp [intOf]; omega
     ·have hlt' : decide ((k : Int) < (n : Int)) = false := decide_eq_false (by omega)
      obtain rfl : n = k := by omega
      have HE : Hid (Kd.R (Kd.int .i64) 2 wa w.heap.size (fun _ => True) (.slice (some ⟨g, 0, none⟩) n c1) (tb (wt s) n)) := Lib.hid (by have := HR.out; rwa [HN.out, over_all] at this)
      clear hlt hk
      go_wp2
      go_ret2
      exact ⟨.slice (some ⟨g, 0, none⟩) n c1, by rw [HN.out]; rfl, by rw [HN.out]; exact HE.out, HB.out⟩
end Go.Proofs.YtnioohhiphpplaaDoor.Wk
namespace Go.Proofs.YtnioohhiphpplaaDoor.Dp
open Go.RowKit Go.Proofs.YtnioohhiphpplaaDoor.Pplays Go.Proofs.YtnioohhiphpplaaDoorW.PrintWords Go.Proofs.YtnioohhiphpplaaDoorW.PrintLast Go.Proofs.YtnioohhiphpplaaDoorW.PrintMore Go.Proofs.YtnioohhiphpplaaDoor.M
def softV (s : List Int) : List Int × Int := (tb (wt s) s.length, sumN (wt s) s.length)
theorem bestN_one (s : List Int) : bestN s 1 = cwF s 0 := by show mx (cwF s 0) (cwF s 0) = _; unfold mx; split <;> rfl
theorem exp_arg (s : List Int) (i : Nat) : wrap64 (64 * wrap64 (cwF s i - bestN s s.length)) = 64 * (cwF s i - bestN s s.length) := by
 have h1 := cwF_in s i
 have h2 := bestN_in s s.length
 rw [w64' (n := cwF s i - bestN s s.length) (by omega) (by omega), w64' (by omega) (by omega)]
theorem refexp_pos (z : Int) {k : Nat} (hk : 65 ≤ k) : augurref01_Exp.f k z = some (expF z) := up (fun k => augurref01_Exp.mono z k) hk (refexp_is z)
theorem refsoft_l1 {s : List Int} (hn : s.length < 17592186044416) : ∀ (d k i : Nat), i + d = s.length → d + 70 < k →
  augurref03_Softmax.l1 k s (bestN s s.length) (tb (wt s) i) (sumN (wt s) i) (i : Int) = some (softV s) := by
 intro d
 induction d with
 | zero =>
  intro k i hi hk
  obtain ⟨k, rfl⟩ : ∃ m, k = m + 1 := ⟨k - 1, by omega⟩
  simp only [augurref03_Softmax.l1]
  obtain rfl : i = s.length := by omega
  rw [if_neg (by omega)]
  rfl
 | succ d ih =>
  intro k i hi hk
  obtain ⟨k, rfl⟩ : ∃ m, k = m + 1 := ⟨k - 1, by omega⟩
  have ih' := ih k (i + 1) (by omega) (by omega)
  have hs := sumN_in (fun j => wt_in s j) (i + 1)
  have hsum : wrap64 (sumN (wt s) i + wt s i) = sumN (wt s) (i + 1) := w64' (by show _ ≤ sumN (wt s) (i + 1); omega) (by show sumN (wt s) (i + 1) ≤ _; omega)
  simp only [augurref03_Softmax.l1]
  rw [if_pos (by omega), if_pos (by omega), rd_at, refclamp_pos (a := nth s i) (m := 16777216) (by unfold rng; omega) (show 0 < k by omega), Option.bind_some,
   show clampF (nth s i) 16777216 = cwF s i from rfl, exp_arg, refexp_pos _ (by omega), Option.bind_some, tb_length, if_pos (by omega), show expF (64 * (cwF s i - bestN s s.length)) = wt s i from rfl, hsum, ← tb_succ, up1 (by omega)]
  exact ih'
theorem refsoft_l0 {s : List Int} (hn : s.length < 17592186044416) : ∀ (d k i : Nat), i + d = s.length → d + s.length + 80 < k →
  augurref03_Softmax.l0 k s (bestN s i) (i : Int) = some (softV s) := by
 intro d
 induction d with
 | zero =>
  intro k i hi hk
  obtain ⟨k, rfl⟩ : ∃ m, k = m + 1 := ⟨k - 1, by omega⟩
  simp only [augurref03_Softmax.l0]
  obtain rfl : i = s.length := by omega
  rw [if_neg (by omega)]
  exact refsoft_l1 hn s.length k 0 (by omega) (by omega)
 | succ d ih =>
  intro k i hi hk
  obtain ⟨k, rfl⟩ : ∃ m, k = m + 1 := ⟨k - 1, by omega⟩
  have ih' := ih k (i + 1) (by omega) (by omega)
  have hb : bestN s (i + 1) = mx (bestN s i) (cwF s i) := rfl
  simp only [augurref03_Softmax.l0]
  rw [if_pos (by omega), if_pos (by omega), rd_at, refclamp_pos (a := nth s i) (m := 16777216) (by unfold rng; omega) (show 0 < k by omega), Option.bind_some,
   show clampF (nth s i) 16777216 = cwF s i from rfl, up1 (by omega)]
  by_cases c : cwF s i > bestN s i
  ·rw [if_pos c]
   have : mx (bestN s i) (cwF s i) = cwF s i := by unfold mx; split <;> omega
   rw [hb, this] at ih'
   exact ih'
  ·rw [if_neg c]
   have : mx (bestN s i) (cwF s i) = bestN s i := by unfold mx; split <;> omega
   rw [hb, this] at ih'
   exact ih'
theorem refsoft_is {s : List Int} (hn : s.length < 17592186044416) {k : Nat} (hk : 2 * s.length + 90 < k) : augurref03_Softmax.f k s = some (softV s) := by
 unfold augurref03_Softmax.f
 by_cases c : s.length = 0
 ·rw [if_pos (by omega)]
  unfold softV
  rw [c]; rfl
 ·rw [if_neg (by omega), if_pos (by omega), show rd s 0 = nth s 0 from rd_at s 0, refclamp_pos (a := nth s 0) (m := 16777216) (by unfold rng; omega) (show 0 < k by omega), Option.bind_some,
   show clampF (nth s 0) 16777216 = cwF s 0 from rfl, ← bestN_one]
  exact refsoft_l0 hn (s.length - 1) k 1 (by omega) (by omega)
end Go.Proofs.YtnioohhiphpplaaDoor.Dp
