/- The walk of tensor.Blend: of 1 to 100 vectors of as many numbers, with weights of at most 3 * 2^40, not all 0; of none, or where all weights are 0. -/
import Derived.Test.YtnioohhiphpplaaBm
import Derived.Test.YtnioohhiphpplaaNw
set_option linter.unusedVariables false
set_option linter.unusedSimpArgs false
namespace Go.Proofs.Ytnioohhiphpplaa.Wk
open Go.RowKit Go.Proofs.YtnioohhiphpplaaW.PrintWords Go.Proofs.YtnioohhiphpplaaW.PrintLast Go.Proofs.YtnioohhiphpplaaW.PrintMore Go.Proofs.Ytnioohhiphpplaa.M Go.Proofs.Ytnioohhiphpplaa.Br
attribute [local go_sem] max2_int min2_int max_two min_two

/-- A row of n rows of L numbers of 8 bits, as it is read. -/
def Rows (w : World) (A : Option Addr) (n L : Nat) (V : Nat → Nat → Int) : Prop :=
  0 < n → ∃ ad, A = some ad ∧ ∀ i, i < n → ∃ Ai ci, w.cell? (ad.add i) = some (.slice Ai L ci) ∧ L ≤ ci ∧ Kd.C (Kd.int .i8) w Ai L (tab (V i) L)
theorem Rows.below {w w1 : World} {A : Option Addr} {n L : Nat} {V : Nat → Nat → Int} (h : Rows w A n L V) (hb : Below w.heap.size w w1) : Rows w1 A n L V := fun hn => by
  obtain ⟨ad, e, hc⟩ := h hn
  refine ⟨ad, e, fun i hi => ?_⟩
  obtain ⟨Ai, ci, h1, h2, h3⟩ := hc i hi
  exact ⟨Ai, ci, pw_cell_below hb h1, h2, Kd.C_below h3 hb⟩
theorem Rows.at {w : World} {A : Option Addr} {n L : Nat} {V : Nat → Nat → Int} (h : Rows w A n L V) {i : Nat} (hi : i < n) : ∃ ad Ai ci, A = some ad ∧ w.cell? (ad.add i) = some (.slice Ai L ci) ∧ L ≤ ci ∧ Kd.C (Kd.int .i8) w Ai L (tab (V i) L) := by
  obtain ⟨ad, e, hc⟩ := h (by omega)
  obtain ⟨Ai, ci, h1, h2, h3⟩ := hc i hi
  exact ⟨ad, Ai, ci, e, h1, h2, h3⟩

/-- Behind i weights. -/
def B1Rel (w : World) (W : Nat → Int) (n : Nat) (b x : Value) (wr : World) : Prop := ∃ i : Nat, x = .int .i64 i ∧ b = .int .i64 (sumN W i) ∧ i ≤ n ∧ Below w.heap.size w wr
/-- Behind j places: the answer and the column. -/
def B2Rel (w : World) (W : Nat → Int) (V : Nat → Nat → Int) (n L : Nat) (v c x : Value) (wr : World) : Prop :=
  ∃ (j : Nat) (f : Nat → Int), x = .int .i64 j ∧ j ≤ L ∧ Kd.R (Kd.int .i8) 31 wr w.heap.size (fun _ => True) v (tab (overF (blF W V n) (fun _ => 0) j) L) ∧ Kd.R (Kd.int .i8) 31 wr w.heap.size (fun _ => True) c (tab f n) ∧ Below w.heap.size w wr
/-- Behind i rows: the column. -/
def B3Rel (w : World) (V : Nat → Int) (f g : Nat → Int) (n L : Nat) (v c x : Value) (wr : World) : Prop :=
  ∃ i : Nat, x = .int .i64 i ∧ i ≤ n ∧ Kd.R (Kd.int .i8) 31 wr w.heap.size (fun _ => True) v (tab g L) ∧ Kd.R (Kd.int .i8) 31 wr w.heap.size (fun _ => True) c (tab (overF V f i) n) ∧ Below w.heap.size w wr
/-- A store into another row leaves a row as it was. -/
theorem R_other {k : IntKind} {e : TypeId} {W : World} {base g g2 n cap i : Nat} {xs : List Int} (h : Kd.R (Kd.int k) e W base (fun _ => True) (.slice (some ⟨g, 0, none⟩) n cap) xs) (hne : g ≠ g2) (u : Value) :
    Kd.R (Kd.int k) e (W.setCell ⟨g2, i, none⟩ u) base (fun _ => True) (.slice (some ⟨g, 0, none⟩) n cap) xs := by
  have h1 := Kd.R_reok rfl h (ok := fun k => k ≠ g2) (fun k hk e => by
    have : some g = some k := hk
    injection this with this
    omega)
  exact Kd.R_mono (Kd.R_far h1 (p := ⟨g2, i, none⟩) (fun k hk => hk) _) (fun _ _ => trivial)

set_option maxHeartbeats 4000000 in
theorem blend_low {A0 A1 : Option Addr} {n L c0 c1 : Nat} {W : Nat → Int} {V : Nat → Nat → Int} (w : World) (hr0 : Kd.C (Kd.int .i64) w A0 n (tab W n)) (hc0 : n ≤ c0) (hr1 : Rows w A1 n L V) (hc1 : n ≤ c1) (hn : n ≤ 100) (hL : L ≤ 140737488351232)
    (hw : ∀ i, i < n → 0 ≤ W i ∧ W i ≤ 3298534883328) (hs : sumN W n < 1) :
    Calls Try.prog 20 #[.slice A0 n c0, .slice A1 n c1] w fun e w' => e = .returned (.tuple #[.slice none 0 0, .int .i64 30]) ∧ Below w.heap.size w w' := by
  have HR0 := Lib.hid hr0
  have HR1 := Lib.hid hr1
  have HW := Lib.hid hw
  clear hr0 hr1 hw
  by_cases hz : n = 0
  · have hz' : ((n : Int) == 0) = true := beq_iff_eq.2 (by omega)
    go_enter Try.func20, Try.ntmps20
    go_wp2
    go_ret2
    exact ⟨rfl, Below.refl _ _⟩
  · have hz' : ((n : Int) == 0) = false := beq_eq_false_iff_ne.2 (by omega)
    have hm' : ((n : Int) != (n : Int)) = false := bne_eq_false_iff_eq.2 rfl
    go_enter Try.func20, Try.ntmps20
    go_wp2
    clear hz' hm'
    go_loopw [6, 26] (fun b y wr => B1Rel w W n b y wr) (fun _ y _ => n - (intOf y).toNat)
    case atStart => exact ⟨0, rfl, rfl, by omega, Below.refl _ _⟩
    case round =>
      obtain ⟨i, rfl, rfl, hi, hB⟩ := hrel
      have HB := Lib.hid hB
      clear hB
      rename World => wa
      by_cases hlt : i < n
      · have hlt' : decide ((i : Int) < (n : Int)) = true := decide_eq_true (by omega)
        obtain ⟨adW, eW, cW1⟩ := Kd.at_int (Kd.C_below HR0.out HB.out) (i : Int) (by omega) (by omega)
        rw [rd_nth, Int.toNat_natCast, tab_nth hlt] at cW1
        obtain ⟨ad, Ai, ci, e1, k1, _, _⟩ := (HR1.out.below HB.out).at hlt
        obtain ⟨ad', A0', c0', e2, k2, _, _⟩ := (HR1.out.below HB.out).at (i := 0) (by omega)
        subst eW e1
        injection e2 with e2
        subst e2
        have hwi := HW.out i hlt
        have hsm := sumW_in HW.out i (by omega)
        obtain ⟨wi, hwi2⟩ : ∃ x, W i = x := ⟨_, rfl⟩
        obtain ⟨su, hsu⟩ : ∃ x, sumN W i = x := ⟨_, rfl⟩
        have hs2 : Hid (sumN W (i + 1) = su + wi) := Lib.hid (by rw [← hsu, ← hwi2]; rfl)
        rw [hwi2] at hwi cW1
        rw [hsu] at hsm ⊢
        have hneg : decide (wi < 0) = false := decide_eq_false (by omega)
        have hwr : wrap64 (su + wi) = su + wi := w64' (by omega) (by omega)
        have hLL : ((L : Int) != (L : Int)) = false := bne_eq_false_iff_eq.2 rfl
        have k0 : wa.cell? ad = some (.slice A0' L c0') := k2
        have q1 : (0 : Int) ≤ (i : Int) := by omega
        have q2 : (i : Int) < (n : Int) := by omega
        have q3 : (0 : Int) < (n : Int) := by omega
        clear hwi hsm hsu hwi2 hi k2
        go_upto_region 7 with (fail)
        go_quiet (fail)
        clear k0 k1 cW1 hneg hLL
        go_wp2
        go_roundw
        case rel => exact ⟨i + 1, rfl, by rw [hs2.out, hwr], by omega, pw_below_drewN HB.out _⟩
        case measure => simp [intOf]; omega
      · have hlt' : decide ((i : Int) < (n : Int)) = false := decide_eq_false (by omega)
        obtain rfl : n = i := by omega
        clear hlt hi
        have hl : decide (sumN W n < 1) = true := decide_eq_true hs
        go_wp2
        go_ret2
        exact ⟨rfl, HB.out⟩

set_option maxHeartbeats 4000000 in
set_option maxRecDepth 100000 in
theorem blend_calls {A0 A1 : Option Addr} {n L c0 c1 : Nat} {W : Nat → Int} {V : Nat → Nat → Int} (w : World) (hr0 : Kd.C (Kd.int .i64) w A0 n (tab W n)) (hc0 : n ≤ c0) (hr1 : Rows w A1 n L V) (hc1 : n ≤ c1) (h1 : 1 ≤ n) (hn : n ≤ 100) (hL : L ≤ 140737488351232)
    (hw : ∀ i, i < n → 0 ≤ W i ∧ W i ≤ 3298534883328) (hv : ∀ i j, i < n → j < L → -128 ≤ V i j ∧ V i j ≤ 127) (hs : 1 ≤ sumN W n) :
    Calls Try.prog 20 #[.slice A0 n c0, .slice A1 n c1] w fun e w' => ∃ v0, e = .returned (.tuple #[v0, .int .i64 0]) ∧ Kd.R (Kd.int .i8) 31 w' w.heap.size (fun _ => True) v0 (tab (blF W V n) L) ∧ Below w.heap.size w w' := by
  have HR0 := Lib.hid hr0
  have HR1 := Lib.hid hr1
  have HW := Lib.hid hw
  have HV := Lib.hid hv
  clear hr0 hr1 hw hv
  have hz' : ((n : Int) == 0) = false := beq_eq_false_iff_ne.2 (by omega)
  have hm' : ((n : Int) != (n : Int)) = false := bne_eq_false_iff_eq.2 rfl
  go_enter Try.func20, Try.ntmps20
  go_wp2
  clear hz' hm'
  go_loopw [6, 26] (fun b y wr => B1Rel w W n b y wr) (fun _ y _ => n - (intOf y).toNat)
  case atStart => exact ⟨0, rfl, rfl, by omega, Below.refl _ _⟩
  case round =>
    obtain ⟨i, rfl, rfl, hi, hB⟩ := hrel
    have HB := Lib.hid hB
    clear hB
    rename World => wa
    by_cases hlt : i < n
    · have hlt' : decide ((i : Int) < (n : Int)) = true := decide_eq_true (by omega)
      obtain ⟨adW, eW, cW1⟩ := Kd.at_int (Kd.C_below HR0.out HB.out) (i : Int) (by omega) (by omega)
      rw [rd_nth, Int.toNat_natCast, tab_nth hlt] at cW1
      obtain ⟨ad, Ai, ci, e1, k1, _, _⟩ := (HR1.out.below HB.out).at hlt
      obtain ⟨ad', A0', c0', e2, k2, _, _⟩ := (HR1.out.below HB.out).at (i := 0) (by omega)
      subst eW e1
      injection e2 with e2
      subst e2
      have hwi := HW.out i hlt
      have hsm := sumW_in HW.out i (by omega)
      obtain ⟨wi, hwi2⟩ : ∃ x, W i = x := ⟨_, rfl⟩
      obtain ⟨su, hsu⟩ : ∃ x, sumN W i = x := ⟨_, rfl⟩
      have hs2 : Hid (sumN W (i + 1) = su + wi) := Lib.hid (by rw [← hsu, ← hwi2]; rfl)
      rw [hwi2] at hwi cW1
      rw [hsu] at hsm ⊢
      have hneg : decide (wi < 0) = false := decide_eq_false (by omega)
      have hwr : wrap64 (su + wi) = su + wi := w64' (by omega) (by omega)
      have hLL : ((L : Int) != (L : Int)) = false := bne_eq_false_iff_eq.2 rfl
      have k0 : wa.cell? ad = some (.slice A0' L c0') := k2
      have q1 : (0 : Int) ≤ (i : Int) := by omega
      have q2 : (i : Int) < (n : Int) := by omega
      have q3 : (0 : Int) < (n : Int) := by omega
      clear hwi hsm hsu hwi2 hi k2
      go_upto_region 7 with (fail)
      go_quiet (fail)
      clear k0 k1 cW1 hneg hLL
      go_wp2
      go_roundw
      case rel => exact ⟨i + 1, rfl, by rw [hs2.out, hwr], by omega, pw_below_drewN HB.out _⟩
      case measure => simp [intOf]; omega
    · have hlt' : decide ((i : Int) < (n : Int)) = false := decide_eq_false (by omega)
      obtain rfl : n = i := by omega
      clear hlt hi
      have HSI := Lib.hid (sumW_in HW.out n (Nat.le_refl _))
      obtain ⟨S, hS⟩ : ∃ S, sumN W n = S := ⟨_, rfl⟩
      rw [hS] at hs ⊢
      have hl : decide (S < 1) = false := decide_eq_false (by omega)
      obtain ⟨ad, A0', c0', e2, k2, hc0', _⟩ := (HR1.out.below HB.out).at (i := 0) (by omega)
      subst e2
      have k0 : wa.cell? ad = some (.slice A0' L c0') := k2
      have q3 : (0 : Int) < (n : Int) := by omega
      have HS := Lib.hid hS
      clear k2 hS
      go_upto_region 14 with ((with_reducible refine gate_dst (N := 55) rfl ?_); refine Kd.R_make (Kd.int .i8) (w0 := wa) wa.heap.size 31 rfl (N := 55) rfl 22 _ _ rfl (L : Int) rfl rfl Try.underlying22 (.int .i8 0) 1 ninfo31 rfl (by decide) (by omega) 0 (ok := fun _ => True) (okp := fun _ => True) rfl (fun _ hk => hk) trivial (by omega) (by omega) (Below.refl _ _) (Nat.le_refl _) ?_; intro v0 w6 hR hb2 hg2 hfresh)
      have hRl : Kd.R (Kd.int .i8) 31 w6 wa.heap.size (fun _ => True) v0 (tab (fun _ => 0) L) := by unfold tab; rw [List.map_const', List.length_range]; exact hR
      obtain ⟨Al, cl, ev, _, _⟩ := Kd.R_reads hRl
      rw [tab_length] at ev
      subst ev
      have HRL := Lib.hid hRl
      have HB6 := Lib.hid hb2
      clear hR hb2 hg2 hfresh hRl k0 hl
      go_upto_region 15 with ((with_reducible refine gate_dst (N := 58) rfl ?_); refine Kd.R_make (Kd.int .i8) (w0 := wa) wa.heap.size 31 rfl (N := 58) rfl 22 _ _ rfl (n : Int) rfl rfl Try.underlying22 (.int .i8 0) 1 ninfo31 rfl (by decide) (by omega) 0 (ok := fun _ => True) (okp := fun _ => True) rfl (fun _ hk => hk) trivial (by omega) (by omega) HB6.out (below_size HB6.out) ?_; intro v1 w7 hR hb2 hg2 hfresh)
      have hRc : Kd.R (Kd.int .i8) 31 w7 wa.heap.size (fun _ => True) v1 (tab (fun _ => 0) n) := by unfold tab; rw [List.map_const', List.length_range]; exact hR
      obtain ⟨gc, cc, ev, gcle, _, _, _⟩ := Kd.R_form hRc (by rw [tab_length]; omega)
      rw [tab_length] at ev
      subst ev
      have GC := Lib.hid gcle
      have HRC := Lib.hid hRc
      have HB7 := Lib.hid hb2
      have HRL7 := Lib.hid (Kd.R_grown2 HRL.out rfl hg2 (fun k hk => by cases hk))
      have hne : ∀ gl, Al = some ⟨gl, 0, none⟩ → gl ≠ gc := fun gl e h => by
        subst e
        have h1 := Kd.R_lt HRL.out gl rfl
        obtain ⟨b, hb, hle⟩ := hfresh
        have hb : some gc = some b := hb
        injection hb with hb
        omega
      have HNE := Lib.hid hne
      clear hR hb2 hg2 hfresh hRc HRL HB6 hne gcle
      go_wp2
      have hRL0 : Hid (Kd.R (Kd.int .i8) 31 w7 wa.heap.size (fun _ => True) (.slice Al L cl) (tab (overF (blF W V n) (fun _ => 0) 0) L)) := Lib.hid (by rw [over_zero]; exact HRL7.out)
      go_loopw [61] (fun y wr => B2Rel wa W V n L (.slice Al L cl) (.slice (some ⟨gc, 0, none⟩) n cc) y wr) (fun y _ => L - (intOf y).toNat)
      case atStart => exact ⟨0, fun _ => 0, rfl, by omega, hRL0.out, HRC.out, HB7.out⟩
      case round =>
        clear hRL0 HRC HRL7 HB7
        obtain ⟨j, f, rfl, hj, hRl, hRc, hBj⟩ := hrel
        have RL := Lib.hid hRl
        have RC := Lib.hid hRc
        have HJ := Lib.hid hBj
        clear hRl hRc hBj
        rename World => wb
        by_cases hltj : j < L
        · have hltj' : decide ((j : Int) < (L : Int)) = true := decide_eq_true (by omega)
          obtain ⟨gl, cap, ev, glle, _, _, _⟩ := Kd.R_form RL.out (by rw [tab_length]; omega)
          rw [tab_length] at ev
          injection ev with ev _ ev2
          subst ev ev2
          have GL := Lib.hid glle
          have hgc : gl ≠ gc := HNE.out gl rfl
          have RL0 : Hid (Kd.R (Kd.int .i8) 31 wb wa.heap.size (fun _ => True) (.slice (some ⟨gl, 0, none⟩) L cl) (tab (overF (blF W V n) (fun _ => 0) j) L)) := RL
          have RC0 : Hid (Kd.R (Kd.int .i8) 31 wb wa.heap.size (fun _ => True) (.slice (some ⟨gc, 0, none⟩) n cc) (tab (overF (fun i => V i j) f 0) n)) := Lib.hid (by rw [over_zero]; exact RC.out)
          clear glle hj
          go_wp2
          go_loopw [66] (fun y wr => B3Rel wa (fun i => V i j) f (overF (blF W V n) (fun _ => 0) j) n L (.slice (some ⟨gl, 0, none⟩) L cl) (.slice (some ⟨gc, 0, none⟩) n cc) y wr) (fun y _ => n - (intOf y).toNat)
          case atStart => exact ⟨0, rfl, by omega, RL0.out, RC0.out, HJ.out⟩
          case round =>
            clear RL0 RC0 RL RC HJ
            obtain ⟨i, rfl, hi, hRl, hRc, hBj⟩ := hrel
            have RL := Lib.hid hRl
            have RC := Lib.hid hRc
            have HJ := Lib.hid hBj
            clear hRl hRc hBj
            rename World => wc
            by_cases hlti : i < n
            · have hlti' : decide ((i : Int) < (n : Int)) = true := decide_eq_true (by omega)
              obtain ⟨ad2, Ai, ci, e1, k1, hci, k2⟩ := ((HR1.out.below HB.out).below HJ.out).at hlti
              injection e1 with e1
              subst e1
              obtain ⟨adv, ea, k3⟩ := Kd.at_int k2 (j : Int) (by omega) (by omega)
              rw [rd_nth, Int.toNat_natCast, tab_nth hltj] at k3
              subst ea
              obtain ⟨cc1, fc1⟩ := Kd.R_celln 0 RC.out (i : Int) (by omega) (by omega)
              rw [Int.toNat_natCast] at cc1 fc1
              have hp := Kd.R_putn RC.out (i : Int) (V i j)
              rw [Int.toNat_natCast, over_set (fun i => V i j) f hlti] at hp
              have RC2 := Lib.hid hp
              have RL2 := Lib.hid (R_other (i := i) RL.out hgc (.int .i8 (V i j)))
              have HJ2 : Hid (Below wa.heap.size wa (wc.setCell ⟨gc, i, none⟩ (.int .i8 (V i j)))) := Lib.hid (below_set HJ.out GC.out)
              clear hp k2 hi
              go_wp2
              go_roundw
              case rel => exact ⟨i + 1, rfl, by omega, RL2.out, RC2.out, HJ2.out⟩
              case measure => simp [intOf]; omega
            · have hlti' : decide ((i : Int) < (n : Int)) = false := decide_eq_false (by omega)
              obtain rfl : n = i := by omega
              clear hlti hi
              have hRc2 : Kd.R (Kd.int .i8) 31 wc wa.heap.size (fun _ => True) (.slice (some ⟨gc, 0, none⟩) n cc) (tab (fun i => V i j) n) := by have := RC.out; rwa [over_all] at this
              have RC2 := Lib.hid hRc2
              obtain ⟨-, hccn, hCc⟩ := Kd.R_reads' hRc2
              rw [tab_length] at hCc
              have HCC := Lib.hid hCc
              clear hRc2 hCc RC
              go_wp2_with fail
              have hp := PBlend.tensor_products_int64_int8.calls (n + 1) A0 c0 (tab W n) (some ⟨gc, 0, none⟩) cc (tab (fun i => V i j) n) (bS W (fun i => V i j) n) wc (by rw [tab_length]; exact Kd.C_below (Kd.C_below HR0.out HB.out) HJ.out) (by rw [tab_length]; exact hc0) (by rw [tab_length]; exact HCC.out) (by rw [tab_length]; exact hccn) (bprod_is hn HW.out (fun i hi => HV.out i j hi hltj) (tab_length _ _) (tab_length _ _) (fun i hi => tab_nth hi) (fun i hi => tab_nth hi))
              rw [tab_length, tab_length] at hp
              refine hp.mono ?_
              clear hp
              rintro e w8 ⟨rfl, hd⟩
              obtain ⟨n8, rfl⟩ := hd.out
              go_wp2_with fail
              have hbs := bS_in (n := n) HW.out (fun i hi => HV.out i j hi hltj)
              refine (div_still (a := bS W (fun i => V i j) n) (b := S) (by unfold rng; omega) _).mono ?_
              rintro e w9 ⟨rfl, rfl⟩
              clear hbs
              go_wp2_with fail
              refine (clamp8_still _).mono ?_
              rintro e w10 ⟨rfl, rfl⟩
              have hval : clampF (divF (bS W (fun i => V i j) n) S) 127 = blF W V n j := by rw [← HS.out]; rfl
              rw [hval]
              clear hval hd
              obtain ⟨wd, hwd⟩ : ∃ wd, wd = wc.drewN n8 := ⟨_, rfl⟩
              rw [← hwd]
              have RL3 : Hid (Kd.R (Kd.int .i8) 31 wd wa.heap.size (fun _ => True) (.slice (some ⟨gl, 0, none⟩) L cl) (tab (overF (blF W V n) (fun _ => 0) j) L)) := Lib.hid (by rw [hwd]; exact Kd.R_drewN RL.out _)
              have RC3 : Hid (Kd.R (Kd.int .i8) 31 wd wa.heap.size (fun _ => True) (.slice (some ⟨gc, 0, none⟩) n cc) (tab (fun i => V i j) n)) := Lib.hid (by rw [hwd]; exact Kd.R_drewN RC2.out _)
              have HJ3 : Hid (Below wa.heap.size wa wd) := Lib.hid (by rw [hwd]; exact pw_below_drewN HJ.out _)
              clear hwd RL RC2 HJ HCC
              obtain ⟨cl1, fl1⟩ := Kd.R_celln 0 RL3.out (j : Int) (by omega) (by omega)
              rw [Int.toNat_natCast] at cl1 fl1
              have hp := Kd.R_putn RL3.out (j : Int) (blF W V n j)
              rw [Int.toNat_natCast, over_set (blF W V n) (fun _ => 0) hltj] at hp
              have RL4 := Lib.hid hp
              have RC4 := Lib.hid (R_other (i := j) RC3.out (fun e => hgc e.symm) (.int .i8 (blF W V n j)))
              have HJ4 : Hid (Below wa.heap.size wa (wd.setCell ⟨gl, j, none⟩ (.int .i8 (blF W V n j)))) := Lib.hid (below_set HJ3.out GL.out)
              clear hp
              go_wp2
              go_roundw
              case rel => exact ⟨j + 1, _, rfl, by omega, RL4.out, RC4.out, HJ4.out⟩
              case measure => simp [intOf]; omega
        · have hltj' : decide ((j : Int) < (L : Int)) = false := decide_eq_false (by omega)
          obtain rfl : L = j := by omega
          clear hltj hj
          have HE : Hid (Kd.R (Kd.int .i8) 31 wb w.heap.size (fun _ => True) (.slice Al L cl) (tab (blF W V n) L)) := Lib.hid (by have := Kd.R_lower RL.out (below_size HB.out); rwa [over_all] at this)
          have HZ : Hid (Below w.heap.size w wb) := Lib.hid (below_step HB.out HJ.out)
          go_wp2
          go_ret2
          exact ⟨_, rfl, HE.out, HZ.out⟩
end Go.Proofs.Ytnioohhiphpplaa.Wk
