/- The walk of augurlaw03.TensorNorm. -/
import Derived.Test.YtnioohhiphpplaaNw
import Derived.Test.YtnioohhiphpplaaFx
import Derived.Test.YtnioohhiphpplaaPorderx1
set_option linter.unusedVariables false
set_option linter.unusedSimpArgs false
namespace Go.Proofs.Ytnioohhiphpplaa.Wk
open Go.RowKit Go.Proofs.YtnioohhiphpplaaW.PrintWords Go.Proofs.YtnioohhiphpplaaW.PrintLast Go.Proofs.YtnioohhiphpplaaW.PrintMore Go.Proofs.Ytnioohhiphpplaa.M Go.Proofs.Ytnioohhiphpplaa.Br

/-- A permutation of as many places. -/
theorem order_calls {A0 : Option Addr} {c0 n : Nat} {l : List Int} (w : World) (hr0 : Kd.C (Kd.int .i64) w A0 l.length l) (hc0 : l.length ≤ c0) (hn : n ≤ 17592186044416) :
    ∃ P : List Int, P.Perm (iota n) ∧ Calls Try.prog 10 #[.int .i64 n, .slice A0 l.length c0] w fun e w' => ∃ v0 : Value, e = .returned v0 ∧ Kd.R (Kd.int .i64) 3 w' w.heap.size (fun _ => True) v0 P ∧ Below w.heap.size w w' := by
  rcases Nat.eq_zero_or_pos n with h | h
  · subst h
    exact ⟨[], List.Perm.refl _, Porder.augurlaw03_order.calls 3 0 A0 c0 l [] w hr0 hc0 rfl⟩
  · obtain ⟨P, hP, hp⟩ := order_is l h hn
    exact ⟨P, hp, Porder.augurlaw03_order.calls _ (n : Int) A0 c0 l P w hr0 hc0 hP⟩

/-- Behind i places: the gains. -/
def G1Rel (w : World) (f : Nat → Int) (n : Nat) (v x : Value) (wr : World) : Prop :=
  ∃ i : Nat, x = .int .i64 i ∧ i ≤ n ∧ Kd.R (Kd.int .i8) 31 wr w.heap.size (fun _ => True) v (tab f i) ∧ Below w.heap.size w wr
/-- Behind i of n places, nothing turned. -/
def G2Rel (w : World) (n : Nat) (x : Value) (wr : World) : Prop := ∃ i : Nat, x = .int .i64 i ∧ i ≤ n ∧ Below w.heap.size w wr
/-- Behind i places: the three lists in another order. -/
def G3Rel (w : World) (f g h : Nat → Int) (n : Nat) (x20 x21 x22 x : Value) (wr : World) : Prop :=
  ∃ i : Nat, x = .int .i64 i ∧ i ≤ n ∧ Kd.R (Kd.int .i64) 2 wr w.heap.size (fun _ => True) x20 (tab f i) ∧ Kd.R (Kd.int .i8) 31 wr w.heap.size (fun _ => True) x21 (tab g i) ∧ Kd.R (Kd.int .i8) 31 wr w.heap.size (fun _ => True) x22 (tab h i) ∧
    Apart x20 x21 ∧ Apart x20 x22 ∧ Apart x21 x22 ∧ Below w.heap.size w wr
theorem at_small {l : List Int} (hl : Small l) (n : Nat) : Small (tab (atF l) n) := tab_small (fun j => (at_eq hl j).2) n

set_option maxHeartbeats 4000000 in
set_option maxRecDepth 100000 in
theorem normlaw_calls {A0 A1 A2 : Option Addr} {n c0 c1 c2 : Nat} {x gs by_ : List Int} (w : World) (hx : x.length = n) (hr0 : Kd.C (Kd.int .i64) w A0 x.length x) (hc0 : n ≤ c0) (hr1 : Kd.C (Kd.int .i8) w A1 gs.length gs) (hc1 : gs.length ≤ c1)
    (hr2 : Kd.C (Kd.int .i64) w A2 by_.length by_) (hc2 : by_.length ≤ c2) (hn : n ≤ 17592186044416) (hs : Small gs) :
    Calls Try.prog 6 #[.slice A0 n c0, .slice A1 gs.length c1, .slice A2 by_.length c2] w fun e w' => e = .returned (.bool true) ∧ Below w.heap.size w w' := by
  have R0 := Lib.hid hr0
  have R1 := Lib.hid hr1
  have R2 := Lib.hid hr2
  have HX := Lib.hid hx
  clear hr0 hr1 hr2 hx
  by_cases hz : n = 0 ∨ 1000 < n
  · have hbad : n = 0 ∨ n ≠ n + 1 := .inr (by omega)
    go_enter Try.func6, Try.ntmps6
    go_wp2_with fail
    refine (fixed_calls _).mono ?_
    rintro e w1 ⟨rfl, hb⟩
    have HB := Lib.hid hb
    clear hb
    rcases hz with rfl | h1
    · go_wp2_with (first | ((with_reducible refine gate_dst (N := 41) rfl ?_); refine Kd.R_make (Kd.int .i8) (w0 := w1) w1.heap.size 31 rfl (N := 41) rfl 22 _ _ rfl 1 rfl rfl Try.underlying22 (.int .i8 0) 1 ninfo31 rfl (by decide) (by omega) 0 (ok := fun _ => True) (okp := fun _ => True) rfl (fun _ hk => hk) trivial (by omega) (by omega) (Below.refl _ _) (Nat.le_refl _) ?_; intro v0 w6 hR hb2 hg2 hfresh; obtain ⟨Am, cm, hv0, _, _⟩ := Kd.R_reads hR; rw [List.length_replicate] at hv0; subst hv0; have HB2 := Lib.hid hb2; clear hR hb2 hg2 hfresh) | fail)
      refine (norm_bad w6 (.inl rfl)).mono ?_
      rintro e w7 ⟨rfl, nd, rfl⟩
      have HZ : Hid (Below w.heap.size w (w6.drewN nd)) := Lib.hid (pw_below_drewN (below_step HB.out HB2.out) _)
      go_wp2
      go_ret
      exact ⟨rfl, HZ.out⟩
    · have e0 : ((n : Int) == 0) = false := beq_eq_false_iff_ne.2 (by omega)
      have e1 : decide (1000 < (n : Int)) = true := decide_eq_true (by omega)
      have e2 : wrap64 ((n : Int) + 1) = (n : Int) + 1 := w64' (by omega) (by omega)
      go_upto_region 6 with (fail)
      clear e0 e1
      go_wp2_with (first | ((with_reducible refine gate_dst (N := 41) rfl ?_); refine Kd.R_make (Kd.int .i8) (w0 := w1) w1.heap.size 31 rfl (N := 41) rfl 22 _ _ rfl ((n : Int) + 1) rfl rfl Try.underlying22 (.int .i8 0) 1 ninfo31 rfl (by decide) (by omega) 0 (ok := fun _ => True) (okp := fun _ => True) rfl (fun _ hk => hk) trivial (by omega) (by omega) (Below.refl _ _) (Nat.le_refl _) ?_; intro v0 w6 hR hb2 hg2 hfresh; obtain ⟨Am, cm, hv0, _, _⟩ := Kd.R_reads hR; rw [List.length_replicate] at hv0; subst hv0; have HB2 := Lib.hid hb2; clear hR hb2 hg2 hfresh) | fail)
      refine (norm_bad w6 (.inr (by omega))).mono ?_
      rintro e w7 ⟨rfl, nd, rfl⟩
      have HZ : Hid (Below w.heap.size w (w6.drewN nd)) := Lib.hid (pw_below_drewN (below_step HB.out HB2.out) _)
      clear e2
      go_wp2
      go_ret
      exact ⟨rfl, HZ.out⟩
  · have n0 : 1 ≤ n := by omega
    have n1 : n ≤ 1000 := by omega
    have e0 : ((n : Int) == 0) = false := beq_eq_false_iff_ne.2 (by omega)
    have e1 : decide (1000 < (n : Int)) = false := decide_eq_false (by omega)
    clear hz hn
    go_enter Try.func6, Try.ntmps6
    go_wp2_with fail
    refine (fixed_calls _).mono ?_
    rintro e w1 ⟨rfl, hb⟩
    have HB := Lib.hid hb
    clear hb
    go_wp2
    clear e0 e1
    go_loopw [11, 12] (fun v y wr => G1Rel w1 (atF gs) n v y wr) (fun _ y _ => n - (intOf y).toNat)
    case atStart => exact ⟨0, rfl, by omega, Kd.R_nil _ _ _ _ _, Below.refl _ _⟩
    case round =>
      obtain ⟨i, rfl, hi, h11, hB⟩ := hrel
      have R11 := Lib.hid h11
      have HC := Lib.hid hB
      clear h11 hB
      rename World => wa
      by_cases hlt : i < n
      · have hlt' : decide ((i : Int) < (n : Int)) = true := decide_eq_true (by omega)
        go_wp2_with fail
        refine (at_calls wa (Kd.C_below (Kd.C_below R1.out HB.out) HC.out) hc1 hs i).mono ?_
        rintro e wb ⟨rfl, nd, rfl⟩
        obtain ⟨wb, hwb⟩ : ∃ wb, wb = wa.drewN nd := ⟨_, rfl⟩
        rw [← hwb]
        have R11b : Hid (Kd.R (Kd.int .i8) 31 wb w1.heap.size (fun _ => True) u11 (tab (atF gs) i)) := Lib.hid (by rw [hwb]; exact Kd.R_drewN R11.out nd)
        have HCb : Hid (Below w1.heap.size w1 wb) := Lib.hid (by rw [hwb]; exact pw_below_drewN HC.out nd)
        clear hwb R11 HC
        go_wp2_with ((with_reducible refine gate_builtin (b := .append) (xs := #[.tmp 52, .tmp 56]) rfl ?_); (try (refine gate_guard (by rfl) ?_; dsimp only)); at_builtin; refine Kd.R_append (Kd.int .i8) (w0 := w1) w1.heap.size rfl (.tmp 52) (.tmp 56) 22 31 (.int .i8 0) 1 rfl Try.underlying22 ninfo31 rfl (by decide) (by omega) u11 (tab (atF gs) i) (atF gs i) [.int .i8 (atF gs i)] (fun _ => True) (fun _ => False) rfl rfl rfl (fun _ hk => hk.elim) (fun _ _ => trivial) R11b.out HCb.out (below_size HCb.out) (by rw [tab_length]; omega) ?_; intro v1 wc ho hb hg hat; rw [← tab_succ] at ho; have HO := Lib.hid ho; have HCc := Lib.hid hb; clear ho hb hg hat)
        go_roundw
        case rel => exact ⟨i + 1, rfl, by omega, HO.out, HCc.out⟩
        case measure => simp [intOf]; omega
      · have hlt' : decide ((i : Int) < (n : Int)) = false := decide_eq_false (by omega)
        obtain rfl : n = i := by omega
        clear hlt hi
        obtain ⟨A11, c11, e11, hc11, hC11⟩ := Kd.R_reads R11.out
        rw [tab_length] at e11 hc11
        subst e11
        have HW : Hid (Below w.heap.size w wa) := Lib.hid (below_step HB.out HC.out)
        have RG := Lib.hid hC11
        clear hC11 R11 HC HB
        go_wp2_with fail
        refine (norm_calls wa HX.out (tab_length _ _) (Kd.C_below R0.out HW.out) hc0 RG.out hc11 n0 n1 (at_small hs n)).mono ?_
        rintro e w2 ⟨vl, rfl, hR, hb⟩
        obtain ⟨A13, c13, e13, hc13, hC13⟩ := Kd.R_reads hR
        rw [tab_length] at e13 hc13
        subst e13
        have RL := Lib.hid hC13
        have HB2 := Lib.hid hb
        clear hR hb hC13
        have hnn : ((n : Int) != (n : Int)) = false := bne_eq_false_iff_eq.2 rfl
        go_wp2
        clear hnn
        obtain ⟨nm, hnm⟩ : ∃ nm, nm = nmF x (tab (atF gs) n) := ⟨_, rfl⟩
        obtain ⟨gF, hgF⟩ : ∃ gF, gF = atF gs := ⟨_, rfl⟩
        have hg : ∀ i, i < n → nth (tab (atF gs) n) i = gF i := fun i hi => by rw [tab_nth hi, hgF]
        have PL : Hid (∀ i, i < n → ((nth x i < 0 ∧ 0 < gF i) ∨ (0 < nth x i ∧ gF i < 0) → nm i < 0) ∧ (¬ ((nth x i < 0 ∧ 0 < gF i) ∨ (0 < nth x i ∧ gF i < 0)) → 0 ≤ nm i) ∧ (nth x i = 0 ∨ gF i = 0 → nm i = 0) ∧ -127 ≤ nm i) := Lib.hid (fun i hi => by
          have h := nm_signs (x := x) (g := tab (atF gs) n) (by rw [HX.out]; exact n1) i
          have h2 := nm_zero (x := x) (g := tab (atF gs) n) (by rw [HX.out]; exact n1) (i := i)
          have h3 := (nm_in x (tab (atF gs) n) i).1
          rw [hg i hi] at h h2
          rw [← hnm] at h h2 h3
          exact ⟨h.1, h.2, h2, h3⟩)
        have PM : Hid (∀ i k, i < n → k < n → gF k = gF i → 0 < gF i → nth x k ≤ nth x i → nm k ≤ nm i) := Lib.hid (fun i k hi hk h1 h2 h3 => by
          have h := nm_mono (x := x) (g := tab (atF gs) n) (by rw [HX.out]; exact n1) (i := i) (k := k)
          rw [hg i hi, hg k hk, ← hnm] at h
          exact h h1 h2 h3)
        have RXn : Hid (∀ W, Below w2.heap.size w2 W → ∀ j, j < n → ∃ ad, A0 = some ad ∧ W.cell? (ad.add j) = some (.int .i64 (nth x j))) := Lib.hid (fun W hW j hj => by
          obtain ⟨ad, e, h⟩ := Kd.at_int (Kd.C_below (Kd.C_below (Kd.C_below R0.out HW.out) HB2.out) hW) (j : Int) (by omega) (by rw [HX.out]; omega)
          rw [rd_nth, Int.toNat_natCast] at h
          exact ⟨ad, e, h⟩)
        have RGn : Hid (∀ W, Below w2.heap.size w2 W → ∀ j, j < n → ∃ ad, A11 = some ad ∧ W.cell? (ad.add j) = some (.int .i8 (gF j))) := Lib.hid (fun W hW j hj => by
          obtain ⟨ad, e, h⟩ := Kd.at_int (Kd.C_below (Kd.C_below RG.out HB2.out) hW) (j : Int) (by omega) (by rw [tab_length]; omega)
          rw [rd_nth, Int.toNat_natCast, hg j hj] at h
          exact ⟨ad, e, h⟩)
        have RLn : Hid (∀ W, Below w2.heap.size w2 W → ∀ j, j < n → ∃ ad, A13 = some ad ∧ W.cell? (ad.add j) = some (.int .i8 (nm j))) := Lib.hid (fun W hW j hj => by
          obtain ⟨ad, e, h⟩ := Kd.at_int (Kd.C_below RL.out hW) (j : Int) (by omega) (by rw [tab_length]; omega)
          rw [rd_nth, Int.toNat_natCast, tab_nth hj, ← hnm] at h
          exact ⟨ad, e, h⟩)
        have HNM := Lib.hid hnm
        have HGF := Lib.hid hgF
        clear hg hnm hgF
        go_loopw [15] (fun y wr => G2Rel w2 n y wr) (fun y _ => n - (intOf y).toNat)
        case atStart => exact ⟨0, rfl, by omega, Below.refl _ _⟩
        case round =>
          obtain ⟨i, rfl, hi, hB⟩ := hrel
          have HC := Lib.hid hB
          clear hB
          rename World => wb
          by_cases hlt : i < n
          · have hlt' : decide ((i : Int) < (n : Int)) = true := decide_eq_true (by omega)
            obtain ⟨ad0, e0, cx⟩ := RXn.out wb HC.out i hlt
            obtain ⟨ad11, e11, cg⟩ := RGn.out wb HC.out i hlt
            obtain ⟨ad13, e13, cl⟩ := RLn.out wb HC.out i hlt
            subst e0 e11 e13
            have hp := PL.out i hlt
            obtain ⟨xi, hxi⟩ : ∃ v, nth x i = v := ⟨_, rfl⟩
            obtain ⟨gi, hgi⟩ : ∃ v, gF i = v := ⟨_, rfl⟩
            obtain ⟨li, hli⟩ : ∃ v, nm i = v := ⟨_, rfl⟩
            rw [hxi] at cx hp
            rw [hgi] at cg hp
            rw [hli] at cl hp
            have HXI := Lib.hid hxi
            have HGI := Lib.hid hgi
            have HLI := Lib.hid hli
            obtain ⟨p1, p2, p3, p4⟩ := hp
            have f7 : (li == -128) = false := beq_eq_false_iff_ne.2 (by omega)
            clear hxi hgi hli hi
            have PH : Hid (((xi < 0 ∧ 0 < gi) ∨ (0 < xi ∧ gi < 0) → li < 0) ∧ (¬ ((xi < 0 ∧ 0 < gi) ∨ (0 < xi ∧ gi < 0)) → 0 ≤ li) ∧ (xi = 0 ∨ gi = 0 → li = 0) ∧ -127 ≤ li) := Lib.hid ⟨p1, p2, p3, p4⟩
            clear p1 p2 p3 p4 f7
            have q1 : (0 : Int) ≤ (i : Int) := by omega
            have q2 : (i : Int) < (n : Int) := by omega
            go_upto_region 19 with (fail)
            go_cut [16] (fun s16 wx => wb = wx ∧ ((s16 = .bool true ∧ li < 0) ∨ (s16 = .bool false ∧ 0 ≤ li)))
            case first =>
              have h1 := PH.out.1
              have h2 := PH.out.2.1
              have hc : (xi < 0 ∧ 0 < gi) ∨ (xi < 0 ∧ ¬ 0 < gi) ∨ (0 < xi ∧ gi < 0) ∨ (0 < xi ∧ ¬ gi < 0) ∨ xi = 0 := by omega
              rcases hc with ⟨a, b⟩ | ⟨a, b⟩ | ⟨a, b⟩ | ⟨a, b⟩ | a
              · have d1 := decide_eq_true a
                have d2 := decide_eq_true b
                have hl := h1 (.inl ⟨a, b⟩)
                clear h1 h2 a b
                go_wp2_with fail
                go_meet
                exact ⟨rfl, .inl ⟨rfl, hl⟩⟩
              · have d1 := decide_eq_true a
                have d2 := decide_eq_false b
                have d3 : decide (0 < xi) = false := decide_eq_false (by omega)
                have hl := h2 (by omega)
                clear h1 h2 a b
                go_wp2_with fail
                go_meet
                exact ⟨rfl, .inr ⟨rfl, hl⟩⟩
              · have d1 : decide (xi < 0) = false := decide_eq_false (by omega)
                have d2 := decide_eq_true a
                have d3 := decide_eq_true b
                have hl := h1 (.inr ⟨a, b⟩)
                clear h1 h2 a b
                go_wp2_with fail
                go_meet
                exact ⟨rfl, .inl ⟨rfl, hl⟩⟩
              · have d1 : decide (xi < 0) = false := decide_eq_false (by omega)
                have d2 := decide_eq_true a
                have d3 := decide_eq_false b
                have hl := h2 (by omega)
                clear h1 h2 a b
                go_wp2_with fail
                go_meet
                exact ⟨rfl, .inr ⟨rfl, hl⟩⟩
              · have d1 : decide (xi < 0) = false := decide_eq_false (by omega)
                have d2 : decide (0 < xi) = false := decide_eq_false (by omega)
                have hl := h2 (by omega)
                clear h1 h2 a
                go_wp2_with fail
                go_meet
                exact ⟨rfl, .inr ⟨rfl, hl⟩⟩
            case rest =>
              obtain ⟨rfl, hl16⟩ := hcut
              have H16 := Lib.hid hl16
              clear hl16
              go_upto_region 20 with (fail)
              go_cut [17] (fun s17 wx => wb = wx ∧ ((s17 = .bool true ∧ li = 0) ∨ s17 = .bool false))
              case first =>
                have h3 := PH.out.2.2.1
                by_cases a : xi = 0
                · have d1 : (xi == 0) = true := beq_iff_eq.2 a
                  have hl := h3 (.inl a)
                  clear h3 a
                  go_wp2_with fail
                  go_meet
                  exact ⟨rfl, .inl ⟨rfl, hl⟩⟩
                · have d1 : (xi == 0) = false := beq_eq_false_iff_ne.2 a
                  by_cases b : gi = 0
                  · have d2 : (gi == 0) = true := beq_iff_eq.2 b
                    have hl := h3 (.inr b)
                    clear h3 a b
                    go_wp2_with fail
                    go_meet
                    exact ⟨rfl, .inl ⟨rfl, hl⟩⟩
                  · have d2 : (gi == 0) = false := beq_eq_false_iff_ne.2 b
                    clear h3 a b
                    go_wp2_with fail
                    go_meet
                    exact ⟨rfl, .inr rfl⟩
              case rest =>
                obtain ⟨rfl, hl17⟩ := hcut
                have H17 := Lib.hid hl17
                clear hl17
                go_upto_region 21 with (fail)
                go_cut [152] (fun s152 wx => wb = wx ∧ s152 = .bool false)
                case first =>
                  have f7 : (li == -128) = false := beq_eq_false_iff_ne.2 (by have := PH.out.2.2.2; omega)
                  rcases H16.out with ⟨rfl, a⟩ | ⟨rfl, a⟩
                  · rcases H17.out with ⟨rfl, b⟩ | rfl
                    · omega
                    · have f8 : (li == 0) = false := beq_eq_false_iff_ne.2 (by omega)
                      have f9 : decide (0 ≤ li) = false := decide_eq_false (by omega)
                      clear a
                      go_wp2_with fail
                      go_meet
                      exact ⟨rfl, rfl⟩
                  · have f10 : decide (li < 0) = false := decide_eq_false (by omega)
                    rcases H17.out with ⟨rfl, b⟩ | rfl
                    · have f8 : (li == 0) = true := beq_iff_eq.2 b
                      clear a b
                      go_wp2_with fail
                      go_meet
                      exact ⟨rfl, rfl⟩
                    · by_cases b : li = 0
                      · have f8 : (li == 0) = true := beq_iff_eq.2 b
                        clear a b
                        go_wp2_with fail
                        go_meet
                        exact ⟨rfl, rfl⟩
                      · have f8 : (li == 0) = false := beq_eq_false_iff_ne.2 b
                        clear a b
                        go_wp2_with fail
                        go_meet
                        exact ⟨rfl, rfl⟩
                case rest =>
                  obtain ⟨rfl, rfl⟩ := hcut
                  clear cx cg cl
                  go_upto_region 24 with (fail)
                  go_loopw [18] (fun y wr => G2Rel w2 n y wr) (fun y _ => n - (intOf y).toNat)
                  case atStart => exact ⟨0, rfl, by omega, HC.out⟩
                  case round =>
                    clear HC
                    obtain ⟨k, rfl, hk, hB⟩ := hrel
                    have HD := Lib.hid hB
                    clear hB
                    rename World => wc
                    by_cases hltk : k < n
                    · have hltk' : decide ((k : Int) < (n : Int)) = true := decide_eq_true (by omega)
                      obtain ⟨_, e0, cxi⟩ := RXn.out wc HD.out i hlt
                      injection e0 with e0
                      subst e0
                      obtain ⟨_, e0, cgi⟩ := RGn.out wc HD.out i hlt
                      injection e0 with e0
                      subst e0
                      obtain ⟨_, e0, cli⟩ := RLn.out wc HD.out i hlt
                      injection e0 with e0
                      subst e0
                      obtain ⟨_, e0, cxk⟩ := RXn.out wc HD.out k hltk
                      injection e0 with e0
                      subst e0
                      obtain ⟨_, e0, cgk⟩ := RGn.out wc HD.out k hltk
                      injection e0 with e0
                      subst e0
                      obtain ⟨_, e0, clk⟩ := RLn.out wc HD.out k hltk
                      injection e0 with e0
                      subst e0
                      have hm := PM.out i k hlt hltk
                      rw [HXI.out] at cxi hm
                      rw [HGI.out] at cgi hm
                      rw [HLI.out] at cli hm
                      obtain ⟨xk, hxk⟩ : ∃ v, nth x k = v := ⟨_, rfl⟩
                      obtain ⟨gk, hgk⟩ : ∃ v, gF k = v := ⟨_, rfl⟩
                      obtain ⟨lk, hlk⟩ : ∃ v, nm k = v := ⟨_, rfl⟩
                      rw [hxk] at cxk hm
                      rw [hgk] at cgk hm
                      rw [hlk] at clk hm
                      have HM := Lib.hid hm
                      have q3 : (0 : Int) ≤ (k : Int) := by omega
                      have q4 : (k : Int) < (n : Int) := by omega
                      clear hxk hgk hlk hm hk
                      go_upto_region 26 with (fail)
                      go_cut [195] (fun s195 wx => Below w2.heap.size w2 wx ∧ s195 = .bool false)
                      case first =>
                        by_cases a1 : gk = gi
                        · have b1 : (gk == gi) = true := beq_iff_eq.2 a1
                          by_cases a2 : 0 < gi
                          · have b2 : decide (0 < gi) = true := decide_eq_true a2
                            by_cases a3 : xk ≤ xi
                            · have b3 : decide (xk ≤ xi) = true := decide_eq_true a3
                              have b4 : decide (li < lk) = false := decide_eq_false (by have := HM.out a1 a2 a3; omega)
                              clear a1 a2 a3
                              go_quiet (fail)
                              go_wp2_with fail
                              go_meet
                              exact ⟨pw_below_drewN HD.out _, rfl⟩
                            · have b3 : decide (xk ≤ xi) = false := decide_eq_false a3
                              clear a1 a2 a3
                              go_quiet (fail)
                              go_wp2_with fail
                              go_meet
                              exact ⟨pw_below_drewN HD.out _, rfl⟩
                          · have b2 : decide (0 < gi) = false := decide_eq_false a2
                            clear a1 a2
                            go_quiet (fail)
                            go_wp2_with fail
                            go_meet
                            exact ⟨pw_below_drewN HD.out _, rfl⟩
                        · have b1 : (gk == gi) = false := beq_eq_false_iff_ne.2 a1
                          clear a1
                          go_quiet (fail)
                          go_wp2_with fail
                          go_meet
                          exact ⟨pw_below_drewN HD.out _, rfl⟩
                      case rest =>
                        obtain ⟨hbc, rfl⟩ := hcut
                        clear cxi cgi cli cxk cgk clk
                        have HE := Lib.hid hbc
                        clear hbc
                        go_wp2
                        go_roundw
                        case rel => exact ⟨k + 1, rfl, by omega, HE.out⟩
                        case measure => simp [intOf]; omega
                    · have hltk' : decide ((k : Int) < (n : Int)) = false := decide_eq_false (by omega)
                      obtain rfl : n = k := by omega
                      clear hltk hk
                      go_wp2
                      go_roundw
                      case rel => exact ⟨i + 1, rfl, by omega, HD.out⟩
                      case measure => simp [intOf]; omega
          · have hlt' : decide ((i : Int) < (n : Int)) = false := decide_eq_false (by omega)
            obtain rfl : n = i := by omega
            clear hlt hi
            obtain ⟨P, hP, ho⟩ := order_calls (n := n) wb (Kd.C_below (Kd.C_below (Kd.C_below R2.out HW.out) HB2.out) HC.out) hc2 (by omega)
            have HO := Lib.hid ho
            have HP := Lib.hid hP
            clear ho hP
            go_wp2_with fail
            refine HO.out.mono ?_
            rintro e w3 ⟨vP, rfl, hR, hb⟩
            obtain ⟨AP, cP, ev, hcP, hCP⟩ := Kd.R_reads hR
            have HPL : Hid (P.length = n) := Lib.hid (by rw [HP.out.length_eq, iota_length])
            rw [HPL.out] at ev hcP
            subst ev
            have RP := Lib.hid hCP
            have HB3 := Lib.hid (below_step HC.out hb)
            clear hR hCP hb HO HC PL PM
            go_wp2
            go_loopw [20, 21, 22, 23] (fun x20 x21 x22 y wr => G3Rel w3 (movF x P) (movF (tab (atF gs) n) P) (movF (tab nm n) P) n x20 x21 x22 y wr) (fun _ _ _ y _ => n - (intOf y).toNat)
            case atStart => exact ⟨0, rfl, by omega, Kd.R_nil _ _ _ _ _, Kd.R_nil _ _ _ _ _, Kd.R_nil _ _ _ _ _, Apart.nil _, Apart.nil _, Apart.nil _, Below.refl _ _⟩
            case round =>
              obtain ⟨i, rfl, hi, h20, h21, h22, a01, a02, a12, hB⟩ := hrel
              have R20 := Lib.hid h20
              have R21 := Lib.hid h21
              have R22 := Lib.hid h22
              have A01 := Lib.hid a01
              have A02 := Lib.hid a02
              have A12 := Lib.hid a12
              have HC := Lib.hid hB
              clear h20 h21 h22 a01 a02 a12 hB
              rename World => wc
              by_cases hlt : i < n
              · have hlt' : decide ((i : Int) < (n : Int)) = true := decide_eq_true (by omega)
                have hnp := perm_in HP.out hlt
                obtain ⟨np, hp⟩ : ∃ np : Nat, nth P i = np := ⟨(nth P i).toNat, by omega⟩
                rw [hp] at hnp
                have hpn : np < n := by omega
                have RPn : Hid (∀ W, Below w3.heap.size w3 W → ∃ ad, AP = some ad ∧ W.cell? (ad.add i) = some (.int .i64 (np : Int))) := Lib.hid (fun W hW => by
                  obtain ⟨ad, e, h⟩ := Kd.at_int (Kd.C_below RP.out hW) (i : Int) (by omega) (by rw [HPL.out]; omega)
                  rw [rd_nth, Int.toNat_natCast, hp] at h
                  exact ⟨ad, e, h⟩)
                have q1 : (0 : Int) ≤ (i : Int) := by omega
                have q2 : (i : Int) < (n : Int) := by omega
                have q3 : (0 : Int) ≤ (np : Int) := by omega
                have q4 : (np : Int) < (n : Int) := by omega
                have E20 : Hid (nth x np = movF x P i) := Lib.hid (by unfold movF; rw [hp, Int.toNat_natCast])
                have E21 : Hid (gF np = movF (tab (atF gs) n) P i) := Lib.hid (by unfold movF; rw [hp, Int.toNat_natCast, tab_nth hpn, HGF.out])
                have E22 : Hid (nm np = movF (tab nm n) P i) := Lib.hid (by unfold movF; rw [hp, Int.toNat_natCast, tab_nth hpn])
                clear hp hnp hi
                obtain ⟨adP, eP, k1⟩ := RPn.out wc HC.out
                obtain ⟨ad0, e0, k2⟩ := RXn.out wc (below_step HB3.out HC.out) np hpn
                subst eP e0
                rw [E20.out] at k2
                go_upto_region 35 with ((with_reducible refine gate_builtin (b := .append) (xs := #[.tmp 204, .tmp 212]) rfl ?_); (try (refine gate_guard (by rfl) ?_; dsimp only)); at_builtin; refine Kd.R_append (Kd.int .i64) (w0 := w3) w3.heap.size rfl (.tmp 204) (.tmp 212) 32 2 (.int .i64 0) 8 rfl Try.underlying32 ninfo2 rfl (by decide) (by omega) u20 (tab (movF x P) i) (movF x P i) [.int .i64 (movF x P i)] (fun _ => True) (fun _ => False) rfl rfl rfl (fun _ hk => hk.elim) (fun _ _ => trivial) R20.out HC.out (below_size HC.out) (by rw [tab_length]; omega) ?_; intro v20 wd ho hb hg hat)
                rw [← tab_succ] at ho
                have R20d := Lib.hid ho
                have HD1 := Lib.hid hb
                have h_ := updK R21.out A01.out hg hat
                have R21d := Lib.hid h_.1
                have A01d := Lib.hid h_.2
                clear h_
                have h_ := updK R22.out A02.out hg hat
                have R22d := Lib.hid h_.1
                have A02d := Lib.hid h_.2
                clear h_
                clear ho hb hg hat R20 R21 R22 A01 A02 HC k1 k2
                obtain ⟨_, eP, k1⟩ := RPn.out wd HD1.out
                injection eP with eP
                subst eP
                obtain ⟨ad1, e1, k2⟩ := RGn.out wd (below_step HB3.out HD1.out) np hpn
                subst e1
                rw [E21.out] at k2
                go_upto_region 36 with ((with_reducible refine gate_builtin (b := .append) (xs := #[.tmp 214, .tmp 222]) rfl ?_); (try (refine gate_guard (by rfl) ?_; dsimp only)); at_builtin; refine Kd.R_append (Kd.int .i8) (w0 := w3) w3.heap.size rfl (.tmp 214) (.tmp 222) 22 31 (.int .i8 0) 1 rfl Try.underlying22 ninfo31 rfl (by decide) (by omega) u21 (tab (movF (tab (atF gs) n) P) i) (movF (tab (atF gs) n) P i) [.int .i8 (movF (tab (atF gs) n) P i)] (fun _ => True) (fun _ => False) rfl rfl rfl (fun _ hk => hk.elim) (fun _ _ => trivial) R21d.out HD1.out (below_size HD1.out) (by rw [tab_length]; omega) ?_; intro v21 we ho hb hg hat)
                rw [← tab_succ] at ho
                have R21e := Lib.hid ho
                have HE1 := Lib.hid hb
                have h_ := updK R20d.out A01d.out.symm hg hat
                have R20e := Lib.hid h_.1
                have A01e := Lib.hid h_.2.symm
                clear h_
                have h_ := updK R22d.out A12.out hg hat
                have R22e := Lib.hid h_.1
                have A12e := Lib.hid h_.2
                clear h_
                clear ho hb hg hat R20d R21d R22d A01d A12 HD1 k1 k2
                obtain ⟨_, eP, k1⟩ := RPn.out we HE1.out
                injection eP with eP
                subst eP
                obtain ⟨ad2, e2, k2⟩ := RLn.out we (below_step HB3.out HE1.out) np hpn
                subst e2
                rw [E22.out] at k2
                go_upto_region 33 with ((with_reducible refine gate_builtin (b := .append) (xs := #[.tmp 224, .tmp 232]) rfl ?_); (try (refine gate_guard (by rfl) ?_; dsimp only)); at_builtin; refine Kd.R_append (Kd.int .i8) (w0 := w3) w3.heap.size rfl (.tmp 224) (.tmp 232) 22 31 (.int .i8 0) 1 rfl Try.underlying22 ninfo31 rfl (by decide) (by omega) u22 (tab (movF (tab nm n) P) i) (movF (tab nm n) P i) [.int .i8 (movF (tab nm n) P i)] (fun _ => True) (fun _ => False) rfl rfl rfl (fun _ hk => hk.elim) (fun _ _ => trivial) R22e.out HE1.out (below_size HE1.out) (by rw [tab_length]; omega) ?_; intro v22 wf ho hb hg hat)
                rw [← tab_succ] at ho
                have R22f := Lib.hid ho
                have HF1 := Lib.hid hb
                have h_ := updK R20e.out A02d.out.symm hg hat
                have R20f := Lib.hid h_.1
                have A02f := Lib.hid h_.2.symm
                clear h_
                have h_ := updK R21e.out A12e.out.symm hg hat
                have R21f := Lib.hid h_.1
                have A12f := Lib.hid h_.2.symm
                clear h_
                clear ho hb hg hat R20e R21e R22e A02d A12e HE1 k1 k2
                go_wp2
                go_roundw
                case rel => exact ⟨i + 1, rfl, by omega, R20f.out, R21f.out, R22f.out, A01e.out, A02f.out, A12f.out, HF1.out⟩
                case measure => simp [intOf]; omega
              · have hlt' : decide ((i : Int) < (n : Int)) = false := decide_eq_false (by omega)
                obtain rfl : n = i := by omega
                clear hlt hi
                obtain ⟨A20, c20, e20, hc20, hC20⟩ := Kd.R_reads R20.out
                obtain ⟨A21, c21, e21, hc21, hC21⟩ := Kd.R_reads R21.out
                obtain ⟨A22, c22, e22, hc22, hC22⟩ := Kd.R_reads R22.out
                rw [tab_length] at e20 e21 e22 hc20 hc21 hc22
                subst e20 e21 e22
                have C20 := Lib.hid hC20
                have C21 := Lib.hid hC21
                have C22 := Lib.hid hC22
                clear hC20 hC21 hC22 R20 R21 R22 A01 A02 A12
                have hsm : Small (tab (movF (tab (atF gs) n) P) n) := tab_small (fun j => by unfold movF; exact (at_small hs n).nth _) n
                go_wp2_with fail
                refine (norm_calls (x := tab (movF x P) n) (g := tab (movF (tab (atF gs) n) P) n) wc (tab_length _ _) (tab_length _ _) C20.out hc20 C21.out hc21 n0 n1 hsm).mono ?_
                rintro e w4 ⟨vm, rfl, hR, hb⟩
                rw [nm_moved HX.out HP.out, ← HNM.out] at hR
                obtain ⟨Am, cm, em, hcm, hCm⟩ := Kd.R_reads hR
                rw [tab_length] at em hcm
                subst em
                have Cm := Lib.hid hCm
                have H4 := Lib.hid hb
                clear hR hb hCm
                go_wp2_with fail
                refine (eqn_calls w4 (tab_length _ _) (tab_length _ _) Cm.out hcm (Kd.C_below C22.out H4.out) hc22 rfl (by omega)).mono ?_
                rintro e w5 ⟨rfl, n5, rfl⟩
                have HZ : Hid (Below w.heap.size w (w4.drewN n5)) := Lib.hid (pw_below_drewN (below_step (below_step (below_step (below_step HW.out HB2.out) HB3.out) HC.out) H4.out) _)
                go_wp2
                go_ret
                exact ⟨rfl, HZ.out⟩
end Go.Proofs.Ytnioohhiphpplaa.Wk
