/- The walk of augurlaw03.TensorTurns. -/
import Derived.Test.YtnioohhiphpplaaTw
import Derived.Test.YtnioohhiphpplaaFx
import Derived.Deep.RegionLaw
set_option linter.unusedVariables false
set_option linter.unusedSimpArgs false
namespace Go.Proofs.Ytnioohhiphpplaa.Wk
open Go.RowKit Go.Proofs.YtnioohhiphpplaaW.PrintWords Go.Proofs.YtnioohhiphpplaaW.PrintLast Go.Proofs.YtnioohhiphpplaaW.PrintMore Go.Proofs.Ytnioohhiphpplaa.M Go.Proofs.Ytnioohhiphpplaa.Br
open PTensorTurns (S44 k44 z44 rd_T44 k44_open k44_openM k44_mk k44_mkM)

theorem eqt_calls {A0 A1 : Option Addr} {n c0 c1 : Nat} {T T' : Nat → S44} (w : World) (hr0 : Kd.C k44 w A0 n (tabT T n)) (hc0 : n ≤ c0) (hr1 : Kd.C k44 w A1 n (tabT T' n)) (hc1 : n ≤ c1) (ht : tabT T n = tabT T' n) (hn : n ≤ 1000) :
    Calls Try.prog 16 #[.slice A0 n c0, .slice A1 n c1] w fun e w' => e = .returned (.bool true) ∧ ∃ d, w' = w.drewN d := by
  rw [← ht] at hr1
  have h := PTensorTurns.augurref00_EqTurns.calls (n + 1) A0 c0 (tabT T n) A1 c1 (tabT T n) true w (by rw [tabT_length]; exact hr0) (by rw [tabT_length]; exact hc0) (by rw [tabT_length]; exact hr1) (by rw [tabT_length]; exact hc1) (eqt_is hn)
  rw [tabT_length] at h
  refine h.mono ?_
  rintro e w' ⟨rfl, h⟩
  exact ⟨rfl, h.out⟩
theorem rotate_calls {A0 A1 : Option Addr} {q c0 c1 : Nat} {V : Nat → Int} {T : Nat → S44} (w : World) (hr0 : Kd.C (Kd.int .i8) w A0 (2 * q) (tab V (2 * q))) (hc0 : 2 * q ≤ c0) (hr1 : Kd.C k44 w A1 q (tabT T q)) (hc1 : q ≤ c1) (hq : q ≤ 1000) (hv : ∀ i, i < 2 * q → -128 ≤ V i ∧ V i ≤ 127) (ht : ∀ i, i < q → uniT (T i)) :
    Calls Try.prog 18 #[.slice A0 (2 * q) c0, .slice A1 q c1] w fun e w' => ∃ v0 : Value, e = .returned (.tuple #[v0, .int .i64 0]) ∧ Kd.R (Kd.int .i8) 31 w' w.heap.size (fun _ => True) v0 (tab (rotF V T) (2 * q)) ∧ Below w.heap.size w w' := by
  have h := PTensorTurns.tensor_Rotate.calls (q + 2) A0 c0 (tab V (2 * q)) A1 c1 (tabT T q) (tab (rotF V T) (2 * q)) 0 w (by rw [tab_length]; exact hr0) (by rw [tab_length]; exact hc0) (by rw [tabT_length]; exact hr1) (by rw [tabT_length]; exact hc1) (rot_is hq hv ht)
  rw [tab_length, tabT_length] at h
  exact h
theorem mod63_calls {a : Int} (w : World) : ∃ r : Nat, r < 63 ∧ Calls Try.prog 14 #[.int .i64 a, .int .i64 63] w fun e w' => e = .returned (.int .i64 r) ∧ ∃ d, w' = w.drewN d := by
  obtain ⟨m, hm, h0, h1⟩ := mod_is a (n := 63) (by omega) (by omega)
  obtain ⟨r, rfl⟩ := Int.eq_ofNat_of_zero_le h0
  refine ⟨r, by omega, (Pshaped.augurlaw03_mod.calls a 63 r w hm).mono ?_⟩
  rintro e w' ⟨rfl, h⟩
  exact ⟨rfl, h.out⟩
section
/-- An own list of turns that is appended to, as one step of a region that draws its order. -/
theorem app44_step {ops : Array Oper} {o : Oper} {a : Act} {Q : Exit → Act → World → Prop} {K : Act → World → Prop} {E : Prop} {w0 W ww : World} {N : Nat} (hg : o.guard = none) (s x : Operand)
    (ho : o.op = .call { callee := .builtin .append, args := #[s, x], argTypes := #[42, 42] }) (v : Value) (xs : List S44) (p : S44) (hs : a.eval s = v) (hx : a.eval x = .slice (some ⟨N, 0, none⟩) 1 1) (hN : N = W.heap.size)
    (hww : ww = W.alloc (.cells #[.int .i64 p.f0, .int .i64 p.f1] 44 (0, 0))) (HO : Kd.R k44 44 W w0.heap.size (fun _ => True) v xs) (HB : Below w0.heap.size w0 W) (hl : xs.length ≤ 1000)
    (h : ∀ v1 w1, Kd.R k44 44 w1 w0.heap.size (fun _ => True) v1 (xs ++ [p]) → Below w0.heap.size w0 w1 → K (a.put o.dst v1) w1) :
    if Region.wanted o (yielded ops a.tmps) = true then Oper.wp Try.prog o a ww K Q else E := by
  subst hww hN
  have hw : Region.wanted o (yielded ops a.tmps) = true := by simp [Region.wanted, hg]
  have H := Kd.R_append_step (P := Try.prog) (Q := Q) (Kc := K) k44 (w0 := w0) w0.heap.size hw s x 42 44 (.agg #[.int .i64 0, .int .i64 0]) 16 ho Try.underlying42 tinfo44 rfl (by decide) (by omega) v xs p [.int .i64 p.f0, .int .i64 p.f1] (fun _ => True) (fun _ => False) hs hx (k44_mkM _ _ _ p) (fun _ hk => hk.elim) (fun _ _ => trivial) HO HB (below_size HB) (by omega) (fun v1 w1 h1 h2 _ _ => h v1 w1 h1 h2)
  rw [if_pos hw] at H ⊢
  exact H
end
/-- A unit, brought within Unit. -/
def unitF (z : List S44) (i : Nat) : S44 := ⟨Int.tmod (rd_T44 z (i : Int)).f0 16385, Int.tmod (rd_T44 z (i : Int)).f1 16385⟩
theorem unit_in (z : List S44) (i : Nat) : uniT (unitF z i) := by
  have h1 := Int.lt_tmod_of_pos (rd_T44 z (i : Int)).f0 (b := 16385) (by omega)
  have h2 := Int.tmod_lt_of_pos (rd_T44 z (i : Int)).f0 (b := 16385) (by omega)
  have h3 := Int.lt_tmod_of_pos (rd_T44 z (i : Int)).f1 (b := 16385) (by omega)
  have h4 := Int.tmod_lt_of_pos (rd_T44 z (i : Int)).f1 (b := 16385) (by omega)
  unfold uniT uni unitF
  simp only
  omega
theorem rotate_m {A0 A1 : Option Addr} {M q c0 c1 : Nat} {V : Nat → Int} {T : Nat → S44} (w : World) (hM : M = 2 * q) (hr0 : Kd.C (Kd.int .i8) w A0 M (tab V M)) (hc0 : M ≤ c0) (hr1 : Kd.C k44 w A1 q (tabT T q)) (hc1 : q ≤ c1) (hq : q ≤ 1000) (hv : ∀ i, -128 ≤ V i ∧ V i ≤ 127) (ht : ∀ i, uniT (T i)) :
    Calls Try.prog 18 #[.slice A0 M c0, .slice A1 q c1] w fun e w' => ∃ A c, e = .returned (.tuple #[.slice A M c, .int .i64 0]) ∧ M ≤ c ∧ Kd.C (Kd.int .i8) w' A M (tab (rotF V T) M) ∧ Below w.heap.size w w' := by
  subst hM
  refine (rotate_calls w hr0 hc0 hr1 hc1 hq (fun i _ => hv i) (fun i _ => ht i)).mono ?_
  rintro e w' ⟨v0, rfl, hR, hb⟩
  obtain ⟨A, c, ev, hc, hC⟩ := Kd.R_reads hR
  rw [tab_length] at ev hc hC
  subst ev
  exact ⟨A, c, rfl, hc, hC, hb⟩
theorem mid_tab (V : Nat → Int) {M lo : Nat} (h : lo + 2 ≤ M) : ((tab V M).take (lo + 2)).drop lo = tab (fun j => V (lo + j)) 2 := by
  refine List.ext_getElem (by rw [List.length_drop, List.length_take, tab_length, tab_length]; omega) fun j h1 h2 => ?_
  rw [tab_length] at h2
  rw [List.getElem_drop, List.getElem_take]
  simp [tab]
theorem mid_tabT (T : Nat → S44) {n i : Nat} (h : i + 1 ≤ n) : ((tabT T n).take (i + 1)).drop i = tabT (fun j => T (i + j)) 1 := by
  refine List.ext_getElem (by rw [List.length_drop, List.length_take, tabT_length, tabT_length]; omega) fun j h1 h2 => ?_
  rw [tabT_length] at h2
  obtain rfl : j = 0 := by omega
  rw [List.getElem_drop, List.getElem_take]
  simp [tabT]
/-- A number, -128 as -127. -/
def still127 (V : Nat → Int) (i : Nat) : Int := if V i = -128 then -127 else V i
/-- Behind i units. -/
def U1Rel (w : World) (U : Nat → S44) (n : Nat) (v x : Value) (wr : World) : Prop := ∃ i : Nat, x = .int .i64 i ∧ i ≤ n ∧ Kd.R k44 44 wr w.heap.size (fun _ => True) v (tabT U i) ∧ Below w.heap.size w wr
/-- Behind i numbers: the vector, and as it is when nothing is turned. -/
def U3Rel (w : World) (V : Nat → Int) (n : Nat) (x16 x17 x : Value) (wr : World) : Prop :=
  ∃ i : Nat, x = .int .i64 i ∧ i ≤ n ∧ Kd.R (Kd.int .i8) 31 wr w.heap.size (fun _ => True) x16 (tab V i) ∧ Kd.R (Kd.int .i8) 31 wr w.heap.size (fun _ => True) x17 (tab (still127 V) i) ∧ Apart x16 x17 ∧ Below w.heap.size w wr

set_option maxHeartbeats 4000000 in
set_option maxRecDepth 100000 in
theorem turnslaw_calls {A0 A2 : Option Addr} {c0 c2 : Nat} {z : List S44} {nn : Int} {vs : List Int} (w : World) (hr0 : Kd.C k44 w A0 z.length z) (hc0 : z.length ≤ c0) (hr2 : Kd.C (Kd.int .i8) w A2 vs.length vs) (hc2 : vs.length ≤ c2) (hs : Small vs) :
    Calls Try.prog 4 #[.slice A0 z.length c0, .int .i64 nn, .slice A2 vs.length c2] w fun e w' => e = .returned (.bool true) ∧ Below w.heap.size w w' := by
  have R0 := Lib.hid hr0
  have R2 := Lib.hid hr2
  obtain ⟨m, hm⟩ : ∃ m, z.length = m := ⟨_, rfl⟩
  rw [hm] at hc0 ⊢
  have HM := Lib.hid hm
  obtain ⟨n, hn0, hn1, hn2⟩ : ∃ n : Nat, n ≤ m ∧ n ≤ 40 ∧ (n = m ∨ n = 40) := ⟨if m ≤ 40 then m else 40, by split <;> omega, by split <;> omega, by split <;> omega⟩
  have HN2 := Lib.hid hn2
  obtain ⟨U, hU⟩ : ∃ U, U = unitF z := ⟨_, rfl⟩
  have HUI : Hid (∀ i, uniT (U i)) := Lib.hid (fun i => by rw [hU]; exact unit_in z i)
  have HU := Lib.hid hU
  obtain ⟨V, hV⟩ : ∃ V, V = atF vs := ⟨_, rfl⟩
  have HVI : Hid (∀ i, -128 ≤ V i ∧ V i ≤ 127) := Lib.hid (fun i => by rw [hV]; exact (at_eq hs i).2)
  have HV := Lib.hid hV
  clear hr0 hr2 hm hn2 hU hV
  go_enter Try.func4, Try.ntmps4
  go_wp2
  go_loopw [7, 8] (fun v y wr => U1Rel w U n v y wr) (fun _ y _ => n - (intOf y).toNat)
  case atStart => exact ⟨0, rfl, by omega, Kd.R_nil _ _ _ _ _, Below.refl _ _⟩
  case round =>
    obtain ⟨i, rfl, hi, hR, hB⟩ := hrel
    have R7 := Lib.hid hR
    have HB := Lib.hid hB
    clear hR hB
    rename World => wa
    go_upto_region 3 with (fail)
    go_cut [34] (fun s34 wx => wa = wx ∧ s34 = .bool (decide (i < n)))
    case first =>
      by_cases hlt : i < n
      · have d1 : decide ((i : Int) < (m : Int)) = true := decide_eq_true (by omega)
        have d2 : decide ((i : Int) < 40) = true := decide_eq_true (by omega)
        go_wp2_with fail
        go_meet
        exact ⟨rfl, by rw [decide_eq_true hlt]⟩
      · by_cases c : n = m
        · have d1 : decide ((i : Int) < (m : Int)) = false := decide_eq_false (by omega)
          go_wp2_with fail
          go_meet
          exact ⟨rfl, by rw [decide_eq_false hlt]⟩
        · have d1 : decide ((i : Int) < (m : Int)) = true := decide_eq_true (by omega)
          have d2 : decide ((i : Int) < 40) = false := decide_eq_false (by have := HN2.out; omega)
          go_wp2_with fail
          go_meet
          exact ⟨rfl, by rw [decide_eq_false hlt]⟩
    case rest =>
    obtain ⟨rfl, rfl⟩ := hcut
    by_cases hlt : i < n
    · have hlt' : decide (i < n) = true := decide_eq_true hlt
      rw [hlt']
      clear hi hlt'
      obtain ⟨ad, e1, k0, k1⟩ := PTensorTurns.at_T44 (Kd.C_below R0.out HB.out) (i : Int) (by omega) (by rw [HM.out]; omega)
      subst e1
      rw [Int.toNat_natCast] at k0 k1
      obtain ⟨x0, hx0⟩ : ∃ x, (rd_T44 z (i : Int)).f0 = x := ⟨_, rfl⟩
      obtain ⟨x1, hx1⟩ : ∃ x, (rd_T44 z (i : Int)).f1 = x := ⟨_, rfl⟩
      rw [hx0] at k0
      rw [hx1] at k1
      have HUE : Hid (U i = ⟨Int.tmod x0 16385, Int.tmod x1 16385⟩) := Lib.hid (by rw [HU.out, ← hx0, ← hx1]; rfl)
      have q1 : (0 : Int) ≤ (i : Int) := by omega
      have q2 : (i : Int) < (m : Int) := by omega
      clear hx0 hx1
      go_upto_region 5 with (fail)
      have R7d : Kd.R k44 44 wa.drew w.heap.size (fun _ => True) u7 (tabT U i) := Kd.R_drew R7.out
      have HBd : Below w.heap.size w wa.drew := below_drew HB.out
      have hl2 : (tabT U i).length ≤ 1000 := by rw [tabT_length]; omega
      clear R7 HB
      go_region_law ((refine app44_step rfl (.tmp 37) (.tmp 51) rfl u7 (tabT U i) ⟨Int.tmod x0 16385, Int.tmod x1 16385⟩ (W := wa.drew) (N := wa.heap.size) (by simp [Act.eval, Act.put]) (by simp [Act.eval, Act.put]) rfl rfl R7d HBd hl2 ?_); intro v1 wb ho hb; rw [← HUE.out, ← tabT_succ] at ho; have HO := Lib.hid ho; have HBb := Lib.hid hb; clear ho hb)
      all_goals (clear R7d HBd hl2 k0 k1 q1 q2; go_wp2; go_roundw)
      all_goals first
        | exact ⟨i + 1, rfl, by omega, HO.out, HBb.out⟩
        | (simp [intOf]; omega)
    · have hlt' : decide (i < n) = false := decide_eq_false hlt
      rw [hlt']
      obtain rfl : n = i := by omega
      clear hi hlt' hlt
      obtain ⟨A7, c7, e7, hc7, hC7⟩ := Kd.R_reads R7.out
      rw [tabT_length] at e7 hc7 hC7
      subst e7
      have C7 := Lib.hid hC7
      clear hC7 R7
      obtain ⟨r, hr, hmod⟩ := mod63_calls (a := nn) wa
      have HMOD := Lib.hid hmod
      clear hmod
      go_wp2_with fail
      refine HMOD.out.mono ?_
      rintro e wb ⟨rfl, nd, rfl⟩
      obtain ⟨wb, hwb⟩ : ∃ x, x = wa.drewN nd := ⟨_, rfl⟩
      rw [← hwb]
      have HBb : Hid (Below w.heap.size w wb) := Lib.hid (by rw [hwb]; exact pw_below_drewN HB.out nd)
      have C7b : Hid (Kd.C k44 wb A7 n (tabT U n)) := Lib.hid (by rw [hwb]; exact Kd.C_drewN C7.out nd)
      clear hwb HB C7 HMOD
      obtain ⟨k, hk⟩ : ∃ k : Nat, 2 + r = k := ⟨_, rfl⟩
      have hkw : 2 + (r : Int) = (k : Int) := by omega
      have k2 : 2 ≤ k := by omega
      have k64 : k ≤ 64 := by omega
      clear hk
      go_upto_region 7 with (fail)
      clear hkw
      go_wp2_with fail
      refine (turns_calls (n := 64) wb C7b.out hc7 hn1 (by omega) (fun i _ => HUI.out i)).mono ?_
      rintro e w2 ⟨Al, cl, rfl, hcl, hl, hb⟩
      have RL := Lib.hid hl
      have H2 := Lib.hid hb
      clear hl hb
      go_wp2_with fail
      refine (turns_calls (n := k) w2 (Kd.C_below C7b.out H2.out) hc7 hn1 k64 (fun i _ => HUI.out i)).mono ?_
      rintro e w3 ⟨Am, cm, rfl, hcm, hmm, hb⟩
      have RM := Lib.hid hmm
      have RL3 := Lib.hid (RL.out.below hb)
      have H3 : Hid (Below w.heap.size w w3) := Lib.hid (below_step (below_step HBb.out H2.out) hb)
      have C73 := Lib.hid (Kd.C_below (Kd.C_below C7b.out H2.out) hb)
      clear hmm hb RL H2 HBb C7b
      have hkk : ((k : Int) != (k : Int)) = false := bne_eq_false_iff_eq.2 rfl
      go_wp2
      clear hkk
      go_loopw [14] (fun y wr => G2Rel w3 k y wr) (fun y _ => k - (intOf y).toNat)
      case atStart => exact ⟨0, rfl, by omega, Below.refl _ _⟩
      case round =>
        obtain ⟨p, rfl, hp, hB⟩ := hrel
        have HD := Lib.hid hB
        clear hB
        rename World => w4
        by_cases hltp : p < k
        · have hltp' : decide ((p : Int) < (k : Int)) = true := decide_eq_true (by omega)
          obtain ⟨adl, Alp, clp, e1, kl, hclp, hCl⟩ := (RL3.out.below HD.out).at (p := p) (by omega)
          obtain ⟨adm, Amp, cmp, e2, km, hcmp, hCm⟩ := (RM.out.below HD.out).at (p := p) hltp
          subst e1 e2
          have CL := Lib.hid hCl
          have CM := Lib.hid hCm
          have q1 : (0 : Int) ≤ (p : Int) := by omega
          have q2 : (p : Int) < (k : Int) := by omega
          have q3 : (p : Int) < 64 := by omega
          have hnn : ((n : Int) != (n : Int)) = false := bne_eq_false_iff_eq.2 rfl
          clear hCl hCm hp
          go_upto_region 14 with (fail)
          go_quiet ((go_at_call 16; exact Calls.quiet_of (eqt_calls _ (Kd.C_drewN CL.out _) hclp (Kd.C_drewN CM.out _) hcmp rfl (by omega))))
          go_wp2
          go_roundw
          case rel => exact ⟨p + 1, rfl, by omega, pw_below_drewN HD.out _⟩
          case measure => simp [intOf]; omega
        · have hltp' : decide ((p : Int) < (k : Int)) = false := decide_eq_false (by omega)
          obtain rfl : k = p := by omega
          clear hltp hp
          have RM4 := Lib.hid (RM.out.below HD.out)
          have C74 := Lib.hid (Kd.C_below C73.out HD.out)
          have H4 := Lib.hid (below_step H3.out HD.out)
          clear RM RL3 C73 H3 HD
          obtain ⟨M, hM⟩ : ∃ M, M = 2 * n := ⟨_, rfl⟩
          have hMi : 2 * (n : Int) = (M : Int) := by omega
          have HM2 := Lib.hid hM
          have hM80 : M ≤ 80 := by omega
          clear hM
          go_wp2
          go_loopw [16, 17, 18] (fun x16 x17 y wr => U3Rel w4 V M x16 x17 y wr) (fun _ _ y _ => M - (intOf y).toNat)
          case atStart => exact ⟨0, rfl, by omega, Kd.R_nil _ _ _ _ _, Kd.R_nil _ _ _ _ _, Apart.nil _, Below.refl _ _⟩
          case round =>
            obtain ⟨i, rfl, hi, h16, h17, ha, hB⟩ := hrel
            have R16 := Lib.hid h16
            have R17 := Lib.hid h17
            have A67 := Lib.hid ha
            have HC := Lib.hid hB
            clear h16 h17 ha hB
            rename World => wa
            by_cases hlti : i < M
            · have hlti' : decide ((i : Int) < (M : Int)) = true := decide_eq_true (by omega)
              clear hi
              go_wp2_with fail
              refine (at_calls wa (Kd.C_below (Kd.C_below R2.out H4.out) HC.out) hc2 hs i).mono ?_
              rintro e wb ⟨rfl, nd, rfl⟩
              have hv : atF vs i = V i := by rw [HV.out]
              rw [hv]
              obtain ⟨wb, hwb⟩ : ∃ x, x = wa.drewN nd := ⟨_, rfl⟩
              rw [← hwb]
              have R16b : Hid (Kd.R (Kd.int .i8) 31 wb w4.heap.size (fun _ => True) u16 (tab V i)) := Lib.hid (by rw [hwb]; exact Kd.R_drewN R16.out nd)
              have R17b : Hid (Kd.R (Kd.int .i8) 31 wb w4.heap.size (fun _ => True) u17 (tab (still127 V) i)) := Lib.hid (by rw [hwb]; exact Kd.R_drewN R17.out nd)
              have HCb : Hid (Below w4.heap.size w4 wb) := Lib.hid (by rw [hwb]; exact pw_below_drewN HC.out nd)
              clear hwb hv R16 R17 HC
              go_upto_region 23 with ((with_reducible refine gate_builtin (b := .append) (xs := #[.tmp 120, .tmp 122]) rfl ?_); (try (refine gate_guard (by rfl) ?_; dsimp only)); at_builtin; refine Kd.R_append (Kd.int .i8) (w0 := w4) w4.heap.size rfl (.tmp 120) (.tmp 122) 22 31 (.int .i8 0) 1 rfl Try.underlying22 ninfo31 rfl (by decide) (by omega) u16 (tab (V) i) (V i) [.int .i8 (V i)] (fun _ => True) (fun _ => False) rfl rfl rfl (fun _ hk => hk.elim) (fun _ _ => trivial) R16b.out HCb.out (below_size HCb.out) (by rw [tab_length]; omega) ?_; intro v16 wc ho hb hg hat)
              rw [← tab_succ] at ho
              have R16c := Lib.hid ho
              have HCc := Lib.hid hb
              have h_ := updK R17b.out A67.out hg hat
              have R17c := Lib.hid h_.1
              have A67c := Lib.hid h_.2
              clear ho hb hg hat h_ R16b R17b A67 HCb
              obtain ⟨v, hv⟩ : ∃ x, V i = x := ⟨_, rfl⟩
              rw [hv]
              by_cases h128 : v = -128
              · have d1 : (v == -128) = true := beq_iff_eq.2 h128
                have HSV : Hid (still127 V i = -127) := Lib.hid (by unfold still127; rw [hv, if_pos h128])
                clear h128 hv
                go_upto_region 25 with (fail)
                go_upto_region 20 with ((with_reducible refine gate_builtin (b := .append) (xs := #[.tmp 126, .tmp 128]) rfl ?_); (try (refine gate_guard (by rfl) ?_; dsimp only)); at_builtin; refine Kd.R_append (Kd.int .i8) (w0 := w4) w4.heap.size rfl (.tmp 126) (.tmp 128) 22 31 (.int .i8 0) 1 rfl Try.underlying22 ninfo31 rfl (by decide) (by omega) u17 (tab (still127 V) i) (-127) [.int .i8 (-127)] (fun _ => True) (fun _ => False) rfl rfl rfl (fun _ hk => hk.elim) (fun _ _ => trivial) R17c.out HCc.out (below_size HCc.out) (by rw [tab_length]; omega) ?_; intro v17 wd ho hb hg hat)
                have ho' : Kd.R (Kd.int .i8) 31 wd w4.heap.size (fun _ => True) v17 (tab (still127 V) (i + 1)) := by rw [tab_succ, HSV.out]; exact ho
                have R17d := Lib.hid ho'
                have HCd := Lib.hid hb
                have h_ := updK R16c.out A67c.out.symm hg hat
                have R16d := Lib.hid h_.1
                have A67d := Lib.hid h_.2.symm
                clear ho ho' hb hg hat h_ R17c R16c A67c HCc
                go_wp2
                go_roundw
                case rel => exact ⟨i + 1, rfl, by omega, R16d.out, R17d.out, A67d.out, HCd.out⟩
                case measure => simp [intOf]; omega
              · have d1 : (v == -128) = false := beq_eq_false_iff_ne.2 h128
                have HSV : Hid (still127 V i = v) := Lib.hid (by unfold still127; rw [hv, if_neg h128])
                clear h128 hv
                go_upto_region 25 with (fail)
                go_upto_region 20 with ((with_reducible refine gate_builtin (b := .append) (xs := #[.tmp 126, .tmp 128]) rfl ?_); (try (refine gate_guard (by rfl) ?_; dsimp only)); at_builtin; refine Kd.R_append (Kd.int .i8) (w0 := w4) w4.heap.size rfl (.tmp 126) (.tmp 128) 22 31 (.int .i8 0) 1 rfl Try.underlying22 ninfo31 rfl (by decide) (by omega) u17 (tab (still127 V) i) (v) [.int .i8 (v)] (fun _ => True) (fun _ => False) rfl rfl rfl (fun _ hk => hk.elim) (fun _ _ => trivial) R17c.out HCc.out (below_size HCc.out) (by rw [tab_length]; omega) ?_; intro v17 wd ho hb hg hat)
                have ho' : Kd.R (Kd.int .i8) 31 wd w4.heap.size (fun _ => True) v17 (tab (still127 V) (i + 1)) := by rw [tab_succ, HSV.out]; exact ho
                have R17d := Lib.hid ho'
                have HCd := Lib.hid hb
                have h_ := updK R16c.out A67c.out.symm hg hat
                have R16d := Lib.hid h_.1
                have A67d := Lib.hid h_.2.symm
                clear ho ho' hb hg hat h_ R17c R16c A67c HCc
                go_wp2
                go_roundw
                case rel => exact ⟨i + 1, rfl, by omega, R16d.out, R17d.out, A67d.out, HCd.out⟩
                case measure => simp [intOf]; omega
            · have hlti' : decide ((i : Int) < (M : Int)) = false := decide_eq_false (by omega)
              obtain rfl : M = i := by omega
              clear hlti hi
              obtain ⟨A16, c16, e16, hc16, hC16⟩ := Kd.R_reads R16.out
              obtain ⟨A17, c17, e17, hc17, hC17⟩ := Kd.R_reads R17.out
              rw [tab_length] at e16 e17 hc16 hc17 hC16 hC17
              subst e16 e17
              have C16 := Lib.hid hC16
              have C17 := Lib.hid hC17
              have RMa := Lib.hid (RM4.out.below HC.out)
              have C7a := Lib.hid (Kd.C_below C74.out HC.out)
              have HA := Lib.hid (below_step H4.out HC.out)
              clear hC16 hC17 R16 R17 A67 RM4 C74 H4 HC
              obtain ⟨k1, hk1⟩ : ∃ k1 : Nat, k = k1 + 1 := ⟨k - 1, by omega⟩
              have hk1i : (k : Int) - 1 = (k1 : Int) := by omega
              have k1n : (k1 : Int).toNat = k1 := Int.toNat_natCast k1
              have HT : Hid (∀ p i, uniT (turnN (U i) p)) := Lib.hid (fun p i => turnN_in (U i) p)
              obtain ⟨adm, Am0, cm0, e2, km, hcm0, hCm0⟩ := RMa.out.at (p := 0) (by omega)
              subst e2
              have km0 : wa.cell? adm = some (.slice Am0 n cm0) := km
              have q0 : (0 : Int) < (k : Int) := by omega
              have CM0 := Lib.hid hCm0
              clear km hCm0
              go_wp2_with fail
              refine (rotate_m (q := n) wa HM2.out C16.out hc16 CM0.out hcm0 (by omega) HVI.out (HT.out 0)).mono ?_
              rintro e w5 ⟨A20, c20, rfl, hc20, hC20, hb⟩
              have C20 := Lib.hid hC20
              have RM5 := Lib.hid (RMa.out.below hb)
              have C75 := Lib.hid (Kd.C_below C7a.out hb)
              have C165 := Lib.hid (Kd.C_below C16.out hb)
              have C175 := Lib.hid (Kd.C_below C17.out hb)
              have H5 := Lib.hid (below_step HA.out hb)
              clear hC20 hb RMa C7a C16 C17 HA CM0 km0
              obtain ⟨_, Amk, cmk, e2, kmk, hcmk, hCmk⟩ := RM5.out.at (p := k1) (by omega)
              injection e2 with e2
              subst e2
              have q3 : (0 : Int) ≤ (k1 : Int) := by omega
              have q4 : (k1 : Int) < (k : Int) := by omega
              have CMK := Lib.hid hCmk
              clear hCmk
              go_wp2_with fail
              refine (rotate_m (q := n) w5 HM2.out C165.out hc16 CMK.out hcmk (by omega) HVI.out (HT.out k1)).mono ?_
              rintro e w6 ⟨A21, c21, rfl, hc21, hC21, hb⟩
              have C21 := Lib.hid hC21
              have RM6 := Lib.hid (RM5.out.below hb)
              have C76 := Lib.hid (Kd.C_below C75.out hb)
              have C166 := Lib.hid (Kd.C_below C165.out hb)
              have C176 := Lib.hid (Kd.C_below C175.out hb)
              have C206 := Lib.hid (Kd.C_below C20.out hb)
              have H6 := Lib.hid (below_step H5.out hb)
              clear hC21 hb RM5 C75 C165 C175 C20 H5 CMK kmk
              go_wp2_with fail
              refine (eqn_calls w6 (tab_length _ _) (tab_length _ _) (by rw [tab_length]; exact C206.out) hc20 (by rw [tab_length]; exact C176.out) hc17 (tab_congr (fun j hj => rot_still (n := M) (fun i _ => HVI.out i) (fun i => rfl) hj)) (by omega)).mono ?_
              rintro e w7 ⟨rfl, n7, rfl⟩
              obtain ⟨w7, hw7⟩ : ∃ x, x = w6.drewN n7 := ⟨_, rfl⟩
              rw [← hw7]
              have h67 : Below w6.heap.size w6 w7 := by rw [hw7]; exact pw_below_drewN (Below.refl _ _) n7
              have RM7 := Lib.hid (RM6.out.below h67)
              have C77 := Lib.hid (Kd.C_below C76.out h67)
              have C167 := Lib.hid (Kd.C_below C166.out h67)
              have C217 := Lib.hid (Kd.C_below C21.out h67)
              have H7 := Lib.hid (below_step H6.out h67)
              clear hw7 h67 RM6 C76 C166 C176 C206 C21 H6
              obtain ⟨_, Am1, cm1, e2, km1, hcm1, hCm1⟩ := RM7.out.at (p := 1) (by omega)
              injection e2 with e2
              subst e2
              have q5 : (1 : Int) < (k : Int) := by omega
              have CM1 := Lib.hid hCm1
              have km1' : w7.cell? ⟨adm.block, adm.off + 1, none⟩ = some (.slice Am1 n cm1) := by rw [← km1]; congr 1
              clear hCm1
              go_wp2_with fail
              refine (eqt_calls w7 CM1.out hcm1 C77.out hc7 (tabT_congr (fun i _ => turnN_one (HUI.out i))) (by omega)).mono ?_
              rintro e w8 ⟨rfl, n8, rfl⟩
              obtain ⟨w8, hw8⟩ : ∃ x, x = w7.drewN n8 := ⟨_, rfl⟩
              rw [← hw8]
              have h78 : Below w7.heap.size w7 w8 := by rw [hw8]; exact pw_below_drewN (Below.refl _ _) n8
              have RM8 := Lib.hid (RM7.out.below h78)
              have C168 := Lib.hid (Kd.C_below C167.out h78)
              have C218 := Lib.hid (Kd.C_below C217.out h78)
              have H8 := Lib.hid (below_step H7.out h78)
              clear hw8 h78 RM7 C77 C167 C217 H7 CM1 km1 km1'
              have hMM : ((M : Int) != (M : Int)) = false := bne_eq_false_iff_eq.2 rfl
              go_wp2
              clear hMM
              go_loopw [24] (fun y wr => G2Rel w8 n y wr) (fun y _ => n - (intOf y).toNat)
              case atStart => exact ⟨0, rfl, by omega, Below.refl _ _⟩
              case round =>
                obtain ⟨i, rfl, hi, hB⟩ := hrel
                have HD := Lib.hid hB
                clear hB
                rename World => wd
                by_cases hlti : i < n
                · have hlti' : decide ((i : Int) < (n : Int)) = true := decide_eq_true (by omega)
                  clear hi
                  obtain ⟨lo, hlo⟩ : ∃ lo, lo = 2 * i := ⟨_, rfl⟩
                  have hlM : lo + 2 ≤ M := by have := HM2.out; omega
                  have HLO := Lib.hid hlo
                  have e1 : IntKind.i64.wrap (2 * (i : Int)) = (lo : Int) := by rw [IntWalk.i64_in _ (by omega)]; omega
                  have e2 : IntKind.i64.wrap ((lo : Int) + 2) = (lo : Int) + 2 := IntWalk.i64_in _ (by omega)
                  have e3 : IntKind.i64.wrap ((i : Int) + 1) = (i : Int) + 1 := IntWalk.i64_in _ (by omega)
                  have e4 : IntKind.i64.wrap ((k1 : Int) + 1 - 1) = (k1 : Int) := by rw [IntWalk.i64_in _ (by omega)]; omega
                  have e5 : IntKind.i64.wrap (k1 : Int) = (k1 : Int) := IntWalk.i64_in _ (by omega)
                  obtain ⟨i0, hi0, _, hsz, _⟩ := info_parts ninfo31
                  have hcW := cut_mid (P := Try.prog) 22 31 .i64 .i64 Try.underlying22 hi0 1 hsz A16 M c16 (lo : Int) ((lo : Int) + 2) (by omega) (by omega) (by omega) hc16
                  rw [Int.toNat_natCast, show ((lo : Int) + 2).toNat - lo = 2 by omega] at hcW
                  have hCW := Kd.C_mid (k := Kd.int .i8) (xs := tab V M) (c := c16) (lo := lo) (hi := lo + 2) (by rw [tab_length]; exact Kd.C_below C168.out HD.out) (by omega) (by rw [tab_length]; omega) (by rw [tab_length]; exact hc16)
                  rw [mid_tab V hlM, tab_length] at hCW
                  obtain ⟨Aw, hAw⟩ : ∃ Aw, (if c16 = lo then A16 else A16.map (·.add (lo * 1))) = Aw := ⟨_, rfl⟩
                  rw [hAw] at hcW
                  have hCW2 : Kd.C (Kd.int .i8) wd Aw 2 (tab (fun j => V (lo + j)) 2) := by rw [← hAw]; exact hCW
                  obtain ⟨_, Amk, cmk, ee, km, hcmk, hCmk⟩ := (RM8.out.below HD.out).at (p := k1) (by omega)
                  injection ee with ee
                  subst ee
                  obtain ⟨j0, hj0, _, hszj, _⟩ := info_parts tinfo44
                  have hcT := cut_mid (P := Try.prog) 42 44 .i64 .i64 Try.underlying42 hj0 2 hszj Amk n cmk (i : Int) ((i : Int) + 1) (by omega) (by omega) (by omega) hcmk
                  rw [Int.toNat_natCast, show ((i : Int) + 1).toNat - i = 1 by omega] at hcT
                  have hCT := Kd.C_mid (k := k44) (xs := tabT (fun i => turnN (U i) k1) n) (c := cmk) (lo := i) (hi := i + 1) (by rw [tabT_length]; exact hCmk) (by omega) (by rw [tabT_length]; omega) (by rw [tabT_length]; exact hcmk)
                  rw [mid_tabT (fun i => turnN (U i) k1) hlti, tabT_length] at hCT
                  obtain ⟨At, hAt⟩ : ∃ At, (if cmk = i then Amk else Amk.map (·.add (i * 2))) = At := ⟨_, rfl⟩
                  rw [hAt] at hcT
                  have hCT2 : Kd.C k44 wd At 1 (tabT (fun j => turnN (U (i + j)) k1) 1) := by rw [← hAt]; exact hCT
                  have hrot := rotate_m (M := 2) (q := 1) (V := fun j => V (lo + j)) (T := fun j => turnN (U (i + j)) k1) wd.drew rfl hCW2 (c0 := c16 - lo) (by omega) hCT2 (c1 := cmk - i) (by omega) (by omega) (fun j => HVI.out _) (fun j => HT.out _ _)
                  have HROT := Lib.hid hrot
                  have q6 : (0 : Int) ≤ (k1 : Int) := by omega
                  have q7 : (k1 : Int) < (k : Int) := by omega
                  have q12 : (k1 : Int) < (k1 : Int) + 1 := by omega
                  clear hi0 hsz hj0 hszj hCW hCW2 hCT hCT2 hCmk hAw hAt hrot hlo
                  go_upto_region 35 with (fail)
                  go_region_held3 (fun w' => w'.cell? (adm.add k1) = some (.slice Amk n cmk))
                    (first | exact km | exact pw_cell_below hb9 km)
                    (first | (go_at_call 18; refine HROT.out.mono ?_; rintro e w9 ⟨Ac, cc, rfl, hcc, hCc, hb9⟩))
                  rename_i hheld
                  clear hheld km hcW hcT e2 e3 e4 e5
                  have h99 : Below wd.heap.size wd w9 := below_step (below_drew (Below.refl wd.heap.size wd)) hb9
                  have HD9 := Lib.hid (below_step HD.out h99)
                  have c0e : rotF (fun j => V (lo + j)) (fun j => turnN (U (i + j)) k1) 0 = rotF V (fun i => turnN (U i) k1) lo := by
                    rw [HLO.out]
                    have h1 := rot_even V (fun i => turnN (U i) k1) i
                    have h2 := rot_even (fun j => V (2 * i + j)) (fun j => turnN (U (i + j)) k1) 0
                    rw [h1]
                    exact h2
                  have c1e : rotF (fun j => V (lo + j)) (fun j => turnN (U (i + j)) k1) 1 = rotF V (fun i => turnN (U i) k1) (lo + 1) := by
                    rw [HLO.out]
                    have h1 := rot_odd V (fun i => turnN (U i) k1) i
                    have h2 := rot_odd (fun j => V (2 * i + j)) (fun j => turnN (U (i + j)) k1) 0
                    rw [h1]
                    exact h2
                  obtain ⟨adc, ec, cc0⟩ := Kd.at_int hCc 0 (by omega) (by omega)
                  obtain ⟨_, ec2, cc1⟩ := Kd.at_int hCc 1 (by omega) (by omega)
                  rw [ec] at ec2
                  injection ec2 with ec2
                  subst ec2
                  obtain ⟨adb, eb, cb0⟩ := Kd.at_int (Kd.C_below C218.out HD9.out) (lo : Int) (by omega) (by omega)
                  obtain ⟨l1, hl1⟩ : ∃ l1, l1 = lo + 1 := ⟨_, rfl⟩
                  obtain ⟨_, eb2, cb1⟩ := Kd.at_int (Kd.C_below C218.out HD9.out) (l1 : Int) (by omega) (by omega)
                  rw [eb] at eb2
                  injection eb2 with eb2
                  subst eb2
                  rw [rd_nth, Int.toNat_natCast, tab_nth (by omega)] at cb0 cb1
                  have r0 : rd (tab (rotF (fun j => V (lo + j)) fun j => turnN (U (i + j)) k1) 2) 0 = rotF V (fun i => turnN (U i) k1) lo := by rw [← c0e]; exact (rd_nth _ 0).trans (tab_nth (by omega))
                  have r1 : rd (tab (rotF (fun j => V (lo + j)) fun j => turnN (U (i + j)) k1) 2) 1 = rotF V (fun i => turnN (U i) k1) (lo + 1) := by rw [← c1e]; exact (rd_nth _ 1).trans (tab_nth (by omega))
                  rw [r0] at cc0
                  rw [r1] at cc1
                  obtain ⟨y0, hy0⟩ : ∃ x, rotF V (fun i => turnN (U i) k1) lo = x := ⟨_, rfl⟩
                  obtain ⟨y1, hy1⟩ : ∃ x, rotF V (fun i => turnN (U i) k1) (lo + 1) = x := ⟨_, rfl⟩
                  rw [hy0] at cc0 cb0
                  have hcb1 : w9.cell? (adb.add l1) = some (.int .i8 y1) := by rw [← hy1, ← hl1]; exact cb1
                  rw [hy1] at cc1
                  have cc0' : w9.cell? adc = some (.int .i8 y0) := cc0
                  have cc1' : w9.cell? ⟨adc.block, adc.off + 1, none⟩ = some (.int .i8 y1) := by rw [← cc1]; congr 1
                  have e6 : IntKind.i64.wrap ((lo : Int) + 1) = (l1 : Int) := by rw [IntWalk.i64_in _ (by omega)]; omega
                  have q8 : (0 : Int) ≤ (lo : Int) := by omega
                  have q9 : (lo : Int) < (M : Int) := by omega
                  have q10 : (0 : Int) ≤ (l1 : Int) := by omega
                  have q11 : (l1 : Int) < (M : Int) := by omega
                  have y00 : (y0 != y0) = false := bne_eq_false_iff_eq.2 rfl
                  have y11 : (y1 != y1) = false := bne_eq_false_iff_eq.2 rfl
                  subst ec eb
                  clear h99 hb9 hCc c0e c1e cc0 cc1 r0 r1 hy0 hy1 HROT hlM hl1 cb1
                  go_upto_region 36 with (fail)
                  go_quiet (fail)
                  clear e1 e6 cc0' cc1' cb0 hcb1 y00 y11
                  go_wp2
                  go_roundw
                  case rel => exact ⟨i + 1, rfl, by omega, pw_below_drewN HD9.out _⟩
                  case measure => simp [intOf]; omega
                · have hlti' : decide ((i : Int) < (n : Int)) = false := decide_eq_false (by omega)
                  obtain rfl : n = i := by omega
                  clear hlti hi
                  have HZ : Hid (Below w.heap.size w wd) := Lib.hid (below_step H8.out HD.out)
                  go_wp2
                  go_ret
                  exact ⟨rfl, HZ.out⟩
end Go.Proofs.Ytnioohhiphpplaa.Wk
