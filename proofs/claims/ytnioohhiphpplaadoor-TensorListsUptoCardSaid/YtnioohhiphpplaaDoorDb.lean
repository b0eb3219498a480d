/- The walk of tensor.Blend, of every weights and vectors of at most 2^44 numbers each. -/
import Derived.Test.YtnioohhiphpplaaDoorDk
set_option linter.unusedVariables false
set_option linter.unusedSimpArgs false
namespace Go.Proofs.YtnioohhiphpplaaDoor.Dp
open Go.RowKit Go.Proofs.YtnioohhiphpplaaDoor.Pplays Go.Proofs.YtnioohhiphpplaaDoorW.PrintWords Go.Proofs.YtnioohhiphpplaaDoorW.PrintLast Go.Proofs.YtnioohhiphpplaaDoorW.PrintMore Go.Proofs.YtnioohhiphpplaaDoor.M
def vrow (vs : List (List Int)) (i : Nat) : List Int := vs.getD i []
def okB (x : List Int) (vs : List (List Int)) (i : Nat) : Prop := 0 ≤ nth x i ∧ (vrow vs i).length = (vrow vs 0).length
def sW (x : List Int) : Nat → Int
 | 0 => 0
 | n + 1 => wrap64 (sW x n + nth x n)
def BlBad (x : List Int) (vs : List (List Int)) : Prop := x.length = 0 ∨ x.length ≠ vs.length ∨ ¬ (∀ i, i < x.length → okB x vs i) ∨ sW x x.length < 1
def blW (x : List Int) (vs : List (List Int)) (S : Int) (j : Nat) : Int := clampF (divF (dotW (nth x) (fun i => nth (vrow vs i) j) x.length) S) 127
end Go.Proofs.YtnioohhiphpplaaDoor.Dp
namespace Go.Proofs.YtnioohhiphpplaaDoor.Wk
open Go.RowKit Go.Proofs.YtnioohhiphpplaaDoor.Pplays Go.Proofs.YtnioohhiphpplaaDoorW.PrintWords Go.Proofs.YtnioohhiphpplaaDoorW.PrintLast Go.Proofs.YtnioohhiphpplaaDoorW.PrintMore Go.Proofs.YtnioohhiphpplaaDoor.M Go.Proofs.YtnioohhiphpplaaDoor.Dp
attribute [local go_sem] max2_int min2_int max_two min_two
theorem R_other {k : IntKind} {e : TypeId} {W : World} {base g g2 n cap i : Nat} {xs : List Int} (h : Kd.R (Kd.int k) e W base (fun _ => True) (.slice (some ⟨g, 0, none⟩) n cap) xs) (hne : g ≠ g2) (u : Value) :
  Kd.R (Kd.int k) e (W.setCell ⟨g2, i, none⟩ u) base (fun _ => True) (.slice (some ⟨g, 0, none⟩) n cap) xs := by
 have h1 := Kd.R_reok rfl h (ok := fun k => k ≠ g2) (fun k hk e => by
  have : some g = some k := hk
  injection this with this
  omega)
 exact Kd.R_mono (Kd.R_far h1 (p := ⟨g2, i, none⟩) (fun k hk => hk) _) (fun _ _ => trivial)
def B1Rel (w : World) (x : List Int) (vs : List (List Int)) (n : Nat) (b y : Value) (wr : World) : Prop := ∃ i : Nat, y = .int .i64 i ∧ b = .int .i64 (sW x i) ∧ i ≤ n ∧ (∀ k, k < i → okB x vs k) ∧ Below w.heap.size w wr
def B2Rel (w : World) (F : Nat → Int) (n L : Nat) (v c y : Value) (wr : World) : Prop :=
 ∃ (j : Nat) (f : Nat → Int), y = .int .i64 j ∧ j ≤ L ∧ Kd.R (Kd.int .i8) 57 wr w.heap.size (fun _ => True) v (tb (overF F (fun _ => 0) j) L) ∧ Kd.R (Kd.int .i8) 57 wr w.heap.size (fun _ => True) c (tb f n) ∧ Below w.heap.size w wr
def B3Rel (w : World) (V : Nat → Int) (f g : Nat → Int) (n L : Nat) (v c y : Value) (wr : World) : Prop :=
 ∃ i : Nat, y = .int .i64 i ∧ i ≤ n ∧ Kd.R (Kd.int .i8) 57 wr w.heap.size (fun _ => True) v (tb g L) ∧ Kd.R (Kd.int .i8) 57 wr w.heap.size (fun _ => True) c (tb (overF V f i) n) ∧ Below w.heap.size w wr
set_option maxHeartbeats 4000000 in
set_option maxRecDepth 100000 in
theorem blend_calls {A0 A1 : Option Addr} {n m c0 c1 : Nat} {x : List Int} {vs : List (List Int)} (w : World) (hn : x.length = n) (hm : vs.length = m) (hr0 : Kd.C (Kd.int .i64) w A0 x.length x) (hc0 : n ≤ c0) (hr1 : Kd.C (Kd.slice 57 (Kd.int .i8)) w A1 vs.length vs) (hc1 : m ≤ c1)
  (hnl : n ≤ 17592186044416) (hL : (vrow vs 0).length ≤ 140737488351232) (hsm : ∀ v ∈ vs, Small v) :
  Calls Tryd.prog 32 #[.slice A0 n c0, .slice A1 m c1] w fun e w' => ∃ v0 err, e = .returned (.tuple #[v0, .int .i64 err]) ∧
   ((BlBad x vs ∧ v0 = .slice none 0 0 ∧ err = 30) ∨ (¬ BlBad x vs ∧ err = 0 ∧ Kd.R (Kd.int .i8) 57 w' w.heap.size (fun _ => True) v0 (tb (blW x vs (sW x x.length)) (vrow vs 0).length))) ∧ Below w.heap.size w w' := by
 have HN := Lib.hid hn
 have HM := Lib.hid hm
 by_cases hz : n = 0
 ·have hz' : ((n : Int) == 0) = true := beq_iff_eq.2 (by omega)
  have hbad : BlBad x vs := .inl (by omega)
  clear hn hm hr0 hr1
  go_enter Tryd.func32, Tryd.ntmps32
  go_wp2
  go_ret2
  exact ⟨_, _, rfl, .inl ⟨hbad, rfl, rfl⟩, Below.refl _ _⟩
 have hz' : ((n : Int) == 0) = false := beq_eq_false_iff_ne.2 (by omega)
 by_cases hnm : n = m
 case neg =>
  have hm' : ((n : Int) != (m : Int)) = true := bne_iff_ne.2 (by omega)
  have hbad : BlBad x vs := .inr (.inl (by omega))
  clear hn hm hr0 hr1
  go_enter Tryd.func32, Tryd.ntmps32
  go_wp2
  go_ret2
  exact ⟨_, _, rfl, .inl ⟨hbad, rfl, rfl⟩, Below.refl _ _⟩
 subst hnm
 have hm' : ((n : Int) != (n : Int)) = false := bne_eq_false_iff_eq.2 rfl
 obtain ⟨L, hL0⟩ : ∃ L, (vrow vs 0).length = L := ⟨_, rfl⟩
 have HL0' := Lib.hid hL0
 have HL0 : Hid ((rd_L3 vs 0).length = L) := Lib.hid hL0
 have HN1 : Hid (vs.length = n) := HM
 have HR0 := Lib.hid hr0
 have HR1 := Lib.hid hr1
 have HLL : Hid (L ≤ 140737488351232) := Lib.hid (hL0 ▸ hL)
 have HSM : Hid (∀ j, Small (tb (fun i => nth (vrow vs i) j) n)) := Lib.hid (fun j y hy => by
  obtain ⟨i, hi, rfl⟩ := List.mem_map.1 hy
  have hil : i < vs.length := by rw [hm]; exact List.mem_range.1 hi
  have h := hsm (vrow vs i) (by unfold vrow; rw [List.getD_eq_getElem?_getD, List.getElem?_eq_getElem hil]; exact List.getElem_mem hil)
  exact h.nth j)
 clear hr0 hr1 hn hm hL hL0 hsm
 go_enter Tryd.func32, Tryd.ntmps32
 go_wp2
 clear hz' hm'
 go_loopw [6, 26] (fun b y wr => B1Rel w x vs n b y wr) (fun _ y _ => n - (intOf y).toNat)
 case atStart => exact ⟨0, rfl, rfl, by omega, fun k hk => by omega, Below.refl _ _⟩
 case round =>
  obtain ⟨i, rfl, rfl, hi, hG, hB⟩ := hrel
  have HB := Lib.hid hB
  have HG := Lib.hid hG
  clear hB hG
  rename World => wa
  by_cases hlt : i < n
  ·have hlt' : decide ((i : Int) < (n : Int)) = true := decide_eq_true (by omega)
   obtain ⟨adW, eW, cW1⟩ := Kd.at_int (Kd.C_below HR0.out HB.out) (i : Int) (by omega) (by rw [HN.out]; omega)
   rw [rd_nth, Int.toNat_natCast] at cW1
   obtain ⟨ad, Ai, ci, e1, k1, _, _⟩ := at_L3 (Kd.C_below HR1.out HB.out) (i : Int) (by omega) (by rw [HN1.out]; omega)
   obtain ⟨ad', A0', c0', e2, k2, _, _⟩ := at_L3 (Kd.C_below HR1.out HB.out) 0 (by omega) (by rw [HN1.out]; omega)
   subst eW e1
   injection e2 with e2
   subst e2
   rw [Int.toNat_natCast] at k1
   rw [HL0.out] at k2
   obtain ⟨wi, hwi2⟩ : ∃ y, nth x i = y := ⟨_, rfl⟩
   obtain ⟨su, hsu⟩ : ∃ y, sW x i = y := ⟨_, rfl⟩
   obtain ⟨Li, hLi⟩ : ∃ y, (rd_L3 vs (i : Int)).length = y := ⟨_, rfl⟩
   have hs2 : Hid (sW x (i + 1) = wrap64 (su + wi)) := Lib.hid (by rw [← hsu, ← hwi2]; rfl)
   rw [hwi2] at cW1
   rw [hLi] at k1
   rw [hsu]
   have HLi := Lib.hid hLi
   have HWI := Lib.hid hwi2
   have k0 : wa.cell? ad = some (.slice A0' L c0') := k2
   have q1 : (0 : Int) ≤ (i : Int) := by omega
   have q2 : (i : Int) < (n : Int) := by omega
   have q3 : (0 : Int) < (n : Int) := by omega
   have HI2 := Lib.hid hlt
   clear hsu hwi2 hi k2 hLi
   by_cases hneg0 : wi < 0
   ·have hneg : decide (wi < 0) = true := decide_eq_true hneg0
    have hbad : BlBad x vs := .inr (.inr (.inl (fun h => by
     have h1 := (h i (by rw [HN.out]; exact HI2.out)).1
     rw [HWI.out] at h1
     omega)))
    clear hneg0
    go_upto_region 7 with (fail)
    go_quiet (fail)
    clear k0 k1 cW1 hneg
    go_wp2
    go_ret2
    exact ⟨_, _, rfl, .inl ⟨hbad, rfl, rfl⟩, pw_below_drewN HB.out _⟩
   have hneg : decide (wi < 0) = false := decide_eq_false hneg0
   by_cases hlen : Li = L
   case neg =>
    have hLL : ((Li : Int) != (L : Int)) = true := bne_iff_ne.2 (by omega)
    have hbad : BlBad x vs := .inr (.inr (.inl (fun h => by
     have h1 := (h i (by rw [HN.out]; exact HI2.out)).2
     rw [show vrow vs i = rd_L3 vs (i : Int) from rfl, HLi.out, HL0'.out] at h1
     exact hlen h1)))
    clear hlen hneg0
    go_upto_region 7 with (fail)
    go_quiet (fail)
    clear k0 k1 cW1 hneg hLL
    go_wp2
    go_ret2
    exact ⟨_, _, rfl, .inl ⟨hbad, rfl, rfl⟩, pw_below_drewN HB.out _⟩
   subst hlen
   have hLL : ((Li : Int) != (Li : Int)) = false := bne_eq_false_iff_eq.2 rfl
   have HOK : Hid (okB x vs i) := Lib.hid ⟨by rw [HWI.out]; omega, by rw [show vrow vs i = rd_L3 vs (i : Int) from rfl, HLi.out, HL0'.out]⟩
   clear hneg0
   go_upto_region 7 with (fail)
   go_quiet (fail)
   clear k0 k1 cW1 hneg hLL
   go_wp2
   go_roundw
   case rel => exact ⟨i + 1, rfl, by rw [hs2.out], by omega, fun k hk => by
    rcases Nat.lt_or_ge k i with h | h
    ·exact HG.out k h
    ·have : k = i := by omega
     subst this
     exact HOK.out, pw_below_drewN HB.out _⟩
   case measure => simp [intOf]; omega
  ·have hlt' : decide ((i : Int) < (n : Int)) = false := decide_eq_false (by omega)
   obtain rfl : n = i := by omega
   have hLb : L ≤ 140737488351232 := HLL.out
   clear hlt hi
   obtain ⟨S, hS⟩ : ∃ S, sW x n = S := ⟨_, rfl⟩
   rw [hS]
   have HS0 := Lib.hid hS
   by_cases hs : S < 1
   ·have hl : decide (S < 1) = true := decide_eq_true hs
    have hbad : BlBad x vs := .inr (.inr (.inr (by rw [HN.out, HS0.out]; exact hs)))
    go_wp2
    go_ret2
    exact ⟨_, _, rfl, .inl ⟨hbad, rfl, rfl⟩, HB.out⟩
   have hl : decide (S < 1) = false := decide_eq_false (by omega)
   obtain ⟨ad, A0', c0', e2, k2, hc0', _⟩ := at_L3 (Kd.C_below HR1.out HB.out) 0 (by omega) (by rw [HN1.out]; omega)
   subst e2
   have k0 : wa.cell? ad = some (.slice A0' L c0') := by rw [show (0 : Int).toNat = 0 from rfl] at k2; rw [HL0.out] at k2; exact k2
   have q3 : (0 : Int) < (n : Int) := by omega
   have HS := Lib.hid hS
   clear k2 hS
   go_upto_region 14 with ((with_reducible refine gate_dst (N := 55) rfl ?_); refine Kd.R_make (Kd.int .i8) (w0 := wa) wa.heap.size 57 rfl (N := 55) rfl 33 _ _ rfl (L : Int) rfl rfl Tryd.underlying33 (.int .i8 0) 1 info57 rfl (by decide) (by omega) 0 (ok := fun _ => True) (okp := fun _ => True) rfl (fun _ hk => hk) trivial (by omega) (by omega) (Below.refl _ _) (Nat.le_refl _) ?_; intro v0 w6 hR hb2 hg2 hfresh)
   have hRl : Kd.R (Kd.int .i8) 57 w6 wa.heap.size (fun _ => True) v0 (tb (fun _ => 0) L) := by unfold tb; rw [List.map_const', List.length_range]; exact hR
   obtain ⟨Al, cl, ev, _, _⟩ := Kd.R_reads hRl
   rw [tb_length] at ev
   subst ev
   have HRL := Lib.hid hRl
   have HB6 := Lib.hid hb2
   clear hR hb2 hg2 hfresh hRl k0 hl
   go_upto_region 15 with ((with_reducible refine gate_dst (N := 58) rfl ?_); refine Kd.R_make (Kd.int .i8) (w0 := wa) wa.heap.size 57 rfl (N := 58) rfl 33 _ _ rfl (n : Int) rfl rfl Tryd.underlying33 (.int .i8 0) 1 info57 rfl (by decide) (by omega) 0 (ok := fun _ => True) (okp := fun _ => True) rfl (fun _ hk => hk) trivial (by omega) (by omega) HB6.out (below_size HB6.out) ?_; intro v1 w7 hR hb2 hg2 hfresh)
   have hRc : Kd.R (Kd.int .i8) 57 w7 wa.heap.size (fun _ => True) v1 (tb (fun _ => 0) n) := by unfold tb; rw [List.map_const', List.length_range]; exact hR
   obtain ⟨gc, cc, ev, gcle, _, _, _⟩ := Kd.R_form hRc (by rw [tb_length]; omega)
   rw [tb_length] at ev
   subst ev
   have GC := Lib.hid gcle
   have HRC := Lib.hid hRc
   have HB7 := Lib.hid hb2
   have HRL7 := Lib.hid (Kd.R_grown2 HRL.out rfl hg2 (fun k hk => by cases hk))
   have hne : ∀ gl, Al = some ⟨gl, 0, none⟩ → gl ≠ gc := fun gl e h => by
    subst e
    have h1 := Kd.R_lt HRL.out gl rfl
    obtain ⟨b, hb, hle⟩ := hfresh
    have hb : some gc = some b := hb
    injection hb with hb
    omega
   have HNE := Lib.hid hne
   clear hR hb2 hg2 hfresh hRc HRL HB6 hne gcle
   go_wp2
   have hRL0 : Hid (Kd.R (Kd.int .i8) 57 w7 wa.heap.size (fun _ => True) (.slice Al L cl) (tb (overF (blW x vs S) (fun _ => 0) 0) L)) := Lib.hid (by rw [over_zero]; exact HRL7.out)
   go_loopw [61] (fun y wr => B2Rel wa (blW x vs S) n L (.slice Al L cl) (.slice (some ⟨gc, 0, none⟩) n cc) y wr) (fun y _ => L - (intOf y).toNat)
   case atStart => exact ⟨0, fun _ => 0, rfl, by omega, hRL0.out, HRC.out, HB7.out⟩
   case round =>
    clear hRL0 HRC HRL7 HB7
    obtain ⟨j, f, rfl, hj, hRl, hRc, hBj⟩ := hrel
    have RL := Lib.hid hRl
    have RC := Lib.hid hRc
    have HJ := Lib.hid hBj
    clear hRl hRc hBj
    rename World => wb
    by_cases hltj : j < L
    ·have hltj' : decide ((j : Int) < (L : Int)) = true := decide_eq_true (by omega)
     obtain ⟨gl, cap, ev, glle, _, _, _⟩ := Kd.R_form RL.out (by rw [tb_length]; omega)
     rw [tb_length] at ev
     injection ev with ev _ ev2
     subst ev ev2
     have GL := Lib.hid glle
     have hgc : gl ≠ gc := HNE.out gl rfl
     have RL0 : Hid (Kd.R (Kd.int .i8) 57 wb wa.heap.size (fun _ => True) (.slice (some ⟨gl, 0, none⟩) L cl) (tb (overF (blW x vs S) (fun _ => 0) j) L)) := RL
     have RC0 : Hid (Kd.R (Kd.int .i8) 57 wb wa.heap.size (fun _ => True) (.slice (some ⟨gc, 0, none⟩) n cc) (tb (overF (fun i => nth (vrow vs i) j) f 0) n)) := Lib.hid (by rw [over_zero]; exact RC.out)
     clear glle hj
     go_wp2
     go_loopw [66] (fun y wr => B3Rel wa (fun i => nth (vrow vs i) j) f (overF (blW x vs S) (fun _ => 0) j) n L (.slice (some ⟨gl, 0, none⟩) L cl) (.slice (some ⟨gc, 0, none⟩) n cc) y wr) (fun y _ => n - (intOf y).toNat)
     case atStart => exact ⟨0, rfl, by omega, RL0.out, RC0.out, HJ.out⟩
     case round =>
      clear RL0 RC0 RL RC HJ
      obtain ⟨i, rfl, hi, hRl, hRc, hBj⟩ := hrel
      have RL := Lib.hid hRl
      have RC := Lib.hid hRc
      have HJ := Lib.hid hBj
      clear hRl hRc hBj
      rename World => wc
      by_cases hlti : i < n
      ·have hlti' : decide ((i : Int) < (n : Int)) = true := decide_eq_true (by omega)
       obtain ⟨ad2, Ai, ci, e1, k1, hci, k2⟩ := at_L3 (Kd.C_below (Kd.C_below HR1.out HB.out) HJ.out) (i : Int) (by omega) (by rw [HN1.out]; omega)
       injection e1 with e1
       subst e1
       rw [Int.toNat_natCast] at k1
       have hLi : (rd_L3 vs (i : Int)).length = L := by rw [show rd_L3 vs (i : Int) = vrow vs i from rfl, (HG.out i (by omega)).2, HL0'.out]
       rw [hLi] at k1 k2 hci
       clear hLi
       obtain ⟨adv, ea, k3⟩ := Kd.at_int k2 (j : Int) (by omega) (by omega)
       rw [rd_nth, Int.toNat_natCast, show nth (rd_L3 vs (i : Int)) j = nth (vrow vs i) j from rfl] at k3
       subst ea
       obtain ⟨cc1, fc1⟩ := Kd.R_celln 0 RC.out (i : Int) (by omega) (by omega)
       rw [Int.toNat_natCast] at cc1 fc1
       have hp := Kd.R_putn RC.out (i : Int) (nth (vrow vs i) j)
       rw [Int.toNat_natCast, over_set (fun i => nth (vrow vs i) j) f hlti] at hp
       have RC2 := Lib.hid hp
       have RL2 := Lib.hid (R_other (i := i) RL.out hgc (.int .i8 (nth (vrow vs i) j)))
       have HJ2 : Hid (Below wa.heap.size wa (wc.setCell ⟨gc, i, none⟩ (.int .i8 (nth (vrow vs i) j)))) := Lib.hid (below_set HJ.out GC.out)
       clear hp k2 hi
       go_wp2
       go_roundw
       case rel => exact ⟨i + 1, rfl, by omega, RL2.out, RC2.out, HJ2.out⟩
       case measure => simp [intOf]; omega
      ·have hlti' : decide ((i : Int) < (n : Int)) = false := decide_eq_false (by omega)
       obtain rfl : n = i := by omega
       clear hlti hi
       have hRc2 : Kd.R (Kd.int .i8) 57 wc wa.heap.size (fun _ => True) (.slice (some ⟨gc, 0, none⟩) n cc) (tb (fun i => nth (vrow vs i) j) n) := by have := RC.out; rwa [over_all] at this
       have RC2 := Lib.hid hRc2
       obtain ⟨-, hccn, hCc⟩ := Kd.R_reads' hRc2
       rw [tb_length] at hCc
       have hccn' : n ≤ cc := by exact hccn
       have HCC := Lib.hid hCc
       clear hRc2 hCc RC
       go_wp2_with fail
       have hp := Pplays.tensor_products_int64_int8.calls (n + 1) A0 c0 x (some ⟨gc, 0, none⟩) cc (tb (fun i => nth (vrow vs i) j) n) (dotW (nth x) (fun i => nth (vrow vs i) j) n) wc (Kd.C_below (Kd.C_below HR0.out HB.out) HJ.out) (by rw [HN.out]; exact hc0) (by rw [tb_length]; exact HCC.out) (by rw [tb_length]; exact hccn') (by
        have h := prod648_is (a := x) (b := tb (fun i => nth (vrow vs i) j) n) (HSM.out j) (by rw [tb_length, HN.out]; omega) (by rw [HN.out]; omega) (k := n + 1) (by rw [HN.out]; omega)
        rw [h, HN.out]
        congr 1
        exact dotW_congr (fun i hi => ⟨rfl, tb_nth hi⟩))
       rw [HN.out, tb_length] at hp
       refine hp.mono ?_
       clear hp
       rintro e w8 ⟨rfl, hd⟩
       obtain ⟨n8, rfl⟩ := hd.out
       go_wp2_with fail
       refine (div_still (a := dotW (nth x) (fun i => nth (vrow vs i) j) n) (b := S) (dotW_rng _ _ _) _).mono ?_
       rintro e w9 ⟨rfl, rfl⟩
       go_wp2_with fail
       refine (clamp8_still _).mono ?_
       rintro e w10 ⟨rfl, rfl⟩
       have hval : clampF (divF (dotW (nth x) (fun i => nth (vrow vs i) j) n) S) 127 = blW x vs S j := by unfold blW; rw [HN.out]
       rw [hval]
       clear hval hd
       obtain ⟨wd, hwd⟩ : ∃ wd, wd = wc.drewN n8 := ⟨_, rfl⟩
       rw [← hwd]
       have RL3 : Hid (Kd.R (Kd.int .i8) 57 wd wa.heap.size (fun _ => True) (.slice (some ⟨gl, 0, none⟩) L cl) (tb (overF (blW x vs S) (fun _ => 0) j) L)) := Lib.hid (by rw [hwd]; exact Kd.R_drewN RL.out _)
       have RC3 : Hid (Kd.R (Kd.int .i8) 57 wd wa.heap.size (fun _ => True) (.slice (some ⟨gc, 0, none⟩) n cc) (tb (fun i => nth (vrow vs i) j) n)) := Lib.hid (by rw [hwd]; exact Kd.R_drewN RC2.out _)
       have HJ3 : Hid (Below wa.heap.size wa wd) := Lib.hid (by rw [hwd]; exact pw_below_drewN HJ.out _)
       clear hwd RL RC2 HJ HCC
       obtain ⟨cl1, fl1⟩ := Kd.R_celln 0 RL3.out (j : Int) (by omega) (by omega)
       rw [Int.toNat_natCast] at cl1 fl1
       have hp := Kd.R_putn RL3.out (j : Int) (blW x vs S j)
       rw [Int.toNat_natCast, over_set (blW x vs S) (fun _ => 0) hltj] at hp
       have RL4 := Lib.hid hp
       have RC4 := Lib.hid (R_other (i := j) RC3.out (fun e => hgc e.symm) (.int .i8 (blW x vs S j)))
       have HJ4 : Hid (Below wa.heap.size wa (wd.setCell ⟨gl, j, none⟩ (.int .i8 (blW x vs S j)))) := Lib.hid (below_set HJ3.out GL.out)
       clear hp
       go_wp2
       go_roundw
       case rel => exact ⟨j + 1, _, rfl, by omega, RL4.out, RC4.out, HJ4.out⟩
       case measure => simp [intOf]; omega
    ·have hltj' : decide ((j : Int) < (L : Int)) = false := decide_eq_false (by omega)
     obtain rfl : L = j := by omega
     clear hltj hj
     have HE : Hid (Kd.R (Kd.int .i8) 57 wb w.heap.size (fun _ => True) (.slice Al L cl) (tb (blW x vs S) L)) := Lib.hid (by have := Kd.R_lower RL.out (below_size HB.out); rwa [over_all] at this)
     have hgood : ¬ BlBad x vs := fun hb => by
      rcases hb with h | h | h | h
      ·have := HN.out; omega
      ·have := HN.out; have := HN1.out; omega
      ·exact h (by rw [HN.out]; exact HG.out)
      ·rw [HN.out, HS.out] at h; omega
     have HZ : Hid (Below w.heap.size w wb) := Lib.hid (below_step HB.out HJ.out)
     go_wp2
     go_ret2
     exact ⟨_, _, rfl, .inr ⟨hgood, rfl, by rw [HN.out, HS.out, HL0'.out]; exact HE.out⟩, HZ.out⟩
end Go.Proofs.YtnioohhiphpplaaDoor.Wk
