/- The walk of augurlaw03.TensorLinear. -/
import Derived.Test.YtnioohhiphpplaaPl
import Derived.Test.YtnioohhiphpplaaPshapedx1
import Derived.Test.YtnioohhiphpplaaPorderx1
import Derived.Test.YtnioohhiphpplaaPEqWidex1
import Derived.Deep.RegionLaw
set_option linter.unusedVariables false
set_option linter.unusedSimpArgs false
namespace Go.Proofs.Ytnioohhiphpplaa.Wk
open Go.RowKit Go.Proofs.YtnioohhiphpplaaW.PrintWords Go.Proofs.YtnioohhiphpplaaW.PrintLast Go.Proofs.YtnioohhiphpplaaW.PrintMore Go.Proofs.Ytnioohhiphpplaa.M Go.Proofs.Ytnioohhiphpplaa.Br

/-- Two own rows in different blocks. -/
def Apart (u v : Value) : Prop := ∀ k, u.ownBlock = some k → some k ≠ v.ownBlock
theorem Apart.symm {u v : Value} (h : Apart u v) : Apart v u := fun k hk e => h k e.symm hk.symm
theorem Apart.nil (v : Value) : Apart (.slice none 0 0) v := fun k hk => by simp [Value.ownBlock] at hk
theorem Apart.after {u v v1 : Value} {W : World} (h : Apart v u) (hlt : ∀ k, u.ownBlock = some k → k < W.heap.size) (hat : v1.ownBlock = v.ownBlock ∨ ∃ b, v1.ownBlock = some b ∧ W.heap.size ≤ b) : Apart v1 u := by
  intro k hk e
  rcases hat with hat | ⟨b, hb, hle⟩
  · exact h k (hat ▸ hk) e
  · rw [hb] at hk
    injection hk with hk
    subst hk
    have := hlt b e.symm
    omega

/-- Behind i places: the three lists. -/
def L1Rel (w : World) (n : Nat) (V W : List Int) (x8 x9 x10 x : Value) (wr : World) : Prop :=
  ∃ i : Nat, x = .int .i64 i ∧ i ≤ n ∧ Kd.R (Kd.int .i8) 31 wr w.heap.size (fun _ => True) x8 (tab (bothF V W) i) ∧ Kd.R (Kd.int .i8) 31 wr w.heap.size (fun _ => True) x9 (tab (halfF V) i) ∧
    Kd.R (Kd.int .i8) 31 wr w.heap.size (fun _ => True) x10 (tab (halfF W) i) ∧ Apart x8 x9 ∧ Apart x8 x10 ∧ Apart x9 x10 ∧ Below w.heap.size w wr

section
/-- An own list of 8 bits that is appended to, as one step of a region that draws its order. -/
theorem app8_step {ops : Array Oper} {o : Oper} {a : Act} {Q : Exit → Act → World → Prop} {K : Act → World → Prop} {E : Prop} {w0 W ww : World} {N : Nat} (hg : o.guard = none) (s x : Operand)
    (ho : o.op = .call { callee := .builtin .append, args := #[s, x], argTypes := #[22, 22] }) (v : Value) (xs : List Int) (p : Int) (hs : a.eval s = v) (hx : a.eval x = .slice (some ⟨N, 0, none⟩) 1 1) (hN : N = W.heap.size)
    (hww : ww = W.alloc (.cells #[.int .i8 p] 31 (0, 0))) (HO : Kd.R (Kd.int .i8) 31 W w0.heap.size (fun _ => True) v xs) (HB : Below w0.heap.size w0 W) (hl : xs.length ≤ 140737488355000)
    (h : ∀ v1 w1, Kd.R (Kd.int .i8) 31 w1 w0.heap.size (fun _ => True) v1 (xs ++ [p]) → Below w0.heap.size w0 w1 → W.grownBy w1 v.ownBlock → (v1.ownBlock = v.ownBlock ∨ ∃ b, v1.ownBlock = some b ∧ W.heap.size ≤ b) → K (a.put o.dst v1) w1) :
    if Region.wanted o (yielded ops a.tmps) = true then Oper.wp Try.prog o a ww K Q else E := by
  subst hww hN
  have hw : Region.wanted o (yielded ops a.tmps) = true := by simp [Region.wanted, hg]
  have H := Kd.R_append_step (P := Try.prog) (Q := Q) (Kc := K) (Kd.int .i8) (w0 := w0) w0.heap.size hw s x 22 31 (.int .i8 0) 1 ho Try.underlying22 info31 rfl (by decide) (by omega) v xs p [.int .i8 p] (fun _ => True) (fun _ => False) hs hx rfl (fun _ hk => hk.elim) (fun _ _ => trivial) HO HB (below_size HB) (by omega) h
  rw [if_pos hw] at H ⊢
  exact H
end

/-- Dot of two lists of 8 bits. -/
theorem dot_calls {A0 A1 : Option Addr} {n m c0 c1 : Nat} {a b : List Int} (w : World) (h0 : a.length = n) (h1 : b.length = m) (hr0 : Kd.C (Kd.int .i8) w A0 a.length a) (hc0 : n ≤ c0) (hr1 : Kd.C (Kd.int .i8) w A1 b.length b) (hc1 : m ≤ c1)
    (ha : Small a) (hb : Small b) (hl : n = m) (hn : (n : Int) ≤ 140737488351232) :
    Calls Try.prog 11 #[.slice A0 n c0, .slice A1 m c1] w fun e w' => e = .returned (.tuple #[.int .i64 (dotL a b), .int .i64 0]) ∧ ∃ d, w' = w.drewN d := by
  subst h0 h1
  refine (PDot.tensor_Dot.calls (a.length + 1) A0 c0 a A1 c1 b (dotL a b) 0 w hr0 hc0 hr1 hc1 ?_).mono ?_
  · unfold PDot.tensor_Dot.f
    rw [if_pos (by omega), prod_is ha hb (by omega) hn]; rfl
  · rintro e w' ⟨rfl, h⟩
    exact ⟨rfl, h.out⟩

/-- Two lists of whole numbers that are one list. -/
theorem eq_calls {A0 A1 : Option Addr} {n m c0 c1 : Nat} {a b : List Int} (w : World) (h0 : a.length = n) (h1 : b.length = m) (hr0 : Kd.C (Kd.int .i64) w A0 a.length a) (hc0 : n ≤ c0) (hr1 : Kd.C (Kd.int .i64) w A1 b.length b) (hc1 : m ≤ c1)
    (hab : a = b) (hl : n ≤ 140737488351232) : Calls Try.prog 12 #[.slice A0 n c0, .slice A1 m c1] w fun e w' => e = .returned (.bool true) ∧ ∃ d, w' = w.drewN d := by
  subst hab h0 h1
  refine (PEqWide.augurref00_EqWide.calls (a.length + 1) A0 c0 a A1 c1 a true w hr0 hc0 hr1 hc1 (eqwide_is a hl)).mono ?_
  rintro e w' ⟨rfl, h⟩
  exact ⟨rfl, h.out⟩
/-- Behind i places: the vector in another order. -/
def L4Rel (w : World) (C : Nat) (f : Nat → Int) (v x : Value) (wr : World) : Prop :=
  ∃ i : Nat, x = .int .i64 i ∧ i ≤ C ∧ Kd.R (Kd.int .i8) 31 wr w.heap.size (fun _ => True) v (tab f i) ∧ Below w.heap.size w wr

/-- Behind r rows: the other matrix so far. -/
def L2Rel (w : World) (R C : Nat) (f : Nat → Int) (x : Value) (wr : World) : Prop :=
  ∃ (r : Nat) (vN : Value), x = .int .i64 r ∧ r ≤ R ∧ wr.heap[w.heap.size]? = some (.cells #[.int .i64 (R : Int), .int .i64 (C : Int), vN] 28 (0, 0)) ∧ Kd.R (Kd.int .i8) 31 wr w.heap.size (fun _ => True) vN (tab f (r * C)) ∧ Below w.heap.size w wr
/-- Behind r rows and c columns. -/
def L3Rel (w : World) (R C r : Nat) (f : Nat → Int) (x : Value) (wr : World) : Prop :=
  ∃ (c : Nat) (vN : Value), x = .int .i64 c ∧ c ≤ C ∧ wr.heap[w.heap.size]? = some (.cells #[.int .i64 (R : Int), .int .i64 (C : Int), vN] 28 (0, 0)) ∧ Kd.R (Kd.int .i8) 31 wr w.heap.size (fun _ => True) vN (tab f (r * C + c)) ∧ Below w.heap.size w wr

set_option maxHeartbeats 2000000 in
set_option maxRecDepth 100000 in
theorem linear_calls {rows cols : Int} {A0 A1 A2 A3 : Option Addr} {c0 c1 c2 c3 : Nat} {ld lv lw lb : List Int} (w : World)
    (h0 : Kd.C (Kd.int .i8) w A0 ld.length ld) (hc0 : ld.length ≤ c0) (h1 : Kd.C (Kd.int .i8) w A1 lv.length lv) (hc1 : lv.length ≤ c1)
    (h2 : Kd.C (Kd.int .i8) w A2 lw.length lw) (hc2 : lw.length ≤ c2) (h3 : Kd.C (Kd.int .i64) w A3 lb.length lb) (hc3 : lb.length ≤ c3)
    {kk kk2 kk3 : Nat} {R C : Nat} {D D2 V W P : List Int} (hR : R ≤ 9) (hC : C ≤ 9) (hs1 : Pshaped.augurlaw03_shaped.f kk rows cols ld lv = some ((R : Int), (C : Int), D, V)) (hs2 : Pshaped.augurlaw03_shaped.f kk2 rows cols ld lw = some ((R : Int), (C : Int), D2, W))
    (ho : Porder.augurlaw03_order.f kk3 (C : Int) lb = some P) (hm : IsMat (R : Int) (C : Int) D) (hD : Small D) (hV : Small V) (hW : Small W) (lV : V.length = C) (lW : W.length = C) (hPm : P.Perm (iota C)) :
    Calls Try.prog 3 #[.agg #[.int .i64 rows, .int .i64 cols, .slice A0 ld.length c0, .slice A1 lv.length c1, .slice A2 lw.length c2, .slice A3 lb.length c3]] w fun e w' => e = .returned (.bool true) ∧ Below w.heap.size w w' := by
  have H0 := Lib.hid h0
  have H1 := Lib.hid h1
  have H2 := Lib.hid h2
  have H3 := Lib.hid h3
  have HS1 := Lib.hid hs1
  have HS2 := Lib.hid hs2
  have HO := Lib.hid ho
  have HM := Lib.hid hm
  have LV := Lib.hid lV
  have LW := Lib.hid lW
  have LP : Hid (P.length = C) := Lib.hid (by rw [hPm.length_eq, iota_length])
  have HP : Hid (∀ i, i < C → 0 ≤ nth P i ∧ nth P i < C) := Lib.hid (fun i hi => perm_in hPm hi)
  clear h0 h1 h2 h3 hs1 hs2 ho hm lV lW
  go_enter Try.func3, Try.ntmps3
  go_wp2_with fail
  refine (fixed_calls _).mono ?_
  rintro e w1 ⟨rfl, hb⟩
  have BX := Lib.hid (blk_below (blk_new w (.cells #[.int .i64 rows, .int .i64 cols, .slice A0 ld.length c0, .slice A1 lv.length c1, .slice A2 lw.length c2, .slice A3 lb.length c3] 25 (0, 0))) hb)
  have HB1 : Hid (Below w.heap.size w w1) := Lib.hid (below_step (below_alloc (Below.refl _ _) _) hb)
  have k0 : w1.cell? ⟨w.heap.size, 0, none⟩ = some (.int .i64 rows) := (blk_cell BX.out 0).trans rfl
  have k1 : w1.cell? ⟨w.heap.size, 1, none⟩ = some (.int .i64 cols) := (blk_cell BX.out 1).trans rfl
  have k2 : w1.cell? ⟨w.heap.size, 2, none⟩ = some (.slice A0 ld.length c0) := (blk_cell BX.out 2).trans rfl
  have k3 : w1.cell? ⟨w.heap.size, 3, none⟩ = some (.slice A1 lv.length c1) := (blk_cell BX.out 3).trans rfl
  clear hb
  go_wp2_with fail
  refine (Pshaped.augurlaw03_shaped.calls kk rows cols A0 c0 ld A1 c1 lv R C D V w1 (Kd.C_below H0.out HB1.out) hc0 (Kd.C_below H1.out HB1.out) hc1 HS1.out).mono ?_
  rintro e w2 ⟨vD, vV, rfl, hRD, hRV, hb⟩
  obtain ⟨AD, cD, hvD, hcD, hD2⟩ := Kd.R_reads hRD
  obtain ⟨AV, cV, hvV, hcV, hV2⟩ := Kd.R_reads hRV
  subst hvD hvV
  have HD2 := Lib.hid hD2
  have HV2 := Lib.hid hV2
  have HB2 := Lib.hid hb
  clear k0 k1 k2 k3 hRD hRV hb hD2 hV2
  go_upto_region 3 with (fail)
  obtain ⟨w3, hw3⟩ : ∃ x, x = w2.alloc (.cells #[.int .i64 (R : Int), .int .i64 (C : Int), .slice AD D.length cD] 28 (0, 0)) := ⟨_, rfl⟩
  rw [← hw3]
  obtain ⟨gm, hgm⟩ : ∃ g, g = w2.heap.size := ⟨_, rfl⟩
  rw [← hgm]
  have BM : Hid (w3.heap[gm]? = some (.cells #[.int .i64 (R : Int), .int .i64 (C : Int), .slice AD D.length cD] 28 (0, 0))) := Lib.hid (by rw [hw3, hgm]; exact blk_new _ _)
  have HB23 : Hid (Below w2.heap.size w2 w3) := Lib.hid (by rw [hw3]; exact below_alloc (Below.refl _ _) _)
  clear hw3 hgm
  have HB3 : Hid (Below w1.heap.size w1 w3) := Lib.hid (below_step HB2.out HB23.out)
  have BX3 := Lib.hid (blk_below BX.out HB3.out)
  have HD3 := Lib.hid (Kd.C_below HD2.out HB23.out)
  have HV3 := Lib.hid (Kd.C_below HV2.out HB23.out)
  have HA := Lib.hid (below_step HB1.out HB3.out)
  clear HB2 HB23 HD2 HV2 BX HB1 HB3
  have k0 : w3.cell? ⟨w.heap.size, 0, none⟩ = some (.int .i64 rows) := (blk_cell BX3.out 0).trans rfl
  have k1 : w3.cell? ⟨w.heap.size, 1, none⟩ = some (.int .i64 cols) := (blk_cell BX3.out 1).trans rfl
  have k2 : w3.cell? ⟨w.heap.size, 2, none⟩ = some (.slice A0 ld.length c0) := (blk_cell BX3.out 2).trans rfl
  have k4 : w3.cell? ⟨w.heap.size, 4, none⟩ = some (.slice A2 lw.length c2) := (blk_cell BX3.out 4).trans rfl
  go_wp2_with fail
  refine (Pshaped.augurlaw03_shaped.calls kk2 rows cols A0 c0 ld A2 c2 lw R C D2 W w3 (Kd.C_below H0.out HA.out) hc0 (Kd.C_below H2.out HA.out) hc2 HS2.out).mono ?_
  rintro e w4 ⟨vD2, vW, rfl, hRD, hRW, hb⟩
  obtain ⟨AW, cW, hvW, hcW, hW2⟩ := Kd.R_reads hRW
  obtain ⟨AE, cE, hvE, _, _⟩ := Kd.R_reads hRD
  subst hvW hvE
  have HW4 := Lib.hid hW2
  have HB4 := Lib.hid hb
  clear k0 k1 k2 k4 hRD hRW hb hW2
  go_upto_region 4 with (fail)
  obtain ⟨w5, hw5⟩ : ∃ x, x = w4.alloc (.cells #[.int .i64 (R : Int), .int .i64 (C : Int), .slice AE D2.length cE] 28 (0, 0)) := ⟨_, rfl⟩
  rw [← hw5]
  have HB45 : Hid (Below w4.heap.size w4 w5) := Lib.hid (by rw [hw5]; exact below_alloc (Below.refl _ _) _)
  clear hw5
  have HB5 := Lib.hid (below_step HB4.out HB45.out)
  have BX5 := Lib.hid (blk_below BX3.out HB5.out)
  have BM5 := Lib.hid (blk_below BM.out HB5.out)
  have HD5 := Lib.hid (Kd.C_below HD3.out HB5.out)
  have HV5 := Lib.hid (Kd.C_below HV3.out HB5.out)
  have HW5 := Lib.hid (Kd.C_below HW4.out HB45.out)
  have HA5 := Lib.hid (below_step HA.out HB5.out)
  clear HB4 HB45 HB5 HD3 HV3 HW4 BX3 BM HA
  go_wp2_with fail
  have mC := HM.out.2.1
  go_loopw [8, 9, 10, 11] (fun x8 x9 x10 x wr => L1Rel w5 C V W x8 x9 x10 x wr) (fun _ _ _ x _ => C - (intOf x).toNat)
  case atStart => exact ⟨0, rfl, by omega, Kd.R_nil _ _ _ _ _, Kd.R_nil _ _ _ _ _, Kd.R_nil _ _ _ _ _, Apart.nil _, Apart.nil _, Apart.nil _, Below.refl _ _⟩
  case round =>
    obtain ⟨i, rfl, hi, hR8, hR9, hR10, ha89, ha8a, ha9a, hB⟩ := hrel
    have R8 := Lib.hid hR8
    have R9 := Lib.hid hR9
    have R10 := Lib.hid hR10
    have HB := Lib.hid hB
    have P89 := Lib.hid ha89
    have P8a := Lib.hid ha8a
    have P9a := Lib.hid ha9a
    clear hR8 hR9 hR10 hB ha89 ha8a ha9a
    rename World => wa
    have km1 : wa.cell? ⟨gm, 1, none⟩ = some (.int .i64 (C : Int)) := (blk_cell (blk_below BM5.out HB.out) 1).trans rfl
    by_cases hlt : i < C
    · have hlt' : decide ((i : Int) < (C : Int)) = true := decide_eq_true (by omega)
      obtain ⟨adV, e1, hv⟩ := Kd.at_int (Kd.C_below HV5.out HB.out) (i : Int) (by omega) (by have := LV.out; omega)
      obtain ⟨adW, e2, hw⟩ := Kd.at_int (Kd.C_below HW5.out HB.out) (i : Int) (by omega) (by have := LW.out; omega)
      subst e1 e2
      rw [rd_nth, Int.toNat_natCast] at hv hw
      have bv := hV.nth i
      have bw := hW.nth i
      have hi1 : (i : Int) < (V.length : Int) := by have := LV.out; omega
      have hi2 : (i : Int) < (W.length : Int) := by have := LW.out; omega
      clear hi
      go_wp2_with (first | ((with_reducible refine gate_builtin (b := .append) (xs := #[.tmp 73, .tmp 75]) rfl ?_); (try (refine gate_guard (by rfl) ?_; dsimp only)); at_builtin; refine Kd.R_append (Kd.int .i8) (w0 := w5) w5.heap.size rfl (.tmp 73) (.tmp 75) 22 31 (.int .i8 0) 1 rfl Try.underlying22 info31 rfl (by decide) (by omega) u9 (tab (halfF V) i) (halfF V i) [.int .i8 (halfF V i)] (fun _ => True) (fun _ => False) rfl rfl rfl (fun _ hk => hk.elim) (fun _ _ => trivial) R9.out HB.out (below_size HB.out) (by rw [tab_length]; omega) ?_; intro v9 wb ho hb hg hat; rw [← tab_succ] at ho; have R8b := Lib.hid (Kd.R_grown2 R8.out rfl hg P89.out.symm); have R10b := Lib.hid (Kd.R_grown2 R10.out rfl hg P9a.out); have R9b := Lib.hid ho; have HBb := Lib.hid hb; have P89b := Lib.hid (P89.out.symm.after (Kd.R_lt R8.out) hat).symm; have P9ab := Lib.hid (P9a.out.after (Kd.R_lt R10.out) hat); clear ho hb hg hat R8 R9 R10 HB P89 P9a) | ((with_reducible refine gate_builtin (b := .append) (xs := #[.tmp 77, .tmp 79]) rfl ?_); (try (refine gate_guard (by rfl) ?_; dsimp only)); at_builtin; refine Kd.R_append (Kd.int .i8) (w0 := w5) w5.heap.size rfl (.tmp 77) (.tmp 79) 22 31 (.int .i8 0) 1 rfl Try.underlying22 info31 rfl (by decide) (by omega) u10 (tab (halfF W) i) (halfF W i) [.int .i8 (halfF W i)] (fun _ => True) (fun _ => False) rfl rfl rfl (fun _ hk => hk.elim) (fun _ _ => trivial) R10b.out HBb.out (below_size HBb.out) (by rw [tab_length]; omega) ?_; intro v10 wc ho hb hg hat; rw [← tab_succ] at ho; have R8c := Lib.hid (Kd.R_grown2 R8b.out rfl hg P8a.out.symm); have R9c := Lib.hid (Kd.R_grown2 R9b.out rfl hg P9ab.out.symm); have R10c := Lib.hid ho; have HBc := Lib.hid hb; have P8ac := Lib.hid (P8a.out.symm.after (Kd.R_lt R8b.out) hat).symm; have P9ac := Lib.hid (P9ab.out.symm.after (Kd.R_lt R9b.out) hat).symm; clear ho hb hg hat R8b R9b R10b HBb P8a P9ab) | ((with_reducible refine gate_builtin (b := .append) (xs := #[.tmp 81, .tmp 85]) rfl ?_); (try (refine gate_guard (by rfl) ?_; dsimp only)); at_builtin; refine Kd.R_append (Kd.int .i8) (w0 := w5) w5.heap.size rfl (.tmp 81) (.tmp 85) 22 31 (.int .i8 0) 1 rfl Try.underlying22 info31 rfl (by decide) (by omega) u8 (tab (bothF V W) i) (bothF V W i) [.int .i8 (bothF V W i)] (fun _ => True) (fun _ => False) rfl rfl rfl (fun _ hk => hk.elim) (fun _ _ => trivial) R8c.out HBc.out (below_size HBc.out) (by rw [tab_length]; omega) ?_; intro v8 wd ho hb hg hat; rw [← tab_succ] at ho; have R9d := Lib.hid (Kd.R_grown2 R9c.out rfl hg P89b.out); have R10d := Lib.hid (Kd.R_grown2 R10c.out rfl hg P8ac.out); have R8d := Lib.hid ho; have HBd := Lib.hid hb; have P89d := Lib.hid (P89b.out.after (Kd.R_lt R9c.out) hat); have P8ad := Lib.hid (P8ac.out.after (Kd.R_lt R10c.out) hat); clear ho hb hg hat R8c R9c R10c HBc P89b P8ac))
      go_roundw
      case rel => exact ⟨i + 1, rfl, by omega, R8d.out, R9d.out, R10d.out, P89d.out, P8ad.out, P9ac.out, HBd.out⟩
      case measure => simp [intOf]; omega
    · have hi' : i = C := by omega
      have hlt' : decide ((i : Int) < (C : Int)) = false := decide_eq_false (by omega)
      obtain ⟨A8, c8, e8, hc8, hC8⟩ := Kd.R_reads R8.out
      obtain ⟨A9, c9, e9, hc9, hC9⟩ := Kd.R_reads R9.out
      obtain ⟨A10, c10, e10, hc10, hC10⟩ := Kd.R_reads R10.out
      rw [tab_length] at e8 e9 e10 hc8 hc9 hc10
      subst e8 e9 e10
      rw [hi'] at hC8 hC9 hC10
      have X8 := Lib.hid hC8
      have X9 := Lib.hid hC9
      have X10 := Lib.hid hC10
      have BMa := Lib.hid (blk_below BM5.out HB.out)
      have BXa := Lib.hid (blk_below BX5.out HB.out)
      have HDa := Lib.hid (Kd.C_below HD5.out HB.out)
      have HAa := Lib.hid (below_step HA5.out HB.out)
      clear hC8 hC9 hC10 R8 R9 R10 P89 P8a P9a HB BM5 BX5 HD5 HV5 HW5 HA5
      have HMn : Hid ((D.length : Int) ≤ 140737488351232) := Lib.hid (by have h1 := HM.out.2.2.1; have h2 : (R : Int) * (C : Int) ≤ 9 * 9 := Int.mul_le_mul (by omega) (by omega) (by omega) (by omega); omega)
      have k0 : wa.cell? ⟨gm, 0, none⟩ = some (.int .i64 (R : Int)) := (blk_cell BMa.out 0).trans rfl
      have k2 : wa.cell? ⟨gm, 2, none⟩ = some (.slice AD D.length cD) := (blk_cell BMa.out 2).trans rfl
      go_wp2_with fail
      refine (mvn_calls wa (tab_length _ _) HDa.out hcD X8.out (by omega) HM.out rfl hD (tab_small (fun _ => i8_small _) _) HMn.out (by omega)).mono ?_
      rintro e w6 ⟨vl, rfl, hRl, hb⟩
      have Xl := Lib.hid hRl
      have HBa := Lib.hid hb
      have BM6 := Lib.hid (blk_below BMa.out hb)
      clear hRl hb k0 k2 km1
      have k0 : w6.cell? ⟨gm, 0, none⟩ = some (.int .i64 (R : Int)) := (blk_cell BM6.out 0).trans rfl
      have k1 : w6.cell? ⟨gm, 1, none⟩ = some (.int .i64 (C : Int)) := (blk_cell BM6.out 1).trans rfl
      have k2 : w6.cell? ⟨gm, 2, none⟩ = some (.slice AD D.length cD) := (blk_cell BM6.out 2).trans rfl
      go_wp2_with fail
      refine (mvn_calls w6 (tab_length _ _) (Kd.C_below HDa.out HBa.out) hcD (Kd.C_below X9.out HBa.out) (by omega) HM.out rfl hD (tab_small (fun _ => i8_small _) _) HMn.out (by omega)).mono ?_
      rintro e w7 ⟨vp, rfl, hRp, hb⟩
      have Xp := Lib.hid hRp
      have HB6 := Lib.hid hb
      have BM7 := Lib.hid (blk_below BM6.out hb)
      clear hRp hb k0 k1 k2
      have k0 : w7.cell? ⟨gm, 0, none⟩ = some (.int .i64 (R : Int)) := (blk_cell BM7.out 0).trans rfl
      have k1 : w7.cell? ⟨gm, 1, none⟩ = some (.int .i64 (C : Int)) := (blk_cell BM7.out 1).trans rfl
      have k2 : w7.cell? ⟨gm, 2, none⟩ = some (.slice AD D.length cD) := (blk_cell BM7.out 2).trans rfl
      go_wp2_with fail
      refine (mvn_calls w7 (tab_length _ _) (Kd.C_below (Kd.C_below HDa.out HBa.out) HB6.out) hcD (Kd.C_below (Kd.C_below X10.out HBa.out) HB6.out) (by omega) HM.out rfl hD (tab_small (fun _ => i8_small _) _) HMn.out (by omega)).mono ?_
      rintro e w8 ⟨vq, rfl, hRq, hb⟩
      obtain ⟨Al, cl, el, hcl, hCl⟩ := Kd.R_reads Xl.out
      obtain ⟨Ap, cp, ep, hcp, hCp⟩ := Kd.R_reads Xp.out
      obtain ⟨Aq, cq, eq, hcq, hCq⟩ := Kd.R_reads hRq
      rw [mvN_length] at el ep eq hcl hcp hcq
      subst el ep eq
      have Yl := Lib.hid (Kd.C_below (Kd.C_below hCl HB6.out) hb)
      have Yp := Lib.hid (Kd.C_below hCp hb)
      have Yq := Lib.hid hCq
      have Hab := Lib.hid (below_step (below_step HBa.out HB6.out) hb)
      have BM8 := Lib.hid (blk_below BMa.out Hab.out)
      have BX8 := Lib.hid (blk_below BXa.out Hab.out)
      have HD8 := Lib.hid (Kd.C_below HDa.out Hab.out)
      have Y8 := Lib.hid (Kd.C_below X8.out Hab.out)
      have HA8 := Lib.hid (below_step HAa.out Hab.out)
      clear hRq hb k0 k1 k2 hCl hCp hCq Xl Xp HBa HB6 BM6 BM7 Hab BMa BXa HDa X8 X9 X10 HAa
      have k0 : w8.cell? ⟨gm, 0, none⟩ = some (.int .i64 (R : Int)) := (blk_cell BM8.out 0).trans rfl
      have k1 : w8.cell? ⟨gm, 1, none⟩ = some (.int .i64 (C : Int)) := (blk_cell BM8.out 1).trans rfl
      have k5 : w8.cell? ⟨w.heap.size, 5, none⟩ = some (.slice A3 lb.length c3) := (blk_cell BX8.out 5).trans rfl
      have hneq : ((R : Int) != (R : Int)) = false := bne_eq_false_iff_eq.2 rfl
      go_wp2_with fail
      refine (Porder.augurlaw03_order.calls kk3 (C : Int) A3 c3 lb P w8 (Kd.C_below H3.out HA8.out) hc3 HO.out).mono ?_
      rintro e w9 ⟨vP, rfl, hRP, hb⟩
      obtain ⟨AP, cP, eP, hcP, hCP⟩ := Kd.R_reads hRP
      rw [LP.out] at eP hcP
      subst eP
      have YP := Lib.hid hCP
      have BM9 := Lib.hid (blk_below BM8.out hb)
      have HD9 := Lib.hid (Kd.C_below HD8.out hb)
      have Z8 := Lib.hid (Kd.C_below Y8.out hb)
      have Zl := Lib.hid (Kd.C_below Yl.out hb)
      have Zp := Lib.hid (Kd.C_below Yp.out hb)
      have Zq := Lib.hid (Kd.C_below Yq.out hb)
      have HA9 := Lib.hid (below_step HA8.out hb)
      clear hRP hb k0 k1 k5 hCP hneq BM8 BX8 HD8 Y8 Yl Yp Yq HA8
      have k0 : w9.cell? ⟨gm, 0, none⟩ = some (.int .i64 (R : Int)) := (blk_cell BM9.out 0).trans rfl
      have k1 : w9.cell? ⟨gm, 1, none⟩ = some (.int .i64 (C : Int)) := (blk_cell BM9.out 1).trans rfl
      go_upto_region 20 with (fail)
      clear k0 k1
      obtain ⟨wn, hwn⟩ : ∃ x, x = w9.alloc (.cells #[.int .i64 (R : Int), .int .i64 (C : Int), .slice none 0 0] 28 (0, 0)) := ⟨_, rfl⟩
      rw [← hwn]
      have BNn : Hid (wn.heap[w9.heap.size]? = some (.cells #[.int .i64 (R : Int), .int .i64 (C : Int), .slice none 0 0] 28 (0, 0))) := Lib.hid (by rw [hwn]; exact blk_new _ _)
      have HBn : Hid (Below w9.heap.size w9 wn) := Lib.hid (by rw [hwn]; exact below_alloc (Below.refl _ _) _)
      clear hwn
      go_wp2
      go_loopw [22] (fun x wr => L2Rel w9 R C (permF D P C) x wr) (fun x _ => R - (intOf x).toNat)
      case atStart => exact ⟨0, _, rfl, by omega, BNn.out, by rw [Nat.zero_mul]; exact Kd.R_nil _ _ _ _ _, HBn.out⟩
      case round =>
        clear BNn HBn
        obtain ⟨r, vN, rfl, hr, hBN, hRN, hB⟩ := hrel
        have BN := Lib.hid hBN
        have RN := Lib.hid hRN
        have HB := Lib.hid hB
        clear hBN hRN hB
        rename World => wb
        have k0 : wb.cell? ⟨gm, 0, none⟩ = some (.int .i64 (R : Int)) := (blk_cell (blk_below BM9.out HB.out) 0).trans rfl
        have k1 : wb.cell? ⟨gm, 1, none⟩ = some (.int .i64 (C : Int)) := (blk_cell (blk_below BM9.out HB.out) 1).trans rfl
        have k2 : wb.cell? ⟨gm, 2, none⟩ = some (.slice AD D.length cD) := (blk_cell (blk_below BM9.out HB.out) 2).trans rfl
        by_cases hltr : r < R
        · have hltr' : decide ((r : Int) < (R : Int)) = true := decide_eq_true (by omega)
          obtain ⟨q0, hq0⟩ : ∃ q : Nat, r * C = q := ⟨_, rfl⟩
          have hb := row_bounds HM.out (r := (r : Int)) (by omega) (by omega)
          have hqi : (r : Int) * (C : Int) = (q0 : Int) := by rw [← hq0]; exact (Int.natCast_mul _ _).symm
          have hqi2 : ((r : Int) + 1) * (C : Int) = (q0 : Int) + (C : Int) := by rw [Int.add_mul, hqi, Int.one_mul]
          rw [hqi, hqi2] at hb
          obtain ⟨b0, _, b2, _, _⟩ := hb
          have bn := HMn.out
          obtain ⟨i0, hi0, _, hsz, _⟩ := info_parts info31
          obtain ⟨A, hcut, hA, hC⟩ := print_mid_of (P := Try.prog) (Value.int .i8) 0 22 31 .i64 .i64 Try.underlying22 hi0 hsz AD cD D (q0 : Int) ((q0 : Int) + (C : Int)) b0 (by omega) (by omega) hcD
          have hrow : rowOf D C r = (D.take ((q0 : Int) + (C : Int)).toNat).drop (q0 : Int).toNat := by
            unfold rowOf
            rw [show ((q0 : Int) + (C : Int)).toNat = (r + 1) * C by rw [Nat.add_mul, hq0]; omega, Int.toNat_natCast, hq0]
          have hlen : ((D.take ((q0 : Int) + (C : Int)).toNat).drop (q0 : Int).toNat).length = C := by
            rw [List.length_drop, List.length_take]; omega
          have HA := Lib.hid hA
          have HC := Lib.hid hC
          have HROW := Lib.hid hrow
          have HQ0 := Lib.hid hq0
          have HLEN := Lib.hid hlen
          clear hA hC hrow hlen hi0 hsz hq0
          go_upto_region 24 with (fail)
          clear hqi hqi2
          have hRW : Hid (Kd.C (Kd.int .i8) wb A (rowOf D C r).length (rowOf D C r)) := Lib.hid (by rw [HROW.out]; exact Kd.C_below (Kd.C_of_reads (h1 := fun _ => rfl) (HA.out _ (Kd.reads_of_C HD9.out))) HB.out)
          have lRW : (rowOf D C r).length = C := by rw [HROW.out]; exact HLEN.out
          have HLR := Lib.hid lRW
          have hcA : C ≤ cD - q0 := by have := hcD; omega
          clear lRW k0 k1 k2
          go_wp2_with fail
          refine (dot_calls (a := rowOf D C r) (b := tab (bothF V W) C) wb HLR.out (tab_length _ _) hRW.out hcA (Kd.C_below Z8.out HB.out) (by omega) ((hD.take _).drop _) (tab_small (fun _ => i8_small _) _) rfl (by omega)).mono ?_
          rintro e wz ⟨rfl, nd, rfl⟩
          obtain ⟨xl, hxl⟩ : ∃ x, dotL (rowOf D C r) (tab (bothF V W) C) = x := ⟨_, rfl⟩
          obtain ⟨xp, hxp⟩ : ∃ x, dotL (rowOf D C r) (tab (halfF V) C) = x := ⟨_, rfl⟩
          obtain ⟨xq, hxq⟩ : ∃ x, dotL (rowOf D C r) (tab (halfF W) C) = x := ⟨_, rfl⟩
          obtain ⟨adl, e1, cl1⟩ := Kd.at_int (Kd.C_below Zl.out HB.out) (r : Int) (by omega) (by rw [mvN_length]; omega)
          obtain ⟨adp, e2, cp1⟩ := Kd.at_int (Kd.C_below Zp.out HB.out) (r : Int) (by omega) (by rw [mvN_length]; omega)
          obtain ⟨adq, e3, cq1⟩ := Kd.at_int (Kd.C_below Zq.out HB.out) (r : Int) (by omega) (by rw [mvN_length]; omega)
          rw [rd_nth, mvN_nth _ _ _ _ _ hltr, Int.toNat_natCast] at cl1 cp1 cq1
          rw [hxl] at cl1
          rw [hxp] at cp1
          rw [hxq] at cq1
          subst e1 e2 e3
          have hsum : xl = xp + xq := by rw [← hxl, ← hxp, ← hxq]; exact dot_both _ hV hW (by rw [HLR.out]; exact Nat.le_refl _)
          have bp := dotL_in (a := rowOf D C r) (b := tab (halfF V) C) ((hD.take _).drop _) (tab_small (fun _ => i8_small _) _)
          have bq := dotL_in (a := rowOf D C r) (b := tab (halfF W) C) ((hD.take _).drop _) (tab_small (fun _ => i8_small _) _)
          rw [hxp, HLR.out] at bp
          rw [hxq, HLR.out] at bq
          have hw : IntKind.i64.wrap (xp + xq) = xl := by rw [hsum]; exact IntWalk.i64_in _ (by omega)
          have hxx : (xl != xl) = false := bne_eq_false_iff_eq.2 rfl
          have p2 : (0 : Int) ≤ (r : Int) := by omega
          have p3 : (r : Int) < (R : Int) := by omega
          rw [hxl]
          clear hsum bp bq hxl hxp hxq hltr' b0 bn
          go_upto_region 25 with (fail)
          go_quiet (fail)
          clear hw hxx p2 p3 cl1 cp1 cq1
          go_wp2
          go_loopw [26] (fun x wr => L3Rel w9 R C r (permF D P C) x wr) (fun x _ => C - (intOf x).toNat)
          case atStart => exact ⟨0, vN, rfl, by omega, blk_drewN (blk_drewN BN.out _) _, Kd.R_drewN (Kd.R_drewN RN.out _) _, pw_below_drewN (pw_below_drewN HB.out _) _⟩
          case round =>
            clear BN RN
            obtain ⟨c, vM, rfl, hc, hBN, hRN, hB2⟩ := hrel
            have BN := Lib.hid hBN
            have RN := Lib.hid hRN
            have HB2 := Lib.hid hB2
            clear hBN hRN hB2
            rename World => wc
            have k1 : wc.cell? ⟨gm, 1, none⟩ = some (.int .i64 (C : Int)) := (blk_cell (blk_below BM9.out HB2.out) 1).trans rfl
            by_cases hltc : c < C
            · have hltc' : decide ((c : Int) < (C : Int)) = true := decide_eq_true (by omega)
              obtain ⟨np, hnp⟩ : ∃ n : Nat, nth P c = n := ⟨(nth P c).toNat, by have := HP.out c hltc; omega⟩
              have hpc : np < C := by have := HP.out c hltc; omega
              obtain ⟨adP, e1, cp1⟩ := Kd.at_int (Kd.C_below YP.out HB2.out) (c : Int) (by omega) (by have := LP.out; omega)
              have hRW2 : Kd.C (Kd.int .i8) wc A (rowOf D C r).length (rowOf D C r) := by rw [HROW.out]; exact Kd.C_below (Kd.C_of_reads (h1 := fun _ => rfl) (HA.out _ (Kd.reads_of_C HD9.out))) HB2.out
              obtain ⟨adR, e2, cr1⟩ := Kd.at_int hRW2 (np : Int) (by omega) (by have := HLR.out; omega)
              rw [rd_nth, Int.toNat_natCast, hnp] at cp1
              rw [rd_nth, Int.toNat_natCast, row_nth hpc] at cr1
              have hval : nth D (r * C + np) = permF D P C (r * C + c) := by rw [permF_at hltc, hnp, Int.toNat_natCast]
              rw [hval] at cr1
              have hk : ∀ w5 : World, Below w9.heap.size w9 w5 → w5.cell? (adP.add c) = some (.int .i64 (np : Int)) ∧ w5.cell? (adR.add np) = some (.int .i8 (permF D P C (r * C + c))) := by
                intro w5 hb5
                obtain ⟨x1, f1, g1⟩ := Kd.at_int (Kd.C_below YP.out hb5) (c : Int) (by omega) (by have := LP.out; omega)
                have hRW3 : Kd.C (Kd.int .i8) w5 A (rowOf D C r).length (rowOf D C r) := by rw [HROW.out]; exact Kd.C_below (Kd.C_of_reads (h1 := fun _ => rfl) (HA.out _ (Kd.reads_of_C HD9.out))) hb5
                obtain ⟨x2, f2, g2⟩ := Kd.at_int hRW3 (np : Int) (by omega) (by have := HLR.out; omega)
                rw [e1] at f1
                rw [e2] at f2
                have f1' := Option.some.inj f1
                have f2' := Option.some.inj f2
                subst f1' f2'
                rw [rd_nth, Int.toNat_natCast, hnp] at g1
                rw [rd_nth, Int.toNat_natCast, row_nth hpc, hval] at g2
                exact ⟨g1, g2⟩
              subst e1 e2
              have HK := Lib.hid hk
              clear hk
              have cb : wc.cell? ⟨w9.heap.size, 2, none⟩ = some vM := (blk_cell BN.out 2).trans rfl
              have p2 : (0 : Int) ≤ (c : Int) := by omega
              have p3 : (c : Int) < (C : Int) := by omega
              have p4 : (0 : Int) ≤ (np : Int) := by omega
              have p5 : (np : Int) < (C : Int) := by omega
              clear hRW2 hnp hval hRW
              have hl : (tab (permF D P C) (r * C + c)).length ≤ 81 := by
                rw [tab_length, HQ0.out]
                have := b2
                have h1 := HM.out.2.2.1
                have h2 : (R : Int) * (C : Int) ≤ 9 * 9 := Int.mul_le_mul (by omega) (by omega) (by omega) (by omega)
                omega
              go_upto_region 30 with (fail)
              have RNd : Kd.R (Kd.int .i8) 31 wc.drew w9.heap.size (fun _ => True) vM (tab (permF D P C) (r * C + c)) := Kd.R_drew RN.out
              have HBd : Below w9.heap.size w9 wc.drew := below_drew HB2.out
              have hl2 : (tab (permF D P C) (r * C + c)).length ≤ 140737488355000 := by omega
              have ka0 : (wc.alloc (.cells #[.int .i8 (permF D P C (r * C + c))] 31 (0, 0))).cell? ⟨w9.heap.size, 2, none⟩ = some vM := (blk_cell (blk_alloc BN.out _) 2).trans rfl
              have ka : (wc.alloc (.cells #[.int .i8 (permF D P C (r * C + c))] 31 (0, 0))).drew.cell? ⟨w9.heap.size, 2, none⟩ = some vM := ka0
              clear ka0
              go_region_law ((refine app8_step rfl (.tmp 207) (.tmp 215) rfl vM (tab (permF D P C) (r * C + c)) (permF D P C (r * C + c)) (W := wc.drew) (N := wc.heap.size) (by simp [Act.eval, Act.put]) (by simp [Act.eval, Act.put]) rfl rfl RNd HBd hl2 ?_); intro v1 w5 ho hb hg hat; rw [← tab_succ] at ho; obtain ⟨Av, cv, ev, _, _⟩ := Kd.R_reads ho; rw [tab_length] at ev; subst ev; have kbox : Hid (w5.heap[w9.heap.size]? = some (.cells #[.int .i64 (R : Int), .int .i64 (C : Int), vM] 28 (0, 0))) := Lib.hid (blk_grown (blk_drew BN.out) hg (Kd.R_ne RN.out BN.out (by decide))); have HO2 := Lib.hid ho; have HB5 := Lib.hid hb; have kc : w5.cell? ⟨w9.heap.size, 2, none⟩ = some vM := (blk_cell kbox.out 2).trans rfl; have kf : w5.frozen? ⟨w9.heap.size, 2, none⟩ = false := blk_frozen kbox.out 2; clear ho hb hg hat)
              all_goals (clear ka kc kf RNd HBd hl2 hl cb cp1 cr1 p2 p3 p4 p5; go_wp2; go_roundw)
              all_goals first
                | (refine ⟨c + 1, _, rfl, by omega, blk_put kbox.out 2 _ rfl, ?_, below_set HB5.out (Nat.le_refl _)⟩
                   have h1 := Kd.R_reok rfl HO2.out (ok := fun k => k ≠ w9.heap.size) (fun k hk e => Kd.R_ne HO2.out kbox.out (by decide) (by rw [hk, e]))
                   exact Kd.R_mono (Kd.R_far h1 (p := ⟨w9.heap.size, 2, none⟩) (fun k hk => hk) _) (fun _ _ => trivial))
                | (simp [intOf]; omega)
            · have hcC : c = C := by omega
              have hltc' : decide ((c : Int) < (C : Int)) = false := decide_eq_false (by omega)
              have RN' : Hid (Kd.R (Kd.int .i8) 31 wc w9.heap.size (fun _ => True) vM (tab (permF D P C) ((r + 1) * C))) := Lib.hid (by rw [Nat.add_mul, Nat.one_mul]; have := RN.out; rw [hcC] at this; exact this)
              go_wp2
              go_roundw
              case rel => exact ⟨r + 1, vM, rfl, by omega, BN.out, RN'.out, HB2.out⟩
              case measure => simp [intOf]; omega
        · have hrR : r = R := by omega
          have hltr' : decide ((r : Int) < (R : Int)) = false := decide_eq_false (by omega)
          have RN' : Hid (Kd.R (Kd.int .i8) 31 wb w9.heap.size (fun _ => True) vN (tab (permF D P C) (R * C))) := Lib.hid (by have := RN.out; rw [hrR] at this; exact this)
          clear RN
          obtain ⟨AN, cN, eN, hcN, hCN⟩ := Kd.R_reads RN'.out
          subst eN
          have YN := Lib.hid hCN
          have MN : Hid (IsMat (R : Int) (C : Int) (tab (permF D P C) (R * C))) := Lib.hid ⟨HM.out.1, HM.out.2.1, by rw [tab_length]; exact (Int.natCast_mul _ _).symm, fun x hx => by obtain ⟨j, _, rfl⟩ := List.mem_map.1 hx; exact HM.out.small _⟩
          have SN : Hid (Small (tab (permF D P C) (R * C))) := Lib.hid (tab_small (fun j => hD.nth _) _)
          have lN : Hid (((tab (permF D P C) (R * C)).length : Int) ≤ 140737488351232) := Lib.hid (by rw [tab_length]; have h2 : R * C ≤ 9 * 9 := Nat.mul_le_mul hR hC; omega)
          clear hCN RN' hrR
          go_wp2
          go_loopw [27, 28] (fun v x wr => L4Rel wb C (movedF (tab (bothF V W) C) P) v x wr) (fun _ x _ => C - (intOf x).toNat)
          case atStart => exact ⟨0, rfl, by omega, Kd.R_nil _ _ _ _ _, Below.refl _ _⟩
          case round =>
            clear k0 k1 k2
            obtain ⟨c, rfl, hc, hR4, hB4⟩ := hrel
            have R4 := Lib.hid hR4
            have HB4 := Lib.hid hB4
            clear hR4 hB4
            rename World => wd
            have k1 : wd.cell? ⟨gm, 1, none⟩ = some (.int .i64 (C : Int)) := (blk_cell (blk_below (blk_below BM9.out HB.out) HB4.out) 1).trans rfl
            by_cases hltc : c < C
            · have hltc' : decide ((c : Int) < (C : Int)) = true := decide_eq_true (by omega)
              obtain ⟨np, hnp⟩ : ∃ n : Nat, nth P c = n := ⟨(nth P c).toNat, by have := HP.out c hltc; omega⟩
              have hpc : np < C := by have := HP.out c hltc; omega
              obtain ⟨adP, e1, cp1⟩ := Kd.at_int (Kd.C_below (Kd.C_below YP.out HB.out) HB4.out) (c : Int) (by omega) (by have := LP.out; omega)
              obtain ⟨adB, e2, cb1⟩ := Kd.at_int (Kd.C_below (Kd.C_below Z8.out HB.out) HB4.out) (np : Int) (by omega) (by rw [tab_length]; omega)
              rw [rd_nth, Int.toNat_natCast, hnp] at cp1
              rw [rd_nth, Int.toNat_natCast, show nth (tab (bothF V W) C) np = movedF (tab (bothF V W) C) P c by unfold movedF; rw [hnp, Int.toNat_natCast]] at cb1
              subst e1 e2
              have p2 : (0 : Int) ≤ (c : Int) := by omega
              have p3 : (c : Int) < (C : Int) := by omega
              have p4 : (0 : Int) ≤ (np : Int) := by omega
              have p5 : (np : Int) < (C : Int) := by omega
              clear hnp
              go_wp2_with ((with_reducible refine gate_builtin (b := .append) (xs := #[.tmp 224, .tmp 232]) rfl ?_); (try (refine gate_guard (by rfl) ?_; dsimp only)); at_builtin; refine Kd.R_append (Kd.int .i8) (w0 := wb) wb.heap.size rfl (.tmp 224) (.tmp 232) 22 31 (.int .i8 0) 1 rfl Try.underlying22 info31 rfl (by decide) (by omega) u27 (tab (movedF (tab (bothF V W) C) P) c) (movedF (tab (bothF V W) C) P c) [.int .i8 (movedF (tab (bothF V W) C) P c)] (fun _ => True) (fun _ => False) rfl rfl rfl (fun _ hk => hk.elim) (fun _ _ => trivial) R4.out HB4.out (below_size HB4.out) (by rw [tab_length]; omega) ?_; intro v1 w5 ho hb hg hat; rw [← tab_succ] at ho; have HO := Lib.hid ho; have HB5 := Lib.hid hb; clear ho hb hg hat cp1 cb1 p2 p3 p4 p5)
              go_roundw
              case rel => exact ⟨c + 1, rfl, by omega, HO.out, HB5.out⟩
              case measure => simp [intOf]; omega
            · have hcC : c = C := by omega
              have hltc' : decide ((c : Int) < (C : Int)) = false := decide_eq_false (by omega)
              obtain ⟨AV2, cV2, eV2, hcV2, hCV2⟩ := Kd.R_reads R4.out
              rw [tab_length] at eV2 hcV2
              subst eV2
              rw [hcC] at hCV2 hcV2
              have YV := Lib.hid hCV2
              have BN4 := Lib.hid (blk_below BN.out HB4.out)
              clear hCV2
              have j0 : wd.cell? ⟨w9.heap.size, 0, none⟩ = some (.int .i64 (R : Int)) := (blk_cell BN4.out 0).trans rfl
              have j1 : wd.cell? ⟨w9.heap.size, 1, none⟩ = some (.int .i64 (C : Int)) := (blk_cell BN4.out 1).trans rfl
              have j2 : wd.cell? ⟨w9.heap.size, 2, none⟩ = some (.slice AN (tab (permF D P C) (R * C)).length cN) := (blk_cell BN4.out 2).trans rfl
              go_wp2_with fail
              refine (mvn_calls wd (tab_length _ _) (Kd.C_below YN.out HB4.out) hcN YV.out hcV2 MN.out rfl SN.out (tab_small (fun j => by unfold movedF; exact (tab_small (fun _ => i8_small _) _).nth _) _) lN.out (by omega)).mono ?_
              rintro e we ⟨vk, rfl, hRk, hbe⟩
              rw [mv_perm hPm (by have := HM.out.2.2.1; rw [← Int.natCast_mul] at this; omega)] at hRk
              obtain ⟨Ak, ck, ek, hck, hCk⟩ := Kd.R_reads hRk
              rw [mvN_length] at ek hck
              subst ek
              have YK := Lib.hid hCk
              have HBe := Lib.hid hbe
              clear hRk hCk hbe j0 j1 j2 k1
              go_wp2_with fail
              refine (eq_calls we (mvN_length _ _ _ _) (mvN_length _ _ _ _) YK.out hck (Kd.C_below (Kd.C_below (Kd.C_below Zl.out HB.out) HB4.out) HBe.out) (by omega) rfl (by omega)).mono ?_
              rintro e wz ⟨rfl, nd, rfl⟩
              have BMf := Lib.hid (blk_drewN (blk_below (blk_below (blk_below BM9.out HB.out) HB4.out) HBe.out) nd)
              have k0 : (we.drewN nd).cell? ⟨gm, 0, none⟩ = some (.int .i64 (R : Int)) := (blk_cell BMf.out 0).trans rfl
              have k1 : (we.drewN nd).cell? ⟨gm, 1, none⟩ = some (.int .i64 (C : Int)) := (blk_cell BMf.out 1).trans rfl
              have k2 : (we.drewN nd).cell? ⟨gm, 2, none⟩ = some (.slice AD D.length cD) := (blk_cell BMf.out 2).trans rfl
              go_wp2_with fail
              refine (columns_calls _ (Kd.C_drewN (Kd.C_below (Kd.C_below (Kd.C_below HD9.out HB.out) HB4.out) HBe.out) nd) hcD HM.out hD HMn.out (by omega)).mono ?_
              rintro e wf ⟨rfl, hbf⟩
              have HBf : Hid (Below w.heap.size w wf) := Lib.hid (below_step (pw_below_drewN (below_step (below_step (below_step HA9.out HB.out) HB4.out) HBe.out) nd) hbf)
              clear hbf k0 k1 k2
              go_wp2
              go_ret
              exact ⟨rfl, HBf.out⟩
end Go.Proofs.Ytnioohhiphpplaa.Wk
