/- The walk of strewn. -/
import Derived.Test.YtnioohhiphpplaaDoorLo
set_option linter.unusedVariables false
set_option linter.unusedSimpArgs false
namespace Go.Proofs.YtnioohhiphpplaaDoor.Dp
open Go.RowKit Go.Proofs.YtnioohhiphpplaaDoor.Pplays Go.Proofs.YtnioohhiphpplaaDoorW.PrintWords Go.Proofs.YtnioohhiphpplaaDoorW.PrintLast Go.Proofs.YtnioohhiphpplaaDoorW.PrintMore Go.Proofs.YtnioohhiphpplaaDoor.M Go.Proofs.YtnioohhiphpplaaDoor.Wk Go.Lib
namespace Wk
theorem COp.At.below {p : COp} {w w1 : World} {ad : Addr} (h : p.At w ad) (hb : Below w.heap.size w w1) : p.At w1 ad := by
 obtain ⟨A0, B, D, X, T, V, cA, cB, cD, cX, cT, cV, j0, j1, j2, j3, j4, j5, j6, j7, j8, j9, hO, hF⟩ := h
 exact ⟨A0, B, D, X, T, V, cA, cB, cD, cX, cT, cV, pw_cell_below hb j0, pw_cell_below hb j1, pw_cell_below hb j2, pw_cell_below hb j3, pw_cell_below hb j4, pw_cell_below hb j5, pw_cell_below hb j6, pw_cell_below hb j7, pw_cell_below hb j8, pw_cell_below hb j9, hO.below hb, hF⟩
theorem OpsC.below {w w1 : World} {A : Option Addr} {ps : List COp} (h : OpsC w A ps) (hb : Below w.heap.size w w1) : OpsC w1 A ps := ⟨h.1, fun i p hp => by
 obtain ⟨ad, e, hat⟩ := h.2 i p hp
 exact ⟨ad, e, hat.below hb⟩⟩
theorem COp.At.open_ {p : COp} {w : World} {ad : Addr} (h : p.At w ad) : ∃ (A B D X T V : Option Addr) (cA cB cD cX cT cV : Nat), (w.cell? ad = some (.int .i64 p.kd) ∧ w.cell? ⟨ad.block, ad.off + 1, none⟩ = some (.int .i64 p.rw) ∧ w.cell? ⟨ad.block, ad.off + 2, none⟩ = some (.int .i64 p.cl) ∧ w.cell? ⟨ad.block, ad.off + 3, none⟩ = some (.slice D p.d.length cD) ∧ w.cell? ⟨ad.block, ad.off + 4, none⟩ = some (.slice A p.a.length cA) ∧ w.cell? ⟨ad.block, ad.off + 5, none⟩ = some (.slice B p.b.length cB) ∧ w.cell? ⟨ad.block, ad.off + 6, none⟩ = some (.slice X p.x.length cX) ∧ w.cell? ⟨ad.block, ad.off + 7, none⟩ = some (.slice V p.vs.length cV) ∧ w.cell? ⟨ad.block, ad.off + 8, none⟩ = some (.slice T p.t.length cT) ∧ w.cell? ⟨ad.block, ad.off + 9, none⟩ = some (.int .i64 p.n)) ∧
  OpAt w A B D X T V cA cB cD cX cT cV p.a p.b p.d p.x p.t p.vs ∧ OpFit p.a p.b p.d p.x p.vs := by
 obtain ⟨A0, B, D, X, T, V, cA, cB, cD, cX, cT, cV, j0, j1, j2, j3, j4, j5, j6, j7, j8, j9, hO, hF⟩ := h
 exact ⟨A0, B, D, X, T, V, cA, cB, cD, cX, cT, cV, ⟨j0, j1, j2, j3, j4, j5, j6, j7, j8, j9⟩, hO, hF⟩
set_option maxHeartbeats 4000000 in
set_option maxRecDepth 100000 in
theorem strewn_calls {w : World} {A : Option Addr} {c : Nat} {ps : List COp} (ht : Terms w) (hO : OpsC w A ps) (hc : ps.length ≤ c) (hn : ps.length ≤ 2147483647) :
  Calls Tryd.prog 18 #[.slice A ps.length c] w fun e w' => e = .returned (.bool true) ∧ Below w.heap.size w w' := by
 have hu78 := Tryd.underlying78
 obtain ⟨N, hN⟩ : ∃ N, ps.length = N := ⟨_, rfl⟩
 have HN := Lib.hid hN
 rw [hN] at hc hn ⊢
 have HO := Lib.hid hO
 have HT := Lib.hid ht
 have HNL := Lib.hid hn
 clear hN hO ht hn hc
 go_enter Tryd.func18, Tryd.ntmps18
 obtain ⟨GK, hGK⟩ : ∃ y, y = w.heap.size := ⟨_, rfl⟩
 go_upto_region 2 with (fail)
 obtain ⟨W, hW⟩ : ∃ y, y = w.alloc (.cells #[.slice none 0 0, .slice none 0 0, .slice none 0 0] 78) := ⟨_, rfl⟩
 have hb1 : W.heap[GK]? = some (.cells #[.slice none 0 0, .slice none 0 0, .slice none 0 0] 78 (0, 0)) := by rw [hW, hGK]; exact blk_new _ _
 have hbl : Below w.heap.size w W := by rw [hW]; exact below_alloc (Below.refl _ _) _
 rw [← hW, ← hGK]
 have cnil : ∀ {α : Type} (kd : Kd α) (eo ei : Nat), Cl kd eo ei W w.heap.size 0 (.slice none 0 0) [] [] := fun kd eo ei => ⟨Col.nil _ _ _ _, (fun i j f f' _ h => absurd h (by simp)), Nat.le_refl _, (fun y hy => absurd hy List.not_mem_nil), (fun k hk => by cases hk), (fun f hf => absurd hf List.not_mem_nil)⟩
 have HK : Hid (Kp W GK w.heap.size (192 * 0)) := Lib.hid ⟨_, _, _, [], [], [], [], [], [], hb1, by omega, cnil _ _ _, cnil _ _ _, cnil _ _ _⟩
 have HB := Lib.hid hbl
 clear hW hb1 hbl hGK cnil
 go_wp2
 go_loopw [4] (fun y wr => ∃ i : Nat, y = .int .i64 (i : Int) ∧ i ≤ N ∧ i ≤ 40 ∧ Kp wr GK w.heap.size (192 * i) ∧ Below w.heap.size w wr) (fun y _ => N - (intOf y).toNat)
 case atStart => exact ⟨0, rfl, Nat.zero_le _, by omega, HK.out, HB.out⟩
 case round =>
  rename World => wa
  clear HK HB
  obtain ⟨i, rfl, hi, hi4, hK, hb⟩ := hrel
  have HK := Lib.hid hK
  have HB := Lib.hid hb
  clear hK hb
  by_cases hlt : i < N ∧ i < 40
  ·obtain ⟨hl1, hl2⟩ := hlt
   have d1 : decide ((i : Int) < (N : Int)) = true := decide_eq_true (by omega)
   have d2 : decide (i < N) = true := decide_eq_true hl1
   have d3 : decide ((i : Int) < 40) = true := decide_eq_true (by omega)
   obtain ⟨k, hk⟩ : ∃ k, (i + 1) % N = k := ⟨_, rfl⟩
   have hkN : k < N := by rw [← hk]; exact Nat.mod_lt _ (by omega)
   have hmod : Int.tmod ((i : Int) + 1) (N : Int) = (k : Int) := by rw [← hk]; rfl
   obtain ⟨p, hp⟩ : ∃ p, ps[i]? = some p := ⟨_, List.getElem?_eq_getElem (by rw [HN.out]; exact hl1)⟩
   obtain ⟨p', hp'⟩ : ∃ p, ps[k]? = some p := ⟨_, List.getElem?_eq_getElem (by rw [HN.out]; exact hkN)⟩
   obtain ⟨ad, e1, hA⟩ := HO.out.2 i p hp
   obtain ⟨ad', e2, hA'⟩ := HO.out.2 k p' hp'
   rw [e1] at e2
   cases e2
   subst e1
   have HA := Lib.hid hA
   have HA' := Lib.hid hA'
   have HL1 := Lib.hid hl1
   have HL2 := Lib.hid hl2
   have q0 : (0 : Int) ≤ (i : Int) := by omega
   have q1 : (i : Int) < (N : Int) := by omega
   have q2 : (0 : Int) ≤ (k : Int) := by omega
   have q3 : (k : Int) < (N : Int) := by omega
   have q4 : (N : Int) ≠ 0 := by omega
   have q5 : ((N : Int) = 0) = False := eq_false q4
   have q6 : (N = 0) = False := eq_false (by omega)
   have hw1 : wrap64 ((i : Int) + 1) = (i : Int) + 1 := by unfold wrap64; omega
   have hmod2 : Int.tmod (wrap64 ((i : Int) + 1)) (N : Int) = (k : Int) := by rw [hw1]; exact hmod
   clear hw1
   obtain ⟨A0, B, D, X, T, V, cA, cB, cD, cX, cT, cV, ⟨k0, k1, k2, k3, k4, k5, k6, k7, k8, k9⟩, hO, hF⟩ := (hA.below HB.out).open_
   have HO2 := Lib.hid hO
   have HF := Lib.hid hF
   clear hA hA' hO hF hk hkN hp hp' hi hi4 hl1 hl2
   go_wp2_with fail
   refine (keeps_calls p.kd p.rw p.cl p.n wa HK.out (HT.out.below HB.out) HO2.out HF.out (by have := HL2.out; omega) HB.out.size).mono ?_
   rintro e wb ⟨rfl, hK2, hb2⟩
   have HK2 := Lib.hid hK2
   have HB2 := Lib.hid (HB.out.trans hb2)
   clear k0 k1 k2 k3 k4 k5 k6 k7 k8 k9 hK2 hb2 HK HO2 HF
   obtain ⟨A1, B1, D1, X1, T1, V1, cA1, cB1, cD1, cX1, cT1, cV1, ⟨k0, k1, k2, k3, k4, k5, k6, k7, k8, k9⟩, hO, hF⟩ := (HA'.out.below HB2.out).open_
   have HO2 := Lib.hid hO
   have HF := Lib.hid hF
   clear hO hF
   go_wp2_with fail
   refine (keeps_calls p'.kd p'.rw p'.cl p'.n wb HK2.out (HT.out.below HB2.out) HO2.out HF.out (by have := HL2.out; omega) HB2.out.size).mono ?_
   rintro e wc ⟨rfl, hK2, hb2⟩
   have HK3 := Lib.hid hK2
   have HB3 := Lib.hid (HB2.out.trans hb2)
   clear k0 k1 k2 k3 k4 k5 k6 k7 k8 k9 hK2 hb2 HK2 HO2 HF
   obtain ⟨A2, B2, D2, X2, T2, V2, cA2, cB2, cD2, cX2, cT2, cV2, ⟨k0, k1, k2, k3, k4, k5, k6, k7, k8, k9⟩, hO, hF⟩ := (HA.out.below HB3.out).open_
   have HO2 := Lib.hid hO
   have HF := Lib.hid hF
   clear hO hF
   go_wp2_with fail
   refine (keeps_calls p.kd p.rw p.cl p.n wc HK3.out (HT.out.below HB3.out) HO2.out HF.out (by have := HL2.out; omega) HB3.out.size).mono ?_
   rintro e wd ⟨rfl, hK2, hb2⟩
   have HK4 : Hid (Kp wd GK w.heap.size (192 * (i + 1))) := Lib.hid (by rw [show 192 * (i + 1) = 192 * i + 64 + 64 + 64 by omega]; exact hK2)
   have HB4 := Lib.hid (HB3.out.trans hb2)
   clear k0 k1 k2 k3 k4 k5 k6 k7 k8 k9 hK2 hb2 HK3 HO2 HF hmod hmod2
   go_wp2
   try rw [up1 (by have := HL2.out; omega)]
   go_roundw
   case rel => exact ⟨i + 1, by first | rfl | (rw [Int.natCast_add]; rfl), HL1.out, HL2.out, HK4.out, HB4.out⟩
   case measure => have := HL1.out; simp [intOf]; omega
  ·have HK2 : Hid (192 * i ≤ 1048576) := Lib.hid (by omega)
   have hcase : (decide ((i : Int) < (N : Int)) && decide ((i : Int) < 40)) = false := by
    rw [Bool.and_eq_false_iff]
    by_cases h1 : i < N
    ·exact .inr (decide_eq_false (by omega))
    ·exact .inl (decide_eq_false (by omega))
   have fin : Hid (∀ wn, Kp wn GK w.heap.size (192 * i) → Below w.heap.size w wn → Calls Tryd.prog 46 #[.pointer (some ⟨GK, 0, none⟩)] wn fun e w' => e = .returned (.bool true) ∧ Kp w' GK w.heap.size (192 * i) ∧ Below w.heap.size w w') := Lib.hid (fun wn hk hb => (narrows_calls wn hk HK2.out hb.size).mono (fun _ _ ⟨h1, h2, h3⟩ => ⟨h1, h2, hb.trans h3⟩))
   by_cases h1 : i < N
   ·have d1 : decide ((i : Int) < (N : Int)) = true := decide_eq_true (by omega)
    have d2 : decide (i < N) = true := decide_eq_true h1
    have d3 : decide ((i : Int) < 40) = false := decide_eq_false (by omega)
    clear hlt hcase hi hi4 h1
    go_wp2_with fail
    refine (fin.out wa HK.out HB.out).mono ?_
    rintro e wb ⟨rfl, hk1, hb1⟩
    have HK1 := Lib.hid hk1
    have HB1 := Lib.hid hb1
    clear hk1 hb1 d1 d2 d3
    go_wp2_with fail
    refine (wides_calls wb HK1.out HK2.out HB1.out.size).mono ?_
    rintro e wc ⟨rfl, hk1, hb1⟩
    have HK3 := Lib.hid hk1
    have HB3 := Lib.hid (HB1.out.trans hb1)
    clear hk1 hb1
    go_wp2_with fail
    refine (tables_calls wc HK3.out HK2.out HB3.out.size).mono ?_
    rintro e wd ⟨rfl, hk1, hb1⟩
    have HB4 := Lib.hid (HB3.out.trans hb1)
    clear hk1 hb1
    go_wp2
    go_ret
    exact ⟨rfl, HB4.out⟩
   ·have d1 : decide ((i : Int) < (N : Int)) = false := decide_eq_false (by omega)
    have d2 : decide (i < N) = false := decide_eq_false h1
    clear hlt hcase hi hi4 h1
    go_wp2_with fail
    refine (fin.out wa HK.out HB.out).mono ?_
    rintro e wb ⟨rfl, hk1, hb1⟩
    have HK1 := Lib.hid hk1
    have HB1 := Lib.hid hb1
    clear hk1 hb1 d1 d2
    go_wp2_with fail
    refine (wides_calls wb HK1.out HK2.out HB1.out.size).mono ?_
    rintro e wc ⟨rfl, hk1, hb1⟩
    have HK3 := Lib.hid hk1
    have HB3 := Lib.hid (HB1.out.trans hb1)
    clear hk1 hb1
    go_wp2_with fail
    refine (tables_calls wc HK3.out HK2.out HB3.out.size).mono ?_
    rintro e wd ⟨rfl, hk1, hb1⟩
    have HB4 := Lib.hid (HB3.out.trans hb1)
    clear hk1 hb1
    go_wp2
    go_ret
    exact ⟨rfl, HB4.out⟩
end Wk
end Go.Proofs.YtnioohhiphpplaaDoor.Dp
