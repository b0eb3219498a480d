/- The walk of Kept.narrows. -/
import Derived.Test.YtnioohhiphpplaaDoorLn
import Derived.Test.YtnioohhiphpplaaDoorSq
set_option linter.unusedVariables false
set_option linter.unusedSimpArgs false
namespace Go.Proofs.YtnioohhiphpplaaDoor.Dp
open Go.RowKit Go.Proofs.YtnioohhiphpplaaDoor.Pplays Go.Proofs.YtnioohhiphpplaaDoorW.PrintWords Go.Proofs.YtnioohhiphpplaaDoorW.PrintLast Go.Proofs.YtnioohhiphpplaaDoorW.PrintMore Go.Proofs.YtnioohhiphpplaaDoor.M Go.Proofs.YtnioohhiphpplaaDoor.Wk Go.Lib
namespace Wk
section
variable {P : Program} {ops : Array Oper} {Q : Exit → Act → World → Prop} {md : Region.Mode} {S : World → Prop} {ds : List Nat} {oi : Oper} {v : Value} {fuel : Nat} {l l' : Array Bool} {a a' : Act} {w w1 : World}
theorem pb_ (i : Nat) (N : Tmp) (h : wpAnyLast P md ops Q S ds fuel (l') a' w) (hl : l.setIfInBounds i true = l' := by (simp only [List.setIfInBounds_toArray, List.set_cons_zero, List.set_cons_succ]; rfl)) (hi : ops[i]? = some oi := by rfl) (hN : oi.dst = some N := by rfl) (hc : anyB md ops l (l') i = true := by kernel_rfl) (hQ : ∀ c a w, Q (.panic c) (a.put oi.dst v) w → Q (.panic c) a w := by exact fun _ _ _ h => h) (hy : Yields P ops oi v a := by (refine Or.inl ⟨by rfl, ?_⟩; intro w'; go_simp; with_reducible rfl)) (ha : a.put (some N) v = a' := by (simp only [Act.put, List.setIfInBounds_toArray, List.set_cons_zero, List.set_cons_succ, i64_w, i32_w]; rfl)) : wpAnyLast P md ops Q S ds (fuel + 1) l a w := pure_ _ hi hN hc hQ hy ha h
theorem qb_ (i : Nat) (N : Tmp) (h : wpAnyLast P md ops Q S ds fuel (l') a' w) (hl : l.setIfInBounds i true = l' := by (simp only [List.setIfInBounds_toArray, List.set_cons_zero, List.set_cons_succ]; rfl)) (hi : ops[i]? = some oi := by rfl) (hN : oi.dst = some N := by rfl) (hc : anyB md ops l (l') i = true := by kernel_rfl) (hQ : ∀ c a w, Q (.panic c) (a.put oi.dst undef) w → Q (.panic c) a w := by exact fun _ _ _ h => h) (hw : Region.wanted oi (yielded ops a.tmps) = false := by rfl) (ha : a.put (some N) undef = a' := by (simp only [Act.put, List.setIfInBounds_toArray, List.set_cons_zero, List.set_cons_succ, i64_w, i32_w]; rfl)) : wpAnyLast P md ops Q S ds (fuel + 1) l a w := pure_ _ hi hN hc hQ (Or.inr ⟨hw, rfl⟩) ha h
theorem tb_' (i : Nat) (N : Tmp) (hS : S w) (h : wpAnyLast P md ops Q S ds fuel (l') a' w) (hl : l.setIfInBounds i true = l' := by (simp only [List.setIfInBounds_toArray, List.set_cons_zero, List.set_cons_succ]; rfl)) (hi : ops[i]? = some oi := by rfl) (hN : oi.dst = some N := by rfl) (hc : takeB md ops ds l (l') i = true := by kernel_rfl) (hQ : ∀ c a w, Q (.panic c) (a.put oi.dst v) w → Q (.panic c) a w := by exact fun _ _ _ h => h) (hy : YieldsIf P ops S oi v a := by (refine Or.inl ⟨by rfl, ?_⟩; intro w' hs; (try dsimp only at hs); go_simp; with_reducible rfl)) (ha : a.put (some N) v = a' := by (simp only [Act.put, List.setIfInBounds_toArray, List.set_cons_zero, List.set_cons_succ, i64_w, i32_w]; rfl)) : wpAnyLast P md ops Q S ds (fuel + 1) l a w := take_ _ hi hN hc hQ hy hS ha h
theorem ob_' (i : Nat) (N : Option Tmp) (h : ∀ K : Act → World → Prop, Shut (∀ a' w', S w' → (S w' → wpAnyLast P md ops Q S ds fuel (l') a' w') → K a' w') → if Region.wanted oi (yielded ops a.tmps) = true then Oper.wp P oi a w K Q else K (a.put N undef) w) (hl : l.setIfInBounds i true = l' := by (simp only [List.setIfInBounds_toArray, List.set_cons_zero, List.set_cons_succ]; rfl)) (hi : ops[i]? = some oi := by rfl) (hN : oi.dst = N := by rfl) (hc : readyB md ops l (l') i = true := by kernel_rfl) (hd : i ∉ ds := by decide) : wpAnyLast P md ops Q S ds (fuel + 1) l a w := one_ _ hi hN hc hd h
theorem lb_' (i : Nat) (N : Option Tmp) (h : ∀ K : Act → World → Prop, Shut (∀ a' w', wpAnyLast P md ops Q S ds fuel (l') a' w' → K a' w') → if Region.wanted oi (yielded ops a.tmps) = true then Oper.wp P oi a w K Q else K (a.put N undef) w) (hl : l.setIfInBounds i true = l' := by (simp only [List.setIfInBounds_toArray, List.set_cons_zero, List.set_cons_succ]; rfl)) (hi : ops[i]? = some oi := by rfl) (hN : oi.dst = N := by rfl) (hc : readyB md ops l (l') i = true := by kernel_rfl) (hd : i ∈ ds := by decide) : wpAnyLast P md ops Q S ds (fuel + 1) l a w := last_ _ hi hN hc hd h
theorem pc_ (i : Nat) (N : Tmp) (h : wpAnyLast P md ops Q S ds fuel (l') a' w) (hl : l.setIfInBounds i true = l' := by (simp only [List.setIfInBounds_toArray, List.set_cons_zero, List.set_cons_succ]; rfl)) (hi : ops[i]? = some oi := by rfl) (hN : oi.dst = some N := by rfl) (hc : anyB md ops l (l') i = true := by exact any_of HT_.out (by kernel_rfl)) (hQ : ∀ c a w, Q (.panic c) (a.put oi.dst v) w → Q (.panic c) a w := by exact fun _ _ _ h => h) (hy : Yields P ops oi v a := by (refine Or.inl ⟨by rfl, ?_⟩; intro w'; go_simp; with_reducible rfl)) (ha : a.put (some N) v = a' := by (simp only [Act.put, List.setIfInBounds_toArray, List.set_cons_zero, List.set_cons_succ, i64_w, i32_w]; rfl)) : wpAnyLast P md ops Q S ds (fuel + 1) l a w := pure_ _ hi hN hc hQ hy ha h
theorem qc_ (i : Nat) (N : Tmp) (h : wpAnyLast P md ops Q S ds fuel (l') a' w) (hl : l.setIfInBounds i true = l' := by (simp only [List.setIfInBounds_toArray, List.set_cons_zero, List.set_cons_succ]; rfl)) (hi : ops[i]? = some oi := by rfl) (hN : oi.dst = some N := by rfl) (hc : anyB md ops l (l') i = true := by exact any_of HT_.out (by kernel_rfl)) (hQ : ∀ c a w, Q (.panic c) (a.put oi.dst undef) w → Q (.panic c) a w := by exact fun _ _ _ h => h) (hw : Region.wanted oi (yielded ops a.tmps) = false := by rfl) (ha : a.put (some N) undef = a' := by (simp only [Act.put, List.setIfInBounds_toArray, List.set_cons_zero, List.set_cons_succ, i64_w, i32_w]; rfl)) : wpAnyLast P md ops Q S ds (fuel + 1) l a w := pure_ _ hi hN hc hQ (Or.inr ⟨hw, rfl⟩) ha h
theorem tc_ (i : Nat) (N : Tmp) (hS : S w) (h : wpAnyLast P md ops Q S ds fuel (l') a' w) (hl : l.setIfInBounds i true = l' := by (simp only [List.setIfInBounds_toArray, List.set_cons_zero, List.set_cons_succ]; rfl)) (hi : ops[i]? = some oi := by rfl) (hN : oi.dst = some N := by rfl) (hc : takeB md ops ds l (l') i = true := by exact take_ofW HT_.out HW_.out (by kernel_rfl)) (hQ : ∀ c a w, Q (.panic c) (a.put oi.dst v) w → Q (.panic c) a w := by exact fun _ _ _ h => h) (hy : YieldsIf P ops S oi v a := by (refine Or.inl ⟨by rfl, ?_⟩; intro w' hs; (try dsimp only at hs); go_simp; with_reducible rfl)) (ha : a.put (some N) v = a' := by (simp only [Act.put, List.setIfInBounds_toArray, List.set_cons_zero, List.set_cons_succ, i64_w, i32_w]; rfl)) : wpAnyLast P md ops Q S ds (fuel + 1) l a w := take_ _ hi hN hc hQ hy hS ha h
theorem oc_ (i : Nat) (N : Option Tmp) (h : ∀ K : Act → World → Prop, Shut (∀ a' w', S w' → (S w' → wpAnyLast P md ops Q S ds fuel (l') a' w') → K a' w') → if Region.wanted oi (yielded ops a.tmps) = true then Oper.wp P oi a w K Q else K (a.put N undef) w) (hl : l.setIfInBounds i true = l' := by (simp only [List.setIfInBounds_toArray, List.set_cons_zero, List.set_cons_succ]; rfl)) (hi : ops[i]? = some oi := by rfl) (hN : oi.dst = N := by rfl) (hc : readyB md ops l (l') i = true := by exact one_of HT_.out (by kernel_rfl)) (hd : i ∉ ds := by decide) : wpAnyLast P md ops Q S ds (fuel + 1) l a w := one_ _ hi hN hc hd h
end
def lo_T : Bool × List (List Nat × List Nat) := (true, [([], []), ([], []), ([0, 1], [0, 1]), ([2], [2]), ([3], [3]), ([3], [3]), ([4, 5, 3], [3, 4, 5]), ([6, 3], [3, 6]), ([3], [3]), ([7, 8, 3], [3, 7, 8]), ([9, 3], [3, 9]), ([3], [3]), ([3], [3]), ([11, 12, 3, 3], [3, 11, 12]), ([10, 13, 3], [3, 10, 13]), ([14, 13, 3], [3, 14]), ([15], [15]), ([16, 15], [15, 16]), ([17, 15], [15, 17]), ([18, 15], [15, 18]), ([15], [15]), ([19, 20, 15], [15, 19, 20]), ([21, 15], [15, 21]), ([15], [15]), ([22, 23, 15], [15, 22, 23]), ([24, 15], [15, 24]), ([15], [15]), ([15], [15]), ([26, 27, 15, 15], [15, 26, 27]), ([25, 28, 15], [15, 25, 28]), ([15, 29, 3], [3, 15, 29]), ([3, 30], [3, 30]), ([31, 28], [31]), ([32], [32]), ([32], [32]), ([33, 34, 32], [32, 33, 34]), ([35, 32, 32], [32, 35]), ([36], [36]), ([36], [36]), ([37, 38, 36], [36, 37, 38]), ([39, 36], [36, 39]), ([36], [36]), ([40, 41, 36], [36, 40, 41]), ([42, 36], [36, 42]), ([36], [36]), ([36], [36]), ([36], [36]), ([45, 46, 36], [36, 45, 46]), ([44, 47, 36, 36], [36, 44, 47]), ([48, 36], [36, 48]), ([43, 49, 36], [36, 43, 49]), ([36, 50, 32], [32, 36, 50]), ([32, 51], [32, 51])])
theorem lo_tab : rtab .any (opsOf Tryd.f46 25) = lo_T := by kernel_rfl
theorem lo_bits : waitsOk lo_T.2 [0, 0, 3, 7, 15, 15, 63, 127, 15, 511, 1023, 15, 15, 6159, 16383, 32767, 65535, 131071, 262143, 524287, 65535, 2097151, 4194303, 65535, 16777215, 33554431, 65535, 65535, 201392127, 536870911, 1073741823, 2147483647, 4294967295, 8589934591, 8589934591, 34359738367, 68719476735, 137438953471, 137438953471, 549755813887, 1099511627775, 137438953471, 4398046511103, 8796093022207, 137438953471, 137438953471, 137438953471, 105690555219967, 264020229619711, 545495206330367, 1125899906842623, 2251799813685247, 4503599627370495] = true := by kernel_rfl
def OtN (GK base Bd : Nat) (N W T : Value) (fW fT : List Tr) (xW : List (List Int)) (xT : List (List S87)) (w : World) : Prop := w.heap[GK]? = some (.cells #[N, W, T] 78 (0, 0)) ∧ Cl (Kd.int .i64) 22 2 w base Bd W fW xW ∧ Cl k87 37 87 w base Bd T fT xT
section
variable {GK base Bd : Nat} {N W T : Value} {fW fT : List Tr} {xW : List (List Int)} {xT : List (List S87)}
theorem OtN.sta : Sta 33 57 (OtN GK base Bd N W T fW fT xW xT) :=
 ⟨fun W W1 row h hg hr => ⟨ot_blk h.1 hg hr (by decide) (by decide), h.2.1.other rfl hg (ot_ne hr (by decide) (by decide) (by decide) (by decide)), h.2.2.other rfl hg (ot_ne hr (by decide) (by decide) (by decide) (by decide))⟩, fun W W1 h hb => ⟨blk_below h.1 hb, h.2.1.below hb, h.2.2.below hb⟩⟩
end
set_option maxHeartbeats 8000000 in
set_option maxRecDepth 100000 in
theorem narrows_calls {GK base Bd : Nat} (w : World) (hK : Kp w GK base Bd) (hd : Bd ≤ 1048576) (hbt : base ≤ w.heap.size) :
  Calls Tryd.prog 46 #[.pointer (some ⟨GK, 0, none⟩)] w fun e w' => e = .returned (.bool true) ∧ Kp w' GK base Bd ∧ Below base w w' := by
 have hu78 := Tryd.underlying78
 obtain ⟨V, Wv, T, fs, fW, fT, xN, xW, xT, h⟩ := hK
 obtain ⟨AV, cV, hV⟩ := Kd.R_slice h.cN.col.out
 obtain ⟨L, hL⟩ : ∃ L, L = fs.length := ⟨_, rfl⟩
 rw [← hL] at hV
 subst hV
 obtain ⟨P, hPe⟩ : ∃ P, P = OtN GK base Bd (.slice AV L cV) Wv T fW fT xW xT := ⟨_, rfl⟩
 have HP : Hid (Sta 33 57 P) := Lib.hid (by rw [hPe]; exact OtN.sta)
 have HPB : Hid (∀ W, P W → W.heap[GK]? = some (.cells #[.slice AV L cV, Wv, T] 78 (0, 0))) := Lib.hid (by rw [hPe]; exact fun W h => h.1)
 have HL := Lib.hid hL
 have HLB : Hid (L ≤ 1048576) := Lib.hid (by rw [hL]; exact Nat.le_trans h.cN.lens.1 hd)
 have HM0 := Lib.hid (h.cN.mk_ (0 : Int))
 obtain ⟨G0, hG0⟩ : ∃ G0, G0 = (fun i j => ((xN.getD i []).getD j (0 : Int))) := ⟨_, rfl⟩
 rw [← hG0] at HM0
 have HCW := Lib.hid h.cN
 have HP0 : Hid (P w) := Lib.hid (by rw [hPe]; exact ⟨h.blk, h.cW, h.cT⟩)
 have HGB := Lib.hid h.hG
 have HPE := Lib.hid hPe
 obtain ⟨F, hF⟩ : ∃ F : Nat → Nat → Int, F = fun (i j : Nat) => sg (i : Int) j := ⟨_, rfl⟩
 obtain ⟨H, hH⟩ : ∃ H : Nat → Nat → Int, H = fun (i j : Nat) => IntKind.i8.wrap (-1 - sg (i : Int) j) := ⟨_, rfl⟩
 have HF : Hid (∀ i j, F i j = sg (i : Int) j) := Lib.hid (fun i j => by rw [hF])
 have HH : Hid (∀ i j, H i j = IntKind.i8.wrap (-1 - sg (i : Int) j)) := Lib.hid (fun i j => by rw [hH])
 clear h hL hG0 hPe hF hH hd
 go_enter Tryd.func46, Tryd.ntmps46
 go_wp2
 go_loopw [3] (fun y wr => ∃ i : Nat, y = .int .i64 (i : Int) ∧ i ≤ L ∧ Mk (Kd.int .i8) 33 57 wr (.slice AV L cV) fs (loG F G0 i 0) ∧ P wr ∧ Below base w wr) (fun y _ => L - (intOf y).toNat)
 case atStart => exact ⟨0, rfl, Nat.zero_le _, HM0.out.congr fun i f hf j hj => by unfold loG; rw [if_neg (by omega)], HP0.out, Below.refl _ _⟩
 case round =>
  rename World => wa
  clear HM0 HP0
  obtain ⟨i, rfl, hi, hM, hp, hb⟩ := hrel
  have HM := Lib.hid hM
  have HPa := Lib.hid hp
  have HB := Lib.hid hb
  have c1 : wa.cell? ⟨GK, 0, none⟩ = some (.slice AV L cV) := (blk_cell (HPB.out wa hp) 0).trans rfl
  clear hM hp hb
  by_cases hlt : i < L
  ·have d1 : decide ((i : Int) < (L : Int)) = true := decide_eq_true (by omega)
   have d2 : decide (i < L) = true := decide_eq_true hlt
   obtain ⟨⟨Ai, mi, ci⟩, hfi⟩ : ∃ f, fs[i]? = some f := ⟨_, List.getElem?_eq_getElem (by rw [← HL.out]; exact hlt)⟩
   have hmi : mi ≤ 16777216 := HCW.out.lens.2 _ (List.mem_of_getElem? hfi)
   obtain ⟨gV, cV', hV, _, _⟩ := Row.outer HM.out.out hfi
   obtain ⟨rfl, -, rfl⟩ := Value.slice.inj hV
   have HFI := Lib.hid hfi
   have HLT := Lib.hid hlt
   have q0 : (0 : Int) ≤ (i : Int) := by omega
   have q1 : (i : Int) < (L : Int) := by omega
   have HLC : Hid (∀ W G, Mk (Kd.int .i8) 33 57 W (.slice (some ⟨gV, 0, none⟩) L cV) fs G → W.cell? ⟨gV, i, none⟩ = some (.slice Ai mi ci)) := Lib.hid (fun W G hm => by
    obtain ⟨g, c', hv, h1, _⟩ := Row.outer hm.out HFI.out
    cases hv
    exact h1)
   clear hV hfi hi hlt
   go_upto_block 2 with (fail)
   go_wp2
   go_loopw [4] (fun y wr => ∃ j : Nat, y = .int .i64 (j : Int) ∧ j ≤ mi ∧ Mk (Kd.int .i8) 33 57 wr (.slice (some ⟨gV, 0, none⟩) L cV) fs (loG F G0 i j) ∧ P wr ∧ Below base w wr) (fun y _ => mi - (intOf y).toNat)
   case atStart => exact ⟨0, rfl, Nat.zero_le _, HM.out, HPa.out, HB.out⟩
   case round =>
    rename World => wb
    clear HM HPa HB
    obtain ⟨j, rfl, hj, hM, hp, hb⟩ := hrel
    have HM := Lib.hid hM
    have HPa := Lib.hid hp
    have HB := Lib.hid hb
    have c1 : wb.cell? ⟨GK, 0, none⟩ = some (.slice (some ⟨gV, 0, none⟩) L cV) := (blk_cell (HPB.out wb hp) 0).trans rfl
    have cl := HLC.out wb _ hM
    clear hM hp hb
    by_cases hlt : j < mi
    ·have d3 : decide ((j : Int) < (mi : Int)) = true := decide_eq_true (by omega)
     have d4 : decide (j < mi) = true := decide_eq_true hlt
     have hMd := HM.out.below (below_drew (Below.refl _ _))
     have hr : Row (Kd.int .i8) 57 wb.drew (.slice Ai mi ci) (tg (loG F G0 i j i) mi) := hMd.row i _ HFI.out
     obtain ⟨gi, ci', hv, _, _, _⟩ := Kd.R_form hr (by rw [tg_length]; omega)
     rw [tg_length] at hv
     obtain ⟨rfl, -, rfl⟩ := Value.slice.inj hv
     obtain ⟨e0, e1⟩ := Kd.R_celln 0 hr (j : Int) (by omega) (by omega)
     rw [Int.toNat_natCast] at e0 e1
     obtain ⟨z0, hz0⟩ : ∃ z, rdOf 0 (tg (loG F G0 i j i) mi) (j : Int) = z := ⟨_, rfl⟩
     rw [hz0] at e0
     have hp := Kd.R_putg hr (j : Int) (F i j)
     rw [Int.toNat_natCast] at hp
     have HPU := Lib.hid hp
     have HMD := Lib.hid hMd
     have HLJ := Lib.hid hlt
     have q2 : (0 : Int) ≤ (j : Int) := by omega
     have q3 : (j : Int) < (mi : Int) := by omega
     have hj1 : (j : Int) ≤ 281474976710656 := by omega
     have HSG := Lib.hid (sign_calls (i : Int) j hj1 wb.drew)
     rw [← HF.out] at HSG
     clear hv hr hp hlt hj hMd hj1 hz0
     go_upto_region 7 with (fail)
     refine start_ (n := 13) (S := fun w' => w'.cell? ⟨GK, 0, none⟩ = some (.slice (some ⟨gV, 0, none⟩) L cV) ∧ w'.cell? ⟨gV, i, none⟩ = some (.slice (some ⟨gi, 0, none⟩) mi ci)) (ds := [12]) #[false, false, false, false, false, false, false, false, false, false, false, false, false] (by kernel_rfl) rfl rfl ⟨c1, cl⟩ (fun hHeld => ?_)
     refine pb_ 0 33 ?_
     refine pb_ 1 34 ?_
     refine pb_ 2 35 ?_
     refine pb_ 4 37 ?_
     refine pb_ 7 40 ?_
     refine pb_ 8 41 ?_
     refine pb_ 9 42 ?_
     refine tb_' 3 36 hHeld ?_
     refine pb_ 5 38 ?_
     refine tb_' 6 39 hHeld ?_
     refine ob_' 10 (some 43) (fun K hK => ?_)
     refine gs_ Tryd.func64 #[.int .i64 (i : Int), .int .i64 (j : Int)] ?_
     with_reducible refine (HSG.out).mono ?_
     rintro e wq ⟨rfl, rfl⟩
     refine ⟨_, rfl, ?_⟩
     refine hK.out _ _ ⟨c1, cl⟩ (fun hHeld => ?_)
     clear hK K
     refine nm_ 43 ?_
     refine pb_ 11 44 ?_
     refine lb_' 12 none (fun K hK => ?_)
     refine sk_ (hK.out _ _ ?_)
     clear hK K
     refine dn_ ?_
     go_wp2
     have hgr := HPU.out.2
     have hty : ∀ k, some gi = some k → ∃ cells t, wb.drew.heap[k]? = some (.cells cells t (0, 0)) ∧ (t = 33 ∨ t = 57) := fun k hk => by
      obtain ⟨c, hc⟩ := (HM.out.row i _ HFI.out).typed k hk
      exact ⟨c, 57, hc, .inr rfl⟩
     go_roundw
     case rel => exact ⟨j + 1, by rw [Int.natCast_add]; rfl, HLJ.out, by rw [← loG_step]; exact HMD.out.put rfl (by decide) HCW.out.apt HFI.out hgr HPU.out.1, HP.out.1 _ _ _ (HP.out.2 _ _ HPa.out (below_drew (Below.refl _ _))) hgr hty, (below_drew1 HB.out).setCell (HCW.out.oi _ (List.mem_of_getElem? HFI.out) gi rfl) _⟩
     case measure => have := HLJ.out; simp [intOf]; omega
    ·have d3 : decide ((j : Int) < (mi : Int)) = false := decide_eq_false (by omega)
     have d4 : decide (j < mi) = false := decide_eq_false hlt
     have hjm : mi ≤ j := by omega
     have HJM := Lib.hid hjm
     clear hlt hj hjm
     go_wp2
     try rw [up1 (by have := HLT.out; have := HLB.out; omega)]
     go_roundw
     case rel => exact ⟨i + 1, rfl, HLT.out, HM.out.next HFI.out HJM.out, HPa.out, HB.out⟩
     case measure => have := HLT.out; simp [intOf]; omega
  ·have d1 : decide ((i : Int) < (L : Int)) = false := decide_eq_false (by omega)
   have d2 : decide (i < L) = false := decide_eq_false hlt
   have HS := Lib.hid (S2.begin (H := H) (HM.out.done (by rw [← HL.out]; omega)) HPa.out HB.out)
   clear hlt hi HM HPa HB
   go_upto_block 4 with (fail)
   go_wp2
   clear d1 d2 c1
   go_loopw [5, 6] (fun M y wr => ∃ (i : Nat) (fM : List Tr), y = .int .i64 (i : Int) ∧ i ≤ L ∧ fM.length = i ∧ S2 (Kd.int .i8) 33 57 P base w (.slice AV L cV) M fs fM F H wr) (fun _ y _ => L - (intOf y).toNat)
   case atStart => exact ⟨0, [], rfl, Nat.zero_le _, rfl, HS.out⟩
   case round =>
    rename World => wb
    clear HS
    obtain ⟨i, fM, rfl, hi, hfl, hS⟩ := hrel
    obtain ⟨AM, cM, eM⟩ := Kd.R_slice hS.om
    rw [hfl] at eM
    subst eM
    have HS := Lib.hid hS
    have HFL := Lib.hid hfl
    have c1 : wb.cell? ⟨GK, 0, none⟩ = some (.slice AV L cV) := (blk_cell (HPB.out wb hS.p) 0).trans rfl
    clear hS hfl
    by_cases hlt : i < L
    ·have d1 : decide ((i : Int) < (L : Int)) = true := decide_eq_true (by omega)
     have d2 : decide (i < L) = true := decide_eq_true hlt
     obtain ⟨⟨Ai, mi, ci⟩, hfi⟩ : ∃ f, fs[i]? = some f := ⟨_, List.getElem?_eq_getElem (by rw [← HL.out]; exact hlt)⟩
     have hmi : mi ≤ 16777216 := HCW.out.lens.2 _ (List.mem_of_getElem? hfi)
     obtain ⟨gV, cV', hV, cl, _⟩ := Row.outer HS.out.mk_.out hfi
     obtain ⟨rfl, -, rfl⟩ := Value.slice.inj hV
     have hG := HS.out.start HCW.out.apt hfi HFL.out (HCW.out.oi _ (List.mem_of_getElem? hfi))
     have HG := Lib.hid hG
     have HFI := Lib.hid hfi
     have HLT := Lib.hid hlt
     have q0 : (0 : Int) ≤ (i : Int) := by omega
     have q1 : (i : Int) < (L : Int) := by omega
     clear hV hG hfi hi hlt
     go_upto_block 6 with (fail)
     go_wp2
     clear c1 cl
     go_loopw [7, 8] (fun g y wr => ∃ k : Nat, y = .int .i64 (k : Int) ∧ k ≤ 64 ∧ S2g (Kd.int .i8) 33 57 P base w (.slice (some ⟨gV, 0, none⟩) L cV) (.slice AM i cM) fs fM F H i (Ai, mi, ci) k g wr) (fun _ y _ => 64 - (intOf y).toNat)
     case atStart => exact ⟨0, rfl, by omega, HG.out⟩
     case round =>
      rename World => wc
      clear HG
      obtain ⟨k, rfl, hk, hG⟩ := hrel
      obtain ⟨Ag, cg, eg⟩ := Kd.R_slice hG.rg
      rw [List.length_append, tg_length, tg_length] at eg
      subst eg
      have HG := Lib.hid hG
      clear hG
      by_cases hlt : k < 64
      ·have d3 : decide ((k : Int) < 64) = true := decide_eq_true (by omega)
       have HLK := Lib.hid hlt
       have hk1 : (k : Int) ≤ 281474976710656 := by omega
       have HSG := Lib.hid (sign_calls (i : Int) k hk1 wc)
       have hHk : IntKind.i8.wrap (-1 - sg (i : Int) k) = H i k := (HH.out i k).symm
       clear hlt hk hk1
       go_wp2_with fail
       refine HSG.out.mono ?_
       rintro e wq ⟨rfl, rfl⟩
       clear HSG
       go_wp2_with ((with_reducible refine gate_builtin (b := .append) (xs := #[.tmp 65, .tmp 70]) rfl ?_); at_builtin; refine R_append2 (d := Kd.int .i8) rfl 0 rfl (.tmp 65) (.tmp 70) 33 57 (.int .i8 0) 1 rfl Tryd.underlying33 linfo57 rfl (by decide) (by omega) (.slice Ag (mi + k) cg) (tg (F i) mi ++ tg (H i) k) (H i k) [.int .i8 (H i k)] rfl rfl rfl HG.out.rg (Nat.zero_le _) (by rw [List.length_append, tg_length, tg_length]; have := HLK.out; omega) ?_; intro v8 w8 hR hRo hg hx)
       have hB : base ≤ wq.heap.size := Nat.le_trans hbt HG.out.st.bel.size
       have hG8 := HG.out.step rfl (by decide) HP.out hB hR hRo hg hx
       clear hHk
       try rw [up1 (by have := HLK.out; omega)]
       go_roundw
       case rel => exact ⟨k + 1, rfl, HLK.out, hG8⟩
       case measure => have := HLK.out; simp [intOf]; omega
      ·have d3 : decide ((k : Int) < 64) = false := decide_eq_false (by omega)
       obtain rfl : k = 64 := by omega
       clear hlt hk
       have hB : base ≤ wc.heap.size := Nat.le_trans hbt HG.out.st.bel.size
       go_wp2_with ((with_reducible refine gate_builtin (b := .append) (xs := #[.tmp 72, .tmp 74]) rfl ?_); at_builtin; refine R_append2 (d := slKd) rfl 0 rfl (.tmp 72) (.tmp 74) 36 33 (.slice none 0 0) 24 rfl Tryd.underlying36 linfo33 rfl (by decide) (by omega) (.slice AM i cM) fM (Ag, mi + 64, cg) [.slice Ag (mi + 64) cg] rfl rfl rfl HG.out.st.om (Nat.zero_le _) (by rw [HFL.out]; have := HLT.out; have := HLB.out; omega) ?_; intro v8 w8 hR hRo hg hx)
       have hS8 := S2g.push (gf := (Ag, mi + 64, cg)) rfl (by decide) HP.out hB HG.out rfl hR hg hx
       try rw [up1 (by have := HLT.out; have := HLB.out; omega)]
       go_roundw
       case rel => exact ⟨i + 1, _, rfl, HLT.out, by rw [List.length_append, HFL.out]; rfl, hS8⟩
       case measure => have := HLT.out; simp [intOf]; omega
    ·have d1 : decide ((i : Int) < (L : Int)) = false := decide_eq_false (by omega)
     have d2 : decide (i < L) = false := decide_eq_false hlt
     obtain rfl : i = L := by omega
     clear hlt hi
     go_upto_block 8 with (fail)
     go_wp2
     clear c1 d1 d2
     go_loopw [9] (fun y wr => ∃ q : Nat, y = .int .i64 (q : Int) ∧ q ≤ i ∧ Below wb.heap.size wb wr) (fun y _ => i - (intOf y).toNat)
     case atStart => exact ⟨0, rfl, Nat.zero_le _, Below.refl _ _⟩
     case round =>
      rename World => wd
      obtain ⟨q, rfl, hq, hb⟩ := hrel
      have HB := Lib.hid hb
      have c1 : wd.cell? ⟨GK, 0, none⟩ = some (.slice AV i cV) := pw_cell_below hb ((blk_cell (HPB.out wb HS.out.p) 0).trans rfl)
      clear hb
      by_cases hlt : q < i
      ·have d1 : decide ((q : Int) < (i : Int)) = true := decide_eq_true (by omega)
       have d2 : decide (q < i) = true := decide_eq_true hlt
       obtain ⟨⟨Bq, nq, cq⟩, hfq⟩ : ∃ f, fM[q]? = some f := ⟨_, List.getElem?_eq_getElem (by rw [HFL.out]; exact hlt)⟩
       obtain ⟨⟨Ai, mi, ci⟩, hfi, hnq, hrq⟩ := HS.out.rm q _ hfq
       replace hnq : nq = mi + 64 := hnq
       subst hnq
       replace hrq : Row (Kd.int .i8) 57 wb (.slice Bq (mi + 64) cq) (tg (F q) mi ++ tg (H q) 64) := hrq
       have hmi : mi ≤ 16777216 := HCW.out.lens.2 _ (List.mem_of_getElem? hfi)
       have hri : Row (Kd.int .i8) 57 wb (.slice Ai mi ci) (tg (F q) mi) := HS.out.mk_.row q _ hfi
       obtain ⟨gV, cV', hV, hcl, _⟩ := Row.outer HS.out.mk_.out hfi
       obtain ⟨rfl, -, rfl⟩ := Value.slice.inj hV
       obtain ⟨gM, cM', hV2, hcm, _⟩ := Row.outer HS.out.om hfq
       obtain ⟨rfl, -, rfl⟩ := Value.slice.inj hV2
       have HRQ := Lib.hid hrq
       have HRI := Lib.hid hri
       have HCL := Lib.hid hcl
       have HCM := Lib.hid hcm
       have HLT := Lib.hid hlt
       have q0 : (0 : Int) ≤ (q : Int) := by omega
       have q1 : (q : Int) < (i : Int) := by omega
       clear hV hV2 hcl hcm hrq hri hfi hfq hlt hq
       have cl0 := pw_cell_below HB.out HCL.out
       go_upto_block 10 with (fail)
       go_wp2
       clear c1 cl0
       go_loopw [11] (fun y wr => ∃ j : Nat, y = .int .i64 (j : Int) ∧ j ≤ mi + 64 ∧ Below wb.heap.size wb wr) (fun y _ => mi + 64 - (intOf y).toNat)
       case atStart => exact ⟨0, rfl, Nat.zero_le _, HB.out⟩
       case round =>
        rename World => we
        clear HB
        obtain ⟨j, rfl, hj, hb⟩ := hrel
        have HB := Lib.hid hb
        have c1 : we.cell? ⟨GK, 0, none⟩ = some (.slice (some ⟨gV, 0, none⟩) i cV) := pw_cell_below hb ((blk_cell (HPB.out wb HS.out.p) 0).trans rfl)
        have cl := pw_cell_below hb HCL.out
        have cm := pw_cell_below hb HCM.out
        clear hb
        by_cases hlt : j < mi + 64
        ·have d3 : decide ((j : Int) < ((mi + 64 : Nat) : Int)) = true := decide_eq_true (by omega)
         have d4 : decide (j < mi + 64) = true := decide_eq_true hlt
         have d3' : decide ((j : Int) < (mi : Int) + 64) = true := decide_eq_true (by omega)
         have HLJ := Lib.hid hlt
         obtain ⟨gB, cB', hv, _, _, _⟩ := Kd.R_form HRQ.out (by rw [List.length_append, tg_length, tg_length]; omega)
         obtain ⟨rfl, -, -⟩ := Value.slice.inj hv
         obtain ⟨e0, -⟩ := Kd.R_celln 0 HRQ.out (j : Int) (by omega) (by omega)
         rw [Int.toNat_natCast] at e0
         have e0' := pw_cell_below HB.out e0
         have q2 : (0 : Int) ≤ (j : Int) := by omega
         have q3 : (j : Int) < ((mi + 64 : Nat) : Int) := by omega
         have q3' : (j : Int) < (mi : Int) + 64 := by omega
         by_cases hjm : j < mi
         ·have d5 : decide ((mi : Int) ≤ (j : Int)) = false := decide_eq_false (by omega)
          have d6 : decide ((j : Int) < (mi : Int)) = true := decide_eq_true (by omega)
          have d7 : decide (j < mi) = true := decide_eq_true hjm
          have d8 : decide (mi ≤ j) = false := decide_eq_false (by omega)
          have q4 : (j : Int) < (mi : Int) := by omega
          obtain ⟨gA, cA', hv2, _, _, _⟩ := Kd.R_form HRI.out (by rw [tg_length]; omega)
          rw [tg_length] at hv2
          obtain ⟨rfl, -, rfl⟩ := Value.slice.inj hv2
          obtain ⟨e1, -⟩ := Kd.R_celln 0 HRI.out (j : Int) (by omega) (by omega)
          rw [Int.toNat_natCast, show rdOf 0 (tg (F q) mi) (j : Int) = F q j by unfold rdOf; rw [Int.toNat_natCast, List.getD_eq_getElem?_getD, tg_get? hjm, Option.getD_some]] at e1
          rw [show rdOf 0 (tg (F q) mi ++ tg (H q) 64) (j : Int) = F q j by unfold rdOf; rw [Int.toNat_natCast, List.getD_eq_getElem?_getD, List.getElem?_append_left (by rw [tg_length]; exact hjm), tg_get? hjm, Option.getD_some]] at e0'
          have e1' := pw_cell_below HB.out e1
          have hj1 : (j : Int) ≤ 281474976710656 := by omega
          have HSG := Lib.hid (sign_calls (q : Int) j hj1 we.drew)
          rw [← HF.out] at HSG
          clear e0 e1 hv hv2 hlt hj hjm hj1
          go_upto_region 25 with (fail)
          refine start_ (n := 53) (S := fun w' => w'.cell? ⟨GK, 0, none⟩ = some (.slice (some ⟨gV, 0, none⟩) i cV) ∧ w'.cell? ⟨gV, q, none⟩ = some (.slice (some ⟨gA, 0, none⟩) mi ci) ∧ w'.cell? ⟨gM, q, none⟩ = some (.slice (some ⟨gB, 0, none⟩) (mi + 64) cq) ∧ w'.cell? ⟨gA, j, none⟩ = some (.int .i8 (F q j)) ∧ w'.cell? ⟨gB, j, none⟩ = some (.int .i8 (F q j))) (ds := []) #[false, false, false, false, false, false, false, false, false, false, false, false, false, false, false, false, false, false, false, false, false, false, false, false, false, false, false, false, false, false, false, false, false, false, false, false, false, false, false, false, false, false, false, false, false, false, false, false, false, false, false, false, false] (by kernel_rfl) rfl rfl ⟨c1, cl, cm, e1', e0'⟩ (fun hHeld => ?_)
          refine with_tabW lo_tab lo_bits (fun HT_ HW_ => ?_)
          refine pc_ 0 102 ?_
          refine pc_ 1 103 ?_
          refine pc_ 2 104 ?_
          refine pc_ 3 105 ?_
          refine pc_ 4 106 ?_
          refine pc_ 5 107 ?_
          refine pc_ 6 108 ?_
          refine pc_ 8 110 ?_
          refine pc_ 11 113 ?_
          refine pc_ 12 114 ?_
          refine tc_ 7 109 hHeld ?_
          refine pc_ 9 111 ?_
          refine tc_ 10 112 hHeld ?_
          refine oc_ 13 (some 115) (fun K hK => ?_)
          refine gs_ Tryd.func64 #[.int .i64 (q : Int), .int .i64 (j : Int)] ?_
          with_reducible refine (HSG.out).mono ?_
          rintro e wq ⟨rfl, rfl⟩
          refine ⟨_, rfl, ?_⟩
          refine hK.out _ _ ⟨c1, cl, cm, e1', e0'⟩ (fun hHeld => ?_)
          clear hK K
          refine nm_ 115 ?_
          refine pc_ 14 116 ?_
          refine pc_ 15 117 ?_
          refine pc_ 16 118 ?_
          refine pc_ 17 119 ?_
          refine pc_ 18 120 ?_
          refine pc_ 20 122 ?_
          refine pc_ 23 125 ?_
          refine pc_ 26 128 ?_
          refine pc_ 27 129 ?_
          refine tc_ 19 121 hHeld ?_
          refine pc_ 21 123 ?_
          refine tc_ 22 124 hHeld ?_
          refine pc_ 24 126 ?_
          refine tc_ 25 127 hHeld ?_
          refine oc_ 28 (some 130) (fun K hK => ?_)
          refine gs_ Tryd.func64 #[.int .i64 (q : Int), .int .i64 (j : Int)] ?_
          with_reducible refine (HSG.out).mono ?_
          rintro e wq2 ⟨rfl, rfl⟩
          refine ⟨_, rfl, ?_⟩
          refine hK.out _ _ ⟨c1, cl, cm, e1', e0'⟩ (fun hHeld => ?_)
          clear hK K
          refine nm_ 130 ?_
          refine pc_ 29 131 ?_
          refine pc_ 30 132 ?_
          refine pc_ 31 133 ?_
          refine pc_ 32 134 ?_
          refine pc_ 33 135 ?_
          refine pc_ 34 136 ?_
          refine pc_ 35 137 ?_
          refine pc_ 36 138 ?_
          refine qc_ 37 139 ?_
          refine qc_ 38 140 ?_
          refine qc_ 39 141 ?_
          refine qc_ 40 142 ?_
          refine qc_ 41 143 ?_
          refine qc_ 42 144 ?_
          refine qc_ 43 145 ?_
          refine qc_ 44 146 ?_
          refine qc_ 45 147 ?_
          refine qc_ 46 148 ?_
          refine qc_ 47 149 ?_
          refine qc_ 48 150 ?_
          refine qc_ 49 151 ?_
          refine qc_ 50 152 ?_
          refine pc_ 51 153 ?_
          refine pc_ 52 154 ?_
          refine dnT_ ?_
          have HBE := Lib.hid (below_drew1 HB.out)
          go_wp2
          go_roundw
          case rel => exact ⟨j + 1, by rw [Int.natCast_add]; rfl, HLJ.out, HBE.out⟩
          case measure => have := HLJ.out; simp [intOf]; omega
         ·have d5 : decide ((mi : Int) ≤ (j : Int)) = true := decide_eq_true (by omega)
          have d6 : decide ((j : Int) < (mi : Int)) = false := decide_eq_false (by omega)
          have d7 : decide (j < mi) = false := decide_eq_false hjm
          have d8 : decide (mi ≤ j) = true := decide_eq_true (by omega)
          rw [show rdOf 0 (tg (F q) mi ++ tg (H q) 64) (j : Int) = H q (j - mi) by unfold rdOf; rw [Int.toNat_natCast, List.getD_eq_getElem?_getD, List.getElem?_append_right (by rw [tg_length]; omega), tg_length, tg_get? (by omega), Option.getD_some]] at e0'
          obtain ⟨p, hp⟩ : ∃ p, j - mi = p := ⟨_, rfl⟩
          have hj1 : (p : Int) ≤ 281474976710656 := by omega
          have HSG := Lib.hid (sign_calls (q : Int) p hj1 we.drew)
          rw [hp] at e0'
          have hHp : IntKind.i8.wrap (-1 - sg (q : Int) p) = H q p := (HH.out q p).symm
          have hjp : wrap64 ((j : Int) - (mi : Int)) = (p : Int) := by unfold wrap64; omega
          have hjp2 : IntKind.i64.wrap ((j : Int) - (mi : Int)) = (p : Int) := (i64_w _).trans hjp
          clear e0 hv hlt hj hjm hj1 hp
          go_upto_region 25 with (fail)
          refine start_ (n := 53) (S := fun w' => w'.cell? ⟨GK, 0, none⟩ = some (.slice (some ⟨gV, 0, none⟩) i cV) ∧ w'.cell? ⟨gV, q, none⟩ = some (.slice Ai mi ci) ∧ w'.cell? ⟨gM, q, none⟩ = some (.slice (some ⟨gB, 0, none⟩) (mi + 64) cq) ∧ w'.cell? ⟨gB, j, none⟩ = some (.int .i8 (H q p))) (ds := []) #[false, false, false, false, false, false, false, false, false, false, false, false, false, false, false, false, false, false, false, false, false, false, false, false, false, false, false, false, false, false, false, false, false, false, false, false, false, false, false, false, false, false, false, false, false, false, false, false, false, false, false, false, false] (by kernel_rfl) rfl rfl ⟨c1, cl, cm, e0'⟩ (fun hHeld => ?_)
          refine with_tabW lo_tab lo_bits (fun HT_ HW_ => ?_)
          refine pc_ 0 102 ?_
          refine pc_ 1 103 ?_
          refine pc_ 2 104 ?_
          refine pc_ 3 105 ?_
          refine qc_ 4 106 ?_
          refine qc_ 5 107 ?_
          refine qc_ 6 108 ?_
          refine qc_ 7 109 ?_
          refine qc_ 8 110 ?_
          refine qc_ 9 111 ?_
          refine qc_ 10 112 ?_
          refine qc_ 11 113 ?_
          refine qc_ 12 114 ?_
          refine qc_ 13 115 ?_
          refine qc_ 14 116 ?_
          refine qc_ 15 117 ?_
          refine qc_ 16 118 ?_
          refine qc_ 17 119 ?_
          refine qc_ 18 120 ?_
          refine qc_ 19 121 ?_
          refine qc_ 20 122 ?_
          refine qc_ 21 123 ?_
          refine qc_ 22 124 ?_
          refine qc_ 23 125 ?_
          refine qc_ 24 126 ?_
          refine qc_ 25 127 ?_
          refine qc_ 26 128 ?_
          refine qc_ 27 129 ?_
          refine qc_ 28 130 ?_
          refine qc_ 29 131 ?_
          refine qc_ 30 132 ?_
          refine pc_ 31 133 ?_
          refine pc_ 32 134 ?_
          refine pc_ 33 135 ?_
          refine pc_ 34 136 ?_
          refine pc_ 35 137 ?_
          refine pc_ 36 138 ?_
          refine pc_ 37 139 ?_
          refine pc_ 38 140 ?_
          refine pc_ 39 141 ?_
          refine pc_ 41 143 ?_
          refine pc_ 44 146 ?_
          refine pc_ 45 147 ?_
          refine pc_ 46 148 ?_
          refine pc_ 47 149 ?_
          refine tc_ 40 142 hHeld ?_
          refine pc_ 42 144 ?_
          refine tc_ 43 145 hHeld ?_
          refine oc_ 48 (some 150) (fun K hK => ?_)
          refine gs_ Tryd.func64 #[.int .i64 (q : Int), .int .i64 (p : Int)] ?_
          with_reducible refine (HSG.out).mono ?_
          rintro e wq ⟨rfl, rfl⟩
          refine ⟨_, rfl, ?_⟩
          refine hK.out _ _ ⟨c1, cl, cm, e0'⟩ (fun hHeld => ?_)
          clear hK K
          refine nm_ 150 ?_
          refine pc_ 49 151 ?_
          refine pc_ 50 152 ?_
          refine pc_ 51 153 ?_
          refine pc_ 52 154 ?_
          refine dnT_ ?_
          have HBE := Lib.hid (below_drew1 HB.out)
          go_wp2
          go_roundw
          case rel => exact ⟨j + 1, by rw [Int.natCast_add]; rfl, HLJ.out, HBE.out⟩
          case measure => have := HLJ.out; simp [intOf]; omega
        ·have d3 : decide ((j : Int) < ((mi + 64 : Nat) : Int)) = false := decide_eq_false (by omega)
         have d4 : decide (j < mi + 64) = false := decide_eq_false hlt
         have d3' : decide ((j : Int) < (mi : Int) + 64) = false := decide_eq_false (by omega)
         clear hlt hj
         go_wp2
         try rw [up1 (by have := HLT.out; have := HLB.out; omega)]
         go_roundw
         case rel => exact ⟨q + 1, by first | rfl | (rw [Int.natCast_add]; rfl), HLT.out, HB.out⟩
         case measure => have := HLT.out; simp [intOf]; omega
      ·have d1 : decide ((q : Int) < (i : Int)) = false := decide_eq_false (by omega)
       have d2 : decide (q < i) = false := decide_eq_false hlt
       clear hlt hq
       go_wp2
       go_ret
       have hS := HS.out.below HP.out HB.out (Nat.le_trans hbt HS.out.bel.size)
       have hp := hS.p
       rw [HPE.out] at hp
       exact ⟨rfl, ⟨_, Wv, T, fs, fW, fT, _, xW, xT, ⟨hp.1, HGB.out, hS.mk_.cl HCW.out.apt HCW.out.lens HCW.out.oo HCW.out.oi, hp.2.1, hp.2.2⟩⟩, hS.bel⟩
end Wk
end Go.Proofs.YtnioohhiphpplaaDoor.Dp
