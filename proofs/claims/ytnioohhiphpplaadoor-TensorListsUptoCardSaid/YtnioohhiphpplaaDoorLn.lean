/- The walk of Kept.tables. -/
import Derived.Test.YtnioohhiphpplaaDoorLm
import Derived.Test.YtnioohhiphpplaaDoorSq
set_option linter.unusedVariables false
set_option linter.unusedSimpArgs false
namespace Go.Proofs.YtnioohhiphpplaaDoor.Dp
open Go.RowKit Go.Proofs.YtnioohhiphpplaaDoor.Pplays Go.Proofs.YtnioohhiphpplaaDoorW.PrintWords Go.Proofs.YtnioohhiphpplaaDoorW.PrintLast Go.Proofs.YtnioohhiphpplaaDoorW.PrintMore Go.Proofs.YtnioohhiphpplaaDoor.M Go.Proofs.YtnioohhiphpplaaDoor.Wk Go.Lib
namespace Wk
def OtT (GK base Bd : Nat) (N W T : Value) (fN fW : List Tr) (xN xW : List (List Int)) (w : World) : Prop := w.heap[GK]? = some (.cells #[N, W, T] 78 (0, 0)) ∧ Cl (Kd.int .i8) 33 57 w base Bd N fN xN ∧ Cl (Kd.int .i64) 22 2 w base Bd W fW xW
section
variable {GK base Bd : Nat} {N W T : Value} {fN fW : List Tr} {xN xW : List (List Int)}
theorem OtT.sta : Sta 37 87 (OtT GK base Bd N W T fN fW xN xW) :=
 ⟨fun W W1 row h hg hr => ⟨ot_blk h.1 hg hr (by decide) (by decide), h.2.1.other rfl hg (ot_ne hr (by decide) (by decide) (by decide) (by decide)), h.2.2.other rfl hg (ot_ne hr (by decide) (by decide) (by decide) (by decide))⟩, fun W W1 h hb => ⟨blk_below h.1 hb, h.2.1.below hb, h.2.2.below hb⟩⟩
end
set_option maxHeartbeats 8000000 in
set_option maxRecDepth 100000 in
theorem tables_calls {GK base Bd : Nat} (w : World) (hK : Kp w GK base Bd) (hd : Bd ≤ 1048576) (hbt : base ≤ w.heap.size) :
  Calls Tryd.prog 48 #[.pointer (some ⟨GK, 0, none⟩)] w fun e w' => e = .returned (.bool true) ∧ Kp w' GK base Bd ∧ Below base w w' := by
 have hu78 := Tryd.underlying78
 obtain ⟨N, Wv, V, fN, fW, fs, xN, xW, xT, h⟩ := hK
 obtain ⟨AV, cV, hV⟩ := Kd.R_slice h.cT.col.out
 obtain ⟨L, hL⟩ : ∃ L, L = fs.length := ⟨_, rfl⟩
 rw [← hL] at hV
 subst hV
 obtain ⟨P, hPe⟩ : ∃ P, P = OtT GK base Bd N Wv (.slice AV L cV) fN fW xN xW := ⟨_, rfl⟩
 have HP : Hid (Sta 37 87 P) := Lib.hid (by rw [hPe]; exact OtT.sta)
 have HPB : Hid (∀ W, P W → W.heap[GK]? = some (.cells #[N, Wv, .slice AV L cV] 78 (0, 0))) := Lib.hid (by rw [hPe]; exact fun W h => h.1)
 have HL := Lib.hid hL
 have HLB : Hid (L ≤ 1048576) := Lib.hid (by rw [hL]; exact Nat.le_trans h.cT.lens.1 hd)
 have HM0 := Lib.hid (h.cT.mk_ z87)
 obtain ⟨G0, hG0⟩ : ∃ G0, G0 = (fun i j => ((xT.getD i []).getD j z87)) := ⟨_, rfl⟩
 rw [← hG0] at HM0
 have HCW := Lib.hid h.cT
 have HP0 : Hid (P w) := Lib.hid (by rw [hPe]; exact ⟨h.blk, h.cN, h.cW⟩)
 have HGB := Lib.hid h.hG
 have HPE := Lib.hid hPe
 obtain ⟨F, hF⟩ : ∃ F : Nat → Nat → S87, F = fun (i _ : Nat) => ⟨(i : Int) + 1, 0⟩ := ⟨_, rfl⟩
 obtain ⟨H, hH⟩ : ∃ H : Nat → Nat → S87, H = fun (i _ : Nat) => ⟨0, (i : Int) + 1⟩ := ⟨_, rfl⟩
 have HF : Hid (∀ i j, F i j = ⟨(i : Int) + 1, 0⟩) := Lib.hid (fun i j => by rw [hF])
 have HH : Hid (∀ i j, H i j = ⟨0, (i : Int) + 1⟩) := Lib.hid (fun i j => by rw [hH])
 clear h hL hG0 hPe hF hH hd
 go_enter Tryd.func48, Tryd.ntmps48
 go_wp2
 go_loopw [3] (fun y wr => ∃ i : Nat, y = .int .i64 (i : Int) ∧ i ≤ L ∧ Mk k87 37 87 wr (.slice AV L cV) fs (loG F G0 i 0) ∧ P wr ∧ Below base w wr) (fun y _ => L - (intOf y).toNat)
 case atStart => exact ⟨0, rfl, Nat.zero_le _, HM0.out.congr fun i f hf j hj => by unfold loG; rw [if_neg (by omega)], HP0.out, Below.refl _ _⟩
 case round =>
  rename World => wa
  clear HM0 HP0
  obtain ⟨i, rfl, hi, hM, hp, hb⟩ := hrel
  have HM := Lib.hid hM
  have HPa := Lib.hid hp
  have HB := Lib.hid hb
  have c1 : wa.cell? ⟨GK, 2, none⟩ = some (.slice AV L cV) := (blk_cell (HPB.out wa hp) 2).trans rfl
  clear hM hp hb
  by_cases hlt : i < L
  ·have d1 : decide ((i : Int) < (L : Int)) = true := decide_eq_true (by omega)
   have d2 : decide (i < L) = true := decide_eq_true hlt
   obtain ⟨⟨Ai, mi, ci⟩, hfi⟩ : ∃ f, fs[i]? = some f := ⟨_, List.getElem?_eq_getElem (by rw [← HL.out]; exact hlt)⟩
   have hmi : mi ≤ 16777216 := HCW.out.lens.2 _ (List.mem_of_getElem? hfi)
   obtain ⟨gV, cV', hV, _, _⟩ := Row.outer HM.out.out hfi
   obtain ⟨rfl, -, rfl⟩ := Value.slice.inj hV
   have HFI := Lib.hid hfi
   have HLT := Lib.hid hlt
   have q0 : (0 : Int) ≤ (i : Int) := by omega
   have q1 : (i : Int) < (L : Int) := by omega
   obtain ⟨E, hE⟩ : ∃ E : Int, E = (i : Int) + 1 := ⟨_, rfl⟩
   have hwi : wrap64 ((i : Int) + 1) = E := by rw [hE]; have := HLB.out; unfold wrap64; omega
   have HFE : Hid (∀ j, F i j = ⟨E, 0⟩) := Lib.hid (fun j => by rw [HF.out, hE])
   have HLC : Hid (∀ W G, Mk k87 37 87 W (.slice (some ⟨gV, 0, none⟩) L cV) fs G → W.cell? ⟨gV, i, none⟩ = some (.slice Ai mi ci)) := Lib.hid (fun W G hm => by
    obtain ⟨g, c', hv, h1, _⟩ := Row.outer hm.out HFI.out
    cases hv
    exact h1)
   clear hV hfi hi hlt hE
   go_upto_block 2 with (fail)
   go_wp2
   go_loopw [4] (fun y wr => ∃ j : Nat, y = .int .i64 (j : Int) ∧ j ≤ mi ∧ Mk k87 37 87 wr (.slice (some ⟨gV, 0, none⟩) L cV) fs (loG F G0 i j) ∧ P wr ∧ Below base w wr) (fun y _ => mi - (intOf y).toNat)
   case atStart => exact ⟨0, rfl, Nat.zero_le _, HM.out, HPa.out, HB.out⟩
   case round =>
    rename World => wb
    clear HM HPa HB
    obtain ⟨j, rfl, hj, hM, hp, hb⟩ := hrel
    have HM := Lib.hid hM
    have HPa := Lib.hid hp
    have HB := Lib.hid hb
    have c1 : wb.cell? ⟨GK, 2, none⟩ = some (.slice (some ⟨gV, 0, none⟩) L cV) := (blk_cell (HPB.out wb hp) 2).trans rfl
    have cl := HLC.out wb _ hM
    clear hM hp hb
    by_cases hlt : j < mi
    ·have d3 : decide ((j : Int) < (mi : Int)) = true := decide_eq_true (by omega)
     have d4 : decide (j < mi) = true := decide_eq_true hlt
     have hr : Row k87 87 wb (.slice Ai mi ci) (tg (loG F G0 i j i) mi) := HM.out.row i _ HFI.out
     obtain ⟨gi, ci', hv, _, _, _⟩ := Kd.R_form hr (by rw [tg_length]; omega)
     rw [tg_length] at hv
     obtain ⟨rfl, -, rfl⟩ := Value.slice.inj hv
     obtain ⟨n0, n1, nf0, nf1⟩ := R87_cells hr hlt (x := loG F G0 i j i j) (tg_get? hlt)
     obtain ⟨z0, hz0⟩ : ∃ q, (loG F G0 i j i j).f0 = q := ⟨_, rfl⟩
     obtain ⟨z1, hz1⟩ : ∃ q, (loG F G0 i j i j).f1 = q := ⟨_, rfl⟩
     rw [hz0] at n0
     rw [hz1] at n1
     have hp := R87_put hr (i := j) (by rw [tg_length]; exact hlt) ⟨E, 0⟩
     have HPU := Lib.hid hp
     have HLJ := Lib.hid hlt
     have q2 : (0 : Int) ≤ (j : Int) := by omega
     have q3 : (j : Int) < (mi : Int) := by omega
     clear hv hr hp hlt hj hz0 hz1
     go_wp2
     have hgr : wb.grownBy ((wb.setCell ⟨gi, j * 2, none⟩ (.int .i64 E)).setCell ⟨gi, j * 2 + 1, none⟩ (.int .i64 0)) (some gi) := World.grownBy.trans (grownBy_set wb ⟨gi, j * 2, none⟩ _) (grownBy_set _ ⟨gi, j * 2 + 1, none⟩ _)
     have hmk := HM.out.put (W1 := (wb.setCell ⟨gi, j * 2, none⟩ (.int .i64 E)).setCell ⟨gi, j * 2 + 1, none⟩ (.int .i64 0)) rfl (by decide) HCW.out.apt HFI.out hgr HPU.out
     rw [← HFE.out j, loG_step] at hmk
     have hty : ∀ k, some gi = some k → ∃ cells t, wb.heap[k]? = some (.cells cells t (0, 0)) ∧ (t = 37 ∨ t = 87) := fun k hk => by
      obtain ⟨c, hc⟩ := (HM.out.row i _ HFI.out).typed k hk
      exact ⟨c, 87, hc, .inr rfl⟩
     go_roundw
     case rel => exact ⟨j + 1, by rw [Int.natCast_add]; rfl, HLJ.out, hmk, HP.out.1 _ _ _ HPa.out hgr hty, (HB.out.setCell (p := ⟨gi, j * 2, none⟩) (HCW.out.oi _ (List.mem_of_getElem? HFI.out) gi rfl) _).setCell (HCW.out.oi _ (List.mem_of_getElem? HFI.out) gi rfl) _⟩
     case measure => have := HLJ.out; simp [intOf]; omega
    ·have d3 : decide ((j : Int) < (mi : Int)) = false := decide_eq_false (by omega)
     have d4 : decide (j < mi) = false := decide_eq_false hlt
     clear hwi
     have hjm : mi ≤ j := by omega
     have HJM := Lib.hid hjm
     clear hlt hj hjm
     go_wp2
     try rw [up1 (by have := HLT.out; have := HLB.out; omega)]
     go_roundw
     case rel => exact ⟨i + 1, rfl, HLT.out, HM.out.next HFI.out HJM.out, HPa.out, HB.out⟩
     case measure => have := HLT.out; simp [intOf]; omega
  ·have d1 : decide ((i : Int) < (L : Int)) = false := decide_eq_false (by omega)
   have d2 : decide (i < L) = false := decide_eq_false hlt
   have HS := Lib.hid (S2.begin (H := H) (HM.out.done (by rw [← HL.out]; omega)) HPa.out HB.out)
   clear hlt hi HM HPa HB
   go_upto_block 4 with (fail)
   go_wp2
   clear d1 d2 c1
   go_loopw [5, 6] (fun M y wr => ∃ (i : Nat) (fM : List Tr), y = .int .i64 (i : Int) ∧ i ≤ L ∧ fM.length = i ∧ S2 k87 37 87 P base w (.slice AV L cV) M fs fM F H wr) (fun _ y _ => L - (intOf y).toNat)
   case atStart => exact ⟨0, [], rfl, Nat.zero_le _, rfl, HS.out⟩
   case round =>
    rename World => wb
    clear HS
    obtain ⟨i, fM, rfl, hi, hfl, hS⟩ := hrel
    obtain ⟨AM, cM, eM⟩ := Kd.R_slice hS.om
    rw [hfl] at eM
    subst eM
    have HS := Lib.hid hS
    have HFL := Lib.hid hfl
    have c1 : wb.cell? ⟨GK, 2, none⟩ = some (.slice AV L cV) := (blk_cell (HPB.out wb hS.p) 2).trans rfl
    clear hS hfl
    by_cases hlt : i < L
    ·have d1 : decide ((i : Int) < (L : Int)) = true := decide_eq_true (by omega)
     have d2 : decide (i < L) = true := decide_eq_true hlt
     obtain ⟨⟨Ai, mi, ci⟩, hfi⟩ : ∃ f, fs[i]? = some f := ⟨_, List.getElem?_eq_getElem (by rw [← HL.out]; exact hlt)⟩
     have hmi : mi ≤ 16777216 := HCW.out.lens.2 _ (List.mem_of_getElem? hfi)
     obtain ⟨gV, cV', hV, cl, _⟩ := Row.outer HS.out.mk_.out hfi
     obtain ⟨rfl, -, rfl⟩ := Value.slice.inj hV
     have hG := HS.out.start HCW.out.apt hfi HFL.out (HCW.out.oi _ (List.mem_of_getElem? hfi))
     have HG := Lib.hid hG
     have HFI := Lib.hid hfi
     have HLT := Lib.hid hlt
     have q0 : (0 : Int) ≤ (i : Int) := by omega
     have q1 : (i : Int) < (L : Int) := by omega
     obtain ⟨E, hE⟩ : ∃ E : Int, E = (i : Int) + 1 := ⟨_, rfl⟩
     have HW1 : Hid (wrap64 ((i : Int) + 1) = E ∧ ∀ k, H i k = ⟨0, E⟩) := Lib.hid ⟨by rw [hE]; have := HLB.out; unfold wrap64; omega, fun k => by rw [HH.out, hE]⟩
     clear hE
     clear hV hG hfi hi hlt
     go_upto_block 6 with (fail)
     go_wp2
     clear c1 cl
     go_loopw [7, 8] (fun g y wr => ∃ k : Nat, y = .int .i64 (k : Int) ∧ k ≤ 64 ∧ S2g k87 37 87 P base w (.slice (some ⟨gV, 0, none⟩) L cV) (.slice AM i cM) fs fM F H i (Ai, mi, ci) k g wr) (fun _ y _ => 64 - (intOf y).toNat)
     case atStart => exact ⟨0, rfl, by omega, HG.out⟩
     case round =>
      rename World => wc
      clear HG
      obtain ⟨k, rfl, hk, hG⟩ := hrel
      obtain ⟨Ag, cg, eg⟩ := Kd.R_slice hG.rg
      rw [List.length_append, tg_length, tg_length] at eg
      subst eg
      have HG := Lib.hid hG
      clear hG
      by_cases hlt : k < 64
      ·have d3 : decide ((k : Int) < 64) = true := decide_eq_true (by omega)
       have HLK := Lib.hid hlt
       have hw1 := HW1.out.1
       clear hlt hk
       go_wp2_with ((with_reducible refine gate_builtin (b := .append) (xs := #[.tmp 65, .tmp 69]) rfl ?_); at_builtin; refine R_append2 (d := k87) rfl 0 rfl (.tmp 65) (.tmp 69) 37 87 (.agg #[.int .i64 0, .int .i64 0]) 16 rfl Tryd.underlying37 tinfo87 rfl (by decide) (by omega) (.slice Ag (mi + k) cg) (tg (F i) mi ++ tg (H i) k) ⟨0, E⟩ [.int .i64 0, .int .i64 E] rfl rfl (k87_mkM _ _ _ ⟨0, E⟩) HG.out.rg (Nat.zero_le _) (by rw [List.length_append, tg_length, tg_length]; have := HLK.out; omega) ?_; intro v8 w8 hR hRo hg hx)
       rw [← HW1.out.2 k] at hR
       have hB : base ≤ wc.heap.size := Nat.le_trans hbt HG.out.st.bel.size
       have hG8 := HG.out.step rfl (by decide) HP.out hB hR hRo hg hx
       clear hw1
       try rw [up1 (by have := HLK.out; omega)]
       go_roundw
       case rel => exact ⟨k + 1, rfl, HLK.out, hG8⟩
       case measure => have := HLK.out; simp [intOf]; omega
      ·have d3 : decide ((k : Int) < 64) = false := decide_eq_false (by omega)
       obtain rfl : k = 64 := by omega
       clear hlt hk
       have hB : base ≤ wc.heap.size := Nat.le_trans hbt HG.out.st.bel.size
       go_wp2_with ((with_reducible refine gate_builtin (b := .append) (xs := #[.tmp 71, .tmp 73]) rfl ?_); at_builtin; refine R_append2 (d := slKd) rfl 0 rfl (.tmp 71) (.tmp 73) 43 37 (.slice none 0 0) 24 rfl Tryd.underlying43 tinfo37 rfl (by decide) (by omega) (.slice AM i cM) fM (Ag, mi + 64, cg) [.slice Ag (mi + 64) cg] rfl rfl rfl HG.out.st.om (Nat.zero_le _) (by rw [HFL.out]; have := HLT.out; have := HLB.out; omega) ?_; intro v8 w8 hR hRo hg hx)
       have hS8 := S2g.push (gf := (Ag, mi + 64, cg)) rfl (by decide) HP.out hB HG.out rfl hR hg hx
       try rw [up1 (by have := HLT.out; have := HLB.out; omega)]
       go_roundw
       case rel => exact ⟨i + 1, _, rfl, HLT.out, by rw [List.length_append, HFL.out]; rfl, hS8⟩
       case measure => have := HLT.out; simp [intOf]; omega
    ·have d1 : decide ((i : Int) < (L : Int)) = false := decide_eq_false (by omega)
     have d2 : decide (i < L) = false := decide_eq_false hlt
     obtain rfl : i = L := by omega
     clear hlt hi
     go_upto_block 8 with (fail)
     go_wp2
     clear c1 d1 d2
     go_loopw [9] (fun y wr => ∃ q : Nat, y = .int .i64 (q : Int) ∧ q ≤ i ∧ Below wb.heap.size wb wr) (fun y _ => i - (intOf y).toNat)
     case atStart => exact ⟨0, rfl, Nat.zero_le _, Below.refl _ _⟩
     case round =>
      rename World => wd
      obtain ⟨q, rfl, hq, hb⟩ := hrel
      have HB := Lib.hid hb
      have c1 : wd.cell? ⟨GK, 2, none⟩ = some (.slice AV i cV) := pw_cell_below hb ((blk_cell (HPB.out wb HS.out.p) 2).trans rfl)
      clear hb
      by_cases hlt : q < i
      ·have d1 : decide ((q : Int) < (i : Int)) = true := decide_eq_true (by omega)
       have d2 : decide (q < i) = true := decide_eq_true hlt
       obtain ⟨⟨Bq, nq, cq⟩, hfq⟩ : ∃ f, fM[q]? = some f := ⟨_, List.getElem?_eq_getElem (by rw [HFL.out]; exact hlt)⟩
       obtain ⟨⟨Ai, mi, ci⟩, hfi, hnq, hrq⟩ := HS.out.rm q _ hfq
       replace hnq : nq = mi + 64 := hnq
       subst hnq
       replace hrq : Row k87 87 wb (.slice Bq (mi + 64) cq) (tg (F q) mi ++ tg (H q) 64) := hrq
       have hmi : mi ≤ 16777216 := HCW.out.lens.2 _ (List.mem_of_getElem? hfi)
       have hri : Row k87 87 wb (.slice Ai mi ci) (tg (F q) mi) := HS.out.mk_.row q _ hfi
       obtain ⟨gV, cV', hV, hcl, _⟩ := Row.outer HS.out.mk_.out hfi
       obtain ⟨rfl, -, rfl⟩ := Value.slice.inj hV
       obtain ⟨gM, cM', hV2, hcm, _⟩ := Row.outer HS.out.om hfq
       obtain ⟨rfl, -, rfl⟩ := Value.slice.inj hV2
       have HRQ := Lib.hid hrq
       have HRI := Lib.hid hri
       have HCL := Lib.hid hcl
       have HCM := Lib.hid hcm
       have HLT := Lib.hid hlt
       have q0 : (0 : Int) ≤ (q : Int) := by omega
       have q1 : (q : Int) < (i : Int) := by omega
       obtain ⟨E, hE⟩ : ∃ E : Int, E = (q : Int) + 1 := ⟨_, rfl⟩
       have HW1 : Hid (wrap64 ((q : Int) + 1) = E ∧ (∀ k, F q k = ⟨E, 0⟩) ∧ ∀ k, H q k = ⟨0, E⟩) := Lib.hid ⟨by rw [hE]; have := HLB.out; unfold wrap64; omega, fun k => by rw [HF.out, hE], fun k => by rw [HH.out, hE]⟩
       clear hE
       clear hV hV2 hcl hcm hrq hri hfi hfq hlt hq
       go_upto_block 10 with (fail)
       go_wp2
       clear c1
       go_loopw [10] (fun y wr => ∃ j : Nat, y = .int .i64 (j : Int) ∧ j ≤ mi + 64 ∧ Below wb.heap.size wb wr) (fun y _ => mi + 64 - (intOf y).toNat)
       case atStart => exact ⟨0, rfl, Nat.zero_le _, HB.out⟩
       case round =>
        rename World => we
        clear HB
        obtain ⟨j, rfl, hj, hb⟩ := hrel
        have HB := Lib.hid hb
        have c1 : we.cell? ⟨GK, 2, none⟩ = some (.slice (some ⟨gV, 0, none⟩) i cV) := pw_cell_below hb ((blk_cell (HPB.out wb HS.out.p) 2).trans rfl)
        have cl := pw_cell_below hb HCL.out
        have cm := pw_cell_below hb HCM.out
        clear hb
        by_cases hlt : j < mi + 64
        ·have d3 : decide ((j : Int) < ((mi + 64 : Nat) : Int)) = true := decide_eq_true (by omega)
         have d4 : decide (j < mi + 64) = true := decide_eq_true hlt
         have d3' : decide ((j : Int) < (mi : Int) + 64) = true := decide_eq_true (by omega)
         have HLJ := Lib.hid hlt
         obtain ⟨gB, cB', hv, _, _, _⟩ := Kd.R_form HRQ.out (by rw [List.length_append, tg_length, tg_length]; omega)
         obtain ⟨rfl, -, -⟩ := Value.slice.inj hv
         have q2 : (0 : Int) ≤ (j : Int) := by omega
         have q3 : (j : Int) < ((mi + 64 : Nat) : Int) := by omega
         have q3' : (j : Int) < (mi : Int) + 64 := by omega
         have hw1 := HW1.out.1
         by_cases hjm : j < mi
         ·have d5 : decide ((mi : Int) ≤ (j : Int)) = false := decide_eq_false (by omega)
          have d6 : decide ((j : Int) < (mi : Int)) = true := decide_eq_true (by omega)
          have d7 : decide (j < mi) = true := decide_eq_true hjm
          have d8 : decide (mi ≤ j) = false := decide_eq_false (by omega)
          have q4 : (j : Int) < (mi : Int) := by omega
          obtain ⟨gA, cA', hv2, _, _, _⟩ := Kd.R_form HRI.out (by rw [tg_length]; omega)
          rw [tg_length] at hv2
          obtain ⟨rfl, -, rfl⟩ := Value.slice.inj hv2
          obtain ⟨n0, n1, -, -⟩ := R87_cells HRI.out hjm (x := ⟨E, 0⟩) (by rw [tg_get? hjm, HW1.out.2.1])
          obtain ⟨m0, m1, -, -⟩ := R87_cells HRQ.out hlt (x := ⟨E, 0⟩) (by rw [List.getElem?_append_left (by rw [tg_length]; exact hjm), tg_get? hjm, HW1.out.2.1])
          replace n0 := pw_cell_below HB.out n0
          replace n1 := pw_cell_below HB.out n1
          replace m0 := pw_cell_below HB.out m0
          replace m1 := pw_cell_below HB.out m1
          clear hv hv2 hlt hj hjm
          go_upto_region 25 with (fail)
          obtain ⟨gE, hgE⟩ : ∃ y, y = we.heap.size := ⟨_, rfl⟩
          obtain ⟨wg, hwg⟩ : ∃ y, y = we.alloc (.cells #[.int .i64 E, .int .i64 0] 87) := ⟨_, rfl⟩
          have hb2 : wg.heap[gE]? = some (.cells #[.int .i64 E, .int .i64 0] 87 (0, 0)) := by rw [hwg, hgE]; exact blk_new _ _
          have hbw : Below we.heap.size we wg := by rw [hwg]; exact below_alloc (Below.refl _ _) _
          rw [← hwg, ← hgE]
          have HGE : Hid (we.heap.size ≤ gE) := Lib.hid (by omega)
          clear hwg hgE
          replace c1 := pw_cell_below hbw c1
          replace cl := pw_cell_below hbw cl
          replace cm := pw_cell_below hbw cm
          replace m0 := pw_cell_below hbw m0
          replace m1 := pw_cell_below hbw m1
          replace n0 := pw_cell_below hbw n0
          replace n1 := pw_cell_below hbw n1
          have x0 : wg.cell? ⟨gE, 0, none⟩ = some (.int .i64 E) := (blk_cell hb2 0).trans rfl
          have x1 : wg.cell? ⟨gE, 1, none⟩ = some (.int .i64 0) := (blk_cell hb2 1).trans rfl
          have HBW := Lib.hid (below_step HB.out hbw)
          clear hb2 hbw hw1
          go_upto_region 27 with (fail)
          go_region_held3 (fun w' => w'.cell? ⟨GK, 2, none⟩ = some (.slice (some ⟨gV, 0, none⟩) i cV) ∧ w'.cell? ⟨gV, q, none⟩ = some (.slice (some ⟨gA, 0, none⟩) mi ci) ∧ w'.cell? ⟨gM, q, none⟩ = some (.slice (some ⟨gB, 0, none⟩) (mi + 64) cq) ∧ w'.cell? ⟨gA, j * 2, none⟩ = some (.int .i64 E) ∧ w'.cell? ⟨gA, j * 2 + 1, none⟩ = some (.int .i64 0) ∧ w'.cell? ⟨gB, j * 2, none⟩ = some (.int .i64 E) ∧ w'.cell? ⟨gB, j * 2 + 1, none⟩ = some (.int .i64 0) ∧ w'.cell? ⟨gE, 0, none⟩ = some (.int .i64 E) ∧ w'.cell? ⟨gE, 1, none⟩ = some (.int .i64 0)) (first | exact ⟨c1, cl, cm, n0, n1, m0, m1, x0, x1⟩ | fail) (fail)
          rename_i hheld1
          clear hheld1
          have HBE := Lib.hid (below_drew1 HBW.out)
          go_wp2
          go_roundw
          case rel => exact ⟨j + 1, by rw [Int.natCast_add]; rfl, HLJ.out, HBE.out⟩
          case measure => have := HLJ.out; simp [intOf]; omega
         ·have d5 : decide ((mi : Int) ≤ (j : Int)) = true := decide_eq_true (by omega)
          have d6 : decide ((j : Int) < (mi : Int)) = false := decide_eq_false (by omega)
          have d7 : decide (j < mi) = false := decide_eq_false hjm
          have d8 : decide (mi ≤ j) = true := decide_eq_true (by omega)
          have d9 : ((j : Int) < (mi : Int)) = False := eq_false (by omega)
          have d10 : (j < mi) = False := eq_false hjm
          obtain ⟨m0, m1, -, -⟩ := R87_cells HRQ.out hlt (x := ⟨0, E⟩) (by rw [List.getElem?_append_right (by rw [tg_length]; omega), tg_length, tg_get? (by omega), HW1.out.2.2])
          replace m0 := pw_cell_below HB.out m0
          replace m1 := pw_cell_below HB.out m1
          clear hv hlt hj hjm
          go_upto_region 25 with (fail)
          obtain ⟨gE, hgE⟩ : ∃ y, y = we.heap.size := ⟨_, rfl⟩
          obtain ⟨wg, hwg⟩ : ∃ y, y = we.alloc (.cells #[.int .i64 E, .int .i64 0] 87) := ⟨_, rfl⟩
          have hb2 : wg.heap[gE]? = some (.cells #[.int .i64 E, .int .i64 0] 87 (0, 0)) := by rw [hwg, hgE]; exact blk_new _ _
          have hbw : Below we.heap.size we wg := by rw [hwg]; exact below_alloc (Below.refl _ _) _
          rw [← hwg, ← hgE]
          have HGE : Hid (we.heap.size ≤ gE) := Lib.hid (by omega)
          clear hwg hgE
          replace c1 := pw_cell_below hbw c1
          replace cl := pw_cell_below hbw cl
          replace cm := pw_cell_below hbw cm
          replace m0 := pw_cell_below hbw m0
          replace m1 := pw_cell_below hbw m1
          have x0 : wg.cell? ⟨gE, 0, none⟩ = some (.int .i64 E) := (blk_cell hb2 0).trans rfl
          have x1 : wg.cell? ⟨gE, 1, none⟩ = some (.int .i64 0) := (blk_cell hb2 1).trans rfl
          have y0 := blk_frozen hb2 0
          have y1 := blk_frozen hb2 1
          have HB2 := Lib.hid hb2
          have HBW := Lib.hid hbw
          clear hb2 hbw
          go_upto_region 27 with (fail)
          obtain ⟨wh, hwh⟩ : ∃ y, y = (wg.setCell ⟨gE, 0, none⟩ (.int .i64 0)).setCell ⟨gE, 1, none⟩ (.int .i64 E) := ⟨_, rfl⟩
          have hb3 : wh.heap[gE]? = some (.cells #[.int .i64 0, .int .i64 E] 87 (0, 0)) := by rw [hwh]; exact blk_put (blk_put HB2.out 0 _ rfl) 1 _ rfl
          have hbh : Below we.heap.size we wh := by rw [hwh]; exact below_set (below_set HBW.out HGE.out) HGE.out
          have HKP : Hid (∀ (p : Addr) (v : Value), p.block ≠ gE → wg.cell? p = some v → wh.cell? p = some v) := Lib.hid (fun p v hne hc => by
           rw [hwh]
           have e1 : ((wg.setCell ⟨gE, 0, none⟩ (.int .i64 0)).setCell ⟨gE, 1, none⟩ (.int .i64 E)).heap[p.block]? = wg.heap[p.block]? := (Below.heap_setCell _ ⟨gE, 1, none⟩ _ _ hne).trans (Below.heap_setCell _ ⟨gE, 0, none⟩ _ _ hne)
           exact (World.cell?_of_block e1).trans hc)
          rw [← hwh]
          clear hwh x0 x1 y0 y1 hw1
          have o1 : GK < we.heap.size := blk_lt (blk_below (HPB.out wb HS.out.p) HB.out)
          have o2 : gV < we.heap.size := by have := Kd.R_lt HS.out.mk_.out gV rfl; have := HB.out.size; omega
          have o3 : gM < we.heap.size := by have := Kd.R_lt HS.out.om gM rfl; have := HB.out.size; omega
          have o4 : gB < we.heap.size := by have := Kd.R_lt HRQ.out gB rfl; have := HB.out.size; omega
          have hge := HGE.out
          replace c1 := HKP.out ⟨GK, 2, none⟩ _ (by show GK ≠ gE; omega) c1
          replace cl := HKP.out ⟨gV, q, none⟩ _ (by show gV ≠ gE; omega) cl
          replace cm := HKP.out ⟨gM, q, none⟩ _ (by show gM ≠ gE; omega) cm
          replace m0 := HKP.out ⟨gB, j * 2, none⟩ _ (by show gB ≠ gE; omega) m0
          replace m1 := HKP.out ⟨gB, j * 2 + 1, none⟩ _ (by show gB ≠ gE; omega) m1
          have x0 : wh.cell? ⟨gE, 0, none⟩ = some (.int .i64 0) := (blk_cell hb3 0).trans rfl
          have x1 : wh.cell? ⟨gE, 1, none⟩ = some (.int .i64 E) := (blk_cell hb3 1).trans rfl
          have HBX := Lib.hid (below_step HB.out hbh)
          clear hb3 hbh o1 o2 o3 o4 hge HKP
          refine start_ (n := 35) (S := fun w' => w'.cell? ⟨GK, 2, none⟩ = some (.slice (some ⟨gV, 0, none⟩) i cV) ∧ w'.cell? ⟨gV, q, none⟩ = some (.slice Ai mi ci) ∧ w'.cell? ⟨gM, q, none⟩ = some (.slice (some ⟨gB, 0, none⟩) (mi + 64) cq) ∧ w'.cell? ⟨gB, j * 2, none⟩ = some (.int .i64 0) ∧ w'.cell? ⟨gB, j * 2 + 1, none⟩ = some (.int .i64 E) ∧ w'.cell? ⟨gE, 0, none⟩ = some (.int .i64 0) ∧ w'.cell? ⟨gE, 1, none⟩ = some (.int .i64 E)) (ds := []) #[false, false, false, false, false, false, false, false, false, false, false, false, false, false, false, false, false, false, false, false, false, false, false, false, false, false, false, false, false, false, false, false, false, false, false] (by kernel_rfl) rfl rfl ⟨c1, cl, cm, m0, m1, x0, x1⟩ (fun hHeld => ?_)
          refine pu_ 0 109 ?_
          refine pu_ 1 110 ?_
          refine pu_ 2 111 ?_
          refine pu_ 4 113 ?_
          refine tk_ 3 112 hHeld ?_
          refine pu_ 5 114 ?_
          refine tk_ 6 115 hHeld ?_
          refine tk_ 7 116 hHeld ?_
          refine pu_ 8 117 ?_
          refine pu_ 9 118 ?_
          refine pu_ 10 119 ?_
          refine pu_ 11 120 ?_
          refine pu_ 12 121 ?_
          refine pu_ 13 122 ?_
          refine pu_ 15 124 ?_
          refine tk_ 14 123 hHeld ?_
          refine pu_ 16 125 ?_
          refine tk_ 17 126 hHeld ?_
          refine pu_ 18 127 ?_
          refine pu_ 19 128 ?_
          refine pu_ 20 129 ?_
          refine pure_ (i := 21) (N := some 130) (v := undef) (a' := ?_) #[true, true, true, true, true, true, true, true, true, true, true, true, true, true, true, true, true, true, true, true, true, true, false, false, false, false, false, false, false, false, false, false, false, false, false] rfl rfl (by kernel_rfl) (fun _ _ _ h => h) (Or.inr ⟨by rfl, rfl⟩) ?_ ?_
          rotate_left
          ·simp only [Act.put, List.setIfInBounds_toArray, List.set_cons_zero, List.set_cons_succ, i64_w, i32_w]
           rfl
          refine pure_ (i := 22) (N := some 131) (v := undef) (a' := ?_) #[true, true, true, true, true, true, true, true, true, true, true, true, true, true, true, true, true, true, true, true, true, true, true, false, false, false, false, false, false, false, false, false, false, false, false] rfl rfl (by kernel_rfl) (fun _ _ _ h => h) (Or.inr ⟨by rfl, rfl⟩) ?_ ?_
          rotate_left
          ·simp only [Act.put, List.setIfInBounds_toArray, List.set_cons_zero, List.set_cons_succ, i64_w, i32_w]
           rfl
          refine pure_ (i := 23) (N := some 132) (v := undef) (a' := ?_) #[true, true, true, true, true, true, true, true, true, true, true, true, true, true, true, true, true, true, true, true, true, true, true, true, false, false, false, false, false, false, false, false, false, false, false] rfl rfl (by kernel_rfl) (fun _ _ _ h => h) (Or.inr ⟨by rfl, rfl⟩) ?_ ?_
          rotate_left
          ·simp only [Act.put, List.setIfInBounds_toArray, List.set_cons_zero, List.set_cons_succ, i64_w, i32_w]
           rfl
          refine pure_ (i := 24) (N := some 133) (v := undef) (a' := ?_) #[true, true, true, true, true, true, true, true, true, true, true, true, true, true, true, true, true, true, true, true, true, true, true, true, true, false, false, false, false, false, false, false, false, false, false] rfl rfl (by kernel_rfl) (fun _ _ _ h => h) (Or.inr ⟨by rfl, rfl⟩) ?_ ?_
          rotate_left
          ·simp only [Act.put, List.setIfInBounds_toArray, List.set_cons_zero, List.set_cons_succ, i64_w, i32_w]
           rfl
          refine pure_ (i := 25) (N := some 134) (v := undef) (a' := ?_) #[true, true, true, true, true, true, true, true, true, true, true, true, true, true, true, true, true, true, true, true, true, true, true, true, true, true, false, false, false, false, false, false, false, false, false] rfl rfl (by kernel_rfl) (fun _ _ _ h => h) (Or.inr ⟨by rfl, rfl⟩) ?_ ?_
          rotate_left
          ·simp only [Act.put, List.setIfInBounds_toArray, List.set_cons_zero, List.set_cons_succ, i64_w, i32_w]
           rfl
          refine pure_ (i := 26) (N := some 135) (v := undef) (a' := ?_) #[true, true, true, true, true, true, true, true, true, true, true, true, true, true, true, true, true, true, true, true, true, true, true, true, true, true, true, false, false, false, false, false, false, false, false] rfl rfl (by kernel_rfl) (fun _ _ _ h => h) (Or.inr ⟨by rfl, rfl⟩) ?_ ?_
          rotate_left
          ·simp only [Act.put, List.setIfInBounds_toArray, List.set_cons_zero, List.set_cons_succ, i64_w, i32_w]
           rfl
          refine pure_ (i := 27) (N := some 136) (v := undef) (a' := ?_) #[true, true, true, true, true, true, true, true, true, true, true, true, true, true, true, true, true, true, true, true, true, true, true, true, true, true, true, true, false, false, false, false, false, false, false] rfl rfl (by kernel_rfl) (fun _ _ _ h => h) (Or.inr ⟨by rfl, rfl⟩) ?_ ?_
          rotate_left
          ·simp only [Act.put, List.setIfInBounds_toArray, List.set_cons_zero, List.set_cons_succ, i64_w, i32_w]
           rfl
          refine pure_ (i := 28) (N := some 137) (v := undef) (a' := ?_) #[true, true, true, true, true, true, true, true, true, true, true, true, true, true, true, true, true, true, true, true, true, true, true, true, true, true, true, true, true, false, false, false, false, false, false] rfl rfl (by kernel_rfl) (fun _ _ _ h => h) (Or.inr ⟨by rfl, rfl⟩) ?_ ?_
          rotate_left
          ·simp only [Act.put, List.setIfInBounds_toArray, List.set_cons_zero, List.set_cons_succ, i64_w, i32_w]
           rfl
          refine pure_ (i := 29) (N := some 138) (v := undef) (a' := ?_) #[true, true, true, true, true, true, true, true, true, true, true, true, true, true, true, true, true, true, true, true, true, true, true, true, true, true, true, true, true, true, false, false, false, false, false] rfl rfl (by kernel_rfl) (fun _ _ _ h => h) (Or.inr ⟨by rfl, rfl⟩) ?_ ?_
          rotate_left
          ·simp only [Act.put, List.setIfInBounds_toArray, List.set_cons_zero, List.set_cons_succ, i64_w, i32_w]
           rfl
          refine pure_ (i := 30) (N := some 139) (v := undef) (a' := ?_) #[true, true, true, true, true, true, true, true, true, true, true, true, true, true, true, true, true, true, true, true, true, true, true, true, true, true, true, true, true, true, true, false, false, false, false] rfl rfl (by kernel_rfl) (fun _ _ _ h => h) (Or.inr ⟨by rfl, rfl⟩) ?_ ?_
          rotate_left
          ·simp only [Act.put, List.setIfInBounds_toArray, List.set_cons_zero, List.set_cons_succ, i64_w, i32_w]
           rfl
          refine pure_ (i := 31) (N := some 140) (v := undef) (a' := ?_) #[true, true, true, true, true, true, true, true, true, true, true, true, true, true, true, true, true, true, true, true, true, true, true, true, true, true, true, true, true, true, true, true, false, false, false] rfl rfl (by kernel_rfl) (fun _ _ _ h => h) (Or.inr ⟨by rfl, rfl⟩) ?_ ?_
          rotate_left
          ·simp only [Act.put, List.setIfInBounds_toArray, List.set_cons_zero, List.set_cons_succ, i64_w, i32_w]
           rfl
          refine pure_ (i := 32) (N := some 141) (v := undef) (a' := ?_) #[true, true, true, true, true, true, true, true, true, true, true, true, true, true, true, true, true, true, true, true, true, true, true, true, true, true, true, true, true, true, true, true, true, false, false] rfl rfl (by kernel_rfl) (fun _ _ _ h => h) (Or.inr ⟨by rfl, rfl⟩) ?_ ?_
          rotate_left
          ·simp only [Act.put, List.setIfInBounds_toArray, List.set_cons_zero, List.set_cons_succ, i64_w, i32_w]
           rfl
          refine pu_ 33 142 ?_
          refine pu_ 34 143 ?_
          refine dn_ ?_
          have HBE := Lib.hid (below_drew1 HBX.out)
          go_wp2
          go_roundw
          case rel => exact ⟨j + 1, by rw [Int.natCast_add]; rfl, HLJ.out, HBE.out⟩
          case measure => have := HLJ.out; simp [intOf]; omega
        ·have d3 : decide ((j : Int) < ((mi + 64 : Nat) : Int)) = false := decide_eq_false (by omega)
         have d4 : decide (j < mi + 64) = false := decide_eq_false hlt
         have d3' : decide ((j : Int) < (mi : Int) + 64) = false := decide_eq_false (by omega)
         clear hlt hj
         go_wp2
         try rw [up1 (by have := HLT.out; have := HLB.out; omega)]
         go_roundw
         case rel => exact ⟨q + 1, by first | rfl | (rw [Int.natCast_add]; rfl), HLT.out, HB.out⟩
         case measure => have := HLT.out; simp [intOf]; omega
      ·have d1 : decide ((q : Int) < (i : Int)) = false := decide_eq_false (by omega)
       have d2 : decide (q < i) = false := decide_eq_false hlt
       clear hlt hq
       go_wp2
       go_ret
       have hS := HS.out.below HP.out HB.out (Nat.le_trans hbt HS.out.bel.size)
       have hp := hS.p
       rw [HPE.out] at hp
       exact ⟨rfl, ⟨N, Wv, _, fN, fW, fs, xN, xW, _, ⟨hp.1, HGB.out, hp.2.1, hp.2.2, hS.mk_.cl HCW.out.apt HCW.out.lens HCW.out.oo HCW.out.oi⟩⟩, hS.bel⟩
end Wk
end Go.Proofs.YtnioohhiphpplaaDoor.Dp
