/- The walk of Kept.wides. -/
import Derived.Test.YtnioohhiphpplaaDoorLk
set_option linter.unusedVariables false
set_option linter.unusedSimpArgs false
namespace Go.Proofs.YtnioohhiphpplaaDoor.Dp
open Go.RowKit Go.Proofs.YtnioohhiphpplaaDoor.Pplays Go.Proofs.YtnioohhiphpplaaDoorW.PrintWords Go.Proofs.YtnioohhiphpplaaDoorW.PrintLast Go.Proofs.YtnioohhiphpplaaDoorW.PrintMore Go.Proofs.YtnioohhiphpplaaDoor.M Go.Proofs.YtnioohhiphpplaaDoor.Wk Go.Lib
namespace Wk
def OtW (GK base Bd : Nat) (N W T : Value) (fN fT : List Tr) (xN : List (List Int)) (xT : List (List S87)) (w : World) : Prop := w.heap[GK]? = some (.cells #[N, W, T] 78 (0, 0)) ∧ Cl (Kd.int .i8) 33 57 w base Bd N fN xN ∧ Cl k87 37 87 w base Bd T fT xT
theorem ot_ne {W : World} {row : Option Nat} {eo ei t1 t2 : Nat} (hr : ∀ k, row = some k → ∃ cells t, W.heap[k]? = some (.cells cells t (0, 0)) ∧ (t = eo ∨ t = ei)) (h1 : eo ≠ t1) (h2 : eo ≠ t2) (h3 : ei ≠ t1) (h4 : ei ≠ t2) : ∀ k, row = some k → ∃ cells t, W.heap[k]? = some (.cells cells t (0, 0)) ∧ t ≠ t1 ∧ t ≠ t2 := fun k hk => by
 obtain ⟨c, t, hc, rfl | rfl⟩ := hr k hk
 ·exact ⟨c, _, hc, h1, h2⟩
 ·exact ⟨c, _, hc, h3, h4⟩
theorem ot_blk {W W1 : World} {GK : Nat} {row : Option Nat} {eo ei : Nat} {cs : Array Value} (hb : W.heap[GK]? = some (.cells cs 78 (0, 0))) (hg : W.grownBy W1 row) (hr : ∀ k, row = some k → ∃ cells t, W.heap[k]? = some (.cells cells t (0, 0)) ∧ (t = eo ∨ t = ei)) (h1 : eo ≠ 78) (h2 : ei ≠ 78) : W1.heap[GK]? = some (.cells cs 78 (0, 0)) := blk_g hb hg fun he => by
 obtain ⟨c, t, hc, ht⟩ := hr GK he
 have := typed_ne hc hb
 rcases ht with rfl | rfl
 ·exact h1 this
 ·exact h2 this
section
variable {GK base Bd : Nat} {N W T : Value} {fN fT : List Tr} {xN : List (List Int)} {xT : List (List S87)}
theorem OtW.sta : Sta 22 2 (OtW GK base Bd N W T fN fT xN xT) :=
 ⟨fun W W1 row h hg hr => ⟨ot_blk h.1 hg hr (by decide) (by decide), h.2.1.other rfl hg (ot_ne hr (by decide) (by decide) (by decide) (by decide)), h.2.2.other rfl hg (ot_ne hr (by decide) (by decide) (by decide) (by decide))⟩, fun W W1 h hb => ⟨blk_below h.1 hb, h.2.1.below hb, h.2.2.below hb⟩⟩
end
set_option maxHeartbeats 8000000 in
set_option maxRecDepth 100000 in
theorem wides_calls {GK base Bd : Nat} (w : World) (hK : Kp w GK base Bd) (hd : Bd ≤ 1048576) (hbt : base ≤ w.heap.size) :
  Calls Tryd.prog 47 #[.pointer (some ⟨GK, 0, none⟩)] w fun e w' => e = .returned (.bool true) ∧ Kp w' GK base Bd ∧ Below base w w' := by
 have hu78 := Tryd.underlying78
 obtain ⟨N, V, T, fN, fs, fT, xN, xW, xT, h⟩ := hK
 obtain ⟨AV, cV, hV⟩ := Kd.R_slice h.cW.col.out
 obtain ⟨L, hL⟩ : ∃ L, L = fs.length := ⟨_, rfl⟩
 rw [← hL] at hV
 subst hV
 obtain ⟨P, hPe⟩ : ∃ P, P = OtW GK base Bd N (.slice AV L cV) T fN fT xN xT := ⟨_, rfl⟩
 have HP : Hid (Sta 22 2 P) := Lib.hid (by rw [hPe]; exact OtW.sta)
 have HPB : Hid (∀ W, P W → W.heap[GK]? = some (.cells #[N, .slice AV L cV, T] 78 (0, 0))) := Lib.hid (by rw [hPe]; exact fun W h => h.1)
 have HL := Lib.hid hL
 have HLB : Hid (L ≤ 1048576) := Lib.hid (by rw [hL]; exact Nat.le_trans h.cW.lens.1 hd)
 have HM0 := Lib.hid (h.cW.mk_ (0 : Int))
 obtain ⟨G0, hG0⟩ : ∃ G0, G0 = (fun i j => ((xW.getD i []).getD j (0 : Int))) := ⟨_, rfl⟩
 rw [← hG0] at HM0
 have HCW := Lib.hid h.cW
 have HP0 : Hid (P w) := Lib.hid (by rw [hPe]; exact ⟨h.blk, h.cN, h.cT⟩)
 have HGB := Lib.hid h.hG
 have HPE := Lib.hid hPe
 obtain ⟨F, hF⟩ : ∃ F : Nat → Nat → Int, F = fun (i _ : Nat) => (i : Int) + 1 := ⟨_, rfl⟩
 obtain ⟨H, hH⟩ : ∃ H : Nat → Nat → Int, H = fun (i _ : Nat) => -(i : Int) - 1 := ⟨_, rfl⟩
 have HF : Hid (∀ i j, F i j = (i : Int) + 1) := Lib.hid (fun i j => by rw [hF])
 have HH : Hid (∀ i j, H i j = -(i : Int) - 1) := Lib.hid (fun i j => by rw [hH])
 clear h hL hG0 hPe hF hH hd
 go_enter Tryd.func47, Tryd.ntmps47
 go_wp2
 go_loopw [3] (fun y wr => ∃ i : Nat, y = .int .i64 (i : Int) ∧ i ≤ L ∧ Mk (Kd.int .i64) 22 2 wr (.slice AV L cV) fs (loG F G0 i 0) ∧ P wr ∧ Below base w wr) (fun y _ => L - (intOf y).toNat)
 case atStart => exact ⟨0, rfl, Nat.zero_le _, HM0.out.congr fun i f hf j hj => by unfold loG; rw [if_neg (by omega)], HP0.out, Below.refl _ _⟩
 case round =>
  rename World => wa
  clear HM0 HP0
  obtain ⟨i, rfl, hi, hM, hp, hb⟩ := hrel
  have HM := Lib.hid hM
  have HPa := Lib.hid hp
  have HB := Lib.hid hb
  have c1 : wa.cell? ⟨GK, 1, none⟩ = some (.slice AV L cV) := (blk_cell (HPB.out wa hp) 1).trans rfl
  clear hM hp hb
  by_cases hlt : i < L
  ·have d1 : decide ((i : Int) < (L : Int)) = true := decide_eq_true (by omega)
   have d2 : decide (i < L) = true := decide_eq_true hlt
   obtain ⟨⟨Ai, mi, ci⟩, hfi⟩ : ∃ f, fs[i]? = some f := ⟨_, List.getElem?_eq_getElem (by rw [← HL.out]; exact hlt)⟩
   have hmi : mi ≤ 16777216 := HCW.out.lens.2 _ (List.mem_of_getElem? hfi)
   obtain ⟨gV, cV', hV, _, _⟩ := Row.outer HM.out.out hfi
   obtain ⟨rfl, -, rfl⟩ := Value.slice.inj hV
   have HFI := Lib.hid hfi
   have HLT := Lib.hid hlt
   have q0 : (0 : Int) ≤ (i : Int) := by omega
   have q1 : (i : Int) < (L : Int) := by omega
   have hwi : wrap64 ((i : Int) + 1) = F i 0 := by rw [HF.out]; have := HLB.out; unfold wrap64; omega
   have HLC : Hid (∀ W G, Mk (Kd.int .i64) 22 2 W (.slice (some ⟨gV, 0, none⟩) L cV) fs G → W.cell? ⟨gV, i, none⟩ = some (.slice Ai mi ci)) := Lib.hid (fun W G hm => by
    obtain ⟨g, c', hv, h1, _⟩ := Row.outer hm.out HFI.out
    cases hv
    exact h1)
   clear hV hfi hi hlt
   go_upto_block 2 with (fail)
   go_wp2
   go_loopw [4] (fun y wr => ∃ j : Nat, y = .int .i64 (j : Int) ∧ j ≤ mi ∧ Mk (Kd.int .i64) 22 2 wr (.slice (some ⟨gV, 0, none⟩) L cV) fs (loG F G0 i j) ∧ P wr ∧ Below base w wr) (fun y _ => mi - (intOf y).toNat)
   case atStart => exact ⟨0, rfl, Nat.zero_le _, HM.out, HPa.out, HB.out⟩
   case round =>
    rename World => wb
    clear HM HPa HB
    obtain ⟨j, rfl, hj, hM, hp, hb⟩ := hrel
    have HM := Lib.hid hM
    have HPa := Lib.hid hp
    have HB := Lib.hid hb
    have c1 : wb.cell? ⟨GK, 1, none⟩ = some (.slice (some ⟨gV, 0, none⟩) L cV) := (blk_cell (HPB.out wb hp) 1).trans rfl
    have cl := HLC.out wb _ hM
    clear hM hp hb
    by_cases hlt : j < mi
    ·have d3 : decide ((j : Int) < (mi : Int)) = true := decide_eq_true (by omega)
     have d4 : decide (j < mi) = true := decide_eq_true hlt
     have hr : Row (Kd.int .i64) 2 wb (.slice Ai mi ci) (tg (loG F G0 i j i) mi) := HM.out.row i _ HFI.out
     obtain ⟨gi, ci', hv, _, _, _⟩ := Kd.R_form hr (by rw [tg_length]; omega)
     rw [tg_length] at hv
     obtain ⟨rfl, -, rfl⟩ := Value.slice.inj hv
     obtain ⟨e0, e1⟩ := Kd.R_celln 0 hr (j : Int) (by omega) (by omega)
     rw [Int.toNat_natCast] at e0 e1
     have hp := Kd.R_putg hr (j : Int) (F i j)
     rw [Int.toNat_natCast] at hp
     have HPU := Lib.hid hp
     have HLJ := Lib.hid hlt
     have q2 : (0 : Int) ≤ (j : Int) := by omega
     have q3 : (j : Int) < (mi : Int) := by omega
     have hFF : F i 0 = F i j := by rw [HF.out, HF.out]
     rw [hFF] at hwi
     clear hv hr hp hlt hj hFF
     go_wp2
     have hgr := HPU.out.2
     have hty : ∀ k, some gi = some k → ∃ cells t, wb.heap[k]? = some (.cells cells t (0, 0)) ∧ (t = 22 ∨ t = 2) := fun k hk => by
      obtain ⟨c, hc⟩ := (HM.out.row i _ HFI.out).typed k hk
      exact ⟨c, 2, hc, .inr rfl⟩
     go_roundw
     case rel => exact ⟨j + 1, by rw [Int.natCast_add]; rfl, HLJ.out, by rw [← loG_step]; exact HM.out.put rfl (by decide) HCW.out.apt HFI.out hgr HPU.out.1, HP.out.1 _ _ _ HPa.out hgr hty, HB.out.setCell (HCW.out.oi _ (List.mem_of_getElem? HFI.out) gi rfl) _⟩
     case measure => have := HLJ.out; simp [intOf]; omega
    ·have d3 : decide ((j : Int) < (mi : Int)) = false := decide_eq_false (by omega)
     have d4 : decide (j < mi) = false := decide_eq_false hlt
     clear hwi
     have hjm : mi ≤ j := by omega
     have HJM := Lib.hid hjm
     clear hlt hj hjm
     go_wp2
     try rw [up1 (by have := HLT.out; have := HLB.out; omega)]
     go_roundw
     case rel => exact ⟨i + 1, rfl, HLT.out, HM.out.next HFI.out HJM.out, HPa.out, HB.out⟩
     case measure => have := HLT.out; simp [intOf]; omega
  ·have d1 : decide ((i : Int) < (L : Int)) = false := decide_eq_false (by omega)
   have d2 : decide (i < L) = false := decide_eq_false hlt
   have HS := Lib.hid (S2.begin (H := H) (HM.out.done (by rw [← HL.out]; omega)) HPa.out HB.out)
   clear hlt hi HM HPa HB
   go_upto_block 4 with (fail)
   go_wp2
   clear d1 d2 c1
   go_loopw [5, 6] (fun M y wr => ∃ (i : Nat) (fM : List Tr), y = .int .i64 (i : Int) ∧ i ≤ L ∧ fM.length = i ∧ S2 (Kd.int .i64) 22 2 P base w (.slice AV L cV) M fs fM F H wr) (fun _ y _ => L - (intOf y).toNat)
   case atStart => exact ⟨0, [], rfl, Nat.zero_le _, rfl, HS.out⟩
   case round =>
    rename World => wb
    clear HS
    obtain ⟨i, fM, rfl, hi, hfl, hS⟩ := hrel
    obtain ⟨AM, cM, eM⟩ := Kd.R_slice hS.om
    rw [hfl] at eM
    subst eM
    have HS := Lib.hid hS
    have HFL := Lib.hid hfl
    have c1 : wb.cell? ⟨GK, 1, none⟩ = some (.slice AV L cV) := (blk_cell (HPB.out wb hS.p) 1).trans rfl
    clear hS hfl
    by_cases hlt : i < L
    ·have d1 : decide ((i : Int) < (L : Int)) = true := decide_eq_true (by omega)
     have d2 : decide (i < L) = true := decide_eq_true hlt
     obtain ⟨⟨Ai, mi, ci⟩, hfi⟩ : ∃ f, fs[i]? = some f := ⟨_, List.getElem?_eq_getElem (by rw [← HL.out]; exact hlt)⟩
     have hmi : mi ≤ 16777216 := HCW.out.lens.2 _ (List.mem_of_getElem? hfi)
     obtain ⟨gV, cV', hV, cl, _⟩ := Row.outer HS.out.mk_.out hfi
     obtain ⟨rfl, -, rfl⟩ := Value.slice.inj hV
     have hG := HS.out.start HCW.out.apt hfi HFL.out (HCW.out.oi _ (List.mem_of_getElem? hfi))
     have HG := Lib.hid hG
     have HFI := Lib.hid hfi
     have HLT := Lib.hid hlt
     have q0 : (0 : Int) ≤ (i : Int) := by omega
     have q1 : (i : Int) < (L : Int) := by omega
     have HW1 : Hid (wrap64 (-(i : Int)) = -(i : Int) ∧ wrap64 (-(i : Int) - 1) = H i 0) := Lib.hid (by
      rw [HH.out]
      have := HLB.out
      constructor <;> (unfold wrap64; omega))
     clear hV hG hfi hi hlt
     go_upto_block 6 with (fail)
     go_wp2
     clear c1 cl
     go_loopw [7, 8] (fun g y wr => ∃ k : Nat, y = .int .i64 (k : Int) ∧ k ≤ 64 ∧ S2g (Kd.int .i64) 22 2 P base w (.slice (some ⟨gV, 0, none⟩) L cV) (.slice AM i cM) fs fM F H i (Ai, mi, ci) k g wr) (fun _ y _ => 64 - (intOf y).toNat)
     case atStart => exact ⟨0, rfl, by omega, HG.out⟩
     case round =>
      rename World => wc
      clear HG
      obtain ⟨k, rfl, hk, hG⟩ := hrel
      obtain ⟨Ag, cg, eg⟩ := Kd.R_slice hG.rg
      rw [List.length_append, tg_length, tg_length] at eg
      subst eg
      have HG := Lib.hid hG
      clear hG
      by_cases hlt : k < 64
      ·have d3 : decide ((k : Int) < 64) = true := decide_eq_true (by omega)
       have HLK := Lib.hid hlt
       have hHH : H i k = H i 0 := by rw [HH.out, HH.out]
       obtain ⟨hw1, hw2⟩ := HW1.out
       rw [← hHH] at hw2
       clear hlt hk hHH
       go_wp2_with ((with_reducible refine gate_builtin (b := .append) (xs := #[.tmp 64, .tmp 68]) rfl ?_); at_builtin; refine R_append2 (d := Kd.int .i64) rfl 0 rfl (.tmp 64) (.tmp 68) 22 2 (.int .i64 0) 8 rfl Tryd.underlying22 linfo2 rfl (by decide) (by omega) (.slice Ag (mi + k) cg) (tg (F i) mi ++ tg (H i) k) (H i k) [.int .i64 (H i k)] rfl rfl rfl HG.out.rg (Nat.zero_le _) (by rw [List.length_append, tg_length, tg_length]; have := HLK.out; omega) ?_; intro v8 w8 hR hRo hg hx)
       have hB : base ≤ wc.heap.size := Nat.le_trans hbt HG.out.st.bel.size
       have hG8 := HG.out.step rfl (by decide) HP.out hB hR hRo hg hx
       clear hw1 hw2
       try rw [up1 (by have := HLK.out; omega)]
       go_roundw
       case rel => exact ⟨k + 1, rfl, HLK.out, hG8⟩
       case measure => have := HLK.out; simp [intOf]; omega
      ·have d3 : decide ((k : Int) < 64) = false := decide_eq_false (by omega)
       obtain rfl : k = 64 := by omega
       clear hlt hk
       have hB : base ≤ wc.heap.size := Nat.le_trans hbt HG.out.st.bel.size
       go_wp2_with ((with_reducible refine gate_builtin (b := .append) (xs := #[.tmp 70, .tmp 72]) rfl ?_); at_builtin; refine R_append2 (d := slKd) rfl 0 rfl (.tmp 70) (.tmp 72) 42 22 (.slice none 0 0) 24 rfl Tryd.underlying42 linfo22 rfl (by decide) (by omega) (.slice AM i cM) fM (Ag, mi + 64, cg) [.slice Ag (mi + 64) cg] rfl rfl rfl HG.out.st.om (Nat.zero_le _) (by rw [HFL.out]; have := HLT.out; have := HLB.out; omega) ?_; intro v8 w8 hR hRo hg hx)
       have hS8 := S2g.push (gf := (Ag, mi + 64, cg)) rfl (by decide) HP.out hB HG.out rfl hR hg hx
       try rw [up1 (by have := HLT.out; have := HLB.out; omega)]
       go_roundw
       case rel => exact ⟨i + 1, _, rfl, HLT.out, by rw [List.length_append, HFL.out]; rfl, hS8⟩
       case measure => have := HLT.out; simp [intOf]; omega
    ·have d1 : decide ((i : Int) < (L : Int)) = false := decide_eq_false (by omega)
     have d2 : decide (i < L) = false := decide_eq_false hlt
     obtain rfl : i = L := by omega
     clear hlt hi
     go_upto_block 8 with (fail)
     go_wp2
     clear c1 d1 d2
     go_loopw [9] (fun y wr => ∃ q : Nat, y = .int .i64 (q : Int) ∧ q ≤ i ∧ Below wb.heap.size wb wr) (fun y _ => i - (intOf y).toNat)
     case atStart => exact ⟨0, rfl, Nat.zero_le _, Below.refl _ _⟩
     case round =>
      rename World => wd
      obtain ⟨q, rfl, hq, hb⟩ := hrel
      have HB := Lib.hid hb
      have c1 : wd.cell? ⟨GK, 1, none⟩ = some (.slice AV i cV) := pw_cell_below hb ((blk_cell (HPB.out wb HS.out.p) 1).trans rfl)
      clear hb
      by_cases hlt : q < i
      ·have d1 : decide ((q : Int) < (i : Int)) = true := decide_eq_true (by omega)
       have d2 : decide (q < i) = true := decide_eq_true hlt
       obtain ⟨⟨Bq, nq, cq⟩, hfq⟩ : ∃ f, fM[q]? = some f := ⟨_, List.getElem?_eq_getElem (by rw [HFL.out]; exact hlt)⟩
       obtain ⟨⟨Ai, mi, ci⟩, hfi, hnq, hrq⟩ := HS.out.rm q _ hfq
       replace hnq : nq = mi + 64 := hnq
       subst hnq
       replace hrq : Row (Kd.int .i64) 2 wb (.slice Bq (mi + 64) cq) (tg (F q) mi ++ tg (H q) 64) := hrq
       have hmi : mi ≤ 16777216 := HCW.out.lens.2 _ (List.mem_of_getElem? hfi)
       have hri : Row (Kd.int .i64) 2 wb (.slice Ai mi ci) (tg (F q) mi) := HS.out.mk_.row q _ hfi
       obtain ⟨gV, cV', hV, hcl, _⟩ := Row.outer HS.out.mk_.out hfi
       obtain ⟨rfl, -, rfl⟩ := Value.slice.inj hV
       obtain ⟨gM, cM', hV2, hcm, _⟩ := Row.outer HS.out.om hfq
       obtain ⟨rfl, -, rfl⟩ := Value.slice.inj hV2
       have HRQ := Lib.hid hrq
       have HRI := Lib.hid hri
       have HCL := Lib.hid hcl
       have HCM := Lib.hid hcm
       have HLT := Lib.hid hlt
       have q0 : (0 : Int) ≤ (q : Int) := by omega
       have q1 : (q : Int) < (i : Int) := by omega
       have HW1 : Hid (wrap64 ((q : Int) + 1) = F q 0 ∧ wrap64 (-(F q 0)) = H q 0) := Lib.hid (by
        rw [HH.out, HF.out]
        have := HLB.out
        constructor <;> (unfold wrap64; omega))
       clear hV hV2 hcl hcm hrq hri hfi hfq hlt hq
       go_upto_block 10 with (fail)
       go_wp2
       clear c1
       go_loopw [10] (fun y wr => ∃ j : Nat, y = .int .i64 (j : Int) ∧ j ≤ mi + 64 ∧ Below wb.heap.size wb wr) (fun y _ => mi + 64 - (intOf y).toNat)
       case atStart => exact ⟨0, rfl, Nat.zero_le _, HB.out⟩
       case round =>
        rename World => we
        clear HB
        obtain ⟨j, rfl, hj, hb⟩ := hrel
        have HB := Lib.hid hb
        have c1 : we.cell? ⟨GK, 1, none⟩ = some (.slice (some ⟨gV, 0, none⟩) i cV) := pw_cell_below hb ((blk_cell (HPB.out wb HS.out.p) 1).trans rfl)
        have cl := pw_cell_below hb HCL.out
        have cm := pw_cell_below hb HCM.out
        clear hb
        by_cases hlt : j < mi + 64
        ·have d3 : decide ((j : Int) < ((mi + 64 : Nat) : Int)) = true := decide_eq_true (by omega)
         have d4 : decide (j < mi + 64) = true := decide_eq_true hlt
         have d3' : decide ((j : Int) < (mi : Int) + 64) = true := decide_eq_true (by omega)
         have HLJ := Lib.hid hlt
         obtain ⟨gB, cB', hv, _, _, _⟩ := Kd.R_form HRQ.out (by rw [List.length_append, tg_length, tg_length]; omega)
         obtain ⟨rfl, -, -⟩ := Value.slice.inj hv
         obtain ⟨e0, -⟩ := Kd.R_celln 0 HRQ.out (j : Int) (by omega) (by omega)
         rw [Int.toNat_natCast] at e0
         have e0' := pw_cell_below HB.out e0
         have q2 : (0 : Int) ≤ (j : Int) := by omega
         have q3 : (j : Int) < ((mi + 64 : Nat) : Int) := by omega
         have q3' : (j : Int) < (mi : Int) + 64 := by omega
         obtain ⟨hw1, hw2⟩ := HW1.out
         by_cases hjm : j < mi
         ·have d5 : decide ((mi : Int) ≤ (j : Int)) = false := decide_eq_false (by omega)
          have d6 : decide ((j : Int) < (mi : Int)) = true := decide_eq_true (by omega)
          have d7 : decide (j < mi) = true := decide_eq_true hjm
          have d8 : decide (mi ≤ j) = false := decide_eq_false (by omega)
          have q4 : (j : Int) < (mi : Int) := by omega
          obtain ⟨gA, cA', hv2, _, _, _⟩ := Kd.R_form HRI.out (by rw [tg_length]; omega)
          rw [tg_length] at hv2
          obtain ⟨rfl, -, rfl⟩ := Value.slice.inj hv2
          obtain ⟨e1, -⟩ := Kd.R_celln 0 HRI.out (j : Int) (by omega) (by omega)
          rw [Int.toNat_natCast, show rdOf 0 (tg (F q) mi) (j : Int) = F q 0 by unfold rdOf; rw [Int.toNat_natCast, List.getD_eq_getElem?_getD, tg_get? hjm, Option.getD_some, HF.out, HF.out]] at e1
          rw [show rdOf 0 (tg (F q) mi ++ tg (H q) 64) (j : Int) = F q 0 by unfold rdOf; rw [Int.toNat_natCast, List.getD_eq_getElem?_getD, List.getElem?_append_left (by rw [tg_length]; exact hjm), tg_get? hjm, Option.getD_some, HF.out, HF.out]] at e0'
          have e1' := pw_cell_below HB.out e1
          clear e0 e1 hv hv2 hlt hj hjm
          go_wp2
          go_roundw
          case rel => exact ⟨j + 1, by rw [Int.natCast_add]; rfl, HLJ.out, HB.out⟩
          case measure => have := HLJ.out; simp [intOf]; omega
         ·have d5 : decide ((mi : Int) ≤ (j : Int)) = true := decide_eq_true (by omega)
          have d6 : decide ((j : Int) < (mi : Int)) = false := decide_eq_false (by omega)
          have d7 : decide (j < mi) = false := decide_eq_false hjm
          have d8 : decide (mi ≤ j) = true := decide_eq_true (by omega)
          rw [show rdOf 0 (tg (F q) mi ++ tg (H q) 64) (j : Int) = H q 0 by unfold rdOf; rw [Int.toNat_natCast, List.getD_eq_getElem?_getD, List.getElem?_append_right (by rw [tg_length]; omega), tg_length, tg_get? (by omega), Option.getD_some, HH.out, HH.out]] at e0'
          clear e0 hv hlt hj hjm
          go_wp2
          go_roundw
          case rel => exact ⟨j + 1, by rw [Int.natCast_add]; rfl, HLJ.out, HB.out⟩
          case measure => have := HLJ.out; simp [intOf]; omega
        ·have d3 : decide ((j : Int) < ((mi + 64 : Nat) : Int)) = false := decide_eq_false (by omega)
         have d4 : decide (j < mi + 64) = false := decide_eq_false hlt
         have d3' : decide ((j : Int) < (mi : Int) + 64) = false := decide_eq_false (by omega)
         clear hlt hj
         go_wp2
         try rw [up1 (by have := HLT.out; have := HLB.out; omega)]
         go_roundw
         case rel => exact ⟨q + 1, by first | rfl | (rw [Int.natCast_add]; rfl), HLT.out, HB.out⟩
         case measure => have := HLT.out; simp [intOf]; omega
      ·have d1 : decide ((q : Int) < (i : Int)) = false := decide_eq_false (by omega)
       have d2 : decide (q < i) = false := decide_eq_false hlt
       clear hlt hq
       go_wp2
       go_ret
       have hS := HS.out.below HP.out HB.out (Nat.le_trans hbt HS.out.bel.size)
       have hp := hS.p
       rw [HPE.out] at hp
       exact ⟨rfl, ⟨N, _, T, fN, fs, fT, xN, _, xT, ⟨hp.1, HGB.out, hp.2.1, hS.mk_.cl HCW.out.apt HCW.out.lens HCW.out.oo HCW.out.oi, hp.2.2⟩⟩, hS.bel⟩
end Wk
end Go.Proofs.YtnioohhiphpplaaDoor.Dp
