/- The walk of NgramLists. -/
import Derived.Test.YtjeofkobefeigaaLk
import Derived.Test.YtjeofkobefeigaaLt
set_option linter.unusedVariables false
set_option linter.unusedSimpArgs false
namespace Go.Proofs.Ytjeofkobefeigaa.Wk
open Go.RowKit Go.Shelf Go.Proofs.YtjeofkobefeigaaW.PrintWords Go.Proofs.YtjeofkobefeigaaW.PrintLast Go.Proofs.YtjeofkobefeigaaW.PrintMore Go.Proofs.Ytjeofkobefeigaa.Mp Go.Proofs.Ytjeofkobefeigaa.PEqRaw
attribute [local go_sem] Oper.semAt_some

set_option maxHeartbeats 8000000 in
set_option maxRecDepth 100000 in
theorem lists_bad {w : World} {A Ab : Option Addr} {c cb n nb : Nat} {most ways deep : Int} (hm : most < 1 ∨ 4 < most) :
    Calls Try.prog 8 #[.int .i64 most, .slice A n c, .slice Ab nb cb, .int .i64 ways, .int .i64 deep] w fun e w' => e = .returned (.bool true) ∧ Below w.heap.size w w' := by
  have hnew := fun w' => new_slot (w := w') (F := fun k => w'.heap.size ≤ k) (n := most) (fun _ h => h)
  have hrnew := fun w' => rnew_slot (w := w') (F := fun k => w'.heap.size ≤ k) (n := most) (fun _ h => h)
  have hs : stNew most = none := if_pos hm
  rw [if_pos hm, hs] at hnew hrnew
  have HNEW := Lib.hid hnew
  have HRNEW := Lib.hid hrnew
  clear hnew hrnew hs hm
  go_enter Try.func8, Try.ntmps8
  go_wp2_with (first | (go_at_call 11; refine (works_calls _).mono ?_; rintro e w1 ⟨rfl, hb1⟩) | (fail))
  have HB1 := Lib.hid ((below_alloc (below_alloc (Below.refl w.heap.size w) (.cells #[.slice A n c] 22)) (.cells #[.slice Ab nb cb] 22)).trans (hb1.mono (by simp; omega)))
  clear hb1
  refine (HNEW.out _).mono ?_
  rintro e w2 ⟨px, rfl, hSx, hb⟩
  obtain rfl : px = .pointer none := hSx
  have HB2 := Lib.hid (HB1.out.trans (hb.mono HB1.out.size))
  have HX : Hid ((w2.alloc (.cells #[.pointer none] 25)).heap[w2.heap.size]? = some (.cells #[.pointer none] 25 (0, 0))) := Lib.hid (blk_new _ _)
  clear hb HB1
  go_wp2_with fail
  refine (HRNEW.out _).mono ?_
  rintro e w3 ⟨py, rfl, hSy, hb⟩
  have HB3 := Lib.hid ((below_alloc HB2.out (.cells #[.pointer none] 25)).trans (hb.mono (by have := HB2.out.size; simp; omega)))
  have kx : w3.cell? ⟨w2.heap.size, 0, none⟩ = some (.pointer none) := (blk_cell (blk_below HX.out hb) 0).trans rfl
  clear hSy hb HB2 HX
  go_wp2_with fail
  go_ret
  exact ⟨rfl, HB3.out⟩
theorem HIdx {W : World} {F : Nat → Prop} {v : Value} {M : Nat} {t : List Int} (h : Slot W F v (some (M, t))) : ∃ q : Addr, v = .pointer (some q) := by
  obtain ⟨B, m, h1, _⟩ := h
  exact ⟨_, h1⟩
/-- The lists of the state, written over or grown so far. -/
def LsRel {α : Type} (base : Nat) (w : World) (d : Kd α) (e : Nat) (Ok : α → Prop) (N : Nat) (v : Value) (Q : Asr) (wr : World) : Prop := ∃ l : List α, l.length = N ∧ (∀ x ∈ l, Ok x) ∧ Stt base wr (Star (ListA d e v l) Q) ∧ Below base w wr
/-- The list and the one that grows beside it. -/
def LwRel (base : Nat) (w : World) (vin : Value) (ins : List Int) (N : Nat) (v : Value) (Q : Asr) (wr : World) : Prop := ∃ l : List Int, l.length = N ∧ (∃ A c, v = .slice A N c) ∧ Stt base wr (Star (WideA vin ins v l) Q) ∧ Below base w wr
set_option maxHeartbeats 8000000 in
set_option maxRecDepth 100000 in
theorem lists_ok {w : World} {A Ab : Option Addr} {c cb M : Nat} {most ways deep : Int} {a b : List Int} (hm : ¬ (most < 1 ∨ 4 < most)) (hM : (M : Int) = most) (hC : Kd.C (Kd.int .i64) w A a.length a) (hc : a.length ≤ c) (ha : Wf a) (hCb : Kd.C (Kd.int .i64) w Ab b.length b) (hcb : b.length ≤ cb) (hb : Wf b)
    (hl : (2 * a.length + b.length) * 8 ≤ 140737488355328) (hw : ways ≤ 9223372036854775807) :
    Calls Try.prog 8 #[.int .i64 most, .slice A a.length c, .slice Ab b.length cb, .int .i64 ways, .int .i64 deep] w fun e w' => e = .returned (.bool true) ∧ Below w.heap.size w w' := by
  have HC := Lib.hid hC
  have HA := Lib.hid ha
  have HCC := Lib.hid hc
  have HCb := Lib.hid hCb
  have HWb := Lib.hid hb
  have HCCb := Lib.hid hcb
  have HLL := Lib.hid hl
  have HW := Lib.hid hw
  clear hC ha hc hCb hb hcb hl hw
  have hnew := fun w' => new_slot (w := w') (F := fun k => w'.heap.size ≤ k) (n := most) (fun _ h => h)
  have hrnew := fun w' => rnew_slot (w := w') (F := fun k => w'.heap.size ≤ k) (n := most) (fun _ h => h)
  have hs : stNew most = some (M, []) := by unfold stNew; rw [if_neg hm, ← hM]; rfl
  rw [if_neg hm, hs] at hnew hrnew
  have HNEW := Lib.hid hnew
  have HRNEW := Lib.hid hrnew
  clear hnew hrnew hs hm
  obtain ⟨L, hL⟩ : ∃ L, a.length = L := ⟨_, rfl⟩
  have HL := Lib.hid hL
  rw [hL]
  clear hL
  refine (callsIn_wide (n := 5)).1 ?_
  refine callsIn_of_wp_marks Try.func8 rfl trivial ?_ rfl
  simp only [Try.ntmps8, List.size_toArray, List.length_cons, List.length_nil, Nat.reduceAdd, Nat.reduceSub, Array.replicate_succ, Array.replicate_zero, List.push_toArray, List.append_toArray, List.nil_append, List.cons_append]
  refine wpIn_wide.2 ?_
  go_wp2_with (first | (go_at_call 11; refine (works_calls _).mono ?_; rintro e w1 ⟨rfl, hb1⟩) | (fail))
  have hT0 := (Stt.emp (base := w.heap.size) (w := w)).alloc Emp.ok (Nat.le_refl _) (.cells #[.slice A L c] 22)
  have hT0 := hT0.alloc (Star.ok (ObjA.ok _ _) Emp.ok) (by simp) (.cells #[.slice Ab b.length cb] 22)
  rw [World.size_alloc] at hT0
  have hB0 := below_alloc (below_alloc (Below.refl w.heap.size w) (.cells #[.slice A L c] 22)) (.cells #[.slice Ab b.length cb] 22)
  have HT1 := Lib.hid (hT0.below (Star.ok (ObjA.ok _ _) (Star.ok (ObjA.ok _ _) Emp.ok)) hb1)
  have HB1 := Lib.hid (hB0.trans (hb1.mono (by simp; omega)))
  clear hb1 hT0 hB0
  refine (HNEW.out _).mono ?_
  rintro e w2 ⟨px, rfl, hSx, hb⟩
  have hT := Stt.add (P := SlotA px (some (M, []))) (base := w.heap.size) (SlotA.ok _ _) (Star.ok (ObjA.ok _ _) (Star.ok (ObjA.ok _ _) Emp.ok)) HT1.out (Below.refl _ _) HB1.out.size hb hSx
  have HB2 := Lib.hid (below_alloc (HB1.out.trans (hb.mono HB1.out.size)) (.cells #[px] 25))
  obtain ⟨qx, rfl⟩ := HIdx hSx
  have HT2 := Lib.hid (hT.alloc (Star.ok (SlotA.ok _ _) (Star.ok (ObjA.ok _ _) (Star.ok (ObjA.ok _ _) Emp.ok))) (by have := HB1.out.size; have := hb.size; omega) (.cells #[.pointer (some qx)] 25))
  clear hSx hb HB1 HT1 hT HNEW
  obtain ⟨N12, hN12⟩ : ∃ N, w2.heap.size = N := ⟨_, rfl⟩
  rw [hN12] at HT2
  go_wp2_with fail
  refine (HRNEW.out _).mono ?_
  rintro e w3 ⟨py, rfl, hSy, hb⟩
  have HT3 := Lib.hid (Stt.add (P := RSlotA py (some (M, []))) (base := w.heap.size) (RSlotA.ok _ _) (Star.ok (ObjA.ok _ _) (Star.ok (SlotA.ok _ _) (Star.ok (ObjA.ok _ _) (Star.ok (ObjA.ok _ _) Emp.ok)))) HT2.out (Below.refl _ _) HB2.out.size hb hSy)
  have HB3 := Lib.hid (HB2.out.trans (hb.mono HB2.out.size))
  clear hSy hb HB2 HRNEW HT2 hN12
  have kx := (blk_cell (HT3.out.imp (fun F h => h.swap)).obj 0).trans rfl
  have ka := (blk_cell (HT3.out.imp (fun F h => h.up5)).obj 0).trans rfl
  go_wp2_with fail
  have hq := copy_calls (w := w3) (c := c) (Kd.C_below HC.out HB3.out) HCC.out (by have := HLL.out; omega)
  rw [HL.out] at hq
  refine hq.mono ?_
  clear hq kx ka
  rintro e w4 ⟨Ai, ci, rfl, hR, hb⟩
  have HT4 := Lib.hid ((Stt.add (P := IntsA (.slice Ai L ci) a) (base := w.heap.size) (IntsA.ok _ _) (Star.ok (RSlotA.ok _ _) (Star.ok (ObjA.ok _ _) (Star.ok (SlotA.ok _ _) (Star.ok (ObjA.ok _ _) (Star.ok (ObjA.ok _ _) Emp.ok))))) HT3.out (Below.refl _ _) HB3.out.size hb (R_F hR (fun _ h => h))).imp (fun F h => h.up4))
  have HB4 := Lib.hid (HB3.out.trans (hb.mono HB3.out.size))
  clear hR hb HB3 HT3
  have kx := (blk_cell (HT4.out.imp (fun F h => h.up4)).obj 0).trans rfl
  go_wp2_with fail
  have hq := append_in (A := Ai) (c := ci) (ts := a) (Star.ok (RSlotA.ok _ _) (Star.ok (ObjA.ok _ _) (Star.ok (ObjA.ok _ _) (Star.ok (ObjA.ok _ _) Emp.ok)))) (by rw [HL.out]; exact HT4.out) HB4.out.size HA.out (by have := HLL.out; show (([] : List Int).length + a.length) * 8 ≤ _; simp only [List.length_nil]; omega)
  rw [HL.out] at hq
  refine hq.mono ?_
  clear hq kx
  rintro e w5 ⟨rfl, hT, hb⟩
  have HT5 := Lib.hid (hT.imp (fun F h => h.up3))
  have HB5 := Lib.hid (HB4.out.trans hb)
  clear hT hb HB4 HT4
  have kx := (blk_cell (HT5.out.imp (fun F h => h.up4)).obj 0).trans rfl
  have ka := (blk_cell (HT5.out.imp (fun F h => h.up6)).obj 0).trans rfl
  go_wp2_with fail
  have hq := rappend_fr (A := A) (c := c) (ts := a) (Star.ok (SlotA.ok _ _) (Star.ok (IntsA.ok _ _) (Star.ok (ObjA.ok _ _) (Star.ok (ObjA.ok _ _) (Star.ok (ObjA.ok _ _) Emp.ok))))) HT5.out (Below.refl _ _) HB5.out.size HA.out (Kd.C_below HC.out HB5.out) HCC.out (away_of HC.out HB5.out.size) (by have := HLL.out; show (([] : List Int).length + a.length) * 8 ≤ _; simp only [List.length_nil]; omega)
  rw [HL.out] at hq
  refine hq.mono ?_
  clear hq kx ka
  rintro e w6 ⟨rfl, hT, hb⟩
  have HT6 := Lib.hid (hT.imp (fun F h => h.up3))
  have HB6 := Lib.hid (HB5.out.trans hb)
  clear hT hb HB5 HT5
  go_wp2_with fail
  go_loopw [17] (fun y wr => ∃ k : Nat, y = .int .i64 k ∧ k ≤ L ∧ LsRel w.heap.size w (Kd.int .i64) 3 (fun x => (Lit.int .i64 x).wf = true) L (.slice Ai L ci) (Star (RSlotA py (stApp a (some (M, [])))) (Star (SlotA (.pointer (some qx)) (stApp a (some (M, [])))) (Star (ObjA N12 (.cells #[.pointer (some qx)] 25)) (Star (ObjA (w.heap.size + 1) (.cells #[.slice Ab b.length cb] 22)) (Star (ObjA w.heap.size (.cells #[.slice A L c] 22)) Emp))))) wr) (fun y _ => L - (intOf y).toNat)
  case atStart => exact ⟨0, rfl, Nat.zero_le _, a, HL.out, HA.out, HT6.out, HB6.out⟩
  case round =>
    obtain ⟨k, rfl, hk, l, hln, hlw, hT, hB⟩ := hrel
    rename World => wa
    have HT := Lib.hid hT
    have HB := Lib.hid hB
    have HK := Lib.hid hk
    have HLN := Lib.hid hln
    have HLW := Lib.hid hlw
    clear hT hB hk hln hlw HT6 HB6
    by_cases hlt : k < L
    · have d1 : decide ((k : Int) < (L : Int)) = true := decide_eq_true (by omega)
      have d1' : decide (k < L) = true := decide_eq_true hlt
      have hR := HT.out.list rfl
      obtain ⟨g, cap, ev, _, _, _⟩ := Kd.R_form hR (by rw [HLN.out]; omega)
      injection ev with e1 e2 e3
      subst e1; subst e3
      clear e2
      obtain ⟨k1, k2⟩ := Kd.R_celln (0 : Int) hR (k : Int) (by omega) (by omega)
      obtain ⟨hP, hg⟩ := Kd.R_putg hR (k : Int) (-9)
      rw [Int.toNat_natCast] at k1 k2 hP hg
      have him : (k : Int) < (L : Int) := by omega
      have him2 : (L : Int) ≤ 17592186044416 := by have := HLL.out; have := HL.out; omega
      have HP := Lib.hid hP
      have HG := Lib.hid hg
      clear hR hP hg
      go_wp2_with fail
      have hbase := HB.out.size
      obtain ⟨s1, s2⟩ := Stt.lgrow (d := Kd.int .i64) rfl (Star.ok (RSlotA.ok _ _) (Star.ok (SlotA.ok _ _) (Star.ok (ObjA.ok _ _) (Star.ok (ObjA.ok _ _) (Star.ok (ObjA.ok _ _) Emp.ok))))) HT.out hbase HP.out HG.out (.inl rfl)
      refine ⟨⟨k + 1, rfl, hlt, l.set k (-9), by rw [List.length_set]; exact HLN.out, fun x hx => ?_, s1, HB.out.trans s2⟩, by simp [intOf] <;> omega⟩
      rcases List.mem_or_eq_of_mem_set hx with hx | rfl
      · exact HLW.out x hx
      · decide
    · have d1 : decide ((k : Int) < (L : Int)) = false := decide_eq_false (by omega)
      have d1' : decide (k < L) = false := decide_eq_false hlt
      clear hlt HK
      go_wp2_with fail
      go_loopw [18, 19] (fun x y wr => ∃ k : Nat, y = .int .i64 k ∧ k ≤ 64 ∧ LwRel w.heap.size w (.slice Ai L ci) l (L + k) x (Star (RSlotA py (stApp a (some (M, [])))) (Star (SlotA (.pointer (some qx)) (stApp a (some (M, [])))) (Star (ObjA N12 (.cells #[.pointer (some qx)] 25)) (Star (ObjA (w.heap.size + 1) (.cells #[.slice Ab b.length cb] 22)) (Star (ObjA w.heap.size (.cells #[.slice A L c] 22)) Emp))))) wr) (fun _ y _ => 64 - (intOf y).toNat)
      case atStart => exact ⟨0, rfl, Nat.zero_le _, l, HLN.out, ⟨_, _, rfl⟩, HT.out.imp (fun F h => h.impL (fun F h => WideA.start h)), HB.out⟩
      case round =>
        obtain ⟨k2, rfl, hk2, l2, hln2, ⟨Aw, cw, rfl⟩, hT2, hB2⟩ := hrel
        rename World => wb
        have HT2 := Lib.hid hT2
        have HB2 := Lib.hid hB2
        have HLN2 := Lib.hid hln2
        have HR2 := Lib.hid hT2.wide
        clear hT2 hB2 hln2 HT HB
        by_cases hlt : k2 < 64
        · have d1 : decide ((k2 : Int) < 64) = true := decide_eq_true (by omega)
          have d1' : decide (k2 < 64) = true := decide_eq_true hlt
          have him : (k2 : Int) < 64 := by omega
          have HX := Lib.hid hlt
          clear hlt hk2
          go_wp2_with (first | ((with_reducible refine gate_builtin (b := .append) (xs := #[.tmp 78, .tmp 79]) rfl ?_); at_builtin; refine appWide rfl (.tmp 78) (.tmp 79) rfl _ l2 (-8) rfl rfl HR2.out (by have := HLN2.out; have := HLL.out; have := HL.out; have := HX.out; omega) ?_; intro v1 w1 h1 h2 h3; obtain ⟨A1, c1, rfl, _, _⟩ := Kd.R_reads h1; have H1 := Lib.hid h1; have H2 := Lib.hid h2; have H3 := Lib.hid h3; clear h1 h2 h3) | (fail))
          have s := Stt.wgrow (Star.ok (RSlotA.ok _ _) (Star.ok (SlotA.ok _ _) (Star.ok (ObjA.ok _ _) (Star.ok (ObjA.ok _ _) (Star.ok (ObjA.ok _ _) Emp.ok))))) HT2.out HB2.out.size H1.out H2.out (by
            rcases H3.out with ⟨ad, c, e1, e2⟩ | h
            · exact .inl ⟨ad, c, e1, e2⟩
            · exact .inr h)
          rw [List.length_append, List.length_singleton] at s
          refine ⟨⟨k2 + 1, rfl, HX.out, l2 ++ [-8], by rw [List.length_append, HLN2.out]; rfl, ⟨A1, c1, by rw [HLN2.out]; rfl⟩, s.1, HB2.out.trans s.2⟩, by have := HX.out; simp [intOf] <;> omega⟩
        · have d1 : decide ((k2 : Int) < 64) = false := decide_eq_false (by omega)
          have d1' : decide (k2 < 64) = false := decide_eq_false hlt
          obtain rfl : k2 = 64 := by omega
          have HT3 := Lib.hid ((HT2.out.imp (fun F h => h.impL (fun F h => h.1))).imp (P := Star (IntsA (.slice Ai L ci) l) _) (fun F h => h.swap))
          obtain ⟨Fr3, hS3⟩ := HT3.out.rslot
          have HS3 := Lib.hid hS3
          clear hlt hk2 HT2 HR2 hS3
          go_wp2_with fail
          have HLS : Hid ((stText (stApp a (some (M, [])))).length * 8 ≤ 140737488355328) := Lib.hid (by have := text_app (s := some (M, [])) (ts := a); have := HLL.out; have h2 : (stText (some (M, []))).length = 0 := rfl; omega)
          obtain ⟨pr, hpr⟩ : ∃ pr, stPr (stApp a (some (M, []))) ways deep = pr := ⟨_, rfl⟩
          have HPR := Lib.hid hpr
          clear hpr
          have hq := rpropose_slot (deep := deep) HS3.out HLS.out HW.out
          rw [HPR.out] at hq
          refine hq.mono ?_
          clear hq HS3
          rintro e w7 ⟨v20, rfl, hR, hb⟩
          have HT7 := Lib.hid (Stt.add (P := ListA k35 35 v20 pr) (base := w.heap.size) (ListA.ok rfl _ _ _) (Star.ok (RSlotA.ok _ _) (Star.ok (IntsA.ok _ _) (Star.ok (SlotA.ok _ _) (Star.ok (ObjA.ok _ _) (Star.ok (ObjA.ok _ _) (Star.ok (ObjA.ok _ _) Emp.ok)))))) HT3.out (Below.refl _ _) HB2.out.size hb (ListA.new rfl hR))
          have HB7 := Lib.hid (HB2.out.trans (hb.mono HB2.out.size))
          obtain ⟨A20, c20, rfl, _, _⟩ := Kd.R_reads hR
          clear hR hb HB2 HT3
          have kx := (blk_cell (HT7.out.imp (fun F h => h.up5)).obj 0).trans rfl
          obtain ⟨Fs, hSs⟩ := (HT7.out.imp (fun F h => h.up4)).slot
          have HSs := Lib.hid hSs
          clear hSs
          go_wp2_with fail
          have hq := propose_slot (deep := deep) HSs.out HLS.out HW.out
          rw [HPR.out] at hq
          refine hq.mono ?_
          clear hq HSs kx
          rintro e w8 ⟨v21, rfl, hR, hb⟩
          have HT8 := Lib.hid (Stt.add (P := ListA k35 35 v21 pr) (base := w.heap.size) (ListA.ok rfl _ _ _) (Star.ok (ListA.ok rfl _ _ _) (Star.ok (RSlotA.ok _ _) (Star.ok (IntsA.ok _ _) (Star.ok (SlotA.ok _ _) (Star.ok (ObjA.ok _ _) (Star.ok (ObjA.ok _ _) (Star.ok (ObjA.ok _ _) Emp.ok))))))) HT7.out (Below.refl _ _) HB7.out.size hb (ListA.new rfl hR))
          have HB8 := Lib.hid (HB7.out.trans (hb.mono HB7.out.size))
          obtain ⟨A21, c21, rfl, _, _⟩ := Kd.R_reads hR
          clear hR hb HB7 HT7
          have kx := (blk_cell (HT8.out.imp (fun F h => h.up6)).obj 0).trans rfl
          obtain ⟨Fs, hSs⟩ := (HT8.out.imp (fun F h => h.up5)).slot
          have HSs := Lib.hid hSs
          clear hSs
          go_wp2_with fail
          have hq := propose_slot (deep := deep) HSs.out HLS.out HW.out
          rw [HPR.out] at hq
          refine hq.mono ?_
          clear hq HSs kx
          rintro e w9 ⟨v22, rfl, hR, hb⟩
          have HT9 := Lib.hid (Stt.add (P := ListA k35 35 v22 pr) (base := w.heap.size) (ListA.ok rfl _ _ _) (Star.ok (ListA.ok rfl _ _ _) (Star.ok (ListA.ok rfl _ _ _) (Star.ok (RSlotA.ok _ _) (Star.ok (IntsA.ok _ _) (Star.ok (SlotA.ok _ _) (Star.ok (ObjA.ok _ _) (Star.ok (ObjA.ok _ _) (Star.ok (ObjA.ok _ _) Emp.ok)))))))) HT8.out (Below.refl _ _) HB8.out.size hb (ListA.new rfl hR))
          have HB9 := Lib.hid (HB8.out.trans (hb.mono HB8.out.size))
          obtain ⟨A22, c22, rfl, _, _⟩ := Kd.R_reads hR
          clear hR hb HB8 HT8
          go_wp2_with fail
          obtain ⟨q1, q2⟩ := (HT9.out.imp (fun F h => h.swap)).listC
          obtain ⟨q3, q4⟩ := (HT9.out.imp (fun F h => h.up3)).listC
          refine (eqraw_sameG q2 q1 q4 q3).mono ?_
          clear q1 q2 q3 q4
          rintro e w10 ⟨rfl, hd⟩
          have HT10 := Lib.hid ((HT9.out.below (Star.ok (ListA.ok rfl _ _ _) (Star.ok (ListA.ok rfl _ _ _) (Star.ok (ListA.ok rfl _ _ _) (Star.ok (RSlotA.ok _ _) (Star.ok (IntsA.ok _ _) (Star.ok (SlotA.ok _ _) (Star.ok (ObjA.ok _ _) (Star.ok (ObjA.ok _ _) (Star.ok (ObjA.ok _ _) Emp.ok))))))))) hd.below).imp (fun F h => h.swap))
          have HB10 := Lib.hid (HB9.out.trans (hd.below.mono HB9.out.size))
          clear hd HT9 HB9
          obtain ⟨N, hN⟩ : ∃ N, pr.length = N := ⟨_, rfl⟩
          have HN := Lib.hid hN
          have HN96 : Hid ((N : Int) ≤ 96) := Lib.hid (by rw [← hN, ← HPR.out]; exact Int.ofNat_le.2 (proposeL_le _ _ _))
          rw [hN] at HT10 ⊢
          clear hN
          go_wp2_with fail
          go_loopw [24] (fun y wr => ∃ k : Nat, y = .int .i64 k ∧ k ≤ N ∧ LsRel w.heap.size w k35 35 (fun _ => True) N (.slice A21 N c21) (Star (ListA k35 35 (.slice A22 N c22) pr) (Star (ListA k35 35 (.slice A20 N c20) pr) (Star (RSlotA py (stApp a (some (M, [])))) (Star (IntsA (.slice Ai L ci) l) (Star (SlotA (.pointer (some qx)) (stApp a (some (M, [])))) (Star (ObjA N12 (.cells #[.pointer (some qx)] 25)) (Star (ObjA (w.heap.size + 1) (.cells #[.slice Ab b.length cb] 22)) (Star (ObjA w.heap.size (.cells #[.slice A L c] 22)) Emp)))))))) wr) (fun y _ => N - (intOf y).toNat)
          case atStart => exact ⟨0, rfl, Nat.zero_le _, pr, HN.out, fun _ _ => trivial, HT10.out, HB10.out⟩
          case round =>
            obtain ⟨k3, rfl, hk3, l3, hln3, _, hT3, hB3⟩ := hrel
            rename World => wc
            have HT11 := Lib.hid hT3
            have HB11 := Lib.hid hB3
            have HLN3 := Lib.hid hln3
            have HK3 := Lib.hid hk3
            clear hT3 hB3 hln3 hk3 HT10 HB10
            have him2 : (N : Int) ≤ 96 := HN96.out
            by_cases hlt : k3 < N
            · have d1 : decide ((k3 : Int) < (N : Int)) = true := decide_eq_true (by omega)
              have d1' : decide (k3 < N) = true := decide_eq_true hlt
              have hR := HT11.out.list rfl
              obtain ⟨g, cap, ev, _, _, _⟩ := Kd.R_form hR (by rw [HLN3.out]; omega)
              injection ev with e1 e2 e3
              subst e1; subst e3
              clear e2
              obtain ⟨cs, hcl, hM, hcc, hfz⟩ := Kd.R_elem hR z35 (k3 : Int) (by omega) (by omega)
              obtain rfl := k35_openM hM
              have k1 := hcc 0 _ rfl
              have k2 := hcc 1 _ rfl
              have k4 := hfz 0
              have k5 := hfz 1
              rw [Int.toNat_natCast, show k35.sz = 2 from rfl] at k1 k2 k4 k5
              rw [Nat.add_zero] at k1 k4
              have him : (k3 : Int) < (N : Int) := by omega
              have HSG := Lib.hid (Kd.R_seg (x' := (⟨5, -7⟩ : S35)) (seg := [.int .i64 5, .int .i64 (-7)]) (j := 0) (okp := fun _ => False) hR (k3 : Int) (by omega) (by omega) hcl hcc (Nat.le_refl _) (k35_mkM _ _ _ _) (fun _ h => h.elim))
              clear hM hcl hcc hfz hR
              go_wp2_with fail
              have hsg := HSG.out
              rw [Int.toNat_natCast, show k35.sz = 2 from rfl, Nat.add_zero] at hsg
              obtain ⟨s1, s2⟩ := Stt.lgrow (d := k35) rfl (Star.ok (ListA.ok rfl _ _ _) (Star.ok (ListA.ok rfl _ _ _) (Star.ok (RSlotA.ok _ _) (Star.ok (IntsA.ok _ _) (Star.ok (SlotA.ok _ _) (Star.ok (ObjA.ok _ _) (Star.ok (ObjA.ok _ _) (Star.ok (ObjA.ok _ _) Emp.ok)))))))) HT11.out HB11.out.size hsg.1 hsg.2 (.inl rfl)
              exact ⟨⟨k3 + 1, rfl, hlt, l3.set k3 ⟨5, -7⟩, by rw [List.length_set]; exact HLN3.out, fun _ _ => trivial, s1, HB11.out.trans s2⟩, by simp [intOf] <;> omega⟩
            · have d1 : decide ((k3 : Int) < (N : Int)) = false := decide_eq_false (by omega)
              have d1' : decide (k3 < N) = false := decide_eq_false hlt
              clear hlt HK3
              go_wp2_with fail
              go_loopw [25, 26] (fun x y wr => ∃ k : Nat, y = .int .i64 k ∧ k ≤ 64 ∧ (∃ A c, x = .slice A (N + k) c) ∧ LsRel w.heap.size w k35 35 (fun _ => True) (N + k) x (Star (ListA k35 35 (.slice A22 N c22) pr) (Star (ListA k35 35 (.slice A20 N c20) pr) (Star (RSlotA py (stApp a (some (M, [])))) (Star (IntsA (.slice Ai L ci) l) (Star (SlotA (.pointer (some qx)) (stApp a (some (M, [])))) (Star (ObjA N12 (.cells #[.pointer (some qx)] 25)) (Star (ObjA (w.heap.size + 1) (.cells #[.slice Ab b.length cb] 22)) (Star (ObjA w.heap.size (.cells #[.slice A L c] 22)) Emp)))))))) wr) (fun _ y _ => 64 - (intOf y).toNat)
              case atStart => exact ⟨0, rfl, Nat.zero_le _, ⟨_, _, rfl⟩, l3, HLN3.out, fun _ _ => trivial, HT11.out, HB11.out⟩
              case round =>
                obtain ⟨k4, rfl, hk4, ⟨A25, c25, rfl⟩, l4, hln4, _, hT4, hB4⟩ := hrel
                rename World => wd
                have HT12 := Lib.hid hT4
                have HB12 := Lib.hid hB4
                have HLN4 := Lib.hid hln4
                have HK4 := Lib.hid hk4
                clear hT4 hB4 hln4 hk4 HT11 HB11
                by_cases hlt : k4 < 64
                · have d1 : decide ((k4 : Int) < 64) = true := decide_eq_true (by omega)
                  have d1' : decide (k4 < 64) = true := decide_eq_true hlt
                  have HR4 := Lib.hid (HT12.out.list rfl)
                  have him : (k4 : Int) < 64 := by omega
                  have HX4 := Lib.hid hlt
                  clear hlt
                  go_wp2_with (first | ((with_reducible refine gate_builtin (b := .append) (xs := #[.tmp 111, .tmp 113]) rfl ?_); at_builtin; refine Kd.R_append k35 (w0 := wd) 0 rfl (.tmp 111) (.tmp 113) 32 35 (.agg #[.int .i64 0, .int .i64 0]) 16 rfl Try.underlying32 info35 rfl (by decide) (by omega) (.slice A25 (N + k4) c25) l4 ⟨0, -6⟩ [.int .i64 0, .int .i64 (-6)] (fun _ => True) (fun _ => False) rfl rfl (k35_mkM _ _ _ _) (fun _ h => h.elim) (fun _ _ => trivial) HR4.out (Below.refl 0 _) (Nat.zero_le _) (by have := HLN4.out; have := HN96.out; have := HX4.out; omega) ?_; intro v1 w1 h1 _ h2 h3; obtain ⟨A1, c1, rfl, _, _⟩ := Kd.R_reads h1; have H1 := Lib.hid h1; have H2 := Lib.hid h2; have H3 := Lib.hid h3; clear h1 h2 h3) | (fail))
                  have s := Stt.lgrow (d := k35) rfl (Star.ok (ListA.ok rfl _ _ _) (Star.ok (ListA.ok rfl _ _ _) (Star.ok (RSlotA.ok _ _) (Star.ok (IntsA.ok _ _) (Star.ok (SlotA.ok _ _) (Star.ok (ObjA.ok _ _) (Star.ok (ObjA.ok _ _) (Star.ok (ObjA.ok _ _) Emp.ok)))))))) HT12.out HB12.out.size H1.out H2.out H3.out
                  rw [List.length_append, List.length_singleton] at s
                  exact ⟨⟨k4 + 1, rfl, HX4.out, ⟨A1, c1, by rw [HLN4.out]; rfl⟩, l4 ++ [⟨0, -6⟩], by rw [List.length_append, HLN4.out]; rfl, fun _ _ => trivial, s.1, HB12.out.trans s.2⟩, by have := HX4.out; simp [intOf] <;> omega⟩
                · have d1 : decide ((k4 : Int) < 64) = false := decide_eq_false (by omega)
                  have d1' : decide (k4 < 64) = false := decide_eq_false hlt
                  obtain rfl : k4 = 64 := by have := HK4.out; omega
                  have HT13 := Lib.hid HT12.out.drop
                  clear hlt HT12 HK4
                  go_wp2_with fail
                  obtain ⟨q1, q2⟩ := HT13.out.listC
                  obtain ⟨q3, q4⟩ := (HT13.out.imp (fun F h => h.swap)).listC
                  rw [HN.out] at q1 q2 q3 q4
                  have hq := eqraw_sameG (by rw [HN.out]; exact q2) (by rw [HN.out]; exact q1) (by rw [HN.out]; exact q4) (by rw [HN.out]; exact q3)
                  rw [HN.out] at hq
                  refine hq.mono ?_
                  clear hq q1 q2 q3 q4
                  rintro e w14 ⟨rfl, hd⟩
                  have HT14 := Lib.hid (HT13.out.below (Star.ok (ListA.ok rfl _ _ _) (Star.ok (ListA.ok rfl _ _ _) (Star.ok (RSlotA.ok _ _) (Star.ok (IntsA.ok _ _) (Star.ok (SlotA.ok _ _) (Star.ok (ObjA.ok _ _) (Star.ok (ObjA.ok _ _) (Star.ok (ObjA.ok _ _) Emp.ok)))))))) hd.below)
                  have HB14 := Lib.hid (HB12.out.trans (hd.below.mono HB12.out.size))
                  clear hd HT13 HB12
                  have kx := (blk_cell (HT14.out.imp (fun F h => h.up6)).obj 0).trans rfl
                  obtain ⟨Fs, hSs⟩ := (HT14.out.imp (fun F h => h.up5)).slot
                  have HSs := Lib.hid hSs
                  clear hSs
                  go_wp2_with fail
                  have hq := propose_slot (deep := deep) HSs.out HLS.out HW.out
                  rw [HPR.out] at hq
                  refine hq.mono ?_
                  clear hq HSs kx
                  rintro e w15 ⟨v28, rfl, hR, hb⟩
                  have HT15 := Lib.hid (Stt.add (P := ListA k35 35 v28 pr) (base := w.heap.size) (ListA.ok rfl _ _ _) (Star.ok (ListA.ok rfl _ _ _) (Star.ok (ListA.ok rfl _ _ _) (Star.ok (RSlotA.ok _ _) (Star.ok (IntsA.ok _ _) (Star.ok (SlotA.ok _ _) (Star.ok (ObjA.ok _ _) (Star.ok (ObjA.ok _ _) (Star.ok (ObjA.ok _ _) Emp.ok)))))))) HT14.out (Below.refl _ _) HB14.out.size hb (ListA.new rfl hR))
                  have HB15 := Lib.hid (HB14.out.trans (hb.mono HB14.out.size))
                  obtain ⟨A28, c28, rfl, _, _⟩ := Kd.R_reads hR
                  clear hR hb HB14 HT14
                  rw [HN.out] at HT15 ⊢
                  go_wp2_with fail
                  obtain ⟨q1, q2⟩ := HT15.out.listC
                  obtain ⟨q3, q4⟩ := (HT15.out.imp (fun F h => h.up3)).listC
                  rw [HN.out] at q1 q2 q3 q4
                  have hq := eqraw_sameG (by rw [HN.out]; exact q2) (by rw [HN.out]; exact q1) (by rw [HN.out]; exact q4) (by rw [HN.out]; exact q3)
                  rw [HN.out] at hq
                  refine hq.mono ?_
                  clear hq q1 q2 q3 q4
                  rintro e w16 ⟨rfl, hd⟩
                  have HT16 := Lib.hid (HT15.out.drop.drop.drop.below (Star.ok (RSlotA.ok _ _) (Star.ok (IntsA.ok _ _) (Star.ok (SlotA.ok _ _) (Star.ok (ObjA.ok _ _) (Star.ok (ObjA.ok _ _) (Star.ok (ObjA.ok _ _) Emp.ok)))))) hd.below)
                  have HB16 := Lib.hid (HB15.out.trans (hd.below.mono HB15.out.size))
                  clear hd HT15 HB15
                  go_wp2_with fail
                  obtain ⟨q1, q2⟩ := (HT16.out.imp (fun F h => h.swap)).listC
                  have hq := copy_calls (w := w16) (c := ci) q2 q1 (by have := HLL.out; have := HL.out; have := HLN.out; omega)
                  rw [HLN.out] at hq
                  refine hq.mono ?_
                  clear hq q1 q2
                  rintro e w17 ⟨Aj, cj, rfl, hR, hb⟩
                  obtain ⟨_, _, ev, hcj, hCj⟩ := Kd.R_reads hR
                  injection ev with e1 e2 e3
                  subst e1; subst e3
                  have hAj : Away w.heap.size w16 w17 Aj := fun ad e => by
                    subst e
                    have h1 := Kd.R_base hR ad.block rfl
                    have h2 := Kd.R_lt hR ad.block rfl
                    exact ⟨.inr h1, h2⟩
                  have HAJ := Lib.hid hAj
                  have HCJ := Lib.hid hCj
                  have Hcj := Lib.hid hcj
                  have HBj := Lib.hid hb
                  clear hR hb e2 hAj hCj hcj
                  go_wp2_with fail
                  have hq := rappend_fr (A := Aj) (c := cj) (ts := l) (Star.ok (IntsA.ok _ _) (Star.ok (SlotA.ok _ _) (Star.ok (ObjA.ok _ _) (Star.ok (ObjA.ok _ _) (Star.ok (ObjA.ok _ _) Emp.ok))))) HT16.out HBj.out HB16.out.size HLW.out HCJ.out Hcj.out (fun _ => HAJ.out) (by have := text_app (s := some (M, [])) (ts := a); have h2 : (stText (some (M, []))).length = 0 := rfl; have := HLL.out; have := HL.out; have := HLN.out; omega)
                  rw [HLN.out] at hq
                  refine hq.mono ?_
                  clear hq
                  rintro e w18 ⟨rfl, hT, hb⟩
                  have HT18 := Lib.hid (hT.imp (fun F h => h.up3.impR (fun F h => h.swap)))
                  have HB18 := Lib.hid ((HB16.out.trans (HBj.out.mono HB16.out.size)).trans hb)
                  clear hT hb HT16 HB16 HBj HAJ HCJ Hcj
                  have kx := (blk_cell (HT18.out.imp (fun F h => h.up4)).obj 0).trans rfl
                  go_wp2_with fail
                  have hq := append_in (A := Ai) (c := ci) (ts := l) (Star.ok (RSlotA.ok _ _) (Star.ok (ObjA.ok _ _) (Star.ok (ObjA.ok _ _) (Star.ok (ObjA.ok _ _) Emp.ok)))) (by rw [HLN.out]; exact HT18.out) HB18.out.size HLW.out (by have := text_app (s := some (M, [])) (ts := a); have h2 : (stText (some (M, []))).length = 0 := rfl; have := HLL.out; have := HL.out; have := HLN.out; omega)
                  rw [HLN.out] at hq
                  refine hq.mono ?_
                  clear hq kx
                  rintro e w19 ⟨rfl, hT, hb⟩
                  have HT19 := Lib.hid (hT.imp (fun F h => h.up3))
                  have HB19 := Lib.hid (HB18.out.trans hb)
                  obtain ⟨Fs, hSs⟩ := (hT.imp (fun F h => h.up3)).rslot
                  have HSs := Lib.hid hSs
                  have HLS2 : Hid ((stText (stApp l (stApp a (some (M, []))))).length * 8 ≤ 140737488355328) := Lib.hid (by have := text_app (s := stApp a (some (M, []))) (ts := l); have := text_app (s := some (M, [])) (ts := a); have h2 : (stText (some (M, []))).length = 0 := rfl; have := HLL.out; have := HL.out; have := HLN.out; omega)
                  clear hT hb HT18 HB18 hSs
                  go_wp2_with fail
                  refine (rplaces_slot HSs.out HLS2.out).mono ?_
                  rintro e w20 ⟨v29, rfl, hR, hb⟩
                  have HT20 := Lib.hid (Stt.add (P := IntsA v29 (stPl (stApp l (stApp a (some (M, []))))).reverse) (base := w.heap.size) (IntsA.ok _ _) (Star.ok (RSlotA.ok _ _) (Star.ok (SlotA.ok _ _) (Star.ok (IntsA.ok _ _) (Star.ok (ObjA.ok _ _) (Star.ok (ObjA.ok _ _) (Star.ok (ObjA.ok _ _) Emp.ok)))))) HT19.out (Below.refl _ _) HB19.out.size hb (R_F hR (fun _ h => h)))
                  have HB20 := Lib.hid (HB19.out.trans (hb.mono HB19.out.size))
                  clear hR hb HSs HT19 HB19
                  have hkx := (HT20.out.imp (fun F h => h.up5)).obj
                  have kx : (w20.alloc (.cells #[.slice none 0 0] 22)).cell? ⟨N12, 0, none⟩ = some (.pointer (some qx)) := (blk_cell (blk_below hkx (below_alloc (Below.refl _ _) _)) 0).trans rfl
                  have hnil := eqnil 38 #[.pointer (some ⟨w20.heap.size + 1, 0, none⟩)]
                  clear hkx
                  go_wp2_with (first | (go_at_call 35; refine (callsIn_wide.1 (places_fn 5 (.pointer (some qx)) ⟨_, rfl⟩ _)).mono ?_; rintro e w' ⟨rfl, rfl⟩) | (fail))
                  have hT21 := (HT20.out.alloc (Star.ok (IntsA.ok _ _) (Star.ok (RSlotA.ok _ _) (Star.ok (SlotA.ok _ _) (Star.ok (IntsA.ok _ _) (Star.ok (ObjA.ok _ _) (Star.ok (ObjA.ok _ _) (Star.ok (ObjA.ok _ _) Emp.ok))))))) HB20.out.size (.cells #[.slice none 0 0] 22)).alloc (Star.ok (ObjA.ok _ _) (Star.ok (IntsA.ok _ _) (Star.ok (RSlotA.ok _ _) (Star.ok (SlotA.ok _ _) (Star.ok (IntsA.ok _ _) (Star.ok (ObjA.ok _ _) (Star.ok (ObjA.ok _ _) (Star.ok (ObjA.ok _ _) Emp.ok)))))))) (by have := HB20.out.size; simp; omega) (.cells #[.pointer (some qx)] 25)
                  rw [World.size_alloc] at hT21
                  obtain ⟨Fs, hSs⟩ := (hT21.imp (fun F h => h.up5)).slot
                  have hBp := hT21.obj
                  have HT21 := Lib.hid (hT21.imp (fun F h => (h.dropL (Star.ok (ObjA.ok _ _) (Star.ok (IntsA.ok _ _) (Star.ok (RSlotA.ok _ _) (Star.ok (SlotA.ok _ _) (Star.ok (IntsA.ok _ _) (Star.ok (ObjA.ok _ _) (Star.ok (ObjA.ok _ _) (Star.ok (ObjA.ok _ _) Emp.ok))))))))).up4))
                  have HB21 := Lib.hid (below_alloc (below_alloc HB20.out (.cells #[.slice none 0 0] 22)) (.cells #[.pointer (some qx)] 25))
                  have HSS := Lib.hid hSs
                  have HBP := Lib.hid hBp
                  clear hT21 hSs hBp HT20 HB20 kx hnil
                  refine (wpIn_wide (n := 5)).1 ?_
                  obtain ⟨B, m, F0, Fq, rfl, hIx, hM1, hM4, hw0, hBx, hnf, hfb, hxb, hqq, hne⟩ := LtI.open (t0 := ([] ++ a) ++ l) HT21.out
                  have HQQ := Lib.hid hqq
                  have HNE := Lib.hid hne
                  have HFB := Lib.hid hfb
                  have HXB := Lib.hid hxb
                  have HNF := Lib.hid hnf
                  have HM1 := Lib.hid hM1
                  have HM4 := Lib.hid hM4
                  have HBxlt := Lib.hid (blk_lt hBx)
                  have HBlt := Lib.hid (hIx.toFoot.footOf (.inl rfl)).2.1
                  have HQok := Lib.hid (show Asr.Ok (Star (IntsA v29 (stPl (stApp l (stApp a (some (M, []))))).reverse) (Star (RSlotA py (stApp l (stApp a (some (M, []))))) (Star (IntsA (.slice Ai L ci) l) (Star (ObjA N12 (.cells #[.pointer (some ⟨B, 0, none⟩)] 25)) (Star (ObjA (w.heap.size + 1) (.cells #[.slice Ab b.length cb] 22)) (Star (ObjA w.heap.size (.cells #[.slice A L c] 22)) Emp)))))) from Star.ok (IntsA.ok _ _) (Star.ok (RSlotA.ok _ _) (Star.ok (IntsA.ok _ _) (Star.ok (ObjA.ok _ _) (Star.ok (ObjA.ok _ _) (Star.ok (ObjA.ok _ _) Emp.ok))))))
                  have Hmlt := Lib.hid (hIx.toFoot.footOf (.inr (.inl rfl))).2.1
                  clear hqq hne hfb hxb hnf hM1 hM4 HT21
                  obtain ⟨W0, hW0⟩ : ∃ W0, (w20.alloc (.cells #[.slice none 0 0] 22)).alloc (.cells #[.pointer (some ⟨B, 0, none⟩)] 25) = W0 := ⟨_, rfl⟩
                  rw [hW0] at HB21 HSS HBP HQQ HNE HFB HNF HBxlt HBlt Hmlt hIx hBx ⊢
                  clear hW0
                  refine loop_law2 (n := 5) (by omega) (Bx := w20.heap.size) (Bp := w20.heap.size + 1) (p := .pointer (some ⟨B, 0, none⟩)) (pl := stPl (stApp l (stApp a (some (M, []))))) rfl rfl HBP.out ⟨_, rfl⟩ hBx hIx (fun W hb => inner_slot (HSS.out.below hb) HLS2.out) (fun t => Wf t ∧ t.length ≤ 2 * L + b.length) ⟨hw0, by have := HL.out; have := HLN.out; simp; omega⟩ ?a1 ?assign ?body ?done
                  case assign =>
                    intro l x W K hK
                    gi_wp2
                    exact hK
                  case body =>
                    rintro lv pre x W t ⟨hwt, htl⟩ hI hlen
                    obtain ⟨v, hv, hR, hvf⟩ := hI.box
                    have kv : W.cell? ⟨w20.heap.size, 0, none⟩ = some v := (blk_cell hv 0).trans rfl
                    have hql := hI.rest HQok.out HQQ.out HNE.out
                    have HV := Lib.hid hv
                    have HR := Lib.hid hR
                    have HVF := Lib.hid hvf
                    have HI := Lib.hid hI
                    have HWT := Lib.hid hwt
                    have HTL := Lib.hid htl
                    have HLEN : Hid ((pre.length + 1) * 8 ≤ 140737488355328) := Lib.hid (by have := stPl_length (stApp l (stApp a (some (M, [])))); have := HLS2.out; omega)
                    clear hv hR hvf hI hwt htl hlen hql
                    gi_wp2_with (gi_at_builtin; refine appIn (W := W) (base := W0.heap.size) rfl (.tmp 143) (.tmp 145) rfl v pre x rfl rfl HR.out HI.out.fr.size HLEN.out ?_; intro v1 w1 ho hg hat hk; obtain ⟨A1, c1, rfl, _, _⟩ := Kd.R_reads ho; obtain ⟨kv1, kf1, hst⟩ := LtI.put HBlt.out Hmlt.out HBxlt.out HNF.out HI.out HV.out HR.out HVF.out ho hg hat hk; rw [List.length_append, List.length_singleton] at hst ⊢; have HST := Lib.hid hst; have hql := hst.2.2.1.rest HQok.out HQQ.out HNE.out; have kx := (blk_cell (hql.up4).obj 0).trans rfl; have ka := (blk_cell (hql.up6).obj 0).trans rfl; clear ho hg hat hk hst hql)
                    obtain ⟨s1, s2, s3, s4⟩ := HST.out
                    have HS1 := Lib.hid (s1.from W0.heap.size)
                    have HS2 := Lib.hid s2
                    have HS3 := Lib.hid s3
                    obtain ⟨nn, hnn⟩ : ∃ nn : Int, wrap64 ((L : Int) / 2) = nn := ⟨_, rfl⟩
                    have HNN : Hid (nn.toNat ≤ L) := Lib.hid (by have := HLL.out; have := HL.out; rw [← hnn, IntWalk.wrap64_in _ (by omega)]; omega)
                    rw [hnn]
                    clear hnn s1 s2 s3 s4 HST kv kv1 kf1 kx ka
                    refine ⟨trivial, ((callsIn_wide.2 (LtI.cut (n := nn) Hmlt.out HBxlt.out HNF.out HM1.out HM4.out HS3.out HWT.out)).inRound lv).mono ?_⟩
                    rintro e w22 ⟨rfl, c1, c2, c3⟩
                    have hql := c3.rest HQok.out HQQ.out HNE.out
                    have kx := (blk_cell (hql.up4).obj 0).trans rfl
                    have kb := (blk_cell (hql.up5).obj 0).trans rfl
                    have HC1 := Lib.hid c1
                    have HC2 := Lib.hid c2
                    have HC3 := Lib.hid c3
                    clear c1 c2 c3 hql
                    gi_wp2
                    refine ⟨trivial, ((callsIn_wide.2 (LtI.app (A := Ab) (c := cb) (ts := b) Hmlt.out HBxlt.out HNF.out HM1.out HM4.out HC3.out (HWT.out.take _) HWb.out (Kd.C_below HCb.out (HB21.out.trans (HC3.out.below HFB.out HXB.out HB21.out.size))) HCCb.out (arg_lt HCb.out) HFB.out HB21.out.size (by rw [List.length_take]; have := HNN.out; have := HLL.out; have := HL.out; omega))).inRound lv).mono ?_⟩
                    rintro e w23 ⟨rfl, c1, c2, c3⟩
                    gi_wp2
                    refine ⟨(HS1.out.trans HC1.out).trans c1, (HS2.out.trans HC2.out).trans c2, _, ⟨(HWT.out.take _).app HWb.out, ?_⟩, c3⟩
                    rw [List.length_append, List.length_take]
                    have := HNN.out
                    omega
                  case done =>
                    rintro D W t hD ⟨hwt, htl⟩ hI hK
                    obtain ⟨v, hv, hR, hvf⟩ := hI.box
                    have kv : W.cell? ⟨w20.heap.size, 0, none⟩ = some v := (blk_cell hv 0).trans rfl
                    obtain ⟨Fa, Fb, hR2, _⟩ := hI.rest HQok.out HQQ.out HNE.out
                    obtain ⟨A1, c1, rfl, q1, q2⟩ := Kd.R_reads hR
                    obtain ⟨A2, c2, rfl, q3, q4⟩ := Kd.R_reads hR2
                    have HBE := Lib.hid (HB21.out.trans (hI.below HFB.out HXB.out HB21.out.size))
                    obtain ⟨lst, hlst⟩ : ∃ lst, (stPl (stApp l (stApp a (some (M, []))))).reverse = lst := ⟨_, rfl⟩
                    rw [hlst] at kv q1 q2 q3 q4 ⊢
                    have HK := Lib.hid hK
                    have HD := Lib.hid hD
                    have Q1 := Lib.hid q1
                    have Q2 := Lib.hid q2
                    have Q3 := Lib.hid q3
                    have Q4 := Lib.hid q4
                    clear hv hR hvf hR2 hlst hI hK hD q1 q2 q3 q4 hwt htl HQQ HQok HNE
                    go_wp2_with fail
                    refine (eqints_sameG Q2.out Q1.out Q4.out Q3.out).mono ?_
                    rintro e w25 ⟨rfl, hd⟩
                    have hk25 := blk_below HK.out hd.below
                    have HBF := Lib.hid (HBE.out.trans (hd.below.mono HBE.out.size))
                    have HKF := Lib.hid hk25
                    have him3 : (L : Int) ≤ 17592186044416 := by have := HLL.out; have := HL.out; omega
                    have him4 : (N : Int) ≤ 96 := HN96.out
                    clear hd hk25 kv
                    go_wp2_with fail
                    have hfin : Below w.heap.size w (w25.putObj D (.deferred none)) := HBF.out.trans ((Fr.of_grown (F := fun k => k = D) (grownBy_putObj' w25 D (.deferred none)) (fun k e => by cases e; rfl)).below (fun k e => by subst e; exact Nat.le_trans HB21.out.size HD.out) HBF.out.size)
                    refine ⟨by simp, .inl ⟨_, _, rfl, run_takeDeferred HKF.out, ?_⟩⟩
                    exact ⟨.bool true, by simp [results, Try.results8, go_sem], rfl, hfin⟩
theorem lists_calls {w : World} {A Ab : Option Addr} {c cb : Nat} {most ways deep : Int} {a b : List Int} (hC : Kd.C (Kd.int .i64) w A a.length a) (hc : a.length ≤ c) (ha : Wf a) (hCb : Kd.C (Kd.int .i64) w Ab b.length b) (hcb : b.length ≤ cb) (hb : Wf b)
    (hl : (2 * a.length + b.length) * 8 ≤ 140737488355328) (hw : ways ≤ 9223372036854775807) :
    Calls Try.prog 8 #[.int .i64 most, .slice A a.length c, .slice Ab b.length cb, .int .i64 ways, .int .i64 deep] w fun e w' => e = .returned (.bool true) ∧ Below w.heap.size w w' := by
  by_cases hm : most < 1 ∨ 4 < most
  · exact lists_bad hm
  · exact lists_ok (M := most.toNat) hm (by omega) hC hc ha hCb hcb hb hl hw
end Go.Proofs.Ytjeofkobefeigaa.Wk
