/- The walk of NgramAgain. -/
import Derived.Test.YtjeofkobefeigaaTh
import Derived.Test.YtjeofkobefeigaaYd
import Derived.Test.YtjeofkobefeigaaYc
set_option linter.unusedVariables false
set_option linter.unusedSimpArgs false
namespace Go.Proofs.Ytjeofkobefeigaa.Wk
open Go.RowKit Go.Shelf Go.Proofs.YtjeofkobefeigaaW.PrintWords Go.Proofs.YtjeofkobefeigaaW.PrintLast Go.Proofs.YtjeofkobefeigaaW.PrintMore Go.Proofs.Ytjeofkobefeigaa.Mp

theorem eqints_sameG {w : World} {A0 A1 : Option Addr} {c0 c1 : Nat} {a : List Int} (h0 : Kd.C (Kd.int .i64) w A0 a.length a) (hc0 : a.length ≤ c0) (h1 : Kd.C (Kd.int .i64) w A1 a.length a) (hc1 : a.length ≤ c1) :
    Calls Try.prog 30 #[.slice A0 a.length c0, .slice A1 a.length c1] w fun e w' => e = .returned (.bool true) ∧ Drawn0 w w' := by
  refine (eqints_calls h0 hc0 h1 hc1).mono ?_
  rintro e w' ⟨rfl, hd⟩
  exact ⟨by simp, hd⟩
theorem C_takeG {w : World} {A : Option Addr} {l : List Int} (h : Kd.C (Kd.int .i64) w A l.length l) (m : Nat) : Kd.C (Kd.int .i64) w A (l.take m).length (l.take m) := by
  by_cases c : m ≤ l.length
  · exact Kd.C_take h c
  · rw [List.take_of_length_le (by omega)]; exact h
theorem arg_lt {w : World} {A : Option Addr} {t : List Int} (hC : Kd.C (Kd.int .i64) w A t.length t) (hne : t ≠ []) : ∀ ad, A = some ad → ad.block < w.heap.size := fun ad e => by
  obtain ⟨ad2, e2, h⟩ := Kd.at_int hC (0 : Int) (by omega) (by have := List.length_pos_iff.2 hne; omega)
  rw [e] at e2
  cases e2
  have := World.block_lt_of_cell? w _ h
  rwa [add_block] at this
theorem away_of {w w1 : World} {A : Option Addr} {t : List Int} (hC : Kd.C (Kd.int .i64) w A t.length t) (hb : w.heap.size ≤ w1.heap.size) (hne : t ≠ []) : Away w.heap.size w1 w1 A := fun ad e => by
  have := arg_lt hC hne ad e
  exact ⟨.inl this, by omega⟩
/-- Both are nil, or neither is. -/
theorem both_nil {w w' : World} {F F' : Nat → Prop} {px py : Value} {n : Int} (h : Slot w F px (stNew n)) (k : RSlot w' F' py (stNew n)) : (px = .pointer none ∧ py = .pointer none) ∨ ∃ a b : Addr, px = .pointer (some a) ∧ py = .pointer (some b) := by
  unfold stNew at h k
  split at h
  · rename_i c
    rw [if_pos c] at k
    exact .inl ⟨h, k⟩
  · rename_i c
    rw [if_neg c] at k
    obtain ⟨B, m, h1, _⟩ := h
    obtain ⟨B2, tv, k1, _⟩ := k
    exact .inr ⟨_, _, h1, k1⟩
theorem text_new (n : Int) : stText (stNew n) = [] := by unfold stNew; split <;> rfl
theorem text_app {s : Option (Nat × List Int)} {ts : List Int} : (stText (stApp ts s)).length ≤ (stText s).length + ts.length := by
  cases s with
  | none => simp [stApp, stText]
  | some s => show (s.2 ++ ts).length ≤ s.2.length + ts.length; rw [List.length_append]; exact Nat.le_refl _
theorem text_cut {s : Option (Nat × List Int)} {n : Int} : (stText (stCut n s)).length ≤ (stText s).length := by
  cases s with
  | none => simp [stCut, stText]
  | some s => show (s.2.take n.toNat).length ≤ s.2.length; rw [List.length_take]; omega
theorem Stt.ints {base : Nat} {w : World} {v : Value} {xs : List Int} {Q : Asr} (h : Stt base w (Star (IntsA v xs) Q)) : ∃ A c, v = .slice A xs.length c ∧ xs.length ≤ c ∧ Kd.C (Kd.int .i64) w A xs.length xs := by
  obtain ⟨F, ⟨Fp, Fq, h1, _⟩, _⟩ := h
  exact Kd.R_reads h1
set_option maxHeartbeats 8000000 in
set_option maxRecDepth 100000 in
theorem again_calls {w : World} {A Ab : Option Addr} {c cb : Nat} {most n : Int} {a b : List Int} (hC : Kd.C (Kd.int .i64) w A a.length a) (hc : a.length ≤ c) (ha : Wf a) (hCb : Kd.C (Kd.int .i64) w Ab b.length b) (hcb : b.length ≤ cb) (hb : Wf b)
    (hl : (a.length + b.length) * 8 ≤ 140737488355328) :
    Calls Try.prog 9 #[.int .i64 most, .slice A a.length c, .slice Ab b.length cb, .int .i64 n] w fun e w' => e = .returned (.bool true) ∧ Below w.heap.size w w' := by
  have HC := Lib.hid hC
  have HA := Lib.hid ha
  have HCC := Lib.hid hc
  have HCb := Lib.hid hCb
  have HWb := Lib.hid hb
  have HCCb := Lib.hid hcb
  have HLL := Lib.hid hl
  clear hC ha hc hCb hb hcb hl
  obtain ⟨E, hE⟩ : ∃ E : Int, (if most < 1 ∨ 4 < most then (1 : Int) else 0) = E := ⟨_, rfl⟩
  have hnew := fun w' => new_slot (w := w') (F := fun k => w'.heap.size ≤ k) (n := most) (fun _ h => h)
  have hrnew := fun w' => rnew_slot (w := w') (F := fun k => w'.heap.size ≤ k) (n := most) (fun _ h => h)
  rw [hE] at hnew hrnew
  have HNEW := Lib.hid hnew
  have HRNEW := Lib.hid hrnew
  clear hE hnew hrnew
  obtain ⟨s, hs⟩ : ∃ s, stNew most = s := ⟨_, rfl⟩
  have HS := Lib.hid hs
  have hts : stText s = [] := by rw [← hs, text_new]
  have HL1 : Hid (((stText s).length + a.length) * 8 ≤ 140737488355328) := Lib.hid (by rw [hts]; simp only [List.length_nil]; have := HLL.out; omega)
  have HL2 : Hid (((stText (stApp a s)).length + b.length) * 8 ≤ 140737488355328) := Lib.hid (by have := text_app (s := s) (ts := a); rw [hts] at this; simp only [List.length_nil] at this; have := HLL.out; omega)
  have HL3 : Hid ((stText (stApp b (stApp a s))).length * 8 ≤ 140737488355328) := Lib.hid (by have := text_app (s := stApp a s) (ts := b); have := HL2.out; omega)
  have HL4 : Hid ((stText (stCut n (stApp b (stApp a s)))).length * 8 ≤ 140737488355328) := Lib.hid (by have := text_cut (s := stApp b (stApp a s)) (n := n); have := HL3.out; omega)
  clear hs hts
  go_enter Try.func9, Try.ntmps9
  go_wp2_with (first | (go_at_call 11; refine (works_calls _).mono ?_; rintro e w1 ⟨rfl, hb1⟩) | (fail))
  have HB1 := Lib.hid hb1
  clear hb1
  refine (HNEW.out _).mono ?_
  rintro e w2 ⟨px, rfl, hSx, hb⟩
  have hT := Stt.add (P := SlotA px (stNew most)) (Q := Emp) (base := w.heap.size) (SlotA.ok _ _) Emp.ok Stt.emp (Below.refl _ _) HB1.out.size hb hSx
  have HT2 := Lib.hid hT
  have HSX := Lib.hid hSx
  have HB2 := Lib.hid (HB1.out.trans (hb.mono HB1.out.size))
  clear hT hSx hb HB1
  go_wp2_with fail
  refine (HRNEW.out _).mono ?_
  rintro e w3 ⟨py, rfl, hSy, hb⟩
  have hT := Stt.add (P := RSlotA py (stNew most)) (Q := Star (SlotA px (stNew most)) Emp) (base := w.heap.size) (RSlotA.ok _ _) (Star.ok (SlotA.ok _ _) Emp.ok) HT2.out (Below.refl _ _) HB2.out.size hb hSy
  rw [HS.out] at hT
  have HT3 := Lib.hid (hT.imp (fun F h => h.swap))
  have HNIL := Lib.hid (both_nil HSX.out hSy)
  have HB3 := Lib.hid (HB2.out.trans (hb.mono HB2.out.size))
  clear hT hSy hb HB2 HT2 HSX
  go_wp2_with fail
  refine (append_fr (ts := a) (A := A) (c := c) (Star.ok (RSlotA.ok _ _) Emp.ok) HT3.out (Below.refl _ _) HB3.out.size HA.out (Kd.C_below HC.out HB3.out) HCC.out (away_of HC.out HB3.out.size) HL1.out).mono ?_
  rintro e w4 ⟨rfl, hT, hb⟩
  have HT4 := Lib.hid (hT.imp (fun F h => h.swap))
  have HB4 := Lib.hid (HB3.out.trans hb)
  clear hT hb HT3 HB3
  go_wp2_with fail
  refine (rappend_fr (ts := a) (A := A) (c := c) (Star.ok (SlotA.ok _ _) Emp.ok) HT4.out (Below.refl _ _) HB4.out.size HA.out (Kd.C_below HC.out HB4.out) HCC.out (away_of HC.out HB4.out.size) HL1.out).mono ?_
  rintro e w5 ⟨rfl, hT, hb⟩
  have HT5 := Lib.hid (hT.imp (fun F h => h.swap))
  have HB5 := Lib.hid (HB4.out.trans hb)
  clear hT hb HT4 HB4
  go_wp2_with fail
  refine (through_calls (n := n) (ts := b) (A := Ab) (c := cb) (Star.ok (RSlotA.ok _ _) Emp.ok) HT5.out HB5.out.size HWb.out (Kd.C_below HCb.out HB5.out) HCCb.out (arg_lt HCb.out) HL2.out).mono ?_
  rintro e w6 ⟨v1, v2, v3, rfl, hT, hb⟩
  have HT6 := Lib.hid (hT.imp (fun F h => h.up5))
  have HB6 := Lib.hid (HB5.out.trans hb)
  clear hT hb HT5 HB5
  go_wp2_with fail
  refine (rappend_fr (ts := b) (A := Ab) (c := cb) (Star.ok (IntsA.ok _ _) (Star.ok (IntsA.ok _ _) (Star.ok (IntsA.ok _ _) (Star.ok (SlotA.ok _ _) Emp.ok)))) HT6.out (Below.refl _ _) HB6.out.size HWb.out (Kd.C_below HCb.out HB6.out) HCCb.out (away_of HCb.out HB6.out.size) HL2.out).mono ?_
  rintro e w7 ⟨rfl, hT, hb⟩
  have HT7 := Lib.hid hT
  have HB7 := Lib.hid (HB6.out.trans hb)
  obtain ⟨Fr7, hS7⟩ := hT.rslot
  have HS7 := Lib.hid hS7
  clear hT hb HT6 HB6 hS7
  go_wp2_with fail
  refine (rplaces_slot HS7.out HL3.out).mono ?_
  rintro e w8 ⟨v4, rfl, hR, hb⟩
  have hT := Stt.add (P := IntsA v4 (stPl (stApp b (stApp a s))).reverse) (base := w.heap.size) (IntsA.ok _ _) (Star.ok (RSlotA.ok _ _) (Star.ok (IntsA.ok _ _) (Star.ok (IntsA.ok _ _) (Star.ok (IntsA.ok _ _) (Star.ok (SlotA.ok _ _) Emp.ok))))) HT7.out (Below.refl _ _) HB7.out.size hb (R_F hR (fun _ h => h))
  have HT8 := Lib.hid (hT.imp (fun F h => h.swap))
  have HB8 := Lib.hid (HB7.out.trans (hb.mono HB7.out.size))
  clear hT hb hR HT7 HB7 HS7
  go_wp2_with fail
  refine (rcut_fr (n := n) (Star.ok (IntsA.ok _ _) (Star.ok (IntsA.ok _ _) (Star.ok (IntsA.ok _ _) (Star.ok (IntsA.ok _ _) (Star.ok (SlotA.ok _ _) Emp.ok))))) HT8.out (Below.refl _ _) HB8.out.size (by have := HL3.out; omega)).mono ?_
  rintro e w9 ⟨rfl, hT, hb⟩
  have HT9 := Lib.hid hT
  have HB9 := Lib.hid (HB8.out.trans hb)
  obtain ⟨Fr9, hS9⟩ := hT.rslot
  have HS9 := Lib.hid hS9
  clear hT hb HT8 HB8 hS9
  go_wp2_with fail
  refine (rplaces_slot HS9.out HL4.out).mono ?_
  rintro e w10 ⟨v5, rfl, hR, hb⟩
  obtain ⟨A5, c5, rfl, hc5, hC5⟩ := Kd.R_reads hR
  have hT := HT9.out.below (Star.ok (RSlotA.ok _ _) (Star.ok (IntsA.ok _ _) (Star.ok (IntsA.ok _ _) (Star.ok (IntsA.ok _ _) (Star.ok (IntsA.ok _ _) (Star.ok (SlotA.ok _ _) Emp.ok)))))) hb
  obtain ⟨A4, c4, rfl, hc4, hC4⟩ := (hT.imp (fun F h => h.swap)).ints
  obtain ⟨A1, c1, rfl, hc1, hC1⟩ := (hT.imp (fun F h => h.up3)).ints
  obtain ⟨A2, c2, rfl, hc2, hC2⟩ := (hT.imp (fun F h => h.up4)).ints
  obtain ⟨A3, c3, rfl, hc3, hC3⟩ := (hT.imp (fun F h => h.up5)).ints
  have HB10 := Lib.hid (HB9.out.trans (hb.mono HB9.out.size))
  obtain ⟨l1, hl1⟩ : ∃ l, (stPl (stApp b (stApp a s))).reverse = l := ⟨_, rfl⟩
  obtain ⟨l3, hl3⟩ : ∃ l, (stPl (stCut n (stApp b (stApp a s)))).reverse = l := ⟨_, rfl⟩
  rw [hl1] at hc4 hC4 hc1 hC1 hc2 hC2 ⊢
  obtain ⟨l2, hl2⟩ : ∃ l, l1.take 2 = l := ⟨_, rfl⟩
  rw [hl2] at hc2 hC2 ⊢
  have HL12 := Lib.hid hl2
  rw [hl3] at hc5 hC5 hc3 hC3 ⊢
  have H1 := Lib.hid hC1
  have H2 := Lib.hid hC2
  have H3 := Lib.hid hC3
  have H4 := Lib.hid hC4
  have H5 := Lib.hid hC5
  have K1 := Lib.hid hc1
  have K2 := Lib.hid hc2
  have K3 := Lib.hid hc3
  have K4 := Lib.hid hc4
  have K5 := Lib.hid hc5
  clear hT hb hR hC1 hC2 hC3 hC4 hC5 hc1 hc2 hc3 hc4 hc5 hl1 hl2 hl3 HT9 HB9 HS9
  go_wp2_with fail
  refine (eqints_sameG H1.out K1.out H4.out K4.out).mono ?_
  rintro e x1 ⟨rfl, hd⟩
  have HX1 := Lib.hid hd.below
  clear hd
  go_wp2_with fail
  have hfc := first_calls (most := 2) (Kd.C_below H4.out HX1.out) K4.out
  rw [show firstL l1 2 = l1.take 2 from rfl, HL12.out] at hfc
  refine hfc.mono ?_
  rintro e x2 ⟨rfl, rfl⟩
  clear hfc
  go_wp2_with fail
  refine (eqints_sameG (Kd.C_below H2.out HX1.out) K2.out (by have := C_takeG (Kd.C_below H4.out HX1.out) 2; rw [HL12.out] at this; exact this) (by have := K4.out; rw [← HL12.out, List.length_take]; omega)).mono ?_
  rintro e x3 ⟨rfl, hd⟩
  have HX3 := Lib.hid (HX1.out.trans (hd.below.mono HX1.out.size))
  clear hd
  go_wp2_with fail
  refine (eqints_sameG (Kd.C_below H3.out HX3.out) K3.out (Kd.C_below H5.out HX3.out) K5.out).mono ?_
  rintro e x4 ⟨rfl, hd⟩
  have HX4 := Lib.hid (HX3.out.trans (hd.below.mono HX3.out.size))
  clear hd
  rcases HNIL.out with ⟨rfl, rfl⟩ | ⟨qa, qb, rfl, rfl⟩
  · go_wp2_with fail
    go_ret
    exact ⟨rfl, HB10.out.trans (HX4.out.mono HB10.out.size)⟩
  · go_wp2_with fail
    go_ret
    exact ⟨rfl, HB10.out.trans (HX4.out.mono HB10.out.size)⟩
end Go.Proofs.Ytjeofkobefeigaa.Wk
