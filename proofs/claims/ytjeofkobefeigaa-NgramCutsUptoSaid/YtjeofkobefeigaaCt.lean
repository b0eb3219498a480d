/- The walk of NgramCuts. -/
import Derived.Test.YtjeofkobefeigaaTd
import Derived.Test.YtjeofkobefeigaaSp
set_option linter.unusedVariables false
set_option linter.unusedSimpArgs false
namespace Go.Proofs.Ytjeofkobefeigaa.Wk
open Go.RowKit Go.Shelf Go.Proofs.YtjeofkobefeigaaW.PrintWords Go.Proofs.YtjeofkobefeigaaW.PrintLast Go.Proofs.YtjeofkobefeigaaW.PrintMore Go.Proofs.Ytjeofkobefeigaa.Mp Go.Proofs.Ytjeofkobefeigaa.PEqRaw Go.Proofs.Ytjeofkobefeigaa.Pgram

theorem eqraw_l0 (a : List S35) (hl : a.length ≤ 9223372036854775807) : ∀ (d k i : Nat), i + d = a.length → d < k → augurref00_EqRaw.l0 k a a (i : Int) = some true := by
  intro d
  induction d with
  | zero =>
    intro k i hi hk
    obtain ⟨k, rfl⟩ : ∃ m, k = m + 1 := ⟨k - 1, by omega⟩
    simp only [augurref00_EqRaw.l0]
    rw [if_neg (by omega)]
  | succ d ih =>
    intro k i hi hk
    obtain ⟨k, rfl⟩ : ∃ m, k = m + 1 := ⟨k - 1, by omega⟩
    simp only [augurref00_EqRaw.l0]
    rw [if_pos (by omega), if_pos (by omega), if_pos (by omega), if_neg (by simp), IntWalk.wrap64_in _ (by omega), show ((i : Int) + 1) = ((i + 1 : Nat) : Int) by omega]
    exact ih k (i + 1) (by omega) (by omega)
theorem eqraw_f (a : List S35) (hl : a.length ≤ 9223372036854775807) : augurref00_EqRaw.f (a.length + 1) a a = some true := by
  unfold augurref00_EqRaw.f
  rw [if_pos rfl]
  have := eqraw_l0 a hl a.length (a.length + 1) 0 (by omega) (by omega)
  simpa using this
theorem eqraw_calls {w : World} {A0 A1 : Option Addr} {c0 c1 : Nat} {a : List S35} (h0 : Kd.C k35 w A0 a.length a) (hc0 : a.length ≤ c0) (h1 : Kd.C k35 w A1 a.length a) (hc1 : a.length ≤ c1) :
    Calls Try.prog 32 #[.slice A0 a.length c0, .slice A1 a.length c1] w fun e w' => e = .returned (.bool true) ∧ Drawn0 w w' :=
  augurref00_EqRaw.calls _ A0 c0 a A1 c1 a true w h0 hc0 h1 hc1 (eqraw_f a (Kd.C_max h0))
theorem eqints_same {w : World} {A0 A1 : Option Addr} {c0 c1 : Nat} {a : List Int} (h0 : Kd.C (Kd.int .i64) w A0 a.length a) (hc0 : a.length ≤ c0) (h1 : Kd.C (Kd.int .i64) w A1 a.length a) (hc1 : a.length ≤ c1) :
    Calls Try.prog 30 #[.slice A0 a.length c0, .slice A1 a.length c1] w fun e w' => e = .returned (.bool true) ∧ Drawn0 w w' := by
  refine (eqints_calls h0 hc0 h1 hc1).mono ?_
  rintro e w' ⟨rfl, hd⟩
  exact ⟨by simp, hd⟩
/-- The argument's block lies ahead of base. -/
theorem away_arg {base : Nat} {w w1 : World} {A : Option Addr} {t : List Int} (hC : Kd.C (Kd.int .i64) w A t.length t) (hb : w.heap.size ≤ w1.heap.size) (hbase : base = w.heap.size) (hne : t ≠ []) : Away base w1 w1 A := fun ad e => by
  obtain ⟨ad2, e2, h⟩ := Kd.at_int hC (0 : Int) (by omega) (by have := List.length_pos_iff.2 hne; omega)
  rw [e] at e2
  cases e2
  have := World.block_lt_of_cell? w _ h
  rw [add_block] at this
  exact ⟨.inl (by omega), by omega⟩
theorem begun_nil2 {w : World} {most : Nat} (h1 : 1 ≤ most) (h4 : most ≤ 4) :
    Calls Try.prog 13 #[.int .i64 most, .slice none 0 0] w fun e w' => ∃ B, e = .returned (.pointer (some ⟨B, 0, none⟩)) ∧ Slot w' (fun k => w.heap.size ≤ k) (.pointer (some ⟨B, 0, none⟩)) (some (most, [])) ∧ Below w.heap.size w w' :=
  begun_calls (A := none) (c := 0) (t := []) h1 h4 (Kd.C_nil _ _) (Nat.le_refl _) (fun x hx => absurd hx (by simp)) (by simp)
theorem C_oneT {w : World} {x : Int} : Kd.C (Kd.int .i64) (w.alloc (.cells #[.int .i64 x] 3)) (some ⟨w.heap.size, 0, none⟩) ([x] : List Int).length [x] :=
  Kd.C_of_reads (d := (0 : Int)) (h1 := fun _ => rfl) ⟨rfl, by show 1 ≤ 9223372036854775807; omega, fun _ => ⟨_, rfl, fun j hj => by
    obtain rfl : j = 0 := by simp at hj; omega
    exact (blk_cell (blk_new w _) 0).trans rfl⟩⟩
theorem away_oneT {base : Nat} {w : World} {o : Obj} : Away base w (w.alloc o) (some ⟨w.heap.size, 0, none⟩) := fun ad e => by
  cases e
  exact ⟨.inr (Nat.le_refl _), by rw [World.size_alloc]; exact Nat.lt_succ_self _⟩
def CtRel (w : World) (base most : Nat) (a : List Int) (px py : Value) (s14 : Value) (wr : World) : Prop :=
  ∃ i : Nat, s14 = .int .i64 i ∧ i ≤ a.length ∧ Stt base wr (Star (SlotA py (some (most, a.take i))) (Star (SlotA px (some (most, a))) Emp)) ∧ Below base w wr
set_option maxHeartbeats 8000000 in
set_option maxRecDepth 100000 in
theorem cuts_calls {w : World} {A Ab : Option Addr} {c cb : Nat} {n ways deep : Int} {a b : List Int} (hC : Kd.C (Kd.int .i64) w A a.length a) (hc : a.length ≤ c) (ha : Wf a) (hCb : Kd.C (Kd.int .i64) w Ab b.length b) (hcb : b.length ≤ cb) (hb : Wf b)
    (hl : (a.length + b.length) * 8 ≤ 140737488355328) (hw : ways ≤ 9223372036854775807) :
    Calls Try.prog 10 #[.int .i64 n, .slice A a.length c, .slice Ab b.length cb, .int .i64 ways, .int .i64 deep] w fun e w' => e = .returned (.bool true) ∧ Below w.heap.size w w' := by
  obtain ⟨g1, g4⟩ := gramN_le n
  have HC := Lib.hid hC
  have HA := Lib.hid ha
  have HCC := Lib.hid hc
  have HCb := Lib.hid hCb
  have HWb := Lib.hid hb
  have HCCb := Lib.hid hcb
  have HLL := Lib.hid hl
  have HL1 : Hid (a.length * 8 ≤ 140737488355328) := Lib.hid (by omega)
  clear hC ha hc hCb hb hcb hl
  go_enter Try.func10, Try.ntmps10
  obtain ⟨most, hm⟩ : ∃ most, gramN n = most := ⟨_, rfl⟩
  have hgram := fun w' => gram_calls n w'
  rw [hm] at g1 g4 hgram
  have HGRAM := Lib.hid hgram
  clear hm hgram
  go_wp2_with (first | (go_at_call 11; refine (works_calls _).mono ?_; rintro e w1 ⟨rfl, hb1⟩) | (go_at_call 12; refine (HGRAM.out _).mono ?_; rintro e w2 ⟨rfl, hd2⟩) | (fail))
  have hb2 := hb1.trans (hd2.below.mono hb1.size)
  have HB2 := Lib.hid hb2
  clear hb1 hd2 hb2
  refine (begun_calls g1 g4 (Kd.C_below HC.out HB2.out) HCC.out HA.out HL1.out).mono ?_
  rintro e w3 ⟨Bx, rfl, hS, hb⟩
  have hT := Stt.add (P := SlotA (.pointer (some ⟨Bx, 0, none⟩)) (some (most, a))) (Q := Emp) (base := w.heap.size) (SlotA.ok _ _) Emp.ok Stt.emp (Below.refl _ _) HB2.out.size hb hS
  have HT := Lib.hid hT
  have HB3 := Lib.hid (HB2.out.trans (hb.mono HB2.out.size))
  clear hT hS hb HB2
  go_wp2_with (first | (go_at_call 12; refine (HGRAM.out _).mono ?_; rintro e w4 ⟨rfl, hd4⟩) | (fail))
  have HT4 := Lib.hid (HT.out.below (Star.ok (SlotA.ok _ _) Emp.ok) hd4.below)
  have HB4 := Lib.hid (HB3.out.trans (hd4.below.mono HB3.out.size))
  clear hd4 HT HB3
  refine (begun_nil2 g1 g4).mono ?_
  rintro e w5 ⟨By, rfl, hS, hb⟩
  have hT := Stt.add (P := SlotA (.pointer (some ⟨By, 0, none⟩)) (some (most, []))) (Q := Star (SlotA (.pointer (some ⟨Bx, 0, none⟩)) (some (most, a))) Emp) (base := w.heap.size) (SlotA.ok _ _) (Star.ok (SlotA.ok _ _) Emp.ok) HT4.out (Below.refl _ _) HB4.out.size hb hS
  have HT5 := Lib.hid hT
  have HB5 := Lib.hid (HB4.out.trans (hb.mono HB4.out.size))
  clear hT hS hb HB4 HT4
  go_wp2_with fail
  go_loopw [14] (fun y wr => CtRel w w.heap.size most a (.pointer (some ⟨Bx, 0, none⟩)) (.pointer (some ⟨By, 0, none⟩)) y wr) (fun y _ => a.length - (intOf y).toNat)
  case atStart => exact ⟨0, rfl, Nat.zero_le _, HT5.out, HB5.out⟩
  case round =>
    obtain ⟨i, rfl, hi, hT, hB⟩ := hrel
    rename World => wa
    have HT6 := Lib.hid hT
    have HB6 := Lib.hid hB
    have HI := Lib.hid hi
    clear hT hB hi HT5 HB5
    have hLm : (a.length : Int) ≤ 17592186044416 := by have := HL1.out; omega
    by_cases hlt : i < a.length
    · have d1 : decide ((i : Int) < (a.length : Int)) = true := decide_eq_true (by omega)
      have d1' : decide (i < a.length) = true := decide_eq_true hlt
      obtain ⟨ad, e1, k0⟩ := Kd.at_int HC.out (i : Int) (by omega) (by omega)
      subst e1
      obtain ⟨y, hy⟩ : ∃ y, nth a i = y := ⟨_, rfl⟩
      rw [Int.toNat_natCast, rd_nth, hy] at k0
      have k0 : wa.cell? (ad.add i) = some (.int .i64 y) := pw_cell_below HB6.out k0
      have q1 : (0 : Int) ≤ (i : Int) := by omega
      have q2 : (i : Int) < (a.length : Int) := by omega
      have HLT := Lib.hid hlt
      have HY := Lib.hid hy
      have HWY : Hid ((Lit.int .i64 y).wf = true) := Lib.hid (hy ▸ nth_wf HA.out i)
      clear hlt hy
      go_wp2_with fail
      refine (append_fr (ts := [y]) (A := some ⟨wa.heap.size, 0, none⟩) (c := 1) (Star.ok (SlotA.ok _ _) Emp.ok) HT6.out (below_alloc (Below.refl _ _) _) HB6.out.size (fun z hz => by rw [List.mem_singleton.1 hz]; exact HWY.out) C_oneT (Nat.le_refl _) (fun _ => away_oneT) ?_).mono ?_
      · show ((a.take i).length + 1) * 8 ≤ _
        rw [List.length_take]
        have := HL1.out
        have := HLT.out
        omega
      rintro e wb ⟨rfl, hT, hb⟩
      have hT1 : Stt w.heap.size wb (Star (SlotA (.pointer (some ⟨By, 0, none⟩)) (some (most, a.take (i + 1)))) (Star (SlotA (.pointer (some ⟨Bx, 0, none⟩)) (some (most, a))) Emp)) := by
        rw [take_step HLT.out, HY.out]
        exact hT
      have HT7 := Lib.hid hT1
      have HB7 := Lib.hid ((below_alloc HB6.out _).trans hb)
      clear hT hT1 hb
      go_wp2_with fail
      exact ⟨⟨i + 1, rfl, HLT.out, HT7.out, HB7.out⟩, by have := HLT.out; simp [intOf] <;> omega⟩
    · have d1 : decide ((i : Int) < (a.length : Int)) = false := decide_eq_false (by omega)
      have d1' : decide (i < a.length) = false := decide_eq_false hlt
      have HT7 : Hid (Stt w.heap.size wa (Star (SlotA (.pointer (some ⟨By, 0, none⟩)) (some (most, a))) (Star (SlotA (.pointer (some ⟨Bx, 0, none⟩)) (some (most, a))) Emp))) := Lib.hid (by
        have := HT6.out
        rwa [List.take_of_length_le (by omega)] at this)
      clear hlt HT6
      go_wp2_with fail
      refine (append_fr (ts := b) (A := Ab) (c := cb) (Star.ok (SlotA.ok _ _) Emp.ok) HT7.out (Below.refl _ _) HB6.out.size HWb.out (Kd.C_below HCb.out HB6.out) HCCb.out (away_arg HCb.out HB6.out.size rfl) HLL.out).mono ?_
      rintro e wb ⟨rfl, hT, hb⟩
      have HT8 := Lib.hid hT
      have HB8 := Lib.hid (HB6.out.trans hb)
      clear hT hb HT7 HB6
      go_wp2_with fail
      refine (cut_fr (n := (a.length : Int)) (Star.ok (SlotA.ok _ _) Emp.ok) HT8.out (Below.refl _ _) HB8.out.size).mono ?_
      rintro e wc ⟨rfl, hT, hb⟩
      have hT1 : Stt w.heap.size wc (Star (SlotA (.pointer (some ⟨By, 0, none⟩)) (some (most, a))) (Star (SlotA (.pointer (some ⟨Bx, 0, none⟩)) (some (most, a))) Emp)) := by
        have h : stCut (a.length : Int) (stApp b (some (most, a))) = some (most, a) := by
          show some (most, (a ++ b).take ((a.length : Int)).toNat) = _
          rw [Int.toNat_natCast, List.take_left' rfl]
        rw [h] at hT
        exact hT
      have HT9 := Lib.hid hT1
      have HB9 := Lib.hid (HB8.out.trans hb)
      obtain ⟨Fy, hSy⟩ := hT1.slot
      obtain ⟨Fx, hSx⟩ := (hT1.imp (fun F h => h.swap)).slot
      have HSx := Lib.hid hSx
      have HSy := Lib.hid hSy
      clear hT hT1 hb HT8 HB8 hSy hSx
      go_wp2_with fail
      refine (places_slot (most := 0) HSx.out HL1.out).mono ?_
      rintro e v1 ⟨v, rfl, hR, hb⟩
      obtain ⟨A1, c1, rfl, hc1, hC1⟩ := Kd.R_reads hR
      have HC1 := Lib.hid hC1
      have HCC1 := Lib.hid hc1
      have HV1 := Lib.hid hb
      clear hR hC1 hc1 hb
      go_wp2_with fail
      refine (places_slot (most := 0) (HSy.out.below HV1.out) HL1.out).mono ?_
      rintro e v2 ⟨v, rfl, hR, hb⟩
      obtain ⟨A2, c2, rfl, hc2, hC2⟩ := Kd.R_reads hR
      have HC2 := Lib.hid hC2
      have HCC2 := Lib.hid hc2
      have HV2 := Lib.hid (HV1.out.trans (hb.mono HV1.out.size))
      have HC12 := Lib.hid (Kd.C_below HC1.out hb)
      clear hR hC2 hc2 hb
      go_wp2_with fail
      refine (eqints_same HC12.out HCC1.out HC2.out HCC2.out).mono ?_
      rintro e v3 ⟨rfl, hd⟩
      have HV3 := Lib.hid (HV2.out.trans (hd.below.mono HV2.out.size))
      clear hd HC1 HC2 HC12 HCC1 HCC2 HV1 HV2
      go_wp2_with fail
      refine (propose_slot (ways := ways) (deep := deep) (HSx.out.below HV3.out) HL1.out hw).mono ?_
      rintro e v4 ⟨v, rfl, hR, hb⟩
      obtain ⟨A4, c4, rfl, hc4, hC4⟩ := Kd.R_reads hR
      have HC4 := Lib.hid hC4
      have HCC4 := Lib.hid hc4
      have HV4 := Lib.hid (HV3.out.trans (hb.mono HV3.out.size))
      clear hR hC4 hc4 hb HV3
      go_wp2_with fail
      refine (propose_slot (ways := ways) (deep := deep) (HSy.out.below HV4.out) HL1.out hw).mono ?_
      rintro e v5 ⟨v, rfl, hR, hb⟩
      obtain ⟨A5, c5, rfl, hc5, hC5⟩ := Kd.R_reads hR
      have HC5 := Lib.hid hC5
      have HCC5 := Lib.hid hc5
      have HC45 := Lib.hid (Kd.C_below HC4.out hb)
      have HV5 := Lib.hid (HV4.out.trans (hb.mono HV4.out.size))
      clear hR hC5 hc5 hb HV4
      go_wp2_with fail
      refine (eqraw_calls HC45.out HCC4.out HC5.out HCC5.out).mono ?_
      rintro e v6 ⟨rfl, hd⟩
      have HV6 := Lib.hid (HV5.out.trans (hd.below.mono HV5.out.size))
      clear hd HC4 HC5 HC45 HCC4 HCC5 HV5
      have HTa := Lib.hid ((HT9.out.below (Star.ok (SlotA.ok _ _) (Star.ok (SlotA.ok _ _) Emp.ok)) HV6.out).imp (fun F h => h.swap))
      have HBa := Lib.hid (HB9.out.trans (HV6.out.mono HB9.out.size))
      clear HV6 HT9 HB9 HSx HSy
      go_wp2_with fail
      refine (append_fr (ts := b) (A := Ab) (c := cb) (Star.ok (SlotA.ok _ _) Emp.ok) HTa.out (Below.refl _ _) HBa.out.size HWb.out (Kd.C_below HCb.out HBa.out) HCCb.out (away_arg HCb.out HBa.out.size rfl) HLL.out).mono ?_
      rintro e wd ⟨rfl, hT, hb⟩
      have HTb := Lib.hid (hT.imp (fun F h => h.swap))
      have HBb := Lib.hid (HBa.out.trans hb)
      clear hT hb HTa HBa
      go_wp2_with fail
      refine (append_fr (ts := b) (A := Ab) (c := cb) (Star.ok (SlotA.ok _ _) Emp.ok) HTb.out (Below.refl _ _) HBb.out.size HWb.out (Kd.C_below HCb.out HBb.out) HCCb.out (away_arg HCb.out HBb.out.size rfl) HLL.out).mono ?_
      rintro e we ⟨rfl, hT, hb⟩
      have HBc := Lib.hid (HBb.out.trans hb)
      obtain ⟨Fy2, hSy⟩ := hT.slot
      obtain ⟨Fx2, hSx⟩ := (hT.imp (fun F h => h.swap)).slot
      have HSx := Lib.hid hSx
      have HSy := Lib.hid hSy
      have HLab : Hid ((stText (stApp b (some (most, a)))).length * 8 ≤ 140737488355328) := Lib.hid (by show (a ++ b).length * 8 ≤ _; rw [List.length_append]; exact HLL.out)
      clear hT hb HTb HBb hSx hSy
      go_wp2_with fail
      refine (places_slot (most := 0) HSx.out HLab.out).mono ?_
      rintro e v1 ⟨v, rfl, hR, hb⟩
      obtain ⟨A1, c1, rfl, hc1, hC1⟩ := Kd.R_reads hR
      have HC1 := Lib.hid hC1
      have HCC1 := Lib.hid hc1
      have HV1 := Lib.hid hb
      clear hR hC1 hc1 hb
      go_wp2_with fail
      refine (places_slot (most := 0) (HSy.out.below HV1.out) HLab.out).mono ?_
      rintro e v2 ⟨v, rfl, hR, hb⟩
      obtain ⟨A2, c2, rfl, hc2, hC2⟩ := Kd.R_reads hR
      have HC2 := Lib.hid hC2
      have HCC2 := Lib.hid hc2
      have HV2 := Lib.hid (HV1.out.trans (hb.mono HV1.out.size))
      have HC12 := Lib.hid (Kd.C_below HC1.out hb)
      clear hR hC2 hc2 hb
      go_wp2_with fail
      refine (eqints_same HC12.out HCC1.out HC2.out HCC2.out).mono ?_
      rintro e v3 ⟨rfl, hd⟩
      have HV3 := Lib.hid (HV2.out.trans (hd.below.mono HV2.out.size))
      clear hd HC1 HC2 HC12 HCC1 HCC2 HV1 HV2
      go_wp2_with fail
      refine (len_slot (HSx.out.below HV3.out)).mono ?_
      rintro e v4 ⟨rfl, rfl⟩
      go_wp2_with fail
      refine (len_slot (HSy.out.below HV3.out)).mono ?_
      rintro e v4 ⟨rfl, rfl⟩
      go_wp2_with fail
      go_ret
      exact ⟨rfl, HBc.out.trans (HV3.out.mono HBc.out.size)⟩
end Go.Proofs.Ytjeofkobefeigaa.Wk
