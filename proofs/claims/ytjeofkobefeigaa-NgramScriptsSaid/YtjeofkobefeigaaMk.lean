/- The walks of augurlaw13's marked and still. -/
import Derived.Test.YtjeofkobefeigaaLk
set_option linter.unusedVariables false
set_option linter.unusedSimpArgs false
namespace Go.Proofs.Ytjeofkobefeigaa.Wk
open Go.RowKit Go.Shelf Go.Proofs.YtjeofkobefeigaaW.PrintWords Go.Proofs.YtjeofkobefeigaaW.PrintLast Go.Proofs.YtjeofkobefeigaaW.PrintMore Go.Proofs.Ytjeofkobefeigaa.Mp
attribute [local go_sem] Oper.semAt_some

/-- A list with 64 marks behind it. -/
def fullL (l : List Int) : List Int := l ++ List.replicate 64 (-123456)
theorem fullL_length (l : List Int) : (fullL l).length = l.length + 64 := by unfold fullL; rw [List.length_append, List.length_replicate]
theorem fullL_take (l : List Int) : (fullL l).take l.length = l := by unfold fullL; rw [List.take_left]
theorem fullL_lt {l : List Int} {i : Nat} (h : i < l.length) : nth (fullL l) i = nth l i := by
  unfold fullL nth
  rw [List.getD_eq_getElem?_getD, List.getD_eq_getElem?_getD, List.getElem?_append_left h]
theorem fullL_ge {l : List Int} {i : Nat} (h : l.length ≤ i) (h2 : i < l.length + 64) : nth (fullL l) i = -123456 := by
  unfold fullL nth
  rw [List.getD_eq_getElem?_getD, List.getElem?_append_right h, List.getElem?_replicate, if_pos (by omega)]
  rfl
theorem set_take {l : List Int} {i : Nat} {v : Int} (h : i < l.length) : (l.set i v).take (i + 1) = l.take i ++ [v] := by
  rw [List.take_set, take_step h, List.set_append_right _ _ (by rw [List.length_take]; omega), List.length_take, Nat.min_eq_left (by omega), Nat.sub_self]
  rfl
theorem mk_step {l z : List Int} {i : Nat} {v : Int} (hz : z.length = l.length + 64) (hi : i < l.length + 64) (ht : z.take i = (fullL l).take i) (hv : nth (fullL l) i = v) : (z.set i v).take (i + 1) = (fullL l).take (i + 1) := by
  rw [set_take (by omega), take_step (by rw [fullL_length]; omega), ht, hv]
def MkRel (w : World) (l : List Int) (v : Value) (y : Value) (wr : World) : Prop := ∃ (i : Nat) (z : List Int), y = .int .i64 i ∧ i ≤ l.length + 64 ∧ z.length = l.length + 64 ∧ z.take i = (fullL l).take i ∧ Kd.R (Kd.int .i64) 3 wr w.heap.size (fun _ => True) v z ∧ Below w.heap.size w wr
set_option maxHeartbeats 8000000 in
set_option maxRecDepth 100000 in
theorem marked_calls {w : World} {A : Option Addr} {c : Nat} {l : List Int} (hC : Kd.C (Kd.int .i64) w A l.length l) (hc : l.length ≤ c) (hl : l.length ≤ 8796093022208) :
    Calls Try.prog 23 #[.slice A l.length c] w fun e w' => ∃ g cap, e = .returned (.slice (some ⟨g, 0, none⟩) l.length cap) ∧ l.length + 64 ≤ cap ∧ Kd.R (Kd.int .i64) 3 w' w.heap.size (fun _ => True) (.slice (some ⟨g, 0, none⟩) (l.length + 64) cap) (fullL l) ∧ Below w.heap.size w w' := by
  have HC := Lib.hid hC
  have HCC := Lib.hid hc
  obtain ⟨L, hL⟩ : ∃ L, l.length = L := ⟨_, rfl⟩
  rw [hL] at hc hl ⊢
  have HL := Lib.hid hL
  have him : (L : Int) ≤ 8796093022208 := by omega
  clear hL hC hc
  go_enter Try.func23, Try.ntmps23
  go_wp2_with (first | ((with_reducible refine gate_dst (N := 8) rfl ?_); refine Kd.R_make (Kd.int .i64) _ 3 rfl (N := 8) rfl 22 _ _ rfl ((L : Int) + 64) rfl rfl Try.underlying22 (.int .i64 0) 8 info3 rfl (by decide) (by omega) 0 (ok := fun _ => True) (okp := fun _ => True) rfl (fun _ hk => hk) trivial (by omega) (by omega) (Below.refl _ _) (Nat.le_refl _) ?_; intro v102 w5 ho hb _ _; have HO := Lib.hid ho; have HB := Lib.hid hb; clear ho hb) | (fail))
  have hform := HO.out
  rw [show ((L : Int) + 64).toNat = L + 64 by omega] at hform
  obtain ⟨g, cap, rfl, hg0, _, _⟩ := Kd.R_form hform (by rw [List.length_replicate]; omega)
  obtain ⟨_, hcap, _⟩ := Kd.R_reads' hform
  rw [List.length_replicate] at hform hcap ⊢
  have HF := Lib.hid hform
  have HG := Lib.hid hg0
  have HCAP := Lib.hid hcap
  clear HO hform hg0 hcap
  go_loopw [4] (fun y wr => MkRel w l (.slice (some ⟨g, 0, none⟩) (L + 64) cap) y wr) (fun y _ => L + 64 - (intOf y).toNat)
  case atStart => exact ⟨0, List.replicate (L + 64) 0, rfl, Nat.zero_le _, by rw [List.length_replicate, HL.out], rfl, HF.out, HB.out⟩
  case round =>
    obtain ⟨i, z, rfl, hi, hz, hzt, hR, hB⟩ := hrel
    rename World => wa
    have HR := Lib.hid hR
    have HBa := Lib.hid hB
    have HZ := Lib.hid hz
    have HZT := Lib.hid hzt
    have HI := Lib.hid hi
    have hF : L = l.length := HL.out.symm
    by_cases hlt : i < L + 64
    · have d1 : decide ((i : Int) < (L : Int) + 64) = true := decide_eq_true (by omega)
      have d1' : decide (i < L + 64) = true := decide_eq_true hlt
      obtain ⟨k1, k2⟩ := Kd.R_celln (0 : Int) hR (i : Int) (by omega) (by omega)
      obtain ⟨hP, hG⟩ := Kd.R_putg hR (i : Int) (-123456)
      rw [Int.toNat_natCast] at k1 k2 hP hG
      have him1 : (i : Int) < (L : Int) + 64 := by omega
      have HX := Lib.hid hlt
      by_cases hin : i < L
      · have d2 : decide ((i : Int) < (L : Int)) = true := decide_eq_true (by omega)
        have d2' : decide (i < L) = true := decide_eq_true hin
        have hb2 : Below w.heap.size w (wa.setCell ⟨g, i, none⟩ (.int .i64 (-123456))) := HBa.out.trans ((Fr.of_grown (F := fun k => k = g) hG (fun k e => by cases e; rfl)).below (fun k e => by subst e; exact HG.out) HBa.out.size)
        obtain ⟨ad, e1, k3⟩ := Kd.at_int (Kd.C_below HC.out hb2) (i : Int) (by omega) (by rw [HL.out]; omega)
        subst e1
        rw [Int.toNat_natCast] at k3
        obtain ⟨y, hy0⟩ : ∃ y, rd l (i : Int) = y := ⟨_, rfl⟩
        rw [hy0] at k3
        obtain ⟨k4, k5⟩ := Kd.R_celln (0 : Int) hP (i : Int) (by omega) (by omega)
        obtain ⟨hP2, hG2⟩ := Kd.R_putg hP (i : Int) y
        rw [Int.toNat_natCast] at k4 k5 hP2 hG2
        have hin1 : (i : Int) < (L : Int) := by omega
        have HP := Lib.hid hP2
        have HB2 := Lib.hid (hb2.trans ((Fr.of_grown (F := fun k => k = g) hG2 (fun k e => by cases e; rfl)).below (fun k e => by subst e; exact HG.out) hb2.size))
        have HY : Hid (nth (fullL l) i = y) := Lib.hid (by rw [fullL_lt (by rw [HL.out]; exact hin), ← hy0, rd_nth])
        have HIN := Lib.hid hin
        clear hR hB hz hzt hi hP hP2 hG hG2 hb2 hy0 hF hlt hin
        go_wp2_with fail
        have hp := HP.out
        rw [List.set_set] at hp
        exact ⟨⟨i + 1, z.set i y, rfl, by rw [HL.out]; exact HX.out, by rw [List.length_set]; exact HZ.out, mk_step HZ.out (by rw [HL.out]; exact HX.out) HZT.out HY.out, hp, HB2.out⟩, by have := HX.out; simp [intOf] <;> omega⟩
      · have d2 : decide ((i : Int) < (L : Int)) = false := decide_eq_false (by omega)
        have d2' : decide (i < L) = false := decide_eq_false hin
        have HP := Lib.hid hP
        have HB2 := Lib.hid (HBa.out.trans ((Fr.of_grown (F := fun k => k = g) hG (fun k e => by cases e; rfl)).below (fun k e => by subst e; exact HG.out) HBa.out.size))
        have HY : Hid (nth (fullL l) i = -123456) := Lib.hid (fullL_ge (by rw [HL.out]; omega) (by rw [HL.out]; exact hlt))
        clear hR hB hz hzt hi hP hG hF hlt hin
        go_wp2_with fail
        exact ⟨⟨i + 1, z.set i (-123456), rfl, by rw [HL.out]; exact HX.out, by rw [List.length_set]; exact HZ.out, mk_step HZ.out (by rw [HL.out]; exact HX.out) HZT.out HY.out, HP.out, HB2.out⟩, by have := HX.out; simp [intOf] <;> omega⟩
    · have d1 : decide ((i : Int) < (L : Int) + 64) = false := decide_eq_false (by omega)
      have d1' : decide (i < L + 64) = false := decide_eq_false hlt
      obtain rfl : i = L + 64 := by omega
      have hzf : z = fullL l := by
        rw [List.take_of_length_le (by omega), List.take_of_length_le (by rw [fullL_length]; omega)] at hzt
        exact hzt
      subst hzf
      obtain ⟨i0, hi0, _, hsz, _⟩ := info_parts info3
      have hcut := cut_to (P := Try.prog) 22 3 .i64 Try.underlying22 hi0 (some ⟨g, 0, none⟩) (L + 64) cap (L : Int) (by omega) (by have := HCAP.out; omega) HCAP.out
      rw [Int.toNat_natCast] at hcut
      clear hR hB hz hi hF hlt hzt hi0 hsz
      go_wp2_with fail
      go_ret
      exact ⟨g, cap, rfl, HCAP.out, HR.out, HBa.out⟩
/-- xs[:j], j up to the capacity. -/
theorem cut_upto {P : Program} (t e : TypeId) (kh : IntKind) {i : TypeInfo} (ht : P.underlying t = some (.slice e)) (hi : P.info? e = some i) (A : Option Addr) (n c : Nat) (j : Int) (h0 : 0 ≤ j) (hm : j ≤ c) :
    ∀ W : World, (Instr.slice t (.slice A n c) none (some (.int kh j)) none).run P W = .ok (.slice A j.toNat c) W := by
  intro W
  have hel : P.elem t = e := by simp [Program.elem, ht]
  have hu : P.underlying t = some (.slice (P.elem t)) := by rw [hel]; exact ht
  have ha : (A.map fun x => x.add 0) = A := by cases A <;> simp [Addr.add]
  rw [run_slice_h W t A n c hu kh j h0 hm, hel]
  simp [sizeOf, typeInfo, hi, sliced, Result.andThen, ha]
set_option maxHeartbeats 8000000 in
set_option maxRecDepth 100000 in
theorem still_calls {w : World} {g cap : Nat} {A : Option Addr} {c : Nat} {l : List Int} (hF : Kd.C (Kd.int .i64) w (some ⟨g, 0, none⟩) (l.length + 64) (fullL l)) (hcap : l.length + 64 ≤ cap) (hC : Kd.C (Kd.int .i64) w A l.length l) (hc : l.length ≤ c) (hl : l.length ≤ 8796093022208) :
    Calls Try.prog 25 #[.slice (some ⟨g, 0, none⟩) l.length cap, .slice A l.length c] w fun e w' => e = .returned (.bool true) ∧ Drawn0 w w' := by
  have HC := Lib.hid hC
  have HF := Lib.hid hF
  obtain ⟨L, hL⟩ : ∃ L, l.length = L := ⟨_, rfl⟩
  rw [hL] at hl hcap ⊢
  have HL := Lib.hid hL
  have him : (L : Int) ≤ 8796093022208 := by omega
  obtain ⟨i0, hi0, _, hsz, _⟩ := info_parts info3
  have hcut := cut_upto (P := Try.prog) 22 3 .i64 Try.underlying22 hi0 (some ⟨g, 0, none⟩) L cap ((L : Int) + 64) (by omega) (by omega)
  rw [show ((L : Int) + 64).toNat = L + 64 by omega] at hcut
  clear hL hC hc hF hi0 hsz
  go_enter Try.func25, Try.ntmps25
  go_wp2_with fail
  go_loopw [6] (fun y wr => ∃ i : Nat, y = .int .i64 i ∧ i ≤ L + 64 ∧ Drawn0 w wr) (fun y _ => L + 64 - (intOf y).toNat)
  case atStart => exact ⟨0, rfl, Nat.zero_le _, Drawn0.refl _⟩
  case round =>
    obtain ⟨i, rfl, hi, hd⟩ := hrel
    rename World => wa
    have HD := Lib.hid hd
    by_cases hlt : i < L + 64
    · have d1 : decide ((i : Int) < (L : Int) + 64) = true := decide_eq_true (by omega)
      have d1' : decide (i < L + 64) = true := decide_eq_true hlt
      obtain ⟨ad0, e0, k1⟩ := Kd.at_int (Kd.C_below HF.out hd.below) (i : Int) (by omega) (by rw [HL.out]; omega)
      cases e0
      rw [Int.toNat_natCast, Addr.add_lit, rd_nth, Nat.zero_add] at k1
      have him1 : (i : Int) < (L : Int) + 64 := by omega
      have HX := Lib.hid hlt
      by_cases hin : i < L
      · have d2 : decide ((i : Int) < (L : Int)) = true := decide_eq_true (by omega)
        have d2' : decide (i < L) = true := decide_eq_true hin
        have d3 : decide ((L : Int) ≤ (i : Int)) = false := decide_eq_false (by omega)
        have d3' : decide (L ≤ i) = false := decide_eq_false (by omega)
        obtain ⟨ad, e1, k3⟩ := Kd.at_int (Kd.C_below HC.out hd.below) (i : Int) (by omega) (by rw [HL.out]; omega)
        subst e1
        rw [Int.toNat_natCast, rd_nth] at k3
        rw [fullL_lt (by rw [HL.out]; exact hin)] at k1
        obtain ⟨y, hy0⟩ : ∃ y, nth l i = y := ⟨_, rfl⟩
        rw [hy0] at k1 k3
        have hin1 : (i : Int) < (L : Int) := by omega
        clear hd hi hlt hin hy0
        go_wp2_with fail
        repeat (go_quiet (fail); try go_wp2)
        exact ⟨⟨i + 1, rfl, HX.out, drawn_trans HD.out ⟨⟨_, rfl⟩⟩⟩, by have := HX.out; simp [intOf] <;> omega⟩
      · have d2 : decide ((i : Int) < (L : Int)) = false := decide_eq_false (by omega)
        have d2' : decide (i < L) = false := decide_eq_false hin
        have d3 : decide ((L : Int) ≤ (i : Int)) = true := decide_eq_true (by omega)
        have d3' : decide (L ≤ i) = true := decide_eq_true (by omega)
        rw [fullL_ge (by rw [HL.out]; omega) (by rw [HL.out]; exact hlt)] at k1
        clear hd hi hlt hin
        go_wp2_with fail
        repeat (go_quiet (fail); try go_wp2)
        exact ⟨⟨i + 1, rfl, HX.out, drawn_trans HD.out ⟨⟨_, rfl⟩⟩⟩, by have := HX.out; simp [intOf] <;> omega⟩
    · have d1 : decide ((i : Int) < (L : Int) + 64) = false := decide_eq_false (by omega)
      have d1' : decide (i < L + 64) = false := decide_eq_false hlt
      clear hd hi hlt
      go_wp2_with fail
      go_ret
      exact ⟨rfl, HD.out⟩
end Go.Proofs.Ytjeofkobefeigaa.Wk
