/- The walk of NgramAlike. -/
import Derived.Test.YtjeofkobefeigaaTd
import Derived.Test.YtjeofkobefeigaaAk
import Derived.Test.YtjeofkobefeigaaSp
set_option linter.unusedVariables false
set_option linter.unusedSimpArgs false
namespace Go.Proofs.Ytjeofkobefeigaa.Wk
open Go.RowKit Go.Shelf Go.Proofs.YtjeofkobefeigaaW.PrintWords Go.Proofs.YtjeofkobefeigaaW.PrintLast Go.Proofs.YtjeofkobefeigaaW.PrintMore Go.Proofs.Ytjeofkobefeigaa.Mp Go.Proofs.Ytjeofkobefeigaa.PEqRaw Go.Proofs.Ytjeofkobefeigaa.Pgram

theorem begun_nil {w : World} {most : Nat} (h1 : 1 ≤ most) (h4 : most ≤ 4) :
    Calls Try.prog 13 #[.int .i64 most, .slice none 0 0] w fun e w' => ∃ B, e = .returned (.pointer (some ⟨B, 0, none⟩)) ∧ Slot w' (fun k => w.heap.size ≤ k) (.pointer (some ⟨B, 0, none⟩)) (some (most, [])) ∧ Below w.heap.size w w' :=
  begun_calls (A := none) (c := 0) (t := []) h1 h4 (Kd.C_nil _ _) (Nat.le_refl _) (fun x hx => absurd hx (by simp)) (by simp)
theorem C_one {w : World} {x : Int} : Kd.C (Kd.int .i64) (w.alloc (.cells #[.int .i64 x] 3)) (some ⟨w.heap.size, 0, none⟩) ([x] : List Int).length [x] :=
  Kd.C_of_reads (d := (0 : Int)) (h1 := fun _ => rfl) ⟨rfl, by show 1 ≤ 9223372036854775807; omega, fun _ => ⟨_, rfl, fun j hj => by
    obtain rfl : j = 0 := by simp at hj; omega
    exact (blk_cell (blk_new w _) 0).trans rfl⟩⟩
theorem away_one {base : Nat} {w : World} {o : Obj} : Away base w (w.alloc o) (some ⟨w.heap.size, 0, none⟩) := fun ad e => by
  cases e
  exact ⟨.inr (Nat.le_refl _), by rw [World.size_alloc]; exact Nat.lt_succ_self _⟩
def AkRel (w : World) (base most : Nat) (x : Int) (L : Nat) (px py : Value) (s11 : Value) (wr : World) : Prop :=
  ∃ i : Nat, s11 = .int .i64 i ∧ i ≤ L ∧ Stt base wr (Star (SlotA px (some (most, List.replicate i x))) (Star (SlotA py (some (most, rise x i))) Emp)) ∧ Below base w wr
set_option maxHeartbeats 4000000 in
set_option maxRecDepth 100000 in
theorem alikelaw_calls {w : World} {n x long : Int} (hx : (Lit.int .i64 x).wf = true) (hlong : long ≤ 9223372036854775807) :
    Calls Try.prog 6 #[.int .i64 n, .int .i64 x, .int .i64 long] w fun e w' => e = .returned (.bool true) ∧ Below w.heap.size w w' := by
  obtain ⟨g1, g4⟩ := gramN_le n
  have HX := Lib.hid hx
  clear hx
  go_enter Try.func6, Try.ntmps6
  go_wp2_with (first | (go_at_call 11; refine (works_calls _).mono ?_; rintro e w1 ⟨rfl, hb1⟩) | (fail))
  go_upto_region 3 with (first | (go_at_call 12; refine (gram_calls _ _).mono ?_; rintro e w2 ⟨rfl, hd2⟩) | (fail))
  have hb2 := hb1.trans (hd2.below.mono hb1.size)
  have HB2 := Lib.hid hb2
  clear hb1 hd2 hb2
  obtain ⟨most, hm⟩ : ∃ most, gramN n = most := ⟨_, rfl⟩
  rw [hm] at g1 g4 ⊢
  clear hm
  obtain ⟨L, hL⟩ : ∃ L : Nat, (L : Int) = if long < 0 ∨ 300 < long then 300 else long := ⟨(if long < 0 ∨ 300 < long then 300 else long).toNat, by split <;> omega⟩
  have hL3 : L ≤ 300 := by split at hL <;> omega
  go_cut [24] (fun s24 wx => w2 = wx ∧ s24 = .bool (decide (long < 0 ∨ 300 < long)))
  case first =>
    by_cases c1 : long < 0
    · have d1 : decide (long < 0) = true := decide_eq_true c1
      go_wp2_with fail
      all_goals go_meet
      all_goals exact ⟨rfl, by simp [c1]⟩
    · have d1 : decide (long < 0) = false := decide_eq_false c1
      go_wp2_with fail
      all_goals go_meet
      all_goals exact ⟨rfl, by congr 1; exact decide_eq_decide.2 (by omega)⟩
  case rest =>
  obtain ⟨rfl, rfl⟩ := hcut
  go_upto_if 24 with (fail)
  go_cut [2] (fun s2 wx => w2 = wx ∧ s2 = .int .i64 L)
  case first =>
    by_cases c1 : long < 0 ∨ 300 < long
    · rw [if_pos c1] at hL
      rw [decide_eq_true c1]
      clear c1
      go_wp2_with fail
      all_goals go_meet
      all_goals exact ⟨rfl, by rw [hL]⟩
    · rw [if_neg c1] at hL
      rw [decide_eq_false c1]
      clear c1
      go_wp2_with fail
      all_goals go_meet
      all_goals exact ⟨rfl, by rw [hL]⟩
  case rest =>
  obtain ⟨rfl, rfl⟩ := hcut
  clear hL
  go_wp2_with fail
  refine (begun_nil g1 g4).mono ?_
  rintro e w3 ⟨Bx, rfl, hS, hb⟩
  have hT := Stt.add (P := SlotA (.pointer (some ⟨Bx, 0, none⟩)) (some (most, []))) (Q := Emp) (base := w.heap.size) (SlotA.ok _ _) Emp.ok Stt.emp (Below.refl _ _) HB2.out.size hb hS
  have HT := Lib.hid hT
  have HB3 := Lib.hid (HB2.out.trans (hb.mono HB2.out.size))
  clear hT hS hb HB2
  go_wp2_with fail
  refine (begun_nil g1 g4).mono ?_
  rintro e w4 ⟨By, rfl, hS, hb⟩
  have hT := Stt.add (P := SlotA (.pointer (some ⟨By, 0, none⟩)) (some (most, []))) (Q := Star (SlotA (.pointer (some ⟨Bx, 0, none⟩)) (some (most, []))) Emp) (base := w.heap.size) (SlotA.ok _ _) (Star.ok (SlotA.ok _ _) Emp.ok) HT.out (Below.refl _ _) HB3.out.size hb hS
  have HT4 := Lib.hid (hT.imp (fun F h => h.swap))
  have HB4 := Lib.hid (HB3.out.trans (hb.mono HB3.out.size))
  clear hT hS hb HB3 HT
  go_wp2_with fail
  go_loopw [11] (fun y wr => AkRel w w.heap.size most x L (.pointer (some ⟨Bx, 0, none⟩)) (.pointer (some ⟨By, 0, none⟩)) y wr) (fun y _ => L - (intOf y).toNat)
  case atStart => exact ⟨0, rfl, Nat.zero_le _, HT4.out, HB4.out⟩
  case round =>
    obtain ⟨i, rfl, hi, hT, hB⟩ := hrel
    rename World => wa
    have HT5 := Lib.hid hT
    have HB5 := Lib.hid hB
    have HI := Lib.hid hi
    clear hT hB hi HT4
    have hL3' : (L : Int) ≤ 300 := by omega
    by_cases hlt : i < L
    · have d1 : decide ((i : Int) < (L : Int)) = true := decide_eq_true (by omega)
      have d1' : decide (i < L) = true := decide_eq_true hlt
      have HLT := Lib.hid hlt
      have him : (i : Int) < (L : Int) := by omega
      clear hlt
      go_wp2_with fail
      refine (append_fr (ts := [x]) (A := some ⟨wa.heap.size, 0, none⟩) (c := 1) (Star.ok (SlotA.ok _ _) Emp.ok) HT5.out (below_alloc (Below.refl _ _) _) HB5.out.size (fun y hy => by rw [List.mem_singleton.1 hy]; exact HX.out) C_one (Nat.le_refl _) away_one ?_).mono ?_
      · show ((List.replicate i x).length + 1) * 8 ≤ _
        rw [List.length_replicate]
        have := HLT.out
        omega
      rintro e wb ⟨rfl, hT, hb⟩
      have hT1 : Stt w.heap.size wb (Star (SlotA (.pointer (some ⟨By, 0, none⟩)) (some (most, rise x i))) (Star (SlotA (.pointer (some ⟨Bx, 0, none⟩)) (some (most, List.replicate (i + 1) x))) Emp)) := by
        rw [List.replicate_succ']
        exact hT.imp (fun F h => h.swap)
      have HT6 := Lib.hid hT1
      have HB6 := Lib.hid ((below_alloc HB5.out _).trans hb)
      clear hT hT1 hb
      go_wp2_with fail
      refine (append_fr (ts := [wrap64 (x + (i : Int))]) (A := some ⟨wb.heap.size, 0, none⟩) (c := 1) (Star.ok (SlotA.ok _ _) Emp.ok) HT6.out (below_alloc (Below.refl _ _) _) HB6.out.size (fun y hy => by rw [List.mem_singleton.1 hy]; exact wrap64_wf _) C_one (Nat.le_refl _) away_one ?_).mono ?_
      · show ((rise x i).length + 1) * 8 ≤ _
        rw [rise_length]
        have := HLT.out
        omega
      rintro e wc ⟨rfl, hT, hb⟩
      have hT1 : Stt w.heap.size wc (Star (SlotA (.pointer (some ⟨Bx, 0, none⟩)) (some (most, List.replicate (i + 1) x))) (Star (SlotA (.pointer (some ⟨By, 0, none⟩)) (some (most, rise x (i + 1)))) Emp)) := by
        rw [rise_succ]
        exact hT.imp (fun F h => h.swap)
      have HT7 := Lib.hid hT1
      have HB7 := Lib.hid ((below_alloc HB6.out _).trans hb)
      clear hT hT1 hb
      go_wp2_with fail
      exact ⟨⟨i + 1, rfl, HLT.out, HT7.out, HB7.out⟩, by have := HLT.out; simp [intOf] <;> omega⟩
    · have d1 : decide ((i : Int) < (L : Int)) = false := decide_eq_false (by omega)
      have d1' : decide (i < L) = false := decide_eq_false hlt
      have hiL : i = L := by have := HI.out; omega
      subst hiL
      clear hlt d1 d1'
      obtain ⟨Fx, hSx⟩ := HT5.out.slot
      obtain ⟨Fy, hSy⟩ := (HT5.out.imp (fun F h => h.swap)).slot
      have HSx := Lib.hid hSx
      have HSy := Lib.hid hSy
      clear hSx hSy HT5
      go_wp2_with fail
      refine (places_slot (most := 0) HSx.out (by show (List.replicate i x).length * 8 ≤ _; rw [List.length_replicate]; omega)).mono ?_
      rintro e w6 ⟨v, rfl, hR, hb⟩
      have hpl : firstL (stPl (some (most, List.replicate i x))).reverse 0 = (plAt (List.replicate i x) (min most (i - 1))).reverse := by
        show (placesL most (List.replicate i x)).reverse = _
        rw [placesL_eq, longestN_rep]
      rw [hpl] at hR
      obtain ⟨Al, cl, rfl, hcl, hCl⟩ := Kd.R_reads hR
      obtain ⟨pl, hpp⟩ : ∃ pl, (plAt (List.replicate i x) (min most (i - 1))).reverse = pl := ⟨_, rfl⟩
      rw [hpp] at hCl hcl ⊢
      have HP := Lib.hid hpp
      have HCl := Lib.hid hCl
      have HSy6 := Lib.hid (HSy.out.below hb)
      have HB6 := Lib.hid (HB5.out.trans (hb.mono HB5.out.size))
      clear hR hCl hcl hb hpl hpp HSx HSy HB5
      have hi3 : (i : Int) ≤ 300 := by omega
      go_upto_if 60 with (fail)
      obtain ⟨R, hRR⟩ : ∃ R : Int, R = if (i : Int) - 1 < (most : Int) then (i : Int) - 1 else (most : Int) := ⟨_, rfl⟩
      go_cut [13] (fun s13 wx => w6 = wx ∧ s13 = .int .i64 R)
      case first =>
        by_cases c1 : (i : Int) - 1 < (most : Int)
        · rw [if_pos c1] at hRR
          rw [decide_eq_true c1]
          clear c1
          go_wp2_with fail
          all_goals go_meet
          all_goals exact ⟨rfl, by rw [hRR]⟩
        · rw [if_neg c1] at hRR
          rw [decide_eq_false c1]
          clear c1
          go_wp2_with fail
          all_goals go_meet
          all_goals exact ⟨rfl, by rw [hRR]⟩
      case rest =>
      obtain ⟨rfl, rfl⟩ := hcut
      have HRR := Lib.hid hRR
      clear hRR
      go_wp2_with fail
      refine (places_slot (most := 0) HSy6.out (by show (rise x i).length * 8 ≤ _; rw [rise_length]; omega)).mono ?_
      rintro e w7 ⟨v, rfl, hR, hb⟩
      rw [pl_rise (by omega)] at hR
      obtain ⟨An, cn, rfl, hcn, hCn⟩ := Kd.R_reads hR
      have HSy7 := Lib.hid (HSy6.out.below hb)
      have HCl7 := Lib.hid (Kd.C_below HCl.out hb)
      have HB7 := Lib.hid (HB6.out.trans (hb.mono HB6.out.size))
      clear hR hCn hcn hb HSy6 HCl HB6
      go_wp2_with fail
      refine (propose_slot (ways := 5) (deep := 5) HSy7.out (by show (rise x i).length * 8 ≤ _; rw [rise_length]; omega) (by decide)).mono ?_
      rintro e w8 ⟨v, rfl, hR, hb⟩
      rw [pr_rise (by omega)] at hR
      obtain ⟨Ao, co, rfl, hco, hCo⟩ := Kd.R_reads hR
      have HCl8 := Lib.hid (Kd.C_below HCl7.out hb)
      have HB8 := Lib.hid (HB7.out.trans (hb.mono HB7.out.size))
      clear hR hCo hco hb HSy7 HCl7 HB7
      by_cases hR1 : R < 1
      · have d1 : decide (R < 1) = true := decide_eq_true hR1
        have hpl0 : pl.length = 0 := by
          have h1 := HRR.out
          have h2 : min most (i - 1) = 0 := by split at h1 <;> omega
          rw [← HP.out, h2]
          rfl
        have d2 : ((pl.length : Int) == 0) = true := beq_iff_eq.2 (by omega)
        have d2' : (pl.length == 0) = true := beq_iff_eq.2 hpl0
        have d2'' : pl = [] := List.eq_nil_of_length_eq_zero hpl0
        subst d2''
        clear hpl0 hR1 d2 d2'
        go_wp2_with fail
        go_ret
        exact ⟨rfl, HB8.out⟩
      · have d1 : decide (R < 1) = false := decide_eq_false hR1
        obtain ⟨r, hr⟩ : ∃ r : Nat, min most (i - 1) = r := ⟨_, rfl⟩
        have hrR : R = (r : Int) := by have h1 := HRR.out; split at h1 <;> omega
        have hr1 : 1 ≤ r := by omega
        have hri : r + 1 ≤ i := by omega
        have hpl : pl = ((List.range (i - r)).map (fun j => ((j + r : Nat) : Int))).reverse := by rw [← HP.out, hr, plAt_rep (by omega)]
        have hlen : pl.length = i - r := by rw [hpl]; simp
        have hfirst : nth pl 0 = (i : Int) - 1 := by
          rw [hpl]
          unfold nth
          rw [List.getD_eq_getElem?_getD, List.getElem?_reverse (by simp; omega)]
          simp
          rw [List.getElem?_range (by omega)]
          simp
          omega
        have hlast : nth pl (i - r - 1) = (r : Int) := by
          rw [hpl]
          unfold nth
          rw [List.getD_eq_getElem?_getD, List.getElem?_reverse (by simp; omega)]
          simp
          rw [List.getElem?_range (by omega)]
          simp
        obtain ⟨a0, e0, k0⟩ := Kd.at_int HCl8.out (0 : Int) (by omega) (by omega)
        subst e0
        rw [show (0 : Int) = ((0 : Nat) : Int) from rfl, rd_nth, hfirst] at k0
        have k0 : w8.cell? a0 = some (.int .i64 ((i : Int) - 1)) := by rw [← add_0 a0]; exact k0
        obtain ⟨a1, e1, k1⟩ := Kd.at_int HCl8.out ((i - r - 1 : Nat) : Int) (by omega) (by omega)
        cases e1
        rw [Int.toNat_natCast, rd_nth, hlast] at k1
        obtain ⟨N, hN⟩ : ∃ N, pl.length = N := ⟨_, rfl⟩
        obtain ⟨N1, hN1⟩ : ∃ N1, i - r - 1 = N1 := ⟨_, rfl⟩
        rw [hN1] at k1
        rw [hN]
        have hNN : N1 + 1 = N := by omega
        have d2 : ((N : Int) == (i : Int) - R) = true := beq_iff_eq.2 (by omega)
        have hw : wrap64 ((N : Int) - 1) = (N1 : Int) := by rw [IntWalk.wrap64_in _ (by omega)]; omega
        have hw2 : IntKind.i64.wrap ((N : Int) - 1) = (N1 : Int) := by rw [IntWalk.i64_in _ (by omega)]; omega
        have q1 : (0 : Int) ≤ (N1 : Int) := by omega
        have q2 : (N1 : Int) < (N : Int) := by omega
        have q3 : (0 : Int) < (N : Int) := by omega
        have q4 : 0 < N := by omega
        have hR300 : R ≤ 300 := by omega
        have hR0 : 1 ≤ R := by omega
        have d3 : ((r : Int) == R) = true := beq_iff_eq.2 hrR.symm
        clear hr hrR hpl hlen hfirst hlast hN hN1 hNN hR1
        go_wp2_with fail
        go_ret
        exact ⟨rfl, HB8.out⟩
end Go.Proofs.Ytjeofkobefeigaa.Wk
