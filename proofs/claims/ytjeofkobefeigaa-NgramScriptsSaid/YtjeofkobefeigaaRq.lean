/- The walk of the document's Propose. -/
import Derived.Test.YtjeofkobefeigaaYd
set_option linter.unusedVariables false
set_option linter.unusedSimpArgs false
namespace Go.Proofs.Ytjeofkobefeigaa.Wk
open Go.RowKit Go.Shelf Go.Proofs.YtjeofkobefeigaaW.PrintWords Go.Proofs.YtjeofkobefeigaaW.PrintLast Go.Proofs.YtjeofkobefeigaaW.PrintMore Go.Proofs.Ytjeofkobefeigaa.Mp Go.Proofs.Ytjeofkobefeigaa.PEqRaw

theorem nth_memB {l : List Int} {i : Nat} (h : i < l.length) : nth l i ∈ l := by
  unfold nth
  rw [List.getD_eq_getElem?_getD, List.getElem?_eq_getElem h]
  exact List.getElem_mem h
theorem proposeL_full {t : List Int} {deep : Int} {a : List Int} (h : (proposeL t deep a).length = 96) (b : List Int) : proposeL t deep (a ++ b) = proposeL t deep a := by
  unfold proposeL at *
  rw [List.foldl_append]
  generalize hx : a.foldl (chain t deep) [] = x at *
  induction b with
  | nil => rfl
  | cons p b ih =>
    rw [List.foldl_cons]
    have : chain t deep x p = x := by
      unfold chain deepN
      rw [h, Nat.sub_self, Nat.min_zero, chainN_zero]
    rw [this]
    exact ih
def RsRel (w : World) (t : List Int) (deep : Int) (pl : List Int) (n : Nat) (lv : Value) (s7 s9 : Value) (wr : World) : Prop :=
  ∃ i : Nat, s9 = .int .i64 i ∧ i ≤ pl.length ∧ i ≤ n ∧ k35.R 35 wr w.heap.size (fun _ => True) s7 (proposeL t deep (pl.take i)) ∧ Below w.heap.size w wr ∧ Kd.R (Kd.int .i64) 3 wr w.heap.size (fun _ => True) lv pl
def RtRel (w : World) (t : List Int) (pl : List Int) (out : List S35) (p m : Nat) (lv : Value) (s7 s10 : Value) (wr : World) : Prop :=
  ∃ k : Nat, s10 = .int .i64 k ∧ k ≤ m ∧ k35.R 35 wr w.heap.size (fun _ => True) s7 (chainN t p out k) ∧ Below w.heap.size w wr ∧ Kd.R (Kd.int .i64) 3 wr w.heap.size (fun _ => True) lv pl
theorem own_ne {w w1 : World} {base base2 : Nat} {F F2 : Nat → Prop} {v : Value} {xs : List S35} {u : Value} {ys : List Int} (h : k35.R 35 w base F v xs) (hu : Kd.R (Kd.int .i64) 3 w base2 F2 u ys) : ∀ k, v.ownBlock = some k → some k ≠ u.ownBlock := fun k hk e => by
  obtain ⟨_, cs, fr, hc⟩ := R35_cells h k hk
  obtain ⟨_, cs2, fr2, hc2⟩ := R_cells hu k e.symm
  rw [hc] at hc2
  injection hc2 with hc2
  injection hc2 with _ h2
  exact absurd h2 (by decide)
theorem rq_step {w W : World} {B L ct n1 co i p k cl N0 most : Nat} {At al : Addr} {Ao : Option Addr} {t pl : List Int} {out : List S35} {y PAR : Int} (hN0 : out.length = N0) (hn1 : N0 + k = n1) (hY : nth t (p + k) = y) (hPAR : PAR = (if k = 0 then -1 else (N0 : Int) + k - 1)) (hi : i < pl.length) (hpi : nth pl i = p)
    (hRo : k35.R 35 W w.heap.size (fun _ => True) (.slice Ao n1 co) (chainN t p out k)) (hRl : Kd.R (Kd.int .i64) 3 W w.heap.size (fun _ => True) (.slice (some al) pl.length cl) pl) (hB : Below w.heap.size w W)
    (hbox : w.heap[B]? = some (.cells #[.int .i64 (most : Int), .slice (some At) L ct] 75 (0, 0))) (hky : w.cell? (At.add (p + k)) = some (.int .i64 y)) :
    ∀ v1 w1, k35.R 35 w1 w.heap.size (fun _ => True) v1 (chainN t p out k ++ [⟨PAR, y⟩]) → W.grownBy w1 (Value.slice Ao n1 co).ownBlock → (v1.ownBlock = (Value.slice Ao n1 co).ownBlock ∨ ∃ b, v1.ownBlock = some b ∧ W.heap.size ≤ b) →
      ∃ A1 c1, v1 = .slice A1 (n1 + 1) c1 ∧ w1.cell? ⟨B, 1, none⟩ = some (.slice (some At) L ct) ∧ w1.cell? (al.add i) = some (.int .i64 p) ∧ w1.cell? (At.add (p + k)) = some (.int .i64 y) ∧
        (k35.R 35 w1 w.heap.size (fun _ => True) v1 (chainN t p out (k + 1)) ∧ Below w.heap.size w w1 ∧ Kd.R (Kd.int .i64) 3 w1 w.heap.size (fun _ => True) (.slice (some al) pl.length cl) pl) := fun v1 w1 ho hg hat => by
  have hne := Kd.R_base hRo
  have hold : ∀ b, b < w.heap.size → some b ≠ (Value.slice Ao n1 co).ownBlock := fun b hb e => by have := hne b e.symm; omega
  have hnl := own_ne (w := W) (w1 := W) hRo hRl
  obtain ⟨A1, c1, e1, hc1, hC1⟩ := Kd.R_reads ho
  rw [List.length_append, List.length_singleton, chainN_length, hN0, hn1] at e1
  have hRl1 := Kd.R_grown2 hRl rfl hg hnl
  have hb1 : Below w.heap.size w w1 := hB.trans ⟨hg.os, hg.tape, hg.output, hg.size, fun b hb => hg.block b (Nat.lt_of_lt_of_le hb hB.size) (hold b hb)⟩
  refine ⟨A1, c1, e1, (blk_cell (blk_below hbox hb1) 1).trans rfl, ?_, pw_cell_below hb1 hky, ?_, hb1, hRl1⟩
  · obtain ⟨al2, e2, k2⟩ := Kd.at_int (Kd.R_reads' hRl1).2.2 (i : Int) (by omega) (by omega)
    cases e2
    rw [Int.toNat_natCast, rd_nth, hpi] at k2
    exact k2
  · rw [chainN_succ, hY, hN0, ← hPAR]; exact ho
set_option maxHeartbeats 8000000 in
set_option maxRecDepth 100000 in
theorem rpropose_slot {w : World} {F : Nat → Prop} {pv : Value} {st : Option (Nat × List Int)} {ways deep : Int} (h : RSlot w F pv st) (hl : (stText st).length * 8 ≤ 140737488355328) (hw : ways ≤ 9223372036854775807) :
    Calls Try.prog 33 #[pv, .int .i64 ways, .int .i64 deep] w fun e w' => ∃ v, e = .returned v ∧ k35.R 35 w' w.heap.size (fun _ => True) v (stPr st ways deep) ∧ Below w.heap.size w w' := by
  have hq : ∃ q, pv = .pointer q := by
    cases st with
    | none => exact ⟨_, h⟩
    | some s => obtain ⟨B, tv, h1, _⟩ := h; exact ⟨_, h1⟩
  obtain ⟨q, rfl⟩ := hq
  have hrecv : (stPl st).reverse ≠ [] → ∃ (B most : Nat) (At : Option Addr) (ct : Nat), q = some ⟨B, 0, none⟩ ∧ w.heap[B]? = some (.cells #[.int .i64 (most : Int), .slice At (stText st).length ct] 75 (0, 0)) ∧ Kd.C (Kd.int .i64) w At (stText st).length (stText st) ∧ (stText st).length ≤ ct := by
    intro hne
    cases st with
    | none => exact absurd rfl hne
    | some s =>
      obtain ⟨B, tv, h1, h2, h3, _⟩ := h
      injection h1 with h1
      obtain ⟨At, ct, eAt, hct, hCt⟩ := Kd.R_reads h3
      subst eAt
      exact ⟨B, s.1, At, ct, h1, h2, hCt, hct⟩
  have hpl := rplaces_slot h hl
  have hmem : ∀ x ∈ (stPl st).reverse, ∃ p : Nat, x = p ∧ p ≤ (stText st).length := fun x hx => stPl_mem (List.mem_reverse.1 hx)
  have hlen : (stPl st).reverse.length ≤ 17592186044416 := by rw [List.length_reverse]; have := stPl_length st; omega
  unfold stPr
  obtain ⟨t, ht⟩ : ∃ t, stText st = t := ⟨_, rfl⟩
  obtain ⟨pl, hp⟩ : ∃ pl, (stPl st).reverse = pl := ⟨_, rfl⟩
  rw [ht] at hrecv hmem hl ⊢
  rw [hp] at hrecv hmem hpl hlen ⊢
  have HRV := Lib.hid hrecv
  have HPL := Lib.hid hpl
  have HMEM := Lib.hid hmem
  have HLEN := Lib.hid hlen
  have HLL := Lib.hid hl
  clear h hrecv hpl hmem hlen ht hp hl
  go_enter Try.func33, Try.ntmps33
  go_wp2_with fail
  refine HPL.out.mono ?_
  rintro e w5 ⟨lv, rfl, hR, hb⟩
  obtain ⟨Al, cl, el, hcl, hCl⟩ := Kd.R_reads hR
  have HRL5 := Lib.hid hR
  have HB5 := Lib.hid hb
  subst el
  clear hR hb hcl hCl HPL
  go_wp2_with fail
  go_loopw [7, 9] (fun x y wr => RsRel w t deep pl ways.toNat (.slice Al pl.length cl) x y wr) (fun _ y _ => pl.length - (intOf y).toNat)
  case atStart => exact ⟨0, rfl, Nat.zero_le _, Nat.zero_le _, Kd.R_nil _ _ _ _ _, HB5.out, HRL5.out⟩
  case round =>
    obtain ⟨i, rfl, i1, i2, hRo, hB, hRl⟩ := hrel
    rename World => wa
    have HRO := Lib.hid hRo
    have HB := Lib.hid hB
    have HRL := Lib.hid hRl
    have HI1 := Lib.hid i1
    have HI2 := Lib.hid i2
    clear hRo hB hRl i1 i2 HRL5 HB5
    obtain ⟨Ao0, co0, eo0, hco0, hCo0⟩ := Kd.R_reads HRO.out
    subst eo0
    clear hco0 hCo0
    obtain ⟨out, hout⟩ : ∃ out, proposeL t deep (pl.take i) = out := ⟨_, rfl⟩
    have HOUT := Lib.hid hout
    rw [hout]
    obtain ⟨N0, hN0⟩ : ∃ N0, out.length = N0 := ⟨_, rfl⟩
    have hN96 : N0 ≤ 96 := by rw [← hN0, ← hout]; exact proposeL_le _ _ _
    have HN0 := Lib.hid hN0
    rw [hN0]
    have hplm : (pl.length : Int) ≤ 17592186044416 := by have := HLEN.out; omega
    have him : (i : Int) ≤ 17592186044416 := by have := HLEN.out; have := HI1.out; omega
    clear hout hN0
    by_cases hlt : i < pl.length ∧ (i : Int) < ways
    · obtain ⟨l1, l2⟩ := hlt
      have d1 : decide ((i : Int) < (pl.length : Int)) = true := decide_eq_true (by omega)
      have d1' : decide (i < pl.length) = true := decide_eq_true l1
      have d2 : decide ((i : Int) < ways) = true := decide_eq_true l2
      obtain ⟨p, hp, hpt⟩ := HMEM.out (nth pl i) (nth_memB l1)
      obtain ⟨m, hm⟩ : ∃ m, deepN t deep p N0 = m := ⟨_, rfl⟩
      obtain ⟨B, most, At0, ct, hq, hbB, hC, hct⟩ := HRV.out (fun e => by rw [e] at l1; simp at l1)
      obtain ⟨L, hL⟩ : ∃ L, t.length = L := ⟨_, rfl⟩
      rw [hL] at hbB hct
      have HL := Lib.hid hL
      have HBB := Lib.hid hbB
      have HCt := Lib.hid hC
      have HM := Lib.hid hm
      have HL1 := Lib.hid l1
      have HL2 := Lib.hid l2
      have HPI := Lib.hid hp
      have HPT := Lib.hid hpt
      have HCT := Lib.hid hct
      subst hq
      have HEND0 : Hid (proposeL t deep (pl.take (i + 1)) = chainN t p out m) := Lib.hid (by
        rw [take_step l1, proposeL_snoc, hp, HOUT.out]
        unfold chain
        rw [Int.toNat_natCast, HN0.out, hm])
      clear hm l1 l2 hp hpt hL hbB hC hct
      go_wp2_with fail
      go_loopw [7, 10] (fun x y wr => RtRel w t pl out p m (.slice Al pl.length cl) x y wr) (fun _ y _ => m - (intOf y).toNat)
      case atStart => exact ⟨0, rfl, Nat.zero_le _, by rw [chainN_zero]; have := HRO.out; rw [HOUT.out, HN0.out] at this; exact this, HB.out, HRL.out⟩
      case round =>
        obtain ⟨k, rfl, hk, hRo, hB, hRl⟩ := hrel
        rename World => wb
        have HRO2 := Lib.hid hRo
        have HB2 := Lib.hid hB
        have HRL2 := Lib.hid hRl
        clear hRo hB hRl d1 d1' d2
        obtain ⟨n1, hn1⟩ : ∃ n1, N0 + k = n1 := ⟨_, rfl⟩
        obtain ⟨Ao, co, eo, hco, hCo⟩ := Kd.R_reads HRO2.out
        rw [chainN_length, HN0.out, hn1] at eo
        subst eo
        clear hco hCo
        have HN1 := Lib.hid hn1
        have hkm : (k : Int) ≤ 96 := by have h1 := HM.out; unfold deepN at h1; omega
        have kt : wb.cell? ⟨B, 1, none⟩ = some (.slice At0 L ct) := (blk_cell (blk_below HBB.out HB2.out) 1).trans rfl
        have hCl := (Kd.R_reads' HRL2.out).2.2
        obtain ⟨al, e1, kl⟩ := Kd.at_int hCl (i : Int) (by omega) (by have := HL1.out; omega)
        subst e1
        rw [Int.toNat_natCast, rd_nth, HPI.out] at kl
        have q1 : (0 : Int) ≤ (i : Int) := by omega
        have q2 : (i : Int) < (pl.length : Int) := by have := HL1.out; omega
        have hpm : (p : Int) ≤ 17592186044416 := by have := HPT.out; have := HLL.out; omega
        have hLm : (L : Int) ≤ 17592186044416 := by have := HLL.out; rw [HL.out] at this; omega
        clear hCl hn1
        by_cases hk2 : k < m
        · obtain ⟨g5, g6, g7⟩ := lt_deep.1 (show k < deepN t deep p N0 by rw [HM.out]; exact hk2)
          rw [HL.out] at g6
          have d3 : decide ((k : Int) < deep) = true := decide_eq_true g5
          have d4 : decide ((p : Int) + (k : Int) < (L : Int)) = true := decide_eq_true (by omega)
          have d5 : ((n1 : Int) == 96) = false := beq_eq_false_iff_ne.2 (by have := HN1.out; omega)
          have d5' : (n1 == 96) = false := beq_eq_false_iff_ne.2 (by have := HN1.out; omega)
          obtain ⟨At, e2, ky⟩ := Kd.at_int HCt.out ((p : Int) + (k : Int)) (by omega) (by rw [HL.out]; omega)
          subst e2
          have ht : ((p : Int) + (k : Int)).toNat = p + k := by omega
          rw [ht] at ky
          obtain ⟨y, hy⟩ : ∃ y, rd t ((p : Int) + (k : Int)) = y := ⟨_, rfl⟩
          rw [hy] at ky
          have HY : Hid (nth t (p + k) = y) := Lib.hid (by rw [← hy, ← rd_nth]; rfl)
          have KY0 := Lib.hid ky
          have ky : wb.cell? (At.add (p + k)) = some (.int .i64 y) := pw_cell_below HB2.out ky
          have q5 : (0 : Int) ≤ (p : Int) + (k : Int) := by omega
          have q6 : (p : Int) + (k : Int) < (L : Int) := by omega
          have hn1m : (n1 : Int) < 96 := by have := HN1.out; omega
          have HK2 := Lib.hid hk2
          have HLE : Hid (((chainN t p out k).length + 1) * 16 ≤ 140737488355328) := Lib.hid (by rw [chainN_length, HN0.out]; have := HN1.out; omega)
          clear hy hk2 g5 g6 g7 hk
          have hws : wrap64 ((p : Int) + (k : Int)) = (p : Int) + (k : Int) := IntWalk.wrap64_in _ (by omega)
          by_cases hk0 : k = 0
          ·
            have d7 : ((k : Int) == 0) = true := beq_iff_eq.2 (by omega)
            have d7' : (k == 0) = true := beq_iff_eq.2 hk0
            have HPAR : Hid ((-1 : Int) = (if k = 0 then -1 else (N0 : Int) + k - 1)) := Lib.hid (by rw [if_pos hk0])
            clear hk0
            go_wp2_with fail
            go_quiet (fail)
            have hdq : Below wb.heap.size wb (wb.drewN nq) := Drawn0.below ⟨⟨_, rfl⟩⟩
            obtain ⟨wq, hwq⟩ : ∃ wq, wb.drewN nq = wq := ⟨_, rfl⟩
            rw [hwq] at hdq ⊢
            have HRD := Lib.hid (Kd.R_drew (Kd.R_below HRO2.out hdq))
            have HBD : Hid (Below w.heap.size w wq.drew) := Lib.hid (below_drew (HB2.out.trans (hdq.mono HB2.out.size)))
            have kt := pw_cell_below hdq kt
            have kl := pw_cell_below hdq kl
            have ky := pw_cell_below hdq ky
            have STEP := Lib.hid (rq_step HN0.out HN1.out HY.out HPAR.out HL1.out HPI.out HRD.out (Kd.R_drew (Kd.R_below HRL2.out hdq)) HBD.out HBB.out KY0.out)
            clear hdq hwq
            go_upto_region 14 with (fail)
            refine start_ (n := 18) (S := fun w' => w'.cell? ⟨B, 1, none⟩ = some (.slice (some At) L ct) ∧ w'.cell? (al.add i) = some (.int .i64 p) ∧ w'.cell? (At.add (p + k)) = some (.int .i64 y)) (ds := []) #[false, false, false, false, false, false, false, false, false, false, false, false, false, false, false, false, false, false] (by kernel_rfl) rfl rfl ⟨kt, kl, ky⟩ (fun hHeld => ?_)
            refine pure_ (i := 0) (N := some 53) (v := ?_) (a' := ?_) #[true, false, false, false, false, false, false, false, false, false, false, false, false, false, false, false, false, false] rfl rfl (by kernel_rfl) (fun _ _ _ h => h) (Or.inl ⟨by rfl, ?_⟩) ?_ ?_
            rotate_left
            · intro w'
              go_simp
              with_reducible rfl
            rotate_left
            · simp only [Act.put, List.setIfInBounds_toArray, List.set_cons_zero, List.set_cons_succ, i64_w, i32_w]
              rfl
            refine pure_ (i := 1) (N := some 54) (v := ?_) (a' := ?_) #[true, true, false, false, false, false, false, false, false, false, false, false, false, false, false, false, false, false] rfl rfl (by kernel_rfl) (fun _ _ _ h => h) (Or.inl ⟨by rfl, ?_⟩) ?_ ?_
            rotate_left
            · intro w'
              go_simp
              with_reducible rfl
            rotate_left
            · simp only [Act.put, List.setIfInBounds_toArray, List.set_cons_zero, List.set_cons_succ, i64_w, i32_w]
              rfl
            refine pure_ (i := 2) (N := some 55) (v := ?_) (a' := ?_) #[true, true, true, false, false, false, false, false, false, false, false, false, false, false, false, false, false, false] rfl rfl (by kernel_rfl) (fun _ _ _ h => h) (Or.inl ⟨by rfl, ?_⟩) ?_ ?_
            rotate_left
            · intro w'
              go_simp
              with_reducible rfl
            rotate_left
            · simp only [Act.put, List.setIfInBounds_toArray, List.set_cons_zero, List.set_cons_succ, i64_w, i32_w]
              rfl
            refine pure_ (i := 3) (N := some 56) (v := ?_) (a' := ?_) #[true, true, true, true, false, false, false, false, false, false, false, false, false, false, false, false, false, false] rfl rfl (by kernel_rfl) (fun _ _ _ h => h) (Or.inl ⟨by rfl, ?_⟩) ?_ ?_
            rotate_left
            · intro w'
              go_simp
              with_reducible rfl
            rotate_left
            · simp only [Act.put, List.setIfInBounds_toArray, List.set_cons_zero, List.set_cons_succ, i64_w, i32_w]
              rfl
            refine pure_ (i := 4) (N := some 57) (v := ?_) (a' := ?_) #[true, true, true, true, true, false, false, false, false, false, false, false, false, false, false, false, false, false] rfl rfl (by kernel_rfl) (fun _ _ _ h => h) (Or.inl ⟨by rfl, ?_⟩) ?_ ?_
            rotate_left
            · intro w'
              go_simp
              with_reducible rfl
            rotate_left
            · simp only [Act.put, List.setIfInBounds_toArray, List.set_cons_zero, List.set_cons_succ, i64_w, i32_w]
              rfl
            refine pure_ (i := 6) (N := some 59) (v := ?_) (a' := ?_) #[true, true, true, true, true, false, true, false, false, false, false, false, false, false, false, false, false, false] rfl rfl (by kernel_rfl) (fun _ _ _ h => h) (Or.inl ⟨by rfl, ?_⟩) ?_ ?_
            rotate_left
            · intro w'
              go_simp
              with_reducible rfl
            rotate_left
            · simp only [Act.put, List.setIfInBounds_toArray, List.set_cons_zero, List.set_cons_succ, i64_w, i32_w]
              rfl
            refine pure_ (i := 7) (N := some 60) (v := ?_) (a' := ?_) #[true, true, true, true, true, false, true, true, false, false, false, false, false, false, false, false, false, false] rfl rfl (by kernel_rfl) (fun _ _ _ h => h) (Or.inl ⟨by rfl, ?_⟩) ?_ ?_
            rotate_left
            · intro w'
              go_simp
              with_reducible rfl
            rotate_left
            · simp only [Act.put, List.setIfInBounds_toArray, List.set_cons_zero, List.set_cons_succ, i64_w, i32_w]
              rfl
            refine pure_ (i := 8) (N := some 61) (v := ?_) (a' := ?_) #[true, true, true, true, true, false, true, true, true, false, false, false, false, false, false, false, false, false] rfl rfl (by kernel_rfl) (fun _ _ _ h => h) (Or.inl ⟨by rfl, ?_⟩) ?_ ?_
            rotate_left
            · intro w'
              go_simp
              with_reducible rfl
            rotate_left
            · simp only [Act.put, List.setIfInBounds_toArray, List.set_cons_zero, List.set_cons_succ, i64_w, i32_w]
              rfl
            refine pure_ (i := 10) (N := some 63) (v := ?_) (a' := ?_) #[true, true, true, true, true, false, true, true, true, false, true, false, false, false, false, false, false, false] rfl rfl (by kernel_rfl) (fun _ _ _ h => h) (Or.inl ⟨by rfl, ?_⟩) ?_ ?_
            rotate_left
            · intro w'
              go_simp
              with_reducible rfl
            rotate_left
            · simp only [Act.put, List.setIfInBounds_toArray, List.set_cons_zero, List.set_cons_succ, i64_w, i32_w]
              rfl
            refine take_ (i := 5) (N := some 58) (v := ?_) (a' := ?_) #[true, true, true, true, true, true, true, true, true, false, true, false, false, false, false, false, false, false] rfl rfl (by kernel_rfl) (fun _ _ _ h => h) (Or.inl ⟨by rfl, ?_⟩) hHeld ?_ ?_
            rotate_left
            · rintro w' ⟨s0, s1, s2⟩
              go_simp
              with_reducible rfl
            rotate_left
            · simp only [Act.put, List.setIfInBounds_toArray, List.set_cons_zero, List.set_cons_succ, i64_w, i32_w]
              rfl
            refine take_ (i := 9) (N := some 62) (v := ?_) (a' := ?_) #[true, true, true, true, true, true, true, true, true, true, true, false, false, false, false, false, false, false] rfl rfl (by kernel_rfl) (fun _ _ _ h => h) (Or.inl ⟨by rfl, ?_⟩) hHeld ?_ ?_
            rotate_left
            · rintro w' ⟨s0, s1, s2⟩
              go_simp
              with_reducible rfl
            rotate_left
            · simp only [Act.put, List.setIfInBounds_toArray, List.set_cons_zero, List.set_cons_succ, i64_w, i32_w]
              rfl
            refine pure_ (i := 11) (N := some 64) (v := ?_) (a' := ?_) #[true, true, true, true, true, true, true, true, true, true, true, true, false, false, false, false, false, false] rfl rfl (by kernel_rfl) (fun _ _ _ h => h) (Or.inl ⟨by rfl, ?_⟩) ?_ ?_
            rotate_left
            · intro w'
              go_simp
              with_reducible rfl
            rotate_left
            · simp only [Act.put, List.setIfInBounds_toArray, List.set_cons_zero, List.set_cons_succ, i64_w, i32_w]
              rfl
            refine pure_ (i := 12) (N := some 65) (v := ?_) (a' := ?_) #[true, true, true, true, true, true, true, true, true, true, true, true, true, false, false, false, false, false] rfl rfl (by kernel_rfl) (fun _ _ _ h => h) (Or.inl ⟨by rfl, ?_⟩) ?_ ?_
            rotate_left
            · intro w'
              go_simp
              with_reducible rfl
            rotate_left
            · simp only [Act.put, List.setIfInBounds_toArray, List.set_cons_zero, List.set_cons_succ, i64_w, i32_w]
              rfl
            refine take_ (i := 13) (N := some 66) (v := ?_) (a' := ?_) #[true, true, true, true, true, true, true, true, true, true, true, true, true, true, false, false, false, false] rfl rfl (by kernel_rfl) (fun _ _ _ h => h) (Or.inl ⟨by rfl, ?_⟩) hHeld ?_ ?_
            rotate_left
            · rintro w' ⟨s0, s1, s2⟩
              go_simp
              with_reducible rfl
            rotate_left
            · simp only [Act.put, List.setIfInBounds_toArray, List.set_cons_zero, List.set_cons_succ, i64_w, i32_w]
              rfl
            refine pure_ (i := 14) (N := some 67) (v := ?_) (a' := ?_) #[true, true, true, true, true, true, true, true, true, true, true, true, true, true, true, false, false, false] rfl rfl (by kernel_rfl) (fun _ _ _ h => h) (Or.inl ⟨by rfl, ?_⟩) ?_ ?_
            rotate_left
            · intro w'
              go_simp
              with_reducible rfl
            rotate_left
            · simp only [Act.put, List.setIfInBounds_toArray, List.set_cons_zero, List.set_cons_succ, i64_w, i32_w]
              rfl
            refine one_ (i := 15) (N := some 68) #[true, true, true, true, true, true, true, true, true, true, true, true, true, true, true, true, false, false] rfl rfl (by kernel_rfl) (by decide) (fun K hK => ?_)
            refine value_ (w1 := ?_) (v := ?_) (by rfl) rfl ?_ ?_
            rotate_left 2
            · go_simp
              constructor
              · rfl
              · rfl
            refine hK.out _ _ ⟨pw_cell_below (below_alloc (Below.refl wq.drew.heap.size wq.drew) _) kt, pw_cell_below (below_alloc (Below.refl wq.drew.heap.size wq.drew) _) kl, pw_cell_below (below_alloc (Below.refl wq.drew.heap.size wq.drew) _) ky⟩ (fun hHeld => ?_)
            clear hK K
            refine norm_ (a' := ?_) ?_ ?_
            rotate_left
            · show Act.put _ (some 68) _ = _
              simp only [Act.put, List.setIfInBounds_toArray, List.set_cons_zero, List.set_cons_succ, i64_w, i32_w]
              rfl
            refine one_ (i := 16) (N := some 69) #[true, true, true, true, true, true, true, true, true, true, true, true, true, true, true, true, true, false] rfl rfl (by kernel_rfl) (by decide) (fun K hK => ?_)
            refine Kd.R_append_step (P := Try.prog) (Kc := K) k35 (w0 := w) (W := wq.drew) w.heap.size ?c1 (.tmp 53) (.tmp 68) 32 35 (.agg #[.int .i64 0, .int .i64 0]) 16 rfl Try.underlying32 info35 rfl (by decide) (by omega) (.slice Ao n1 co) (chainN t p out k) ⟨-1, y⟩ [.int .i64 (-1), .int .i64 y] (fun _ => True) (fun _ => False) rfl rfl (k35_mkM _ _ _ _) (fun _ h => h.elim) (fun _ _ => trivial) HRD.out HBD.out HBD.out.size HLE.out ?_
            case c1 => rfl
            intro v1 w1 ho hb hg hat
            obtain ⟨A1, c1, rfl, kt1, kl1, ky1, hst⟩ := STEP.out v1 w1 ho hg hat
            have HST := Lib.hid hst
            clear ho hb hg hat hst
            refine hK.out _ _ ⟨kt1, kl1, ky1⟩ (fun hHeld => ?_)
            clear hK K
            refine norm_ (a' := ?_) ?_ ?_
            rotate_left
            · show Act.put _ (some 69) _ = _
              simp only [Act.put, List.setIfInBounds_toArray, List.set_cons_zero, List.set_cons_succ, i64_w, i32_w]
              rfl
            refine pure_ (i := 17) (N := some 7) (v := ?_) (a' := ?_) #[true, true, true, true, true, true, true, true, true, true, true, true, true, true, true, true, true, true] rfl rfl (by kernel_rfl) (fun _ _ _ h => h) (Or.inl ⟨by rfl, ?_⟩) ?_ ?_
            rotate_left
            · intro w'
              go_simp
              with_reducible rfl
            rotate_left
            · simp only [Act.put, List.setIfInBounds_toArray, List.set_cons_zero, List.set_cons_succ, i64_w, i32_w]
              rfl
            refine done_ (by kernel_rfl) ?_
            have HST2 := Lib.hid HST.out
            clear kt1 kl1 ky1 kt kl ky hHeld STEP HST hws
            go_wp2_with fail
            exact ⟨⟨k + 1, rfl, HK2.out, HST2.out.1, HST2.out.2.1, HST2.out.2.2⟩, by have := HK2.out; simp [intOf] <;> omega⟩
          ·
            have d7 : ((k : Int) == 0) = false := beq_eq_false_iff_ne.2 (by omega)
            have d7' : (k == 0) = false := beq_eq_false_iff_ne.2 hk0
            have HPAR : Hid (((n1 : Int) - 1 : Int) = (if k = 0 then -1 else (N0 : Int) + k - 1)) := Lib.hid (by rw [if_neg hk0]; have := HN1.out; omega)
            clear hk0
            go_wp2_with fail
            go_quiet (fail)
            have hdq : Below wb.heap.size wb (wb.drewN nq) := Drawn0.below ⟨⟨_, rfl⟩⟩
            obtain ⟨wq, hwq⟩ : ∃ wq, wb.drewN nq = wq := ⟨_, rfl⟩
            rw [hwq] at hdq ⊢
            have HRD := Lib.hid (Kd.R_drew (Kd.R_below HRO2.out hdq))
            have HBD : Hid (Below w.heap.size w wq.drew) := Lib.hid (below_drew (HB2.out.trans (hdq.mono HB2.out.size)))
            have kt := pw_cell_below hdq kt
            have kl := pw_cell_below hdq kl
            have ky := pw_cell_below hdq ky
            have STEP := Lib.hid (rq_step HN0.out HN1.out HY.out HPAR.out HL1.out HPI.out HRD.out (Kd.R_drew (Kd.R_below HRL2.out hdq)) HBD.out HBB.out KY0.out)
            clear hdq hwq
            go_upto_region 14 with (fail)
            refine start_ (n := 18) (S := fun w' => w'.cell? ⟨B, 1, none⟩ = some (.slice (some At) L ct) ∧ w'.cell? (al.add i) = some (.int .i64 p) ∧ w'.cell? (At.add (p + k)) = some (.int .i64 y)) (ds := []) #[false, false, false, false, false, false, false, false, false, false, false, false, false, false, false, false, false, false] (by kernel_rfl) rfl rfl ⟨kt, kl, ky⟩ (fun hHeld => ?_)
            refine pure_ (i := 0) (N := some 53) (v := ?_) (a' := ?_) #[true, false, false, false, false, false, false, false, false, false, false, false, false, false, false, false, false, false] rfl rfl (by kernel_rfl) (fun _ _ _ h => h) (Or.inl ⟨by rfl, ?_⟩) ?_ ?_
            rotate_left
            · intro w'
              go_simp
              with_reducible rfl
            rotate_left
            · simp only [Act.put, List.setIfInBounds_toArray, List.set_cons_zero, List.set_cons_succ, i64_w, i32_w]
              rfl
            refine pure_ (i := 1) (N := some 54) (v := ?_) (a' := ?_) #[true, true, false, false, false, false, false, false, false, false, false, false, false, false, false, false, false, false] rfl rfl (by kernel_rfl) (fun _ _ _ h => h) (Or.inl ⟨by rfl, ?_⟩) ?_ ?_
            rotate_left
            · intro w'
              go_simp
              with_reducible rfl
            rotate_left
            · simp only [Act.put, List.setIfInBounds_toArray, List.set_cons_zero, List.set_cons_succ, i64_w, i32_w]
              rfl
            refine pure_ (i := 2) (N := some 55) (v := ?_) (a' := ?_) #[true, true, true, false, false, false, false, false, false, false, false, false, false, false, false, false, false, false] rfl rfl (by kernel_rfl) (fun _ _ _ h => h) (Or.inl ⟨by rfl, ?_⟩) ?_ ?_
            rotate_left
            · intro w'
              go_simp
              with_reducible rfl
            rotate_left
            · simp only [Act.put, List.setIfInBounds_toArray, List.set_cons_zero, List.set_cons_succ, i64_w, i32_w]
              rfl
            refine pure_ (i := 3) (N := some 56) (v := ?_) (a' := ?_) #[true, true, true, true, false, false, false, false, false, false, false, false, false, false, false, false, false, false] rfl rfl (by kernel_rfl) (fun _ _ _ h => h) (Or.inl ⟨by rfl, ?_⟩) ?_ ?_
            rotate_left
            · intro w'
              go_simp
              with_reducible rfl
            rotate_left
            · simp only [Act.put, List.setIfInBounds_toArray, List.set_cons_zero, List.set_cons_succ, i64_w, i32_w]
              rfl
            refine pure_ (i := 4) (N := some 57) (v := ?_) (a' := ?_) #[true, true, true, true, true, false, false, false, false, false, false, false, false, false, false, false, false, false] rfl rfl (by kernel_rfl) (fun _ _ _ h => h) (Or.inl ⟨by rfl, ?_⟩) ?_ ?_
            rotate_left
            · intro w'
              go_simp
              with_reducible rfl
            rotate_left
            · simp only [Act.put, List.setIfInBounds_toArray, List.set_cons_zero, List.set_cons_succ, i64_w, i32_w]
              rfl
            refine pure_ (i := 6) (N := some 59) (v := ?_) (a' := ?_) #[true, true, true, true, true, false, true, false, false, false, false, false, false, false, false, false, false, false] rfl rfl (by kernel_rfl) (fun _ _ _ h => h) (Or.inl ⟨by rfl, ?_⟩) ?_ ?_
            rotate_left
            · intro w'
              go_simp
              with_reducible rfl
            rotate_left
            · simp only [Act.put, List.setIfInBounds_toArray, List.set_cons_zero, List.set_cons_succ, i64_w, i32_w]
              rfl
            refine pure_ (i := 7) (N := some 60) (v := ?_) (a' := ?_) #[true, true, true, true, true, false, true, true, false, false, false, false, false, false, false, false, false, false] rfl rfl (by kernel_rfl) (fun _ _ _ h => h) (Or.inl ⟨by rfl, ?_⟩) ?_ ?_
            rotate_left
            · intro w'
              go_simp
              with_reducible rfl
            rotate_left
            · simp only [Act.put, List.setIfInBounds_toArray, List.set_cons_zero, List.set_cons_succ, i64_w, i32_w]
              rfl
            refine pure_ (i := 8) (N := some 61) (v := ?_) (a' := ?_) #[true, true, true, true, true, false, true, true, true, false, false, false, false, false, false, false, false, false] rfl rfl (by kernel_rfl) (fun _ _ _ h => h) (Or.inl ⟨by rfl, ?_⟩) ?_ ?_
            rotate_left
            · intro w'
              go_simp
              with_reducible rfl
            rotate_left
            · simp only [Act.put, List.setIfInBounds_toArray, List.set_cons_zero, List.set_cons_succ, i64_w, i32_w]
              rfl
            refine pure_ (i := 10) (N := some 63) (v := ?_) (a' := ?_) #[true, true, true, true, true, false, true, true, true, false, true, false, false, false, false, false, false, false] rfl rfl (by kernel_rfl) (fun _ _ _ h => h) (Or.inl ⟨by rfl, ?_⟩) ?_ ?_
            rotate_left
            · intro w'
              go_simp
              with_reducible rfl
            rotate_left
            · simp only [Act.put, List.setIfInBounds_toArray, List.set_cons_zero, List.set_cons_succ, i64_w, i32_w]
              rfl
            refine take_ (i := 5) (N := some 58) (v := ?_) (a' := ?_) #[true, true, true, true, true, true, true, true, true, false, true, false, false, false, false, false, false, false] rfl rfl (by kernel_rfl) (fun _ _ _ h => h) (Or.inl ⟨by rfl, ?_⟩) hHeld ?_ ?_
            rotate_left
            · rintro w' ⟨s0, s1, s2⟩
              go_simp
              with_reducible rfl
            rotate_left
            · simp only [Act.put, List.setIfInBounds_toArray, List.set_cons_zero, List.set_cons_succ, i64_w, i32_w]
              rfl
            refine take_ (i := 9) (N := some 62) (v := ?_) (a' := ?_) #[true, true, true, true, true, true, true, true, true, true, true, false, false, false, false, false, false, false] rfl rfl (by kernel_rfl) (fun _ _ _ h => h) (Or.inl ⟨by rfl, ?_⟩) hHeld ?_ ?_
            rotate_left
            · rintro w' ⟨s0, s1, s2⟩
              go_simp
              with_reducible rfl
            rotate_left
            · simp only [Act.put, List.setIfInBounds_toArray, List.set_cons_zero, List.set_cons_succ, i64_w, i32_w]
              rfl
            refine pure_ (i := 11) (N := some 64) (v := ?_) (a' := ?_) #[true, true, true, true, true, true, true, true, true, true, true, true, false, false, false, false, false, false] rfl rfl (by kernel_rfl) (fun _ _ _ h => h) (Or.inl ⟨by rfl, ?_⟩) ?_ ?_
            rotate_left
            · intro w'
              go_simp
              with_reducible rfl
            rotate_left
            · simp only [Act.put, List.setIfInBounds_toArray, List.set_cons_zero, List.set_cons_succ, i64_w, i32_w]
              rfl
            refine pure_ (i := 12) (N := some 65) (v := ?_) (a' := ?_) #[true, true, true, true, true, true, true, true, true, true, true, true, true, false, false, false, false, false] rfl rfl (by kernel_rfl) (fun _ _ _ h => h) (Or.inl ⟨by rfl, ?_⟩) ?_ ?_
            rotate_left
            · intro w'
              go_simp
              with_reducible rfl
            rotate_left
            · simp only [Act.put, List.setIfInBounds_toArray, List.set_cons_zero, List.set_cons_succ, i64_w, i32_w]
              rfl
            refine take_ (i := 13) (N := some 66) (v := ?_) (a' := ?_) #[true, true, true, true, true, true, true, true, true, true, true, true, true, true, false, false, false, false] rfl rfl (by kernel_rfl) (fun _ _ _ h => h) (Or.inl ⟨by rfl, ?_⟩) hHeld ?_ ?_
            rotate_left
            · rintro w' ⟨s0, s1, s2⟩
              go_simp
              with_reducible rfl
            rotate_left
            · simp only [Act.put, List.setIfInBounds_toArray, List.set_cons_zero, List.set_cons_succ, i64_w, i32_w]
              rfl
            refine pure_ (i := 14) (N := some 67) (v := ?_) (a' := ?_) #[true, true, true, true, true, true, true, true, true, true, true, true, true, true, true, false, false, false] rfl rfl (by kernel_rfl) (fun _ _ _ h => h) (Or.inl ⟨by rfl, ?_⟩) ?_ ?_
            rotate_left
            · intro w'
              go_simp
              with_reducible rfl
            rotate_left
            · simp only [Act.put, List.setIfInBounds_toArray, List.set_cons_zero, List.set_cons_succ, i64_w, i32_w]
              rfl
            refine one_ (i := 15) (N := some 68) #[true, true, true, true, true, true, true, true, true, true, true, true, true, true, true, true, false, false] rfl rfl (by kernel_rfl) (by decide) (fun K hK => ?_)
            refine value_ (w1 := ?_) (v := ?_) (by rfl) rfl ?_ ?_
            rotate_left 2
            · go_simp
              constructor
              · rfl
              · rfl
            refine hK.out _ _ ⟨pw_cell_below (below_alloc (Below.refl wq.drew.heap.size wq.drew) _) kt, pw_cell_below (below_alloc (Below.refl wq.drew.heap.size wq.drew) _) kl, pw_cell_below (below_alloc (Below.refl wq.drew.heap.size wq.drew) _) ky⟩ (fun hHeld => ?_)
            clear hK K
            refine norm_ (a' := ?_) ?_ ?_
            rotate_left
            · show Act.put _ (some 68) _ = _
              simp only [Act.put, List.setIfInBounds_toArray, List.set_cons_zero, List.set_cons_succ, i64_w, i32_w]
              rfl
            refine one_ (i := 16) (N := some 69) #[true, true, true, true, true, true, true, true, true, true, true, true, true, true, true, true, true, false] rfl rfl (by kernel_rfl) (by decide) (fun K hK => ?_)
            refine Kd.R_append_step (P := Try.prog) (Kc := K) k35 (w0 := w) (W := wq.drew) w.heap.size ?c1 (.tmp 53) (.tmp 68) 32 35 (.agg #[.int .i64 0, .int .i64 0]) 16 rfl Try.underlying32 info35 rfl (by decide) (by omega) (.slice Ao n1 co) (chainN t p out k) ⟨(n1 : Int) - 1, y⟩ [.int .i64 ((n1 : Int) - 1), .int .i64 y] (fun _ => True) (fun _ => False) rfl rfl (k35_mkM _ _ _ _) (fun _ h => h.elim) (fun _ _ => trivial) HRD.out HBD.out HBD.out.size HLE.out ?_
            case c1 => rfl
            intro v1 w1 ho hb hg hat
            obtain ⟨A1, c1, rfl, kt1, kl1, ky1, hst⟩ := STEP.out v1 w1 ho hg hat
            have HST := Lib.hid hst
            clear ho hb hg hat hst
            refine hK.out _ _ ⟨kt1, kl1, ky1⟩ (fun hHeld => ?_)
            clear hK K
            refine norm_ (a' := ?_) ?_ ?_
            rotate_left
            · show Act.put _ (some 69) _ = _
              simp only [Act.put, List.setIfInBounds_toArray, List.set_cons_zero, List.set_cons_succ, i64_w, i32_w]
              rfl
            refine pure_ (i := 17) (N := some 7) (v := ?_) (a' := ?_) #[true, true, true, true, true, true, true, true, true, true, true, true, true, true, true, true, true, true] rfl rfl (by kernel_rfl) (fun _ _ _ h => h) (Or.inl ⟨by rfl, ?_⟩) ?_ ?_
            rotate_left
            · intro w'
              go_simp
              with_reducible rfl
            rotate_left
            · simp only [Act.put, List.setIfInBounds_toArray, List.set_cons_zero, List.set_cons_succ, i64_w, i32_w]
              rfl
            refine done_ (by kernel_rfl) ?_
            have HST2 := Lib.hid HST.out
            clear kt1 kl1 ky1 kt kl ky hHeld STEP HST hws
            go_wp2_with fail
            exact ⟨⟨k + 1, rfl, HK2.out, HST2.out.1, HST2.out.2.1, HST2.out.2.2⟩, by have := HK2.out; simp [intOf] <;> omega⟩
        · obtain rfl : k = m := by omega
          have HNL : Hid (¬ ((k : Int) < deep ∧ p + k < L ∧ N0 + k < 96)) := Lib.hid (fun h => by
            have := lt_deep.2 (show (k : Int) < deep ∧ p + k < t.length ∧ N0 + k < 96 by rw [HL.out]; exact h)
            rw [HM.out] at this
            exact hk2 this)
          clear hk2 hk
          by_cases c1 : (k : Int) < deep
          · have d3 : decide ((k : Int) < deep) = true := decide_eq_true c1
            by_cases c2 : p + k < L
            · have d4 : decide ((p : Int) + (k : Int) < (L : Int)) = true := decide_eq_true (by omega)
              have h96 : n1 = 96 := by have h1 := HNL.out; have h2 := HN1.out; have h3 := HM.out; unfold deepN at h3; omega
              have d5 : ((n1 : Int) == 96) = true := beq_iff_eq.2 (by omega)
              have d5' : (n1 == 96) = true := beq_iff_eq.2 h96
              have HFULL : Hid (proposeL t deep (pl.take ways.toNat) = chainN t p out k) := Lib.hid (by
                have h1 : pl.take ways.toNat = pl.take (i + 1) ++ (pl.drop (i + 1)).take (ways.toNat - (i + 1)) := by
                  rw [← List.take_add, show i + 1 + (ways.toNat - (i + 1)) = ways.toNat by have := HL2.out; omega]
                rw [h1, proposeL_full (by rw [HEND0.out, chainN_length, HN0.out, HN1.out]; exact h96), HEND0.out])
              clear c1 c2 h96
              go_wp2_with fail
              go_quiet (fail)
              have hdq : Below wb.heap.size wb (wb.drewN nq) := Drawn0.below ⟨⟨_, rfl⟩⟩
              obtain ⟨wq, hwq⟩ : ∃ wq, wb.drewN nq = wq := ⟨_, rfl⟩
              rw [hwq] at hdq ⊢
              have HRD := Lib.hid (Kd.R_below HRO2.out hdq)
              have HBD : Hid (Below w.heap.size w wq) := Lib.hid (HB2.out.trans (hdq.mono HB2.out.size))
              clear hdq hwq kt kl
              go_wp2_with fail
              go_ret
              exact ⟨_, rfl, by rw [HFULL.out]; exact HRD.out, HBD.out⟩
            · have d4 : decide ((p : Int) + (k : Int) < (L : Int)) = false := decide_eq_false (by omega)
              clear c1 c2
              go_wp2_with fail
              go_quiet (fail)
              have hdq : Below wb.heap.size wb (wb.drewN nq) := Drawn0.below ⟨⟨_, rfl⟩⟩
              obtain ⟨wq, hwq⟩ : ∃ wq, wb.drewN nq = wq := ⟨_, rfl⟩
              rw [hwq] at hdq ⊢
              have HRD := Lib.hid (Kd.R_below HRO2.out hdq)
              have HRD2 := Lib.hid (Kd.R_below HRL2.out hdq)
              have HBD : Hid (Below w.heap.size w wq) := Lib.hid (HB2.out.trans (hdq.mono HB2.out.size))
              clear hdq hwq kt kl
              go_wp2_with fail
              exact ⟨⟨i + 1, rfl, HL1.out, by have := HL2.out; omega, by rw [HEND0.out]; exact HRD.out, HBD.out, HRD2.out⟩, by have := HL1.out; simp [intOf] <;> omega⟩
          · have d3 : decide ((k : Int) < deep) = false := decide_eq_false c1
            clear c1
            go_wp2_with fail
            go_quiet (fail)
            have hdq : Below wb.heap.size wb (wb.drewN nq) := Drawn0.below ⟨⟨_, rfl⟩⟩
            obtain ⟨wq, hwq⟩ : ∃ wq, wb.drewN nq = wq := ⟨_, rfl⟩
            rw [hwq] at hdq ⊢
            have HRD := Lib.hid (Kd.R_below HRO2.out hdq)
            have HRD2 := Lib.hid (Kd.R_below HRL2.out hdq)
            have HBD : Hid (Below w.heap.size w wq) := Lib.hid (HB2.out.trans (hdq.mono HB2.out.size))
            clear hdq hwq kt kl
            go_wp2_with fail
            exact ⟨⟨i + 1, rfl, HL1.out, by have := HL2.out; omega, by rw [HEND0.out]; exact HRD.out, HBD.out, HRD2.out⟩, by have := HL1.out; simp [intOf] <;> omega⟩
    · have HE : Hid (proposeL t deep (pl.take ways.toNat) = out) := Lib.hid (by
        rw [← HOUT.out]
        congr 1
        have h1 := HI1.out
        have h2 := HI2.out
        by_cases c : i < pl.length
        · rw [show i = ways.toNat by omega]
        · rw [List.take_of_length_le (by omega), List.take_of_length_le (by omega)])
      have HRF := HRO.out
      rw [HOUT.out, HN0.out] at HRF
      have HRF2 := Lib.hid HRF
      clear HRF
      by_cases l1 : i < pl.length
      · have d1 : decide ((i : Int) < (pl.length : Int)) = true := decide_eq_true (by omega)
        have d1' : decide (i < pl.length) = true := decide_eq_true l1
        have d2 : decide ((i : Int) < ways) = false := decide_eq_false (by omega)
        clear hlt l1
        go_wp2_with fail
        go_ret
        exact ⟨_, rfl, by rw [HE.out]; exact HRF2.out, HB.out⟩
      · have d1 : decide ((i : Int) < (pl.length : Int)) = false := decide_eq_false (by omega)
        have d1' : decide (i < pl.length) = false := decide_eq_false l1
        clear hlt l1
        go_wp2_with fail
        go_ret
        exact ⟨_, rfl, by rw [HE.out]; exact HRF2.out, HB.out⟩
end Go.Proofs.Ytjeofkobefeigaa.Wk
