/- The walk of augurlaw03.TensorSoftmax. -/
import Derived.Test.YtnioohhiphpplaaDoorSw
set_option linter.unusedVariables false
set_option linter.unusedSimpArgs false
namespace Go.Proofs.YtnioohhiphpplaaDoor.Wk
open Go.RowKit Go.Proofs.YtnioohhiphpplaaDoorW.PrintWords Go.Proofs.YtnioohhiphpplaaDoorW.PrintLast Go.Proofs.YtnioohhiphpplaaDoorW.PrintMore Go.Proofs.YtnioohhiphpplaaDoor.M Go.Proofs.YtnioohhiphpplaaDoor.Br

/-- Two own rows in different blocks. -/
def Apart (u v : Value) : Prop := ∀ k, u.ownBlock = some k → some k ≠ v.ownBlock
theorem Apart.symm {u v : Value} (h : Apart u v) : Apart v u := fun k hk e => h k e.symm hk.symm
theorem Apart.nil (v : Value) : Apart (.slice none 0 0) v := fun k hk => by simp [Value.ownBlock] at hk
theorem Apart.after {u v v1 : Value} {W : World} (h : Apart v u) (hlt : ∀ k, u.ownBlock = some k → k < W.heap.size) (hat : v1.ownBlock = v.ownBlock ∨ ∃ b, v1.ownBlock = some b ∧ W.heap.size ≤ b) : Apart v1 u := by
  intro k hk e
  rcases hat with hat | ⟨b, hb, hle⟩
  · exact h k (hat ▸ hk) e
  · rw [hb] at hk
    injection hk with hk
    subst hk
    have := hlt b e.symm
    omega
/-- One list grows: another stays as it was, and apart. -/
theorem upd {u v v1 : Value} {W w1 : World} {base : Nat} {xs : List Int} (hR : Kd.R (Kd.int .i64) 2 W base (fun _ => True) u xs) (ha : Apart v u) (hg : W.grownBy w1 v.ownBlock) (hat : v1.ownBlock = v.ownBlock ∨ ∃ b, v1.ownBlock = some b ∧ W.heap.size ≤ b) :
    Kd.R (Kd.int .i64) 2 w1 base (fun _ => True) u xs ∧ Apart v1 u := ⟨Kd.R_grown2 hR rfl hg ha, ha.after (Kd.R_lt hR) hat⟩
theorem one_reads (w : World) (x : Int) : Kd.C (Kd.int .i64) (w.alloc (.cells #[.int .i64 x] 2 (0, 0))) (some ⟨w.heap.size, 0, none⟩) 1 [x] := by
  refine Kd.C_of_reads (d := (0 : Int)) (h1 := fun _ => rfl) ⟨rfl, by decide, fun _ => ⟨_, rfl, fun j hj => ?_⟩⟩
  have hj : j < 1 := hj
  obtain rfl : j = 0 := by omega
  exact (blk_cell (blk_new w _) 0).trans rfl
/-- Two lists of whole numbers that are one list. -/
theorem eq_calls {A0 A1 : Option Addr} {n m c0 c1 : Nat} {a b : List Int} (w : World) (h0 : a.length = n) (h1 : b.length = m) (hr0 : Kd.C (Kd.int .i64) w A0 a.length a) (hc0 : n ≤ c0) (hr1 : Kd.C (Kd.int .i64) w A1 b.length b) (hc1 : m ≤ c1)
    (hab : a = b) (hl : n ≤ 140737488351232) : Calls Tryd.prog 8 #[.slice A0 n c0, .slice A1 m c1] w fun e w' => e = .returned (.bool true) ∧ ∃ d, w' = w.drewN d := by
  subst hab h0 h1
  refine (PEqWide.augurref00_EqWide.calls (a.length + 1) A0 c0 a A1 c1 a true w hr0 hc0 hr1 hc1 (eqwide_is a hl)).mono ?_
  rintro e w' ⟨rfl, h⟩
  exact ⟨rfl, h.out⟩
/-- A permutation of as many places. -/
theorem order_calls {A0 : Option Addr} {c0 n : Nat} {l : List Int} (w : World) (hr0 : Kd.C (Kd.int .i64) w A0 l.length l) (hc0 : l.length ≤ c0) (hn : n ≤ 17592186044416) :
    ∃ P : List Int, P.Perm (iota n) ∧ Calls Tryd.prog 7 #[.int .i64 n, .slice A0 l.length c0] w fun e w' => ∃ v0 : Value, e = .returned v0 ∧ Kd.R (Kd.int .i64) 3 w' w.heap.size (fun _ => True) v0 P ∧ Below w.heap.size w w' := by
  rcases Nat.eq_zero_or_pos n with h | h
  · subst h
    exact ⟨[], List.Perm.refl _, Porder.augurlaw03_order.calls 3 0 A0 c0 l [] w hr0 hc0 rfl⟩
  · obtain ⟨P, hP, hp⟩ := order_is l h hn
    exact ⟨P, hp, Porder.augurlaw03_order.calls _ (n : Int) A0 c0 l P w hr0 hc0 hP⟩
theorem sum_in (s : List Int) (n : Nat) (hn : n ≤ 17592186044416) : 0 ≤ sumN (wt s) n ∧ sumN (wt s) n ≤ 1152921504606846976 := by
  have := sumN_in (f := wt s) (B := 65536) (wt_in s) n
  omega

theorem softmax_n {A0 : Option Addr} {c0 n : Nat} {s : List Int} (w : World) (ht : Terms w) (hl : s.length = n) (hr0 : Kd.C (Kd.int .i64) w A0 s.length s) (hc0 : n ≤ c0) (hn : n ≤ 17592186044416) :
    Calls Tryd.prog 6 #[.slice A0 n c0] w fun e w' =>
      ∃ A c, e = .returned (.tuple #[.slice A n c, .int .i64 (sumN (wt s) n)]) ∧ Kd.C (Kd.int .i64) w' A n (tb (wt s) n) ∧ n ≤ c ∧ Below w.heap.size w w' := by
  subst hl
  refine (softmax_calls w ht hr0 hc0 hn).mono ?_
  rintro e w' ⟨v0, rfl, hR, hb⟩
  obtain ⟨A, c, ev, hc, hC⟩ := Kd.R_reads hR
  rw [tb_length] at ev hc hC
  subst ev
  exact ⟨A, c, rfl, hC, hc, hb⟩

/-- Behind i scores. -/
def O1Rel (w : World) (s : List Int) (b x : Value) (wr : World) : Prop := ∃ i : Nat, x = .int .i64 i ∧ b = .int .i64 (sumN (wt s) i) ∧ i ≤ s.length ∧ Below w.heap.size w wr
/-- Behind k of the scores beside score i. -/
def O2Rel (w : World) (s : List Int) (i : Nat) (b x : Value) (wr : World) : Prop := ∃ (k : Nat) (t : Bool), x = .int .i64 k ∧ b = .bool t ∧ k ≤ s.length ∧ (t = true → ∀ j, j < k → nth s j ≤ nth s i) ∧ Below w.heap.size w wr
/-- Behind i places: the four lists. -/
def O3Rel (w : World) (s P : List Int) (d : Int) (x17 x18 x19 x20 x : Value) (wr : World) : Prop :=
  ∃ i : Nat, x = .int .i64 i ∧ i ≤ s.length ∧ Kd.R (Kd.int .i64) 2 wr w.heap.size (fun _ => True) x17 (tb (movedF s P) i) ∧ Kd.R (Kd.int .i64) 2 wr w.heap.size (fun _ => True) x18 (tb (movedF (tb (wt s) s.length) P) i) ∧
    Kd.R (Kd.int .i64) 2 wr w.heap.size (fun _ => True) x19 (tb (upF s d) i) ∧ Kd.R (Kd.int .i64) 2 wr w.heap.size (fun _ => True) x20 (tb (lowF s) i) ∧
    Apart x17 x18 ∧ Apart x17 x19 ∧ Apart x17 x20 ∧ Apart x18 x19 ∧ Apart x18 x20 ∧ Apart x19 x20 ∧ Below w.heap.size w wr

set_option maxHeartbeats 2000000 in
set_option maxRecDepth 100000 in
theorem law_calls {A0 A1 : Option Addr} {c0 c1 : Nat} {s by_ : List Int} {more : Int} (w : World) (ht : Terms w) (hr0 : Kd.C (Kd.int .i64) w A0 s.length s) (hc0 : s.length ≤ c0) (hr1 : Kd.C (Kd.int .i64) w A1 by_.length by_) (hc1 : by_.length ≤ c1) (hn : s.length ≤ 17592186044416) :
    Calls Tryd.prog 3 #[.slice A0 s.length c0, .slice A1 by_.length c1, .int .i64 more] w fun e w' => e = .returned (.bool true) ∧ Below w.heap.size w w' := by
  have R0 := Lib.hid hr0
  have R1 := Lib.hid hr1
  have HT := Lib.hid ht
  clear hr0 hr1 ht
  go_enter Tryd.func3, Tryd.ntmps3
  go_wp2_with fail
  refine (softmax_calls w HT.out R0.out hc0 hn).mono ?_
  rintro e w1 ⟨v0, rfl, hR, hb⟩
  obtain ⟨AL, cL, ev, hcL, hC⟩ := Kd.R_reads hR
  rw [tb_length] at ev hcL
  subst ev
  have RL := Lib.hid hC
  have HB := Lib.hid hb
  clear hR hb hC
  go_wp2_with fail
  refine (softmax_calls (s := [5]) _ ((HT.out.below HB.out).below (below_alloc (Below.refl _ _) _)) (one_reads w1 5) (by decide) (by decide)).mono ?_
  rintro e w2 ⟨v0, rfl, hR, hb⟩
  obtain ⟨AO, cO, ev, hcO, hC⟩ := Kd.R_reads hR
  have hone : tb (wt [5]) [(5 : Int)].length = [65536] := by
    show [wt [5] 0] = _
    rw [wt_best (s := [5]) (i := 0) (by decide) (fun k hk => by
      have hk : k < 1 := hk
      obtain rfl : k = 0 := by omega
      exact Int.le_refl _)]
  have hsone : sumN (wt [5]) [(5 : Int)].length = 65536 := by
    show 0 + wt [5] 0 = _
    rw [wt_best (s := [5]) (i := 0) (by decide) (fun k hk => by
      have hk : k < 1 := hk
      obtain rfl : k = 0 := by omega
      exact Int.le_refl _)]
    rfl
  rw [hsone]
  rw [hone] at ev hC
  subst ev
  obtain ⟨ao, eo, co⟩ := Kd.at_int hC 0 (by decide) (by decide)
  subst eo
  have HB2 : Hid (Below w.heap.size w w2) := Lib.hid (below_step (below_alloc HB.out _) hb)
  have RL2 : Hid (Kd.C (Kd.int .i64) w2 AL (tb (wt s) s.length).length (tb (wt s) s.length)) := Lib.hid (Kd.C_below (Kd.C_alloc RL.out _) hb)
  clear hR hb hC HB RL hone hsone
  obtain ⟨n, hnn⟩ : ∃ n, s.length = n := ⟨_, rfl⟩
  rw [hnn] at hcL hn hc0 ⊢
  have HN := Lib.hid hnn
  obtain ⟨S, hS⟩ : ∃ S, sumN (wt s) n = S := ⟨_, rfl⟩
  rw [hS]
  have HS := Lib.hid hS
  clear hnn hS
  have hnn : ((n : Int) != (n : Int)) = false := bne_eq_false_iff_eq.2 rfl
  have co' : w2.cell? ao = some (.int .i64 65536) := co
  clear co hcO
  go_wp2
  clear co' hnn
  have RLn : Hid (∀ W, Below w2.heap.size w2 W → ∀ j, j < n → ∃ ad, AL = some ad ∧ W.cell? (ad.add j) = some (.int .i64 (wt s j))) := Lib.hid (fun W hW j hj => by
    obtain ⟨ad, e, h⟩ := Kd.at_int (Kd.C_below RL2.out hW) (j : Int) (by omega) (by rw [tb_length, HN.out]; omega)
    rw [rd_nth, Int.toNat_natCast, tb_nth (by rw [HN.out]; exact hj)] at h
    exact ⟨ad, e, h⟩)
  have R0n : Hid (∀ W, Below w2.heap.size w2 W → ∀ j, j < n → ∃ ad, A0 = some ad ∧ W.cell? (ad.add j) = some (.int .i64 (nth s j))) := Lib.hid (fun W hW j hj => by
    obtain ⟨ad, e, h⟩ := Kd.at_int (Kd.C_below (Kd.C_below R0.out HB2.out) hW) (j : Int) (by omega) (by rw [HN.out]; omega)
    rw [rd_nth, Int.toNat_natCast] at h
    exact ⟨ad, e, h⟩)
  go_loopw [12, 13] (fun b x wr => O1Rel w2 s b x wr) (fun _ x _ => n - (intOf x).toNat)
  case atStart => exact ⟨0, rfl, rfl, by omega, Below.refl _ _⟩
  case round =>
    obtain ⟨i, rfl, rfl, hi, hB⟩ := hrel
    have HB := Lib.hid hB
    clear hB
    rw [HN.out] at hi
    rename World => wa
    by_cases hlt : i < n
    · have hlt' : decide ((i : Int) < (n : Int)) = true := decide_eq_true (by omega)
      obtain ⟨adL, eL, cLi⟩ := RLn.out wa HB.out i hlt
      obtain ⟨ad0, e0, c0i⟩ := R0n.out wa HB.out i hlt
      subst eL e0
      obtain ⟨su, hsu⟩ : ∃ x, sumN (wt s) i = x := ⟨_, rfl⟩
      obtain ⟨yi, hyi⟩ : ∃ x, wt s i = x := ⟨_, rfl⟩
      obtain ⟨xi, hxi⟩ : ∃ x, nth s i = x := ⟨_, rfl⟩
      have b1 := sum_in s i (by omega)
      have b2 := wt_in s i
      have hs2 : Hid (sumN (wt s) (i + 1) = su + yi) := Lib.hid (by rw [← hsu, ← hyi]; rfl)
      rw [hsu] at b1 ⊢
      rw [hyi] at b2 cLi
      rw [hxi] at c0i
      have hw : wrap64 (su + yi) = su + yi := w64' (by omega) (by omega)
      have HWR := Lib.hid hw
      have HYI := Lib.hid hyi
      have HXI := Lib.hid hxi
      have B1 := Lib.hid b1
      have B2 := Lib.hid b2
      clear b1 b2 hsu hyi hxi hi hlt'
      have hlt' : decide ((i : Int) < (n : Int)) = true := decide_eq_true (by omega)
      go_wp2
      clear hw
      go_loopw [14, 15] (fun b x wr => O2Rel w2 s i b x wr) (fun _ x _ => n - (intOf x).toNat)
      case atStart => exact ⟨0, true, rfl, rfl, by omega, fun _ j hj => by omega, HB.out⟩
      case round =>
        clear cLi c0i HB
        obtain ⟨k, t, rfl, rfl, hk, hT, hB⟩ := hrel
        have HB := Lib.hid hB
        have HTT := Lib.hid hT
        clear hB hT
        rw [HN.out] at hk
        rename World => wb
        by_cases hltk : k < n
        · have hltk' : decide ((k : Int) < (n : Int)) = true := decide_eq_true (by omega)
          obtain ⟨_, eL, cLi⟩ := RLn.out wb HB.out i hlt
          injection eL with eL
          subst eL
          obtain ⟨_, e0, c0i⟩ := R0n.out wb HB.out i hlt
          injection e0 with e0
          subst e0
          obtain ⟨_, eL, cLk⟩ := RLn.out wb HB.out k hltk
          injection eL with eL
          subst eL
          obtain ⟨_, e0, c0k⟩ := R0n.out wb HB.out k hltk
          injection e0 with e0
          subst e0
          have hmono : nth s k ≤ nth s i → wt s k ≤ wt s i := wt_mono
          obtain ⟨yk, hyk⟩ : ∃ x, wt s k = x := ⟨_, rfl⟩
          obtain ⟨xk, hxk⟩ : ∃ x, nth s k = x := ⟨_, rfl⟩
          rw [HYI.out] at cLi hmono
          rw [HXI.out] at c0i hmono
          rw [hyk] at cLk hmono
          rw [hxk] at c0k hmono
          have p1 : (0 : Int) ≤ (i : Int) := by omega
          have p2 : (i : Int) < (n : Int) := by omega
          have p3 : (0 : Int) ≤ (k : Int) := by omega
          have p4 : (k : Int) < (n : Int) := by omega
          have HXK := Lib.hid hxk
          have HM := Lib.hid hmono
          clear hyk hxk hmono hk
          by_cases hle : xk ≤ xi
          · have hle' : decide (xk ≤ xi) = true := decide_eq_true hle
            have hy : decide (yi < yk) = false := decide_eq_false (by have := HM.out hle; omega)
            cases t
            · go_upto_region 15 with (fail)
              go_quiet (fail)
              go_upto_region 16 with (fail)
              go_quiet (fail)
              clear cLi c0i cLk c0k
              go_wp2
              go_roundw
              case rel => exact ⟨k + 1, false, rfl, rfl, by rw [HN.out]; omega, fun h => absurd h (by decide), pw_below_drewN HB.out _⟩
              case measure => simp [intOf]; omega
            · go_upto_region 15 with (fail)
              go_quiet (fail)
              go_upto_region 16 with (fail)
              go_quiet (fail)
              clear cLi c0i cLk c0k
              go_wp2
              go_roundw
              case rel => exact ⟨k + 1, true, rfl, rfl, by rw [HN.out]; omega, fun _ j hj => by
                rcases Nat.lt_or_ge j k with c | c
                · exact HTT.out rfl j c
                · obtain rfl : j = k := by omega
                  rw [HXK.out, HXI.out]; exact hle, pw_below_drewN HB.out _⟩
              case measure => simp [intOf]; omega
          · have hle' : decide (xk ≤ xi) = false := decide_eq_false hle
            cases t
            · go_upto_region 15 with (fail)
              go_quiet (fail)
              go_upto_region 16 with (fail)
              go_quiet (fail)
              clear cLi c0i cLk c0k
              go_wp2
              go_roundw
              case rel => exact ⟨k + 1, false, rfl, rfl, by rw [HN.out]; omega, fun h => absurd h (by decide), pw_below_drewN HB.out _⟩
              case measure => simp [intOf]; omega
            · go_upto_region 15 with (fail)
              go_quiet (fail)
              go_upto_region 16 with (fail)
              go_quiet (fail)
              clear cLi c0i cLk c0k
              go_wp2
              go_roundw
              case rel => exact ⟨k + 1, false, rfl, rfl, by rw [HN.out]; omega, fun h => absurd h (by decide), pw_below_drewN HB.out _⟩
              case measure => simp [intOf]; omega
        · have hltk' : decide ((k : Int) < (n : Int)) = false := decide_eq_false (by omega)
          obtain rfl : n = k := by omega
          obtain ⟨_, eL, cLi⟩ := RLn.out wb HB.out i hlt
          injection eL with eL
          subst eL
          rw [HYI.out] at cLi
          have h0 : decide (yi < 0) = false := decide_eq_false (by have := B2.out; omega)
          have h1 : decide (65536 < yi) = false := decide_eq_false (by have := B2.out; omega)
          have h2 : t = true → (yi != 65536) = false := fun h => by
            have := wt_best (s := s) (i := i) (by rw [HN.out]; exact hlt) (fun j hj => HTT.out h j (by rw [← HN.out]; exact hj))
            rw [HYI.out] at this
            rw [this]; rfl
          clear hk hltk
          cases t
          · clear h2
            go_wp2
            go_roundw
            case rel => exact ⟨i + 1, rfl, by rw [hs2.out, HWR.out], by rw [HN.out]; omega, HB.out⟩
            case measure => simp [intOf]; omega
          · have h2 := h2 rfl
            go_wp2
            go_roundw
            case rel => exact ⟨i + 1, rfl, by rw [hs2.out, HWR.out], by rw [HN.out]; omega, HB.out⟩
            case measure => simp [intOf]; omega
    · have hlt' : decide ((i : Int) < (n : Int)) = false := decide_eq_false (by omega)
      obtain rfl : n = i := by omega
      rw [HS.out]
      have hSS : (S != S) = false := bne_eq_false_iff_eq.2 rfl
      clear hlt hi
      obtain ⟨P, hP, ho⟩ := order_calls (n := n) wa (Kd.C_below (Kd.C_below R1.out HB2.out) HB.out) hc1 hn
      have HO := Lib.hid ho
      have HP := Lib.hid hP
      clear ho hP
      go_wp2_with fail
      refine HO.out.mono ?_
      rintro e w3 ⟨vP, rfl, hR, hb⟩
      obtain ⟨AP, cP, ev, hcP, hC⟩ := Kd.R_reads hR
      have HPL : Hid (P.length = n) := Lib.hid (by rw [HP.out.length_eq, iota_length])
      rw [HPL.out] at ev hcP
      subst ev
      have RP := Lib.hid hC
      have HB3 := Lib.hid (below_step HB.out hb)
      clear hR hC hb HO hSS HB
      go_wp2
      obtain ⟨d, hd⟩ : ∃ d, Int.tmod more 1048576 = d := ⟨_, rfl⟩
      rw [hd]
      have HD : Hid (-1048576 < d ∧ d < 1048576) := Lib.hid (by rw [← hd]; exact tmod_in more)
      clear hd
      go_loopw [17, 18, 19, 20, 22] (fun x17 x18 x19 x20 x wr => O3Rel w3 s P d x17 x18 x19 x20 x wr) (fun _ _ _ _ x _ => n - (intOf x).toNat)
      case atStart => exact ⟨0, rfl, by omega, Kd.R_nil _ _ _ _ _, Kd.R_nil _ _ _ _ _, Kd.R_nil _ _ _ _ _, Kd.R_nil _ _ _ _ _, Apart.nil _, Apart.nil _, Apart.nil _, Apart.nil _, Apart.nil _, Apart.nil _, Below.refl _ _⟩
      case round =>
        obtain ⟨i, rfl, hi, h17, h18, h19, h20, a78, a79, a70, a89, a80, a90, hB⟩ := hrel
        have R17 := Lib.hid h17
        have R18 := Lib.hid h18
        have R19 := Lib.hid h19
        have R20 := Lib.hid h20
        have A78 := Lib.hid a78
        have A79 := Lib.hid a79
        have A70 := Lib.hid a70
        have A89 := Lib.hid a89
        have A80 := Lib.hid a80
        have A90 := Lib.hid a90
        have HC := Lib.hid hB
        clear h17 h18 h19 h20 a78 a79 a70 a89 a80 a90 hB
        rw [HN.out] at hi
        rename World => wc
        by_cases hlt : i < n
        · have hlt' : decide ((i : Int) < (n : Int)) = true := decide_eq_true (by omega)
          have hnp := perm_in HP.out hlt
          obtain ⟨np, hp⟩ : ∃ np : Nat, nth P i = np := ⟨(nth P i).toNat, by omega⟩
          rw [hp] at hnp
          have hpn : np < n := by omega
          have RPn : Hid (∀ W, Below w3.heap.size w3 W → ∃ ad, AP = some ad ∧ W.cell? (ad.add i) = some (.int .i64 (np : Int))) := Lib.hid (fun W hW => by
            obtain ⟨ad, e, h⟩ := Kd.at_int (Kd.C_below RP.out hW) (i : Int) (by omega) (by rw [HPL.out]; omega)
            rw [rd_nth, Int.toNat_natCast, hp] at h
            exact ⟨ad, e, h⟩)
          have q1 : (0 : Int) ≤ (i : Int) := by omega
          have q2 : (i : Int) < (n : Int) := by omega
          have q3 : (0 : Int) ≤ (np : Int) := by omega
          have q4 : (np : Int) < (n : Int) := by omega
          have e17 : nth s np = movedF s P i := by unfold movedF; rw [hp, Int.toNat_natCast]
          have e18 : wt s np = movedF (tb (wt s) s.length) P i := by unfold movedF; rw [hp, Int.toNat_natCast, tb_nth (by rw [HN.out]; exact hpn)]
          have E17 := Lib.hid e17
          have E18 := Lib.hid e18
          clear e17 e18 hp hnp hi
          obtain ⟨adP, eP, k1⟩ := RPn.out wc HC.out
          obtain ⟨ad0, e0, k2⟩ := R0n.out wc (below_step HB3.out HC.out) np hpn
          obtain ⟨adL, eL, _⟩ := RLn.out wc (below_step HB3.out HC.out) np hpn
          subst eP e0 eL
          rw [E17.out] at k2
          go_upto_region 29 with ((with_reducible refine gate_builtin (b := .append) (xs := #[.tmp 144, .tmp 152]) rfl ?_); (try (refine gate_guard (by rfl) ?_; dsimp only)); at_builtin; refine Kd.R_append (Kd.int .i64) (w0 := w3) w3.heap.size rfl (.tmp 144) (.tmp 152) 22 2 (.int .i64 0) 8 rfl Tryd.underlying22 info2 rfl (by decide) (by omega) u17 (tb (movedF s P) i) (movedF s P i) [.int .i64 (movedF s P i)] (fun _ => True) (fun _ => False) rfl rfl rfl (fun _ hk => hk.elim) (fun _ _ => trivial) R17.out HC.out (below_size HC.out) (by rw [tb_length]; omega) ?_; intro v17 wd ho hb hg hat)
          rw [← tb_succ] at ho
          have R17d := Lib.hid ho
          have HD1 := Lib.hid hb
          have h_ := upd R18.out A78.out hg hat
          have R18d := Lib.hid h_.1
          have A78d := Lib.hid h_.2
          clear h_
          have h_ := upd R19.out A79.out hg hat
          have R19d := Lib.hid h_.1
          have A79d := Lib.hid h_.2
          clear h_
          have h_ := upd R20.out A70.out hg hat
          have R20d := Lib.hid h_.1
          have A70d := Lib.hid h_.2
          clear h_
          clear ho hb hg hat R17 R18 R19 R20 A78 A79 A70 HC k1 k2
          obtain ⟨_, eP, k1⟩ := RPn.out wd HD1.out
          injection eP with eP
          subst eP
          obtain ⟨_, eL, k2⟩ := RLn.out wd (below_step HB3.out HD1.out) np hpn
          injection eL with eL
          subst eL
          rw [E18.out] at k2
          go_upto_region 30 with ((with_reducible refine gate_builtin (b := .append) (xs := #[.tmp 154, .tmp 162]) rfl ?_); (try (refine gate_guard (by rfl) ?_; dsimp only)); at_builtin; refine Kd.R_append (Kd.int .i64) (w0 := w3) w3.heap.size rfl (.tmp 154) (.tmp 162) 22 2 (.int .i64 0) 8 rfl Tryd.underlying22 info2 rfl (by decide) (by omega) u18 (tb (movedF (tb (wt s) s.length) P) i) (movedF (tb (wt s) s.length) P i) [.int .i64 (movedF (tb (wt s) s.length) P i)] (fun _ => True) (fun _ => False) rfl rfl rfl (fun _ hk => hk.elim) (fun _ _ => trivial) R18d.out HD1.out (below_size HD1.out) (by rw [tb_length]; omega) ?_; intro v18 we ho hb hg hat)
          rw [← tb_succ] at ho
          have R18e := Lib.hid ho
          have HE1 := Lib.hid hb
          have h_ := upd R17d.out A78d.out.symm hg hat
          have R17e := Lib.hid h_.1
          have A78e := Lib.hid h_.2.symm
          clear h_
          have h_ := upd R19d.out A89.out hg hat
          have R19e := Lib.hid h_.1
          have A89e := Lib.hid h_.2
          clear h_
          have h_ := upd R20d.out A80.out hg hat
          have R20e := Lib.hid h_.1
          have A80e := Lib.hid h_.2
          clear h_
          clear ho hb hg hat R17d R18d R19d R20d A78d A89 A80 HD1 k1 k2 q3 q4
          obtain ⟨_, e0, k2⟩ := R0n.out we (below_step HB3.out HE1.out) i hlt
          injection e0 with e0
          subst e0
          obtain ⟨xi, hxi⟩ : ∃ x, nth s i = x := ⟨_, rfl⟩
          rw [hxi] at k2
          have e19 : wrap64 (Int.tmod xi 1048576 + d) = upF s d i := by
            have h1 := tmod_in xi
            have h2 := HD.out
            unfold upF lowF
            rw [hxi]
            exact w64' (by omega) (by omega)
          have e20 : Int.tmod xi 1048576 = lowF s i := by unfold lowF; rw [hxi]
          have E19 := Lib.hid e19
          have E20 := Lib.hid e20
          have HXI := Lib.hid hxi
          clear e19 e20 hxi
          go_upto_region 31 with ((with_reducible refine gate_builtin (b := .append) (xs := #[.tmp 164, .tmp 172]) rfl ?_); (try (refine gate_guard (by rfl) ?_; dsimp only)); at_builtin; refine Kd.R_append (Kd.int .i64) (w0 := w3) w3.heap.size rfl (.tmp 164) (.tmp 172) 22 2 (.int .i64 0) 8 rfl Tryd.underlying22 info2 rfl (by decide) (by omega) u19 (tb (upF s d) i) (wrap64 (Int.tmod xi 1048576 + d)) [.int .i64 (wrap64 (Int.tmod xi 1048576 + d))] (fun _ => True) (fun _ => False) rfl rfl rfl (fun _ hk => hk.elim) (fun _ _ => trivial) R19e.out HE1.out (below_size HE1.out) (by rw [tb_length]; omega) ?_; intro v19 wf ho hb hg hat)
          rw [E19.out, ← tb_succ] at ho
          have R19f := Lib.hid ho
          have HF1 := Lib.hid hb
          have h_ := upd R17e.out A79d.out.symm hg hat
          have R17f := Lib.hid h_.1
          have A79f := Lib.hid h_.2.symm
          clear h_
          have h_ := upd R18e.out A89e.out.symm hg hat
          have R18f := Lib.hid h_.1
          have A89f := Lib.hid h_.2.symm
          clear h_
          have h_ := upd R20e.out A90.out hg hat
          have R20f := Lib.hid h_.1
          have A90f := Lib.hid h_.2
          clear h_
          clear ho hb hg hat R17e R18e R19e R20e A79d A89e A90 HE1 k2
          obtain ⟨_, e0, k2⟩ := R0n.out wf (below_step HB3.out HF1.out) i hlt
          injection e0 with e0
          subst e0
          rw [HXI.out] at k2
          go_upto_region 27 with ((with_reducible refine gate_builtin (b := .append) (xs := #[.tmp 174, .tmp 180]) rfl ?_); (try (refine gate_guard (by rfl) ?_; dsimp only)); at_builtin; refine Kd.R_append (Kd.int .i64) (w0 := w3) w3.heap.size rfl (.tmp 174) (.tmp 180) 22 2 (.int .i64 0) 8 rfl Tryd.underlying22 info2 rfl (by decide) (by omega) u20 (tb (lowF s) i) (Int.tmod xi 1048576) [.int .i64 (Int.tmod xi 1048576)] (fun _ => True) (fun _ => False) rfl rfl rfl (fun _ hk => hk.elim) (fun _ _ => trivial) R20f.out HF1.out (below_size HF1.out) (by rw [tb_length]; omega) ?_; intro v20 wg ho hb hg hat)
          rw [E20.out, ← tb_succ] at ho
          have R20g := Lib.hid ho
          have HG1 := Lib.hid hb
          have h_ := upd R17f.out A70d.out.symm hg hat
          have R17g := Lib.hid h_.1
          have A70g := Lib.hid h_.2.symm
          clear h_
          have h_ := upd R18f.out A80e.out.symm hg hat
          have R18g := Lib.hid h_.1
          have A80g := Lib.hid h_.2.symm
          clear h_
          have h_ := upd R19f.out A90f.out.symm hg hat
          have R19g := Lib.hid h_.1
          have A90g := Lib.hid h_.2.symm
          clear h_
          clear ho hb hg hat k2
          go_wp2
          go_roundw
          case rel => exact ⟨i + 1, rfl, by rw [HN.out]; omega, R17g.out, R18g.out, R19g.out, R20g.out, A78e.out, A79f.out, A70g.out, A89f.out, A80g.out, A90g.out, HG1.out⟩
          case measure => simp [intOf]; omega
        · have hlt' : decide ((i : Int) < (n : Int)) = false := decide_eq_false (by omega)
          obtain rfl : n = i := by omega
          obtain ⟨A17, c17, e17, hc17, hC17⟩ := Kd.R_reads R17.out
          obtain ⟨A18, c18, e18, hc18, hC18⟩ := Kd.R_reads R18.out
          obtain ⟨A19, c19, e19, hc19, hC19⟩ := Kd.R_reads R19.out
          obtain ⟨A20, c20, e20, hc20, hC20⟩ := Kd.R_reads R20.out
          rw [tb_length] at e17 e18 e19 e20 hc17 hc18 hc19 hc20
          subst e17 e18 e19 e20
          have C17 := Lib.hid hC17
          have C18 := Lib.hid hC18
          have C19 := Lib.hid hC19
          have C20 := Lib.hid hC20
          have HTc : Hid (Terms wc) := Lib.hid (((HT.out.below HB2.out).below HB3.out).below HC.out)
          clear hC17 hC18 hC19 hC20 R17 R18 R19 R20 A78 A79 A70 A89 A80 A90 hlt hi
          go_wp2_with fail
          refine (softmax_n wc HTc.out (tb_length _ _) C17.out hc17 hn).mono ?_
          rintro e w4 ⟨Am, cm, rfl, hCm, hcm, hb⟩
          have Cm := Lib.hid hCm
          have H4 := Lib.hid hb
          clear hCm hb
          go_wp2_with fail
          refine (softmax_n w4 (HTc.out.below H4.out) (tb_length _ _) (Kd.C_below C19.out H4.out) hc19 hn).mono ?_
          rintro e w5 ⟨Aa, ca, rfl, hCa, hca, hb⟩
          have Ca := Lib.hid hCa
          have H5 := Lib.hid hb
          clear hCa hb
          go_wp2_with fail
          refine (softmax_n w5 ((HTc.out.below H4.out).below H5.out) (tb_length _ _) (Kd.C_below (Kd.C_below C20.out H4.out) H5.out) hc20 hn).mono ?_
          rintro e w6 ⟨Ac, cc, rfl, hCc, hcc, hb⟩
          have Cc := Lib.hid hCc
          have H6 := Lib.hid hb
          clear hCc hb
          have eqs : sumN (wt (tb (movedF s P) n)) n = S := by
            have := wt_moved_sum (s := s) (P := P) (by rw [HN.out]; exact HP.out)
            rw [HN.out, HS.out] at this
            exact this
          have eqt : sumN (wt (tb (upF s d) n)) n = sumN (wt (tb (lowF s) n)) n := wt_up_sum HD.out
          rw [eqs, eqt]
          obtain ⟨T, hT⟩ : ∃ T, sumN (wt (tb (lowF s) n)) n = T := ⟨_, rfl⟩
          rw [hT]
          have hSS : (S == S) = true := beq_self_eq_true S
          have hTT : (T == T) = true := beq_self_eq_true T
          clear eqs eqt hT
          go_wp2_with fail
          refine (eq_calls (a := tb (wt (tb (movedF s P) n)) n) (b := tb (movedF (tb (wt s) n) P) n) w6 (tb_length _ _) (tb_length _ _) (by rw [tb_length]; exact Kd.C_below (Kd.C_below Cm.out H5.out) H6.out) hcm (by have := Kd.C_below (Kd.C_below (Kd.C_below C18.out H4.out) H5.out) H6.out; rw [HN.out] at this; exact this) hc18 (by have := wt_moved_tb (s := s) (P := P) (by rw [HN.out]; exact HP.out); rw [HN.out] at this; exact this) (by omega)).mono ?_
          rintro e w7 ⟨rfl, n7, rfl⟩
          go_wp2_with fail
          refine (eq_calls (a := tb (wt (tb (upF s d) n)) n) (b := tb (wt (tb (lowF s) n)) n) _ (tb_length _ _) (tb_length _ _) (by rw [tb_length]; exact Kd.C_drewN (Kd.C_below Ca.out H6.out) _) hca (by rw [tb_length]; exact Kd.C_drewN Cc.out _) hcc (wt_up_tb HD.out) (by omega)).mono ?_
          rintro e w8 ⟨rfl, n8, rfl⟩
          have HZ : Hid (Below w.heap.size w ((w6.drewN n7).drewN n8)) := Lib.hid (pw_below_drewN (pw_below_drewN (below_step (below_step (below_step (below_step (below_step HB2.out HB3.out) HC.out) H4.out) H5.out) H6.out) _) _)
          go_wp2
          go_ret
          exact ⟨rfl, by have := HZ.out; rwa [World.drewN_drewN] at this⟩
end Go.Proofs.YtnioohhiphpplaaDoor.Wk
