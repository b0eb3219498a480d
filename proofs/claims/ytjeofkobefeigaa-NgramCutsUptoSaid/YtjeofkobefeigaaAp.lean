/- The walk of ngram's Append. -/
import Derived.Test.YtjeofkobefeigaaEs
import Derived.Deep.RegionLaw
set_option linter.unusedVariables false
set_option linter.unusedSimpArgs false
namespace Go.Proofs.Ytjeofkobefeigaa.Wk
open Go.RowKit Go.Proofs.YtjeofkobefeigaaW.PrintWords Go.Proofs.YtjeofkobefeigaaW.PrintLast Go.Proofs.YtjeofkobefeigaaW.PrintMore Go.Proofs.Ytjeofkobefeigaa.Mp
open Go.ChangeMaps (setBlock)
attribute [local go_sem] max2_int min2_int max_two min_two

/-- An own list of numbers that is appended to, as one step of a region that draws its order. -/
theorem appI_step {ops : Array Oper} {o : Oper} {a : Act} {Q : Exit → Act → World → Prop} {K : Act → World → Prop} {E : Prop} {F : Nat → Prop} {W ww : World} {N : Nat} (hg : o.guard = none) (s x : Operand)
    (ho : o.op = .call { callee := .builtin .append, args := #[s, x], argTypes := #[22, 22] }) (v : Value) (xs : List Int) (p : Int) (hs : a.eval s = v) (hx : a.eval x = .slice (some ⟨N, 0, none⟩) 1 1) (hN : N = W.heap.size)
    (hww : ww = W.alloc (.cells #[.int .i64 p] 3 (0, 0))) (HO : Kd.R (Kd.int .i64) 3 W 0 F v xs) (hF : ∀ k, W.heap.size ≤ k → F k) (hl : (xs.length + 1) * 8 ≤ 140737488355328)
    (h : ∀ v1 w1, Kd.R (Kd.int .i64) 3 w1 0 F v1 (xs ++ [p]) → W.grownBy w1 v.ownBlock → (v1.ownBlock = v.ownBlock ∨ ∃ b, v1.ownBlock = some b ∧ W.heap.size ≤ b) → K (a.put o.dst v1) w1) :
    if Region.wanted o (yielded ops a.tmps) = true then Oper.wp Try.prog o a ww K Q else E := by
  subst hww hN
  have hw : Region.wanted o (yielded ops a.tmps) = true := by simp [Region.wanted, hg]
  have H := Kd.R_append_step (P := Try.prog) (Q := Q) (Kc := K) (Kd.int .i64) (w0 := W) 0 hw s x 22 3 (.int .i64 0) 8 ho Try.underlying22 info3 rfl (by decide) (by omega) v xs p [.int .i64 p] F (fun _ => False) hs hx rfl (fun _ hk => hk.elim) hF HO ((Below.refl 0 W)) (Nat.zero_le _) hl (fun v1 w1 h1 _ h2 h3 => h v1 w1 h1 h2 h3)
  rw [if_pos hw] at H ⊢
  exact H
theorem ahead_at {B m : Nat} {most : Int} {At : Option Addr} {ct : Nat} {t : List Int} (w : World) (hB : w.heap[B]? = some (.cells #[.int .i64 most, .slice At t.length ct, .map (some m)] 68 (0, 0))) (hC : Kd.C (Kd.int .i64) w At t.length t) (hc : t.length ≤ ct)
    {p n : Nat} (h1 : 1 ≤ n) (h4 : n ≤ 4) (hnp : n ≤ p) (hp : p ≤ t.length) {pv nv : Int} (hpv : pv = p) (hnv : nv = n) :
    Calls Try.prog 37 #[.pointer (some ⟨B, 0, none⟩), .int .i64 pv, .int .i64 nv] w fun e w' => ∃ r0 r1 r2 r3 : Int, e = .returned (.agg #[.int .i64 n, .int .i64 r0, .int .i64 r1, .int .i64 r2, .int .i64 r3]) ∧ Value.agg #[.int .i64 n, .int .i64 r0, .int .i64 r1, .int .i64 r2, .int .i64 r3] = keyG (gramAt t p n) ∧ Below w.heap.size w w' := by
  subst hpv hnv
  refine (ahead_calls w hB hC hc h1 h4 hnp hp).mono ?_
  rintro e w' ⟨rfl, hb⟩
  exact ⟨_, _, _, _, rfl, key_run hnp hp, hb⟩
theorem ocN_length {most n : Nat} {t g : List Int} {y : Int} (hg : Gram g) (hn : g.length = n) : (ocN most n t y g).length ≤ t.length := by
  unfold ocN
  split
  · rw [if_neg (by omega)]
    exact occ_length1 hg
  · exact Nat.zero_le _
theorem take_step {l : List Int} {i : Nat} (h : i < l.length) : l.take (i + 1) = l.take i ++ [nth l i] := by
  rw [List.take_add_one, List.getElem?_eq_getElem h]
  unfold nth
  rw [List.getD_eq_getElem?_getD, List.getElem?_eq_getElem h]
  rfl
def A1Rel (w : World) (F : Nat → Prop) (B m most : Nat) (t ts : List Int) (x : Value) (wr : World) : Prop :=
  ∃ i : Nat, x = .int .i64 i ∧ i ≤ ts.length ∧ Idx wr F B m most (t ++ ts.take i) (ocM most (t ++ ts.take i)) ∧ Fr F w wr
def A2Rel (w : World) (F : Nat → Prop) (B m most : Nat) (t : List Int) (y : Int) (x : Value) (wr : World) : Prop :=
  ∃ n : Nat, x = .int .i64 n ∧ 1 ≤ n ∧ n ≤ most + 1 ∧ n ≤ t.length + 2 ∧ Idx wr F B m most (t ++ [y]) (ocN most n t y) ∧ Fr F w wr
set_option maxHeartbeats 4000000 in
set_option maxRecDepth 100000 in
theorem append_calls {F : Nat → Prop} {B m most : Nat} {A : Option Addr} {c : Nat} {t ts : List Int} (w : World) (hF : ∀ k, w.heap.size ≤ k → F k) (hI : Idx w F B m most t (ocM most t)) (h1 : 1 ≤ most) (h4 : most ≤ 4)
    (ht : ∀ x ∈ t, (Lit.int .i64 x).wf = true) (hts : ∀ x ∈ ts, (Lit.int .i64 x).wf = true) (hC : Kd.C (Kd.int .i64) w A ts.length ts) (hc : ts.length ≤ c) (hA : ts ≠ [] → ∀ ad, A = some ad → ¬ F ad.block) (hl : (t.length + ts.length) * 8 ≤ 140737488355328) :
    Calls Try.prog 19 #[.pointer (some ⟨B, 0, none⟩), .slice A ts.length c] w fun e w' => e = .returned (.tuple #[]) ∧ Idx w' F B m most (t ++ ts) (ocM most (t ++ ts)) ∧ Fr F w w' := by
  have HF := Lib.hid hF
  have HI := Lib.hid hI
  have HT := Lib.hid ht
  have HTS := Lib.hid hts
  have HC := Lib.hid hC
  have HA := Lib.hid hA
  obtain ⟨k, hk⟩ : ∃ k, ts.length = k := ⟨_, rfl⟩
  rw [hk] at hc hl ⊢
  have HK := Lib.hid hk
  have HL := Lib.hid hl
  clear hF hI ht hts hC hA hk hl
  go_enter Try.func19, Try.ntmps19
  go_wp2
  go_loopw [13] (fun x wr => A1Rel w F B m most t ts x wr) (fun x _ => k - (intOf x).toNat)
  case atStart => exact ⟨0, rfl, Nat.zero_le _, by simpa using HI.out, Fr.refl F w⟩
  case round =>
    obtain ⟨i, rfl, hi, hI, hf⟩ := hrel
    rw [HK.out] at hi
    have HFR := Lib.hid hf
    have HI1 := Lib.hid hI
    clear hI hf
    rename World => wa
    by_cases hlt : i < k
    · have hlt' : decide ((i : Int) < (k : Int)) = true := decide_eq_true (by omega)
      obtain ⟨tv, es, clock, hE⟩ := HI1.out.open
      obtain ⟨ad, e1, k0⟩ := Kd.at_int (C_fr HC.out HFR.out (HA.out (fun e => by have := HK.out; rw [e] at this; simp at this; omega))) (i : Int) (by omega) (by rw [HK.out]; omega)
      subst e1
      rw [Int.toNat_natCast] at k0
      have q1 : (0 : Int) ≤ (i : Int) := by omega
      have q2 : (i : Int) < (k : Int) := by omega
      obtain ⟨y, hy⟩ : ∃ y, rd ts (i : Int) = y := ⟨_, rfl⟩
      rw [hy] at k0
      obtain ⟨tt, htt⟩ : ∃ tt, t ++ ts.take i = tt := ⟨_, rfl⟩
      rw [htt] at hE
      have HE := Lib.hid hE
      have kb : wa.cell? ⟨B, 1, none⟩ = some tv := (blk_cell hE.box 1).trans rfl
      have hltt : (tt.length + 1) * 8 ≤ 140737488355328 := by
        rw [← htt, List.length_append, List.length_take]
        have := HL.out
        omega
      have HLT := Lib.hid hltt
      have HY := Lib.hid hy
      have HWF : Hid (∀ x ∈ tt ++ [y], (Lit.int .i64 x).wf = true) := Lib.hid (fun x hx => by
        rcases List.mem_append.1 hx with hx | hx
        · rw [← htt] at hx
          rcases List.mem_append.1 hx with hx | hx
          · exact HT.out x hx
          · exact HTS.out x (List.mem_of_mem_take hx)
        · obtain rfl := List.mem_singleton.1 hx
          rw [← hy, rd_nth]
          exact nth_wf HTS.out i)
      have HTT := Lib.hid htt
      clear hE hy htt hltt HI1
      go_upto_region 5 with (first | ((with_reducible refine gate_builtin (b := .append) (xs := #[.tmp 21, .tmp 23]) rfl ?_); at_builtin; refine Kd.R_append (Kd.int .i64) (w0 := wa) 0 rfl (.tmp 21) (.tmp 23) 22 3 (.int .i64 0) 8 rfl Try.underlying22 info3 rfl (by decide) (by omega) tv tt y [.int .i64 y] F (fun _ => False) rfl rfl rfl (fun _ hk => hk.elim) ?aF HE.out.text (Below.refl 0 wa) (Nat.zero_le _) HLT.out ?_; (case aF => exact (fun k hk => HF.out k (Nat.le_trans HFR.out.size hk))); intro v1 w1 ho hb hg hat; obtain ⟨Av, cv, ev, _, _⟩ := Kd.R_reads ho; rw [List.length_append, List.length_singleton] at ev; subst ev; have kb1 : w1.cell? ⟨B, 1, none⟩ = some tv := (blk_cell (blk_grown HE.out.box hg (fun e => R_neB HE.out.text HE.out.box B e.symm rfl)) 1).trans rfl; have kf1 : w1.frozen? ⟨B, 1, none⟩ = false := blk_frozen (blk_grown HE.out.box hg (fun e => R_neB HE.out.text HE.out.box B e.symm rfl)) 1; have HO := Lib.hid ho; have HG := Lib.hid hg; have HAT := Lib.hid hat; clear ho hb hg hat))
      obtain ⟨hE2, hfr2⟩ := HE.out.text_step HO.out HG.out HAT.out
      obtain ⟨wb, hwb⟩ : ∃ x, x = w1.setCell ⟨B, 1, none⟩ (.slice Av (tt.length + 1) cv) := ⟨_, rfl⟩
      rw [← hwb] at hE2 hfr2 ⊢
      have HE2 := Lib.hid hE2
      have HFR2 := Lib.hid (HFR.out.trans hfr2)
      have kb2 : wb.cell? ⟨B, 1, none⟩ = some (.slice Av (tt.length + 1) cv) := (blk_cell hE2.box 1).trans rfl
      clear kb k0 HO HG HAT hE2 hfr2 hwb
      go_upto_region 7 with (fail)
      go_loopw [7] (fun x wr => A2Rel w F B m most tt y x wr) (fun x _ => most + 1 - (intOf x).toNat)
      case atStart => exact ⟨1, rfl, Nat.le_refl _, by omega, by omega, (HE2.out.congr (fun g hg => (ocN_one most tt y hg).symm)).shut, HFR2.out⟩
      case round =>
        obtain ⟨n, rfl, hn1, hn2, hn3, hI, hf⟩ := hrel
        have HI3 := Lib.hid hI
        have HFR3 := Lib.hid hf
        clear hI hf HE HE2 HFR2 HFR kb1 kf1
        rename World => wc
        obtain ⟨tv3, es3, clock3, hE⟩ := HI3.out.open
        have HE3 := Lib.hid hE
        have km : wc.cell? ⟨B, 0, none⟩ = some (.int .i64 (most : Int)) := (blk_cell hE.box 0).trans rfl
        clear hE HI3
        go_upto_region 7 with (fail)
        go_cut [39] (fun s39 wx => wc = wx ∧ s39 = .bool (decide (n ≤ most ∧ n ≤ tt.length + 1)))
        case first =>
          go_wp2_with fail
          all_goals go_meet
          all_goals refine ⟨rfl, ?_⟩
          all_goals (congr 1; apply decide_eq_decide.2; omega)
        case rest =>
        obtain ⟨rfl, rfl⟩ := hcut
        by_cases hle : n ≤ most ∧ n ≤ tt.length + 1
        · rw [decide_eq_true hle]
          obtain ⟨At, ct, eAt, hct, hCt⟩ := Kd.R_reads HE3.out.text
          subst eAt
          go_wp2_with fail
          refine (ahead_at wc HE3.out.box hCt hct hn1 (Nat.le_trans hle.1 h4) hle.2 (by rw [List.length_append, List.length_singleton]; exact Nat.le_refl _) rfl rfl).mono ?_
          rintro e wd ⟨r0, r1, r2, r3, rfl, hkey, hb⟩
          have HKEY := Lib.hid hkey
          have HEd := Lib.hid (HE3.out.below hb)
          have HFRd := Lib.hid (HFR3.out.trans (Fr.of_below hb))
          clear hkey hb HE3 HFR3 hct hCt km
          go_upto_region 10 with (fail)
          obtain ⟨we, hwe⟩ : ∃ x, x = wd.alloc (.cells #[.int .i64 n, .int .i64 r0, .int .i64 r1, .int .i64 r2, .int .i64 r3] 72) := ⟨_, rfl⟩
          rw [← hwe]
          obtain ⟨gb, hgb⟩ : ∃ g, g = wd.heap.size := ⟨_, rfl⟩
          rw [← hgb]
          have bb : we.heap[gb]? = some (.cells #[.int .i64 n, .int .i64 r0, .int .i64 r1, .int .i64 r2, .int .i64 r3] 72 (0, 0)) := by rw [hwe, hgb]; exact blk_new _ _
          have hEe : IdxE we F B m most (tt ++ [y]) (ocN most n tt y) (.slice At (tt ++ [y]).length ct) es3 clock3 := by rw [hwe]; exact HEd.out.below (below_alloc (Below.refl _ _) _)
          have hfe : Fr F w we := by rw [hwe]; exact HFRd.out.trans (Fr.of_below (below_alloc (Below.refl _ _) _))
          have HFe := Lib.hid hfe
          have HGe : Hid (∀ k, we.heap.size ≤ k → F k) := Lib.hid (fun k hk => HF.out k (Nat.le_trans hfe.size hk))
          have hg : Gram (gramAt (tt ++ [y]) (tt.length + 1) n) := gramAt_gram (HWF.out) hn1 (Nat.le_trans hle.1 h4) hle.2 (by rw [List.length_append, List.length_singleton]; exact Nat.le_refl _)
          obtain ⟨g, hgg⟩ : ∃ g, gramAt (tt ++ [y]) (tt.length + 1) n = g := ⟨_, rfl⟩
          rw [hgg] at hg
          have hkey := HKEY.out
          rw [hgg] at hkey
          have HGG := Lib.hid hgg
          obtain ⟨v0, st, es4, clock4, hME, hR0, hfin⟩ := hEe.entry_step hg
          rw [← hkey] at hME
          have HR0 := Lib.hid hR0
          have HFIN := Lib.hid hfin
          have hmlt : m < we.heap.size := blk_lt hEe.map
          have m1 := hME we.drew rfl
          have m2 := hME (we.alloc (.cells #[.int .i64 ((tt.length : Int) + 1)] 3 (0, 0))).drew (Below.heap_alloc we _ m hmlt)
          have c0 : we.cell? ⟨gb, 0, none⟩ = some (.int .i64 n) := (blk_cell bb 0).trans rfl
          have c1 : we.cell? ⟨gb, 1, none⟩ = some (.int .i64 r0) := (blk_cell bb 1).trans rfl
          have c2 : we.cell? ⟨gb, 2, none⟩ = some (.int .i64 r1) := (blk_cell bb 2).trans rfl
          have c3 : we.cell? ⟨gb, 3, none⟩ = some (.int .i64 r2) := (blk_cell bb 3).trans rfl
          have c4 : we.cell? ⟨gb, 4, none⟩ = some (.int .i64 r3) := (blk_cell bb 4).trans rfl
          have km : we.cell? ⟨B, 2, none⟩ = some (.map (some m)) := (blk_cell hEe.box 2).trans rfl
          have HEe := Lib.hid hEe
          have HMLT := Lib.hid hmlt
          have HO2 := Lib.hid (ocN_step (most := most) (n := n) (t := tt) (x := y) hn1 hle.1 hle.2)
          have hln : ((ocN most n tt y g).length + 1) * 8 ≤ 140737488355328 := by
            have := ocN_length (most := most) (n := n) (y := y) (t := tt) hg (by rw [← HGG.out]; exact gramAt_length hle.2 (by simp))
            have := HLT.out
            omega
          have HLN := Lib.hid hln
          clear hln
          have ba := blk_alloc bb (.cells #[.int .i64 ((tt.length : Int) + 1)] 3 (0, 0))
          have c0a : (we.alloc (.cells #[.int .i64 ((tt.length : Int) + 1)] 3 (0, 0))).drew.cell? ⟨gb, 0, none⟩ = some (.int .i64 n) := (blk_cell ba 0).trans rfl
          have c1a : (we.alloc (.cells #[.int .i64 ((tt.length : Int) + 1)] 3 (0, 0))).drew.cell? ⟨gb, 1, none⟩ = some (.int .i64 r0) := (blk_cell ba 1).trans rfl
          have c2a : (we.alloc (.cells #[.int .i64 ((tt.length : Int) + 1)] 3 (0, 0))).drew.cell? ⟨gb, 2, none⟩ = some (.int .i64 r1) := (blk_cell ba 2).trans rfl
          have c3a : (we.alloc (.cells #[.int .i64 ((tt.length : Int) + 1)] 3 (0, 0))).drew.cell? ⟨gb, 3, none⟩ = some (.int .i64 r2) := (blk_cell ba 3).trans rfl
          have c4a : (we.alloc (.cells #[.int .i64 ((tt.length : Int) + 1)] 3 (0, 0))).drew.cell? ⟨gb, 4, none⟩ = some (.int .i64 r3) := (blk_cell ba 4).trans rfl
          have kma : (we.alloc (.cells #[.int .i64 ((tt.length : Int) + 1)] 3 (0, 0))).drew.cell? ⟨B, 2, none⟩ = some (.map (some m)) := (blk_cell (blk_alloc hEe.box _) 2).trans rfl
          have HSZ : Hid (we.heap.size = (setBlock we.drew m (.map es4 clock4)).heap.size) := Lib.hid (by show _ = (we.heap.setIfInBounds m _).size; rw [Array.size_setIfInBounds])
          clear ba
          clear hwe hgb bb hEe hfe hg hgg hkey hME hR0 hfin hmlt HEd HFRd HKEY
          have HFX : Hid (Fr (fun k => k = m ∨ we.heap.size ≤ k) we (setBlock we.drew m (.map es4 clock4))) := Lib.hid ((Fr.of_below (below_drew (Below.refl _ _))).setBlock (Or.inl rfl) _)
          have HMX : Hid ((setBlock we.drew m (.map es4 clock4)).heap[m]? = some (.map es4 clock4)) := Lib.hid (setBlock_at (w := we.drew) HMLT.out)
          go_region_law (refine appI_step rfl (.tmp 51) (.tmp 53) rfl v0 (ocN most n tt y g) ((tt.length : Int) + 1) (F := F) (W := setBlock we.drew m (.map es4 clock4)) (N := we.heap.size) (by simp [Act.eval, Act.put]) (by simp [Act.eval, Act.put]) HSZ.out (by first | rfl | exact setBlock_alloc (w := we.drew) HMLT.out) (R_setBlock (w := we.drew) (Kd.R_drew HR0.out) HEe.out.map _) (fun k hk => HGe.out k (HSZ.out ▸ hk)) HLN.out ?_; intro v1 wf ho hgw hat; obtain ⟨es5, hES, hE5⟩ := HFIN.out _ wf v1 _ HFX.out HMX.out hgw ho hat; have hES' : (Instr.entryStore 66 (.map (some m)) (.int .i64 st) v1).run Try.prog wf = .ok () (setBlock wf m (.map es5 clock4)) := hES; have HE5 := Lib.hid hE5; have HF5 : Hid (Fr F we (setBlock wf m (.map es5 clock4))) := Lib.hid (((HFX.out.mono (fun k hk => hk.elim (fun e => e ▸ HEe.out.fm) (fun h => HGe.out k h))).trans (Fr.of_grown hgw (fun k hk => HR0.out.1 k hk))).setBlock HEe.out.fm _); clear ho hgw hat hES hE5)
          all_goals clear m1 m2 c0 c1 c2 c3 c4 c0a c1a c2a c3a c4a km kma
          all_goals go_wp2
          all_goals refine ⟨⟨n + 1, rfl, by omega, by omega, by omega, (HE5.out.congr (fun g' hg' => by have := HO2.out; rw [HGG.out] at this; exact this g')).shut, HFe.out.trans HF5.out⟩, by simp [intOf]; omega⟩
        · rw [decide_eq_false hle]
          have hend : Idx wc F B m most (tt ++ [y]) (ocM most (tt ++ [y])) := (HE3.out.congr (fun g hg => ocN_last (by omega) g)).shut
          have HEND := Lib.hid hend
          clear hend HE3
          go_wp2_with fail
          have hw : wrap64 ((i : Int) + 1) = ((i + 1 : Nat) : Int) := by rw [IntWalk.wrap64_in _ (by have := HL.out; omega)]; omega
          rw [hw]
          have htk : t ++ ts.take (i + 1) = tt ++ [y] := by
            rw [← HTT.out, List.append_assoc, take_step (by rw [HK.out]; exact hlt), ← HY.out, rd_nth]
          exact ⟨⟨i + 1, rfl, by rw [HK.out]; omega, by rw [htk]; exact HEND.out, HFR3.out⟩, by simp [intOf]; omega⟩
    · have hlt' : decide ((i : Int) < (k : Int)) = false := decide_eq_false (by omega)
      obtain rfl : k = i := by omega
      have HI2 : Hid (Idx wa F B m most (t ++ ts) (ocM most (t ++ ts))) := Lib.hid (by have := HI1.out; rwa [List.take_of_length_le (by rw [HK.out]; exact Nat.le_refl _)] at this)
      clear HI1
      go_wp2
      go_end0
      exact ⟨rfl, HI2.out, HFR.out⟩
end Go.Proofs.Ytjeofkobefeigaa.Wk
