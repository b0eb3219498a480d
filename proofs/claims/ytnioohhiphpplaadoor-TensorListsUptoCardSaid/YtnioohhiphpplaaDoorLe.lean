/- The walk of Book.narrow, of one list. -/
import Derived.Test.YtnioohhiphpplaaDoorLd
import Derived.Test.YtnioohhiphpplaaDoorSq
set_option linter.unusedVariables false
set_option linter.unusedSimpArgs false
namespace Go.Proofs.YtnioohhiphpplaaDoor.Dp
open Go.RowKit Go.Proofs.YtnioohhiphpplaaDoor.Pplays Go.Proofs.YtnioohhiphpplaaDoorW.PrintWords Go.Proofs.YtnioohhiphpplaaDoorW.PrintLast Go.Proofs.YtnioohhiphpplaaDoorW.PrintMore Go.Proofs.YtnioohhiphpplaaDoor.M Go.Proofs.YtnioohhiphpplaaDoor.Wk Go.Lib
namespace Wk
theorem linfo33 : (Tryd.prog.info? 33).map (fun i => (i.zero, i.size, i.bytes)) = some (some (.slice none 0 0), 1, 24) := by kernel_rfl
theorem linfo57 : (Tryd.prog.info? 57).map (fun i => (i.zero, i.size, i.bytes)) = some (some (.int .i8 0), 1, 1) := by kernel_rfl
structure Na0 (w : World) (GB gs : Nat) (cs : Array Value) (S : Nat → Prop) (N M l : Value) (fN fM : List Tr) (xN xM : List (List Int)) (ys : List Int) (W : World) : Prop where
 blk : W.heap[GB]? = some (.cells cs 45 (0, 0))
 lit : W.heap[gs]? = some (.cells #[l] 33 (0, 0))
 pr : Pr (Kd.int .i8) 33 57 W N M fN fM xN xM
 rl : Row (Kd.int .i8) 57 W l ys
 ap : Ap W l (fN.map sl ++ fM.map sl)
 fr : Fr w W S
structure Na1 (w : World) (GB gs : Nat) (cs : Array Value) (S : Nat → Prop) (N M l : Value) (fN fM : List Tr) (f f4 : Tr) (xN xM : List (List Int)) (ys : List Int) (W : World) : Prop where
 blk : W.heap[GB]? = some (.cells cs 45 (0, 0))
 lit : W.heap[gs]? = some (.cells #[l] 33 (0, 0))
 pr : Pr (Kd.int .i8) 33 57 W N M (fN ++ [f]) (fM ++ [f4]) (xN ++ [ys]) (xM ++ [ys])
 rl : Row (Kd.int .i8) 57 W l ys
 ap : Ap W l (fN.map sl ++ (fM ++ [f4]).map sl)
 fr : Fr w W S
theorem Na0.below {w : World} {GB gs : Nat} {cs : Array Value} {S : Nat → Prop} {N M l : Value} {fN fM : List Tr} {xN xM : List (List Int)} {ys : List Int} {W W1 : World} (h : Na0 w GB gs cs S N M l fN fM xN xM ys W) (hb : Below W.heap.size W W1) : Na0 w GB gs cs S N M l fN fM xN xM ys W1 :=
 ⟨blk_below h.blk hb, blk_below h.lit hb, h.pr.below hb, h.rl.below hb, h.ap.size hb.size, h.fr.below hb⟩
set_option maxHeartbeats 4000000 in
set_option maxRecDepth 100000 in
theorem narrow_calls {GB gs c : Nat} {A : Option Addr} {N M Wv X T U : Value} {fN fM : List Tr} {xN : List (List Int)} {last : Int} {xs : List Int} (w : World)
  (hb : w.heap[GB]? = some (.cells (bkc N M Wv X T U last) 45 (0, 0))) (hP : Pr (Kd.int .i8) 33 57 w N M fN fM xN xN) (hgs : w.heap[gs]? = some (.cells #[.slice A xs.length c] 33 (0, 0))) (hgN : N.ownBlock ≠ some gs) (hgM : M.ownBlock ≠ some gs)
  (hl : Row (Kd.int .i8) 57 w (.slice A xs.length c) xs) (hap : Ap w (.slice A xs.length c) (fN.map sl ++ fM.map sl)) (hn : xs.length ≤ 16777216) (hm : xN.length ≤ 1099511627776) :
  Calls Tryd.prog 30 #[.pointer (some ⟨GB, 0, none⟩), .slice (some ⟨gs, 0, none⟩) 1 1] w fun e w' => e = .returned (.tuple #[]) ∧ ∃ N' M' fN' fM' y1 y2, w'.heap[GB]? = some (.cells (bkc N' M' Wv X T U last) 45 (0, 0)) ∧
   Pr (Kd.int .i8) 33 57 w' N' M' fN' fM' (xN ++ [y1] ++ [y2]) (xN ++ [y1] ++ [y2]) ∧ (y1.length ≤ 16777216 ∧ y2.length ≤ 16777280) ∧ (∀ k, N'.ownBlock = some k → N.ownBlock = some k ∨ w.heap.size ≤ k) ∧ (∀ k, M'.ownBlock = some k → M.ownBlock = some k ∨ w.heap.size ≤ k) ∧ Fr w w' (WiS GB N M (.slice A xs.length c)) := by
 have hu45 := Tryd.underlying45
 obtain ⟨AN, cN, rfl⟩ := Kd.R_slice hP.cN.out
 obtain ⟨F, hF⟩ : ∃ F, fN.length = F := ⟨_, rfl⟩
 rw [hF] at hP hb hgN ⊢
 obtain ⟨N0, hN0⟩ : ∃ y, y = Value.slice AN F cN := ⟨_, rfl⟩
 have c0 : w.cell? ⟨GB, 0, none⟩ = some (.slice AN F cN) := (blk_cell hb 0).trans rfl
 obtain ⟨n, hnn⟩ : ∃ n, xs.length = n := ⟨_, rfl⟩
 rw [hnn] at hl hap hn hgs ⊢
 have hFx : F = xN.length := by rw [← hF]; exact hP.cN.len
 have hFb : (F : Int) ≤ 1099511627776 := by omega
 have hwF : wrap64 (F : Int) = (F : Int) := by unfold wrap64; omega
 have H0 : Na0 w GB gs (bkc N0 M Wv X T U last) (WiS GB N0 M (.slice A n c)) N0 M (.slice A n c) fN fM xN xN xs w := ⟨by rw [hN0]; exact hb, hgs, by rw [hN0]; exact hP, hl, hap, Fr.refl _ _⟩
 rw [← hN0] at hgN ⊢
 have HN0 := Lib.hid hN0
 have HH := Lib.hid H0
 have HNN := Lib.hid hnn
 have HGN := Lib.hid hgN
 have HGNx := Lib.hid hgN
 have HGM := Lib.hid hgM
 have HFX := Lib.hid hFx
 have HFF := Lib.hid hF
 have HM := Lib.hid hm
 clear hb hP hgs hgN hgM hl hap hm hN0 hnn hFx hF H0
 go_enter Tryd.func30, Tryd.ntmps30
 go_wp2
 clear c0
 go_loopw [5] (fun y wr => (y = .int .i64 0 ∧ Na0 w GB gs (bkc N0 M Wv X T U last) (WiS GB N0 M (.slice A n c)) N0 M (.slice A n c) fN fM xN xN xs wr) ∨ (y = .int .i64 1 ∧ ∃ N1 M1 f4 y1, y1.length = n ∧ (∀ k, N1.ownBlock = some k → N0.ownBlock = some k ∨ w.heap.size ≤ k) ∧ (∀ k, M1.ownBlock = some k → M.ownBlock = some k ∨ w.heap.size ≤ k) ∧ N1.ownBlock ≠ some gs ∧ M1.ownBlock ≠ some gs ∧ Na1 w GB gs (bkc N1 M1 Wv X T U last) (WiS GB N0 M (.slice A n c)) N1 M1 (.slice A n c) fN fM (A, n, c) f4 xN xN y1 wr)) (fun y _ => 1 - (intOf y).toNat)
 case atStart => exact .inl ⟨rfl, HH.out⟩
 case round =>
  rename World => wa
  rcases hrel with ⟨rfl, hN⟩ | ⟨rfl, N1, M1, f4, y1, hy1, hn1, hm1, hg1, hg2, hN⟩
  ·have HNA := Lib.hid hN
   clear hN HH
   go_upto_block 2 with (fail)
   go_wp2
   go_loopw [6] (fun y wr => ∃ k : Nat, y = .int .i64 (k : Int) ∧ k ≤ n ∧ Na0 w GB gs (bkc N0 M Wv X T U last) (WiS GB N0 M (.slice A n c)) N0 M (.slice A n c) fN fM xN xN (tb (overF (fun k => sg F k) (nth xs) k) n) wr) (fun y _ => n - (intOf y).toNat)
   case atStart => exact ⟨0, rfl, Nat.zero_le _, by have := HNA.out; rw [over_zero, ← HNN.out, tb_nthx, HNN.out]; exact this⟩
   case round =>
    clear HNA
    obtain ⟨k, rfl, hk, hN⟩ := hrel
    rename World => wb
    have c0 : wb.cell? ⟨gs, 0, none⟩ = some (.slice A n c) := (blk_cell hN.lit 0).trans rfl
    have HNA := Lib.hid hN
    clear hN
    by_cases hlt : k < n
    ·have d1 : decide ((k : Int) < (n : Int)) = true := decide_eq_true (by omega)
     have d2 : decide (k < n) = true := decide_eq_true hlt
     have hk1 : (k : Int) ≤ 281474976710656 := by omega
     have hk0 : (0 : Int) ≤ (k : Int) := by omega
     have hkn : (k : Int) < (n : Int) := by omega
     obtain ⟨g, cap, hv, _, _, _⟩ := Kd.R_form HNA.out.rl (by rw [tb_length]; omega)
     obtain ⟨rfl, -, rfl⟩ := Value.slice.inj hv
     have hLv := HNA.out.rl
     obtain ⟨e0, e1⟩ := Kd.R_celln 0 hLv (k : Int) (by omega) (by omega)
     rw [Int.toNat_natCast] at e0 e1
     have hp := Kd.R_putg hLv (k : Int) (sg F k)
     rw [Int.toNat_natCast, over_set (fun k => sg F k) (nth xs) hlt] at hp
     have HPU := Lib.hid hp
     have HLT := Lib.hid hlt
     clear hv hLv hp hlt hk
     go_upto_region 7 with (fail)
     refine start_ (n := 12) (S := fun w' => w'.cell? ⟨gs, 0, none⟩ = some (.slice (some ⟨g, 0, none⟩) n c)) (ds := [11]) #[false, false, false, false, false, false, false, false, false, false, false, false] (by kernel_rfl) rfl rfl (c0) (fun hHeld => ?_)
     refine pu_ 0 31 ?_
     refine pu_ 1 32 ?_
     refine pu_ 2 33 ?_
     refine pu_ 4 35 ?_
     refine pu_ 5 36 ?_
     refine pu_ 6 37 ?_
     refine pu_ 7 38 ?_
     refine pu_ 8 39 ?_
     refine tk_ 3 34 hHeld ?_
     refine on_ 9 (some 40) (fun K hK => ?_)
     refine gs_ Tryd.func64 #[.int .i64 (wrap64 F), .int .i64 k] ?_
     with_reducible refine (sign_calls (wrap64 F) k hk1 _).mono ?_
     rintro e wq ⟨rfl, rfl⟩
     refine ⟨_, rfl, ?_⟩
     refine hK.out _ _ (c0) (fun hHeld => ?_)
     clear hK K
     refine nm_ 40 ?_
     refine pu_ 10 41 ?_
     refine ls_ 11 none (fun K hK => ?_)
     refine sk_ (hK.out _ _ ?_)
     clear hK K
     refine dn_ ?_
     rw [hwF]
     go_wp2
     go_roundw
     case rel =>
      have hgr := HPU.out.2
      have hnB : (some g : Option Nat) ≠ some GB := out_ne HNA.out.rl HNA.out.blk (by decide)
      have hns : (some g : Option Nat) ≠ some gs := out_ne HNA.out.rl HNA.out.lit (by decide)
      refine ⟨k + 1, by rw [Int.natCast_add]; rfl, HLT.out, Na0.below (W := wb.setCell ⟨g, k, none⟩ (.int .i8 (sg F k))) ?_ (below_drew (Below.refl _ _))⟩
      exact ⟨blk_g HNA.out.blk hgr hnB, blk_g HNA.out.lit hgr hns, HNA.out.pr.lists rfl (by decide) (g := .slice (some ⟨g, 0, none⟩) n c) hgr HNA.out.rl HNA.out.ap, HPU.out.1, HNA.out.ap.size hgr.size, HNA.out.fr.grown hgr (fun k hk => .inl (.inr (.inr (.inr hk))))⟩
     case measure => have := HLT.out; simp [intOf]; omega
    ·have d1 : decide ((k : Int) < (n : Int)) = false := decide_eq_false (by omega)
     have d2 : decide (k < n) = false := decide_eq_false hlt
     obtain rfl : k = n := by omega
     clear hlt hk
     obtain ⟨y1, hy1⟩ : ∃ y, y = tb (overF (fun k => sg F k) (nth xs) k) k := ⟨_, rfl⟩
     have hyi : k = y1.length := by rw [hy1, tb_length]
     rw [← hy1] at HNA
     clear hy1
     subst hyi
     go_upto_region 8 with (fail)
     have HND := Lib.hid (HNA.out.below (below_drew (Below.refl _ _)))
     have c1 : wb.drew.cell? ⟨GB, 0, none⟩ = some N0 := (blk_cell HND.out.blk 0).trans rfl
     refine start_ (n := 14) (S := fun w' => w'.cell? ⟨GB, 0, none⟩ = some N0 ∧ w'.cell? ⟨gs, 0, none⟩ = some (.slice A y1.length c)) (ds := [13]) #[false, false, false, false, false, false, false, false, false, false, false, false, false, false] (by kernel_rfl) rfl rfl ⟨c1, c0⟩ (fun hHeld => ?_)
     refine pu_ 0 42 ?_
     refine pu_ 1 43 ?_
     refine pu_ 2 44 ?_
     refine pu_ 3 45 ?_
     refine pu_ 5 47 ?_
     refine pu_ 6 48 ?_
     refine pu_ 7 49 ?_
     refine tk_ 4 46 hHeld ?_
     refine tk_ 8 50 hHeld ?_
     refine on_ 9 (some 51) (fun K hK => ?_)
     refine value_ (w1 := ?_) (v := ?_) (by rfl) rfl ?_ ?_
     rotate_left 2
     ·go_simp
      constructor
      ·rfl
      ·rfl
     refine hK.out _ _ ⟨pw_cell_below (below_alloc (Below.refl wb.drew.heap.size wb.drew) _) c1, pw_cell_below (below_alloc (Below.refl wb.drew.heap.size wb.drew) _) c0⟩ (fun hHeld => ?_)
     clear hK K
     refine nm_ 51 ?_
     refine on_ 10 (some 52) (fun K hK => ?_)
     refine R_append2_step (P := Tryd.prog) (Kc := K) (d := slKd) rfl (W := wb.drew) 0 ?cw (.tmp 46) (.tmp 51) 36 33 (.slice none 0 0) 24 rfl Tryd.underlying36 linfo33 rfl (by decide) (by omega) N0 fN (A, y1.length, c) [.slice A y1.length c] rfl rfl rfl HND.out.pr.cN.out (Nat.zero_le _) ?cl ?_
     case cw => rfl
     case cl => rw [HFF.out]; omega
     intro v1 w1 hR hRo hg hx
     obtain ⟨A1, c1_, e1⟩ := Kd.R_slice hR
     rw [List.length_append, List.length_singleton, HFF.out] at e1
     subst e1
     have ho := out_N rfl (by decide) (by decide) (by decide) HND.out.blk (j := 0) (cs' := bkc _ M Wv X T U last) rfl HND.out.pr (f := (A, y1.length, c)) HND.out.rl hg hx hR
     have HOW := Lib.hid ho.1
     have HPW := Lib.hid ho.2
     have HXX := Lib.hid hx
     have hl1 := blk_g HND.out.lit hg HGNx.out
     have HL1 := Lib.hid hl1
     clear hR hRo hg hx ho
     have cx1 : w1.cell? ⟨GB, 0, none⟩ = some N0 := (blk_cell HOW.out.mid 0).trans rfl
     have rx1 := blk_frozen HOW.out.mid 0
     have cx2 : w1.cell? ⟨gs, 0, none⟩ = some (.slice A y1.length c) := (blk_cell hl1 0).trans rfl
     clear hl1
     refine hK.out _ _ ⟨cx1, cx2⟩ (fun hHeld => ?_)
     clear hK K
     refine nm_ 52 ?_
     refine pu_ 11 53 ?_
     refine pu_ 12 54 ?_
     refine ls_ 13 none (fun K hK => ?_)
     refine sk_ (hK.out _ _ ?_)
     clear hK K
     refine dn_ ?_
     go_upto_region 9 with (fail)
     obtain ⟨N1, hN1⟩ : ∃ y, y = Value.slice A1 (F + 1) c1_ := ⟨_, rfl⟩
     obtain ⟨w2, hw2⟩ : ∃ y, y = w1.setCell ⟨GB, 0, none⟩ (.slice A1 (F + 1) c1_) := ⟨_, rfl⟩
     rw [← hw2, ← hN1] at HOW HPW
     rw [← hN1] at HXX
     rw [← hw2]
     have hls : (w1.setCell ⟨GB, 0, none⟩ (.slice A1 (F + 1) c1_)).heap[gs]? = some (.cells #[.slice A y1.length c] 33 (0, 0)) := blk_g HL1.out (grownBy_set w1 ⟨GB, 0, none⟩ _) (fun he => by
      injection he with he
      subst he
      exact absurd (typed_ne HOW.out.mid HL1.out) (by decide))
     rw [← hw2] at hls
     clear hw2 cx1 cx2 rx1 c0 c1
     have HLS := Lib.hid hls
     have HL2 := Lib.hid (HOW.out.rows HND.out.rl)
     have HF2 := Lib.hid (HOW.out.fr HND.out.fr (.inl rfl) (fun k hk => .inl (.inr (.inl hk))))
     have HA2 : Hid (Ap w2 (.slice A y1.length c) (fN.map sl ++ fM.map sl)) := Lib.hid (HND.out.ap.size HOW.out.size)
     have HO2 := Lib.hid (own_in (S := fun k => N0.ownBlock = some k) (B := w.heap.size) (fun k hk => .inl hk) HXX.out HND.out.fr.size)
     have hn2 : N1.ownBlock ≠ some gs := fun he => by
      rcases HXX.out.own with ho | ⟨b, hb1, hb2⟩
      ·exact HGNx.out (ho ▸ he)
      ·rw [hb1] at he
       injection he with he
       have := blk_lt HND.out.lit
       omega
     have HN2 := Lib.hid hn2
     have HB2 := Lib.hid HOW.out.blk
     clear hls hn2 hN1 HL1 HND HNA HXX
     have c1 : w2.drew.cell? ⟨GB, 1, none⟩ = some M := (blk_cell HB2.out 1).trans rfl
     have c0 : w2.drew.cell? ⟨gs, 0, none⟩ = some (.slice A y1.length c) := (blk_cell HLS.out 0).trans rfl
     have HPD : Hid (Pr (Kd.int .i8) 33 57 w2.drew N1 M (fN ++ [(A, y1.length, c)]) fM (xN ++ [y1]) xN) := Lib.hid (HPW.out.below (below_drew (Below.refl _ _)))
     have HBD : Hid (w2.drew.heap[GB]? = some (.cells (bkc N1 M Wv X T U last) 45 (0, 0))) := Lib.hid HB2.out
     have HLD := Lib.hid (HL2.out.below (below_drew (Below.refl _ _)))
     have hlr := Kd.R_reads' HLD.out
     have HLR := Lib.hid hlr
     have HMX : Hid (xN.length = fM.length) := Lib.hid HPW.out.cM.len.symm
     clear hlr
     refine start_ (n := 15) (S := fun w' => w'.cell? ⟨GB, 1, none⟩ = some M ∧ w'.cell? ⟨gs, 0, none⟩ = some (.slice A y1.length c)) (ds := [14]) #[false, false, false, false, false, false, false, false, false, false, false, false, false, false, false] (by kernel_rfl) rfl rfl ⟨c1, c0⟩ (fun hHeld => ?_)
     refine pu_ 0 55 ?_
     refine pu_ 1 56 ?_
     refine pu_ 2 57 ?_
     refine pu_ 3 58 ?_
     refine pu_ 5 60 ?_
     refine pu_ 6 61 ?_
     refine pu_ 7 62 ?_
     refine tk_ 4 59 hHeld ?_
     refine tk_ 8 63 hHeld ?_
     refine on_ 9 (some 64) (fun K hK => ?_)
     refine gs_ Tryd.func41 #[.slice A y1.length c] ?_
     with_reducible refine (copyN_calls w2.drew HLR.out.2.2 HLR.out.2.1 hn).mono ?_
     rintro e w4 ⟨v4, rfl, hR4, hb4⟩
     refine ⟨_, rfl, ?_⟩
     obtain ⟨A4, c4, e4⟩ := Kd.R_slice hR4
     subst e4
     have HR4 := Lib.hid hR4
     have HB4 := Lib.hid hb4
     have c1x := pw_cell_below hb4 c1
     have c0x := pw_cell_below hb4 c0
     clear hR4 hb4
     refine hK.out _ _ ⟨c1x, c0x⟩ (fun hHeld => ?_)
     clear hK K
     refine nm_ 64 ?_
     refine on_ 10 (some 65) (fun K hK => ?_)
     refine value_ (w1 := ?_) (v := ?_) (by rfl) rfl ?_ ?_
     rotate_left 2
     ·go_simp
      constructor
      ·rfl
      ·rfl
     refine hK.out _ _ ⟨pw_cell_below (below_alloc (Below.refl w4.heap.size w4) _) c1x, pw_cell_below (below_alloc (Below.refl w4.heap.size w4) _) c0x⟩ (fun hHeld => ?_)
     clear hK K
     refine nm_ 65 ?_
     refine on_ 11 (some 66) (fun K hK => ?_)
     refine R_append2_step (P := Tryd.prog) (Kc := K) (d := slKd) rfl (W := w4) 0 ?cw (.tmp 59) (.tmp 65) 36 33 (.slice none 0 0) 24 rfl Tryd.underlying36 linfo33 rfl (by decide) (by omega) M fM (A4, y1.length, c4) [.slice A4 y1.length c4] rfl rfl rfl (HPD.out.below HB4.out).cM.out (Nat.zero_le _) ?cl ?_
     case cw => rfl
     case cl => rw [← HMX.out]; have := HM.out; omega
     intro v5 w5 hR hRo hg hx
     obtain ⟨A5, c5, e5⟩ := Kd.R_slice hR
     rw [List.length_append, List.length_singleton] at e5
     subst e5
     have ho := out_M rfl (by decide) (by decide) (by decide) (blk_below HBD.out HB4.out) (j := 1) (cs' := bkc N1 _ Wv X T U last) rfl (HPD.out.below HB4.out) (f := (A4, y1.length, c4)) (Row.of HR4.out) hg hx hR
     have HOX := Lib.hid ho.1
     have HPX := Lib.hid ho.2
     have HXX := Lib.hid hx
     have hl1 := blk_g (blk_below (blk_drew HLS.out) HB4.out) hg HGM.out
     have HL1 := Lib.hid hl1
     clear hR hRo hg hx ho
     have c5x : w5.cell? ⟨GB, 1, none⟩ = some M := (blk_cell HOX.out.mid 1).trans rfl
     have r5x := blk_frozen HOX.out.mid 1
     have c6x : w5.cell? ⟨gs, 0, none⟩ = some (.slice A y1.length c) := (blk_cell hl1 0).trans rfl
     clear hl1
     refine hK.out _ _ ⟨c5x, c6x⟩ (fun hHeld => ?_)
     clear hK K
     refine nm_ 66 ?_
     refine pu_ 12 67 ?_
     refine pu_ 13 68 ?_
     refine ls_ 14 none (fun K hK => ?_)
     refine sk_ (hK.out _ _ ?_)
     clear hK K
     refine dn_ ?_
     go_wp2
     obtain ⟨M1, hM1⟩ : ∃ y, y = Value.slice A5 (fM.length + 1) c5 := ⟨_, rfl⟩
     obtain ⟨w6, hw6⟩ : ∃ y, y = w5.setCell ⟨GB, 1, none⟩ (.slice A5 (fM.length + 1) c5) := ⟨_, rfl⟩
     have hls : (w5.setCell ⟨GB, 1, none⟩ (.slice A5 (fM.length + 1) c5)).heap[gs]? = some (.cells #[.slice A y1.length c] 33 (0, 0)) := blk_g HL1.out (grownBy_set w5 ⟨GB, 1, none⟩ _) (fun he => by
      injection he with he
      subst he
      exact absurd (typed_ne HOX.out.mid HL1.out) (by decide))
     rw [← hw6] at hls
     rw [← hw6, ← hM1] at HOX HPX
     rw [← hM1] at HXX
     rw [← hw6]
     have hm2 : M1.ownBlock ≠ some gs := fun he => by
      rcases HXX.out.own with ho | ⟨b, hb1, hb2⟩
      ·exact HGM.out (ho ▸ he)
      ·rw [hb1] at he
       injection he with he
       have := blk_lt (blk_below (blk_drew HLS.out) HB4.out)
       omega
     have h4 : w4.heap.size ≤ w6.heap.size := HOX.out.size
     have h3 : w2.drew.heap.size ≤ w6.heap.size := Nat.le_trans HB4.out.size h4
     have ha : Ap w6 (.slice A y1.length c) (fN.map sl ++ (fM ++ [(A4, y1.length, c4)]).map sl) := by
      rw [List.map_append, ← List.append_assoc]
      refine (HA2.out.size h3).append (Ap.one fun k hk => ⟨Nat.lt_of_lt_of_le (Kd.R_lt HR4.out k hk) h4, fun he => ?_⟩)
      have h5 := Kd.R_base HR4.out k hk
      have h6 := Kd.R_lt HLD.out k he
      omega
     go_roundw
     case rel => exact .inr ⟨rfl, N1, M1, (A4, y1.length, c4), y1, rfl, HO2.out, own_in (S := fun k => M.ownBlock = some k) (B := w.heap.size) (fun k hk => .inl hk) HXX.out (by have := HF2.out.size; have := HB4.out.size; exact Nat.le_trans HF2.out.size HB4.out.size), HN2.out, hm2, HOX.out.blk, hls, HPX.out, HOX.out.rows (HLD.out.below HB4.out), ha, HOX.out.fr ((HF2.out.below (below_drew (Below.refl _ _))).below HB4.out) (.inl rfl) (fun k hk => .inl (.inr (.inr (.inl hk))))⟩
     case measure => simp [intOf]
  ·have HNA := Lib.hid hN
   have HY1 := Lib.hid hy1
   have HN1 := Lib.hid hn1
   have HM1 := Lib.hid hm1
   clear hN hy1 hn1 hm1 HH hg1 hg2 HGNx
   go_upto_block 4 with (fail)
   go_wp2
   go_loopw [7] (fun y wr => (y = .int .i64 0 ∧ Na1 w GB gs (bkc N1 M1 Wv X T U last) (WiS GB N0 M (.slice A n c)) N1 M1 (.slice A n c) fN fM (A, n, c) f4 xN xN y1 wr) ∨ (y = .int .i64 1 ∧ ∃ N' M' fN' fM' y2, wr.heap[GB]? = some (.cells (bkc N' M' Wv X T U last) 45 (0, 0)) ∧
    Pr (Kd.int .i8) 33 57 wr N' M' fN' fM' (xN ++ [y1] ++ [y2]) (xN ++ [y1] ++ [y2]) ∧ (y1.length ≤ 16777216 ∧ y2.length ≤ 16777280) ∧ (∀ k, N'.ownBlock = some k → N0.ownBlock = some k ∨ w.heap.size ≤ k) ∧ (∀ k, M'.ownBlock = some k → M.ownBlock = some k ∨ w.heap.size ≤ k) ∧ Fr w wr (WiS GB N0 M (.slice A n c)))) (fun y _ => 1 - (intOf y).toNat)
   case atStart => exact .inl ⟨rfl, HNA.out⟩
   case round =>
    rename World => wb
    clear HNA
    rcases hrel with ⟨rfl, hN⟩ | ⟨rfl, N', M', fN', fM', y2, h1, h2, hL, h3, h4, h5⟩
    ·have HNA := Lib.hid hN
     clear hN
     have hfl : fM.length = F := by
      have h1 := HNA.out.pr.cM.len
      have h2 := HFX.out
      simp only [List.length_append, List.length_singleton] at h1
      omega
     obtain ⟨gM, cM, hM1, _, _, _⟩ := Kd.R_form HNA.out.pr.cM.out (by rw [List.length_append]; exact Nat.lt_of_lt_of_le Nat.zero_lt_one (Nat.le_add_left _ _))
     rw [List.length_append, List.length_singleton, hfl] at hM1
     have hRM := HNA.out.pr.cM.out
     rw [hM1] at hRM
     obtain ⟨e0, -⟩ := Kd.R_celln (none, 0, 0) hRM (F : Int) (by omega) (by omega)
     rw [Int.toNat_natCast, show rdOf (none, 0, 0) (fM ++ [f4]) (F : Int) = f4 by unfold rdOf; rw [Int.toNat_natCast, ← hfl, List.getD_eq_getElem?_getD, List.getElem?_append_right (Nat.le_refl _), Nat.sub_self]; rfl] at e0
     obtain ⟨A4, n4, c4⟩ := f4
     have e0' : wb.cell? ⟨gM, F, none⟩ = some (.slice A4 n4 c4) := e0
     have hr4 : Row (Kd.int .i8) 57 wb (.slice A4 n4 c4) y1 := HNA.out.pr.cM.row fM.length (A4, n4, c4) y1 (by rw [List.getElem?_append_right (Nat.le_refl _), Nat.sub_self]; rfl) (by rw [show fM.length = xN.length by rw [hfl]; exact HFX.out, List.getElem?_append_right (Nat.le_refl _), Nat.sub_self]; rfl)
     obtain ⟨h41, h42, h43⟩ := Kd.R_reads' hr4
     subst h41
     have HR4 := Lib.hid hr4
     have HC4 := Lib.hid h43
     have H42 := Lib.hid h42
     have HM1E := Lib.hid hM1
     have hni : n = y1.length := HY1.out.symm
     subst hni
     have c1 : wb.cell? ⟨GB, 1, none⟩ = some (.slice (some ⟨gM, 0, none⟩) (F + 1) cM) := by rw [← HM1E.out]; exact (blk_cell HNA.out.blk 1).trans rfl
     have cg : wb.cell? ⟨gs, 0, none⟩ = some (.slice A y1.length c) := (blk_cell HNA.out.lit 0).trans rfl
     have hf1 : (F : Int) < (F : Int) + 1 := by omega
     have hf0 : (0 : Int) ≤ (F : Int) := by omega
     clear hfl hM1 hRM e0 hr4 h42 h43
     go_wp2_with fail
     refine (copyN_calls wb HC4.out H42.out hn).mono ?_
     rintro e w7 ⟨v7, rfl, hR7, hb7⟩
     obtain ⟨A7, c7, e7⟩ := Kd.R_slice hR7
     subst e7
     have HG7 : Hid (G2 (Kd.int .i8) 33 57 w GB (bkc N1 M1 Wv X T U last) (WiS GB N0 M (.slice A y1.length c)) N1 M1 fN fM (A, y1.length, c) (A4, y1.length, c4) xN xN y1 [] [] (.slice A y1.length c) (.slice A7 y1.length c7) w7) := Lib.hid (by
      have hl := HNA.out.rl
      refine ⟨blk_below HNA.out.blk hb7, HNA.out.pr.below hb7, by rw [HFF.out]; exact HFX.out, by rw [List.append_nil]; exact hl.below hb7, by rw [List.append_nil]; exact Row.of hR7, hl.below hb7, Pref.refl, HNA.out.ap.size hb7.size, Ap.new hR7 hb7.size HNA.out.pr.size, ?_, ?_, HNA.out.fr.below hb7, fun k hk => .inl (.inr (.inr (.inr hk))), fun k hk => .inr ?_⟩
      ·exact Ap.one fun k hk => ⟨Kd.R_lt hR7 k hk, fun he => by have := Kd.R_lt hl k he; have := Kd.R_base hR7 k hk; omega⟩
      ·exact Ap.one fun k hk => ⟨Kd.R_lt (hl.below hb7) k hk, fun he => by have := Kd.R_lt hl k hk; have := Kd.R_base hR7 k he; omega⟩
      ·have := Kd.R_base hR7 k hk
       have := HNA.out.fr.size
       omega)
     clear hR7 hb7 HNA HR4 HC4 H42 c1 cg e0' hf1 hf0
     go_wp2
     go_loopw [8, 9, 10] (fun g m y wr => ∃ k : Nat, y = .int .i64 (k : Int) ∧ k ≤ 64 ∧ G2 (Kd.int .i8) 33 57 w GB (bkc N1 M1 Wv X T U last) (WiS GB N0 M (.slice A y1.length c)) N1 M1 fN fM (A, y1.length, c) (A4, y1.length, c4) xN xN y1 (tb (fun k => IntKind.i8.wrap (-1 - sg F k)) k) (tb (fun k => IntKind.i8.wrap (-1 - sg F k)) k) g m wr) (fun _ _ y _ => 64 - (intOf y).toNat)
     case atStart => exact ⟨0, rfl, by omega, HG7.out⟩
     case round =>
      obtain ⟨k, rfl, hk, hG⟩ := hrel
      obtain ⟨Ag, cg, eg⟩ := Kd.R_slice hG.rg
      obtain ⟨Am, cm, em⟩ := Kd.R_slice hG.rm
      rw [List.length_append, tb_length] at eg em
      rename World => wc
      subst eg em
      have HG := Lib.hid hG
      clear hG HG7
      by_cases hlt : k < 64
      ·have d1 : decide ((k : Int) < 64) = true := decide_eq_true (by omega)
       have HLT := Lib.hid hlt
       have hk1 : (k : Int) ≤ 281474976710656 := by omega
       clear hlt hk
       go_wp2_with fail
       refine (sign_calls (F : Int) k hk1 wc).mono ?_
       rintro e wq ⟨rfl, rfl⟩
       go_upto_region 19 with ((with_reducible refine gate_builtin (b := .append) (xs := #[.tmp 93, .tmp 100]) rfl ?_); at_builtin; refine R_append2 (d := Kd.int .i8) rfl 0 rfl (.tmp 93) (.tmp 100) 33 57 (.int .i8 0) 1 rfl Tryd.underlying33 linfo57 rfl (by decide) (by omega) (.slice Ag (y1.length + k) cg) (y1 ++ tb (fun k => IntKind.i8.wrap (-1 - sg F k)) k) (IntKind.i8.wrap (-1 - sg F k)) [.int .i8 (IntKind.i8.wrap (-1 - sg F k))] rfl rfl rfl HG.out.rg (Nat.zero_le _) (by rw [List.length_append, tb_length]; have := HLT.out; omega) ?_; intro v8 w8 hR hRo hg hx)
       have HG8 := Lib.hid (HG.out.stepG rfl (by decide) (by decide) hR hRo hg hx)
       clear hR hRo hg hx HG
       go_wp2_with fail
       refine (sign_calls (F : Int) k hk1 w8).mono ?_
       rintro e wq ⟨rfl, rfl⟩
       go_wp2_with ((with_reducible refine gate_builtin (b := .append) (xs := #[.tmp 102, .tmp 109]) rfl ?_); at_builtin; refine R_append2 (d := Kd.int .i8) rfl 0 rfl (.tmp 102) (.tmp 109) 33 57 (.int .i8 0) 1 rfl Tryd.underlying33 linfo57 rfl (by decide) (by omega) (.slice Am (y1.length + k) cm) (y1 ++ tb (fun k => IntKind.i8.wrap (-1 - sg F k)) k) (IntKind.i8.wrap (-1 - sg F k)) [.int .i8 (IntKind.i8.wrap (-1 - sg F k))] rfl rfl rfl HG8.out.rm (Nat.zero_le _) (by rw [List.length_append, tb_length]; have := HLT.out; omega) ?_; intro v9 w9 hR hRo hg hx)
       have hG9 := HG8.out.stepM rfl (by decide) (by decide) hR hg hx
       rw [← tb_succ] at hG9
       go_roundw
       case rel => exact ⟨k + 1, by rw [Int.natCast_add]; rfl, HLT.out, hG9⟩
       case measure => have := HLT.out; simp [intOf]; omega
      ·have d1 : decide ((k : Int) < 64) = false := decide_eq_false (by omega)
       obtain rfl : k = 64 := by omega
       have c2 : wc.cell? ⟨GB, 0, none⟩ = some N1 := (blk_cell HG.out.blk 0).trans rfl
       clear hlt hk
       obtain ⟨y2, hy2⟩ : ∃ y, y = y1 ++ tb (fun k => IntKind.i8.wrap (-1 - sg F k)) 64 := ⟨_, rfl⟩
       have hyl : y2.length = y1.length + 64 := by rw [hy2, List.length_append, tb_length]
       have HGR : Hid (Row (Kd.int .i8) 57 wc (.slice Ag y2.length cg) y2) := Lib.hid (by rw [hyl, hy2]; exact HG.out.rg)
       have HMR : Hid (Row (Kd.int .i8) 57 wc (.slice Am y2.length cm) y2) := Lib.hid (by rw [hyl, hy2]; exact HG.out.rm)
       have HPR := Lib.hid HG.out.pr
       have HFR := Lib.hid HG.out.fr
       have HBK := Lib.hid HG.out.blk
       have HX7 : Hid (xN.length = fN.length ∧ xN.length = fM.length) := Lib.hid ⟨HG.out.len.symm, by have := HPR.out.cM.len; simp only [List.length_append, List.length_singleton] at this; omega⟩
       have HY2 := Lib.hid hyl
       rw [← hyl]
       clear hy2 hyl HG
       go_upto_region 21 with ((with_reducible refine gate_builtin (b := .append) (xs := #[.tmp 115, .tmp 117]) rfl ?_); at_builtin; refine R_append2 (d := slKd) rfl 0 rfl (.tmp 115) (.tmp 117) 36 33 (.slice none 0 0) 24 rfl Tryd.underlying36 linfo33 rfl (by decide) (by omega) N1 (fN ++ [(A, y1.length, c)]) (Ag, y2.length, cg) [.slice Ag y2.length cg] rfl rfl rfl HPR.out.cN.out (Nat.zero_le _) (by rw [List.length_append]; have := HX7.out; have := HM.out; simp only [List.length_singleton]; omega) ?_; intro v1 w8 hR hRo hg hx; obtain ⟨A1, c1, e1⟩ := Kd.R_slice hR; rw [List.length_append, List.length_append, List.length_singleton, List.length_singleton] at e1; subst e1; have ho := out_N rfl (by decide) (by decide) (by decide) HBK.out (j := 0) (cs' := bkc _ M1 Wv X T U last) rfl HPR.out (f := (Ag, y2.length, cg)) HGR.out hg hx hR; have HOW := Lib.hid ho.1; have HPW := Lib.hid ho.2; have HXA := Lib.hid hx; clear hR hRo hg hx ho c2; have c2 : w8.cell? ⟨GB, 0, none⟩ = some N1 := (blk_cell HOW.out.mid 0).trans rfl; have r2 := blk_frozen HOW.out.mid 0)
       obtain ⟨N2, hN2⟩ : ∃ y, y = Value.slice A1 (fN.length + 1 + 1) c1 := ⟨_, rfl⟩
       obtain ⟨wd, hwd⟩ : ∃ y, y = w8.setCell ⟨GB, 0, none⟩ (.slice A1 (fN.length + 1 + 1) c1) := ⟨_, rfl⟩
       rw [← hwd, ← hN2] at HOW HPW
       rw [← hN2] at HXA
       rw [← hwd]
       clear hwd hN2 c2 r2
       have HMD := Lib.hid (HOW.out.rows HMR.out)
       have HFD := Lib.hid (HOW.out.fr HFR.out (.inl rfl) (fun k hk => (HN1.out k hk).imp (fun h => .inr (.inl h)) id))
       have HXN := Lib.hid (own_in (S := fun k => N0.ownBlock = some k) HN1.out HXA.out HFR.out.size)
       have c3 : wd.cell? ⟨GB, 1, none⟩ = some M1 := (blk_cell HOW.out.blk 1).trans rfl
       clear HGR HMR HPR HFR HBK
       go_wp2_with ((with_reducible refine gate_builtin (b := .append) (xs := #[.tmp 125, .tmp 127]) rfl ?_); at_builtin; refine R_append2 (d := slKd) rfl 0 rfl (.tmp 125) (.tmp 127) 36 33 (.slice none 0 0) 24 rfl Tryd.underlying36 linfo33 rfl (by decide) (by omega) M1 (fM ++ [(A4, y1.length, c4)]) (Am, y2.length, cm) [.slice Am y2.length cm] rfl rfl rfl HPW.out.cM.out (Nat.zero_le _) (by rw [List.length_append]; have := HX7.out; have := HM.out; simp only [List.length_singleton]; omega) ?_; intro v1 w9 hR hRo hg hx; obtain ⟨A2, c2, e2⟩ := Kd.R_slice hR; rw [List.length_append, List.length_append, List.length_singleton, List.length_singleton] at e2; subst e2; have ho := out_M rfl (by decide) (by decide) (by decide) HOW.out.blk (j := 1) (cs' := bkc N2 _ Wv X T U last) rfl HPW.out (f := (Am, y2.length, cm)) HMD.out hg hx hR; have HOY := Lib.hid ho.1; have HPY := Lib.hid ho.2; have HXB := Lib.hid hx; clear hR hRo hg hx ho c3; have c3 : w9.cell? ⟨GB, 1, none⟩ = some M1 := (blk_cell HOY.out.mid 1).trans rfl; have r3 := blk_frozen HOY.out.mid 1)
       go_roundw
       case rel => exact .inr ⟨rfl, N2, _, _, _, y2, HOY.out.blk, HPY.out, ⟨hn, by have := HY2.out; omega⟩, HXN.out, own_in (S := fun k => M.ownBlock = some k) HM1.out HXB.out HFD.out.size, HOY.out.fr HFD.out (.inl rfl) (fun k hk => (HM1.out k hk).imp (fun h => .inr (.inr (.inl h))) id)⟩
       case measure => simp [intOf]
    ·have HE := Lib.hid (show _ from ⟨N', M', fN', fM', y1, y2, h1, h2, hL, h3, h4, h5⟩ : Hid (∃ N' M' fN' fM' y1 y2, wb.heap[GB]? = some (.cells (bkc N' M' Wv X T U last) 45 (0, 0)) ∧
      Pr (Kd.int .i8) 33 57 wb N' M' fN' fM' (xN ++ [y1] ++ [y2]) (xN ++ [y1] ++ [y2]) ∧ (y1.length ≤ 16777216 ∧ y2.length ≤ 16777280) ∧ (∀ k, N'.ownBlock = some k → N0.ownBlock = some k ∨ w.heap.size ≤ k) ∧ (∀ k, M'.ownBlock = some k → M.ownBlock = some k ∨ w.heap.size ≤ k) ∧ Fr w wb (WiS GB N0 M (.slice A n c))))
     clear h1 h2 hL h3 h4 h5
     go_wp2
     go_end0
     exact ⟨rfl, HE.out⟩
end Wk
end Go.Proofs.YtnioohhiphpplaaDoor.Dp
