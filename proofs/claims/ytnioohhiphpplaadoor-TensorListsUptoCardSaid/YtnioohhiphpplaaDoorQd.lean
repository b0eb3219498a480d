/- Printed walks: vectors, turn, Rotate; the document's Softmax and Blend. -/
import Derived.Test.YtnioohhiphpplaaDoorPplaysx0
import Derived.Test.YtnioohhiphpplaaDoorQb
import Derived.Test.YtnioohhiphpplaaDoorSq
namespace Go.Proofs.YtnioohhiphpplaaDoor.Pplays
open Go.RowKit Go.Proofs.YtnioohhiphpplaaDoorW.PrintWords Go.Proofs.YtnioohhiphpplaaDoorW.PrintLast Go.Proofs.YtnioohhiphpplaaDoorW.PrintMore
attribute [local go_sem] max2_int min2_int max_two min_two
set_option linter.unusedVariables false
set_option linter.unusedSimpArgs false
def augurlaw03_In_vectors.l0 : Nat → List (List Int) → Int → List Int → List Int → List Int → List Int → List (S87) → List (List Int) → Int → Int → Int → List Int → List Int → List Int → List Int → List (List Int) → List (S87) → Int → Option ((List (List Int)))
 | 0, _, _, _, _, _, _, _, _, _, _, _, _, _, _, _, _, _, _ => none
 | k + 1, x5, x6, x326000, x326001, x326002, x326003, x326004, x326005, x327000, x327001, x327002, x327003, x327004, x327005, x327006, x327007, x327008, x327009 => if x6 < (x327007.length : Int) then (if 0 ≤ x6 then (if x6 < (x326005.length : Int) then (if 0 ≤ ((rd_L3 x327007 x6).length : Int) then (if ((rd_L3 x327007 x6).length : Int) ≤ ((rd_L3 x326005 x6).length : Int) then (if x5.length < 5864062014805 then (augurlaw03_In_vectors.l0 k (x5 ++ [((rd_L3 x326005 x6).take (((rd_L3 x327007 x6).length : Int) : Int).toNat)]) (wrap64 (x6 + 1)) x326000 x326001 x326002 x326003 x326004 x326005 x327000 x327001 x327002 x327003 x327004 x327005 x327006 x327007 x327008 x327009) else (none)) else (none)) else (none)) else (none)) else (none)) else (some x5)
def augurlaw03_In_vectors.f (k : Nat) (l0_0 : List Int) (l0_1 : List Int) (l0_2 : List Int) (l0_3 : List Int) (l0_4 : List (S87)) (l0_5 : List (List Int)) (a1_0 : Int) (a1_1 : Int) (a1_2 : Int) (l1_3 : List Int) (l1_4 : List Int) (l1_5 : List Int) (l1_6 : List Int) (l1_7 : List (List Int)) (l1_8 : List (S87)) (a1_9 : Int) : Option ((List (List Int))) := augurlaw03_In_vectors.l0 k ([] : List (List Int)) 0 l0_0 l0_1 l0_2 l0_3 l0_4 l0_5 a1_0 a1_1 a1_2 l1_3 l1_4 l1_5 l1_6 l1_7 l1_8 a1_9
def augurlaw03_In_vectors.T5 : Bool × List (List Nat × List Nat) := (true, [([], []), ([], []), ([1], [1]), ([], []), ([2, 3], [2, 3]), ([4], [4]), ([], []), ([6], [6]), ([], []), ([7, 8], [7, 8]), ([9], [9]), ([10], [10]), ([5, 11], [5, 11]), ([12], [12]), ([0, 13], [0, 13]), ([14, 14, 0, 1, 2, 3, 4, 5, 6, 7, 8, 9, 10, 11, 12, 13, 14], [0, 14])])
def augurlaw03_In_vectors.B5 : List Nat := [0, 0, 2, 0, 14, 30, 0, 64, 0, 448, 960, 1984, 4094, 8190, 16383, 32767]
theorem augurlaw03_In_vectors.tab5 : rtab .any (opsOf Tryd.f14 5) = augurlaw03_In_vectors.T5 := by kernel_rfl
theorem augurlaw03_In_vectors.bits5 : waitsOk augurlaw03_In_vectors.T5.2 augurlaw03_In_vectors.B5 = true := by kernel_rfl
set_option maxHeartbeats 8000000 in
set_option maxRecDepth 100000 in
theorem augurlaw03_In_vectors.calls (k : Nat) (A0_0 : Option Addr) (c0_0 : Nat) (l0_0 : List Int) (A0_1 : Option Addr) (c0_1 : Nat) (l0_1 : List Int) (A0_2 : Option Addr) (c0_2 : Nat) (l0_2 : List Int) (A0_3 : Option Addr) (c0_3 : Nat) (l0_3 : List Int) (A0_4 : Option Addr) (c0_4 : Nat) (l0_4 : List (S87)) (P0_5_ : Nat → Prop) (A0_5 : Option Addr) (c0_5 : Nat) (l0_5 : List (List Int)) (a1_0 : Int) (a1_1 : Int) (a1_2 : Int) (A1_3 : Option Addr) (c1_3 : Nat) (l1_3 : List Int) (A1_4 : Option Addr) (c1_4 : Nat) (l1_4 : List Int) (A1_5 : Option Addr) (c1_5 : Nat) (l1_5 : List Int) (A1_6 : Option Addr) (c1_6 : Nat) (l1_6 : List Int) (A1_7 : Option Addr) (c1_7 : Nat) (l1_7 : List (List Int)) (A1_8 : Option Addr) (c1_8 : Nat) (l1_8 : List (S87)) (a1_9 : Int) (r : List (List Int)) (w : World) (hr0_0 : Kd.C (Kd.int .i8) w A0_0 l0_0.length l0_0) (hc0_0 : l0_0.length ≤ c0_0) (hr0_1 : Kd.C (Kd.int .i8) w A0_1 l0_1.length l0_1) (hc0_1 : l0_1.length ≤ c0_1) (hr0_2 : Kd.C (Kd.int .i8) w A0_2 l0_2.length l0_2) (hc0_2 : l0_2.length ≤ c0_2) (hr0_3 : Kd.C (Kd.int .i64) w A0_3 l0_3.length l0_3) (hc0_3 : l0_3.length ≤ c0_3) (hr0_4 : Kd.C k87 w A0_4 l0_4.length l0_4) (hc0_4 : l0_4.length ≤ c0_4) (hs0_5 : Kd.V (Kd.slice 57 (Kd.int .i8)) 33 w w.heap.size (fun k_ => P0_5_ k_) (.slice A0_5 l0_5.length c0_5) l0_5) (hr1_3 : Kd.C (Kd.int .i8) w A1_3 l1_3.length l1_3) (hc1_3 : l1_3.length ≤ c1_3) (hr1_4 : Kd.C (Kd.int .i8) w A1_4 l1_4.length l1_4) (hc1_4 : l1_4.length ≤ c1_4) (hr1_5 : Kd.C (Kd.int .i8) w A1_5 l1_5.length l1_5) (hc1_5 : l1_5.length ≤ c1_5) (hr1_6 : Kd.C (Kd.int .i64) w A1_6 l1_6.length l1_6) (hc1_6 : l1_6.length ≤ c1_6) (hr1_7 : Kd.C (Kd.slice 57 (Kd.int .i8)) w A1_7 l1_7.length l1_7) (hc1_7 : l1_7.length ≤ c1_7) (hr1_8 : Kd.C k87 w A1_8 l1_8.length l1_8) (hc1_8 : l1_8.length ≤ c1_8) (h : augurlaw03_In_vectors.f k l0_0 l0_1 l0_2 l0_3 l0_4 l0_5 a1_0 a1_1 a1_2 l1_3 l1_4 l1_5 l1_6 l1_7 l1_8 a1_9 = some r) :
  Calls Tryd.prog 14 #[.agg #[.slice A0_0 l0_0.length c0_0, .slice A0_1 l0_1.length c0_1, .slice A0_2 l0_2.length c0_2, .slice A0_3 l0_3.length c0_3, .slice A0_4 l0_4.length c0_4, .slice A0_5 l0_5.length c0_5], .agg #[.int .i64 a1_0, .int .i64 a1_1, .int .i64 a1_2, .slice A1_3 l1_3.length c1_3, .slice A1_4 l1_4.length c1_4, .slice A1_5 l1_5.length c1_5, .slice A1_6 l1_6.length c1_6, .slice A1_7 l1_7.length c1_7, .slice A1_8 l1_8.length c1_8, .int .i64 a1_9]] w fun e w' => ∃ v0_ : Value, e = .returned (v0_) ∧ Kd.N (Kd.slice 57 (Kd.int .i8)) 33 w' w.heap.size (fun k_ => (P0_5_ k_ ∨ w.heap.size ≤ k_)) v0_ r ∧ Below w.heap.size w w' := by
 have hu47 := Tryd.underlying47
 have hu39 := Tryd.underlying39
 have HR0_0 := Aside0.mk hr0_0
 have HC0_0 := Aside0.mk hc0_0
 clear hr0_0 hc0_0
 have HR0_1 := Aside0.mk hr0_1
 have HC0_1 := Aside0.mk hc0_1
 clear hr0_1 hc0_1
 have HR0_2 := Aside0.mk hr0_2
 have HC0_2 := Aside0.mk hc0_2
 clear hr0_2 hc0_2
 have HR0_3 := Aside0.mk hr0_3
 have HC0_3 := Aside0.mk hc0_3
 clear hr0_3 hc0_3
 have HR0_4 := Aside0.mk hr0_4
 have HC0_4 := Aside0.mk hc0_4
 clear hr0_4 hc0_4
 have HO0_5 := Aside0.mk (show Kd.V (Kd.slice 57 (Kd.int .i8)) 33 w w.heap.size (fun k_ => (P0_5_ k_ ∨ w.heap.size ≤ k_)) (.slice A0_5 l0_5.length c0_5) l0_5 from Kd.V_mono hs0_5 (fun k_ hk => .inl hk))
 have HR1_3 := Aside0.mk hr1_3
 have HC1_3 := Aside0.mk hc1_3
 clear hr1_3 hc1_3
 have HR1_4 := Aside0.mk hr1_4
 have HC1_4 := Aside0.mk hc1_4
 clear hr1_4 hc1_4
 have HR1_5 := Aside0.mk hr1_5
 have HC1_5 := Aside0.mk hc1_5
 clear hr1_5 hc1_5
 have HR1_6 := Aside0.mk hr1_6
 have HC1_6 := Aside0.mk hc1_6
 clear hr1_6 hc1_6
 have HR1_7 := Aside0.mk hr1_7
 have HC1_7 := Aside0.mk hc1_7
 clear hr1_7 hc1_7
 have HR1_8 := Aside0.mk hr1_8
 have HC1_8 := Aside0.mk hc1_8
 clear hr1_8 hc1_8
 have HB := Aside0.mk (Below.refl w.heap.size w)
 have H : (augurlaw03_In_vectors.l0 k ([] : List (List Int)) 0 l0_0 l0_1 l0_2 l0_3 l0_4 l0_5 a1_0 a1_1 a1_2 l1_3 l1_4 l1_5 l1_6 l1_7 l1_8 a1_9) = some r := h
 clear h
 have H' := Aside0.mk H
 clear H
 go_enter Tryd.func14, Tryd.ntmps14
 go_wp2_with (first | ((with_reducible refine gate_dst (N := 2) rfl ?_); refine box_event ?hg (N := 2) ?hd (cs := #[.slice A0_0 l0_0.length c0_0, .slice A0_1 l0_1.length c0_1, .slice A0_2 l0_2.length c0_2, .slice A0_3 l0_3.length c0_3, .slice A0_4 l0_4.length c0_4, .slice A0_5 l0_5.length c0_5]) (t := 47) ?hr ?_; (case hd => rfl); (case hg => rfl); (case hr => first | (go_simp; done) | (go_simp; rfl)); intro gb325 hg w3 hbox hb; have n0_ := Aside0.mk (Kd.V_below (Kd.V_elderB (vk_ HO0_5.out) gb325 (Nat.le_of_eq hg.symm)) hb); have n1_ := Aside0.mk (below_step hb_ hb); have n2_ := Aside0.mk (hbox); have n3_ := Aside0.mk ((by rw [hg]; exact (below_size hb_) : w.heap.size ≤ gb325)); have n4_ := Aside0.mk ((by rw [hg]; exact (below_size hb_) : w.heap.size ≤ gb325)); clear HO0_5; clear HB; have HO0_5 := n0_; have HB := n1_; have BK325 := n2_; have GW325 := n3_; have GE325 := n4_; clear n0_ n1_ n2_ n3_ n4_; clear hb hbox hg) | ((with_reducible refine gate_dst (N := 3) rfl ?_); refine box_event ?hg (N := 3) ?hd (cs := #[.int .i64 a1_0, .int .i64 a1_1, .int .i64 a1_2, .slice A1_3 l1_3.length c1_3, .slice A1_4 l1_4.length c1_4, .slice A1_5 l1_5.length c1_5, .slice A1_6 l1_6.length c1_6, .slice A1_7 l1_7.length c1_7, .slice A1_8 l1_8.length c1_8, .int .i64 a1_9]) (t := 39) ?hr ?_; (case hd => rfl); (case hg => rfl); (case hr => first | (go_simp; done) | (go_simp; rfl)); intro gb326 hg w4 hbox hb; have n0_ := Aside0.mk (Kd.V_below (Kd.V_elderB (vk_ HO0_5.out) gb326 (Nat.le_of_eq hg.symm)) hb); have n1_ := Aside0.mk (blk_below (g := gb325) (o := .cells #[.slice A0_0 l0_0.length c0_0, .slice A0_1 l0_1.length c0_1, .slice A0_2 l0_2.length c0_2, .slice A0_3 l0_3.length c0_3, .slice A0_4 l0_4.length c0_4, .slice A0_5 l0_5.length c0_5] 47 (0, 0)) (bk_ BK325.out) hb); have n2_ := Aside0.mk (below_step (hs_ GE325.out) hb); have n3_ := Aside0.mk (hbox); have n4_ := Aside0.mk ((by rw [hg]; exact (below_size (hs_ GE325.out)) : w.heap.size ≤ gb326)); have n5_ := Aside0.mk ((by rw [hg]; exact (below_size (hs_ GE325.out)) : w.heap.size ≤ gb326)); have n6_ := Aside0.mk ((by rw [hg]; exact Nat.ne_of_lt (blk_lt (g := gb325) (o := .cells #[.slice A0_0 l0_0.length c0_0, .slice A0_1 l0_1.length c0_1, .slice A0_2 l0_2.length c0_2, .slice A0_3 l0_3.length c0_3, .slice A0_4 l0_4.length c0_4, .slice A0_5 l0_5.length c0_5] 47 (0, 0)) (bk_ BK325.out)) : gb325 ≠ gb326)); have n7_ := Aside0.mk ((by rw [hg]; exact Nat.ne_of_gt (blk_lt (g := gb325) (o := .cells #[.slice A0_0 l0_0.length c0_0, .slice A0_1 l0_1.length c0_1, .slice A0_2 l0_2.length c0_2, .slice A0_3 l0_3.length c0_3, .slice A0_4 l0_4.length c0_4, .slice A0_5 l0_5.length c0_5] 47 (0, 0)) (bk_ BK325.out)) : gb326 ≠ gb325)); clear HO0_5; clear BK325; clear HB; have HO0_5 := n0_; have BK325 := n1_; have HB := n2_; have BK326 := n3_; have GW326 := n4_; have GE326 := n5_; have NB325_326 := n6_; have NB326_325 := n7_; clear n0_ n1_ n2_ n3_ n4_ n5_ n6_ n7_; clear hb hbox hg))
 go_loopg [5, 6] k (fun kq v5 v6 w' => ∃ (x5_1 : List (List Int)) (x6_1 : Int), v6 = .int .i64 x6_1 ∧ Aside0 (augurlaw03_In_vectors.l0 kq x5_1 x6_1 l0_0 l0_1 l0_2 l0_3 l0_4 l0_5 a1_0 a1_1 a1_2 l1_3 l1_4 l1_5 l1_6 l1_7 l1_8 a1_9 = some r) ∧ Aside0 (kq ≤ k) ∧ Aside0 (Kd.N (Kd.slice 57 (Kd.int .i8)) 33 w' w.heap.size (fun k_ => (P0_5_ k_ ∨ w.heap.size ≤ k_) ∧ k_ ≠ gb325 ∧ k_ ≠ gb326) v5 x5_1) ∧ Aside0 (Kd.V (Kd.slice 57 (Kd.int .i8)) 33 w' w.heap.size (fun k_ => (P0_5_ k_ ∨ w.heap.size ≤ k_) ∧ some k_ ≠ (v5 : Value).ownBlock ∧ k_ ≠ gb325 ∧ k_ ≠ gb326) (.slice A0_5 l0_5.length c0_5) l0_5) ∧ Aside0 (w'.heap[gb325]? = some (.cells #[(.slice A0_0 l0_0.length c0_0), (.slice A0_1 l0_1.length c0_1), (.slice A0_2 l0_2.length c0_2), (.slice A0_3 l0_3.length c0_3), (.slice A0_4 l0_4.length c0_4), (.slice A0_5 l0_5.length c0_5)] 47 (0, 0))) ∧ Aside0 (w'.heap[gb326]? = some (.cells #[.int .i64 a1_0, .int .i64 a1_1, .int .i64 a1_2, (.slice A1_3 l1_3.length c1_3), (.slice A1_4 l1_4.length c1_4), (.slice A1_5 l1_5.length c1_5), (.slice A1_6 l1_6.length c1_6), (.slice A1_7 l1_7.length c1_7), (.slice A1_8 l1_8.length c1_8), .int .i64 a1_9] 39 (0, 0))) ∧ Aside0 (Below w.heap.size w w'))
 case atStart => exact ⟨(([] : List (List Int))), (0), eqx_, H', ⟨Nat.le_refl _⟩, ⟨by first | exact Kd.S_nil _ _ _ _ _ | exact Kd.N_nil _ _ _ _ _ | exact Kd.V_nil _ _ _ _ _ | exact Kd.Q_nil _ _ _ _ _ | exact Kd.R_nil _ _ _ _ _⟩, ⟨by (with_reducible repeat (first | apply Kd.V_alloc | apply Kd.V_drewN | apply Kd.V_drew)); exact Kd.V_mono HO0_5.out (fun _ hk => ⟨hk.1.1, ⟨(by simp [Value.ownBlock]), ⟨hk.1.2, hk.2⟩⟩⟩)⟩, ⟨bk_ BK325.out⟩, ⟨bk_ BK326.out⟩, ⟨by repeat (first | (with_reducible first | exact HB.out | apply below_alloc | apply pw_below_drewN | apply below_drew1 | refine below_set ?_ GE325.out | refine below_set ?_ GE326.out) | exact HB.out)⟩⟩
 case round =>
  clear H'
  try clear c1
  try clear p2
  obtain ⟨x5_1, x6_1, rfl, HA, HK1, HO_5, HO_326005, BK325, BK326, HB⟩ := hrel
  cases gk with
  | zero => exact absurd HA.out (by simp [augurlaw03_In_vectors.l0])
  | succ k1 =>
   have H := HA.out
   clear HA
   simp only [augurlaw03_In_vectors.l0] at H
   by_cases c5 : x6_1 < (l1_7.length : Int)
   ·rw [if_pos c5] at H
    have c5b0 : decide (x6_1 < (l1_7.length : Int)) = true := decide_eq_true c5
    clear c5
    by_cases c6 : 0 ≤ x6_1
    ·rw [if_pos c6] at H
     have c6b0 : decide (0 ≤ x6_1) = true := decide_eq_true c6
     clear c6
     by_cases c7 : x6_1 < (l0_5.length : Int)
     ·rw [if_pos c7] at H
      have c7b0 : decide (x6_1 < (l0_5.length : Int)) = true := decide_eq_true c7
      clear c7
      by_cases c8 : 0 ≤ ((rd_L3 l1_7 x6_1).length : Int)
      ·rw [if_pos c8] at H
       have c8b0 := eq_true c8
       have c8b1 : decide (0 ≤ ((rd_L3 l1_7 x6_1).length : Int)) = true := decide_eq_true c8
       clear c8
       by_cases c9 : ((rd_L3 l1_7 x6_1).length : Int) ≤ ((rd_L3 l0_5 x6_1).length : Int)
       ·rw [if_pos c9] at H
        have c9b0 := eq_true c9
        have c9b1 : decide (((rd_L3 l1_7 x6_1).length : Int) ≤ ((rd_L3 l0_5 x6_1).length : Int)) = true := decide_eq_true c9
        clear c9
        obtain ⟨y329, hy329⟩ : ∃ y_ : List Int, y_ = ((rd_L3 l0_5 x6_1).take (((rd_L3 l1_7 x6_1).length : Int) : Int).toNat) := ⟨_, rfl⟩
        replace H : (if x5_1.length < 5864062014805 then (augurlaw03_In_vectors.l0 k1 (x5_1 ++ [y329]) (wrap64 (x6_1 + 1)) l0_0 l0_1 l0_2 l0_3 l0_4 l0_5 a1_0 a1_1 a1_2 l1_3 l1_4 l1_5 l1_6 l1_7 l1_8 a1_9) else (none)) = some r := rh_ hy329 H
        have Ny329 := Aside0.mk hy329
        clear hy329
        by_cases c10 : x5_1.length < 5864062014805
        ·rw [if_pos c10] at H
         have LMc10 := Aside0.mk c10
         clear c10
         obtain ⟨y334, hy334⟩ : ∃ y_ : List (List Int), y_ = (x5_1 ++ [y329]) := ⟨_, rfl⟩
         replace H : (augurlaw03_In_vectors.l0 k1 y334 (wrap64 (x6_1 + 1)) l0_0 l0_1 l0_2 l0_3 l0_4 l0_5 a1_0 a1_1 a1_2 l1_3 l1_4 l1_5 l1_6 l1_7 l1_8 a1_9) = some r := rh_ hy334 H
         have Ny334 := Aside0.mk hy334
         clear hy334
         have H' := Aside0.mk H
         clear H
         have hnb11 := NB326_325.out
         have hnc11 := NB325_326.out
         have hcz12_0 : wr.cell? ⟨gb326, 0, none⟩ = some (.int .i64 a1_0) := (blk_cell BK326.out 0).trans rfl
         have hcz12_1 : wr.cell? ⟨gb326, 1, none⟩ = some (.int .i64 a1_1) := (blk_cell BK326.out 1).trans rfl
         have hcz12_2 : wr.cell? ⟨gb326, 2, none⟩ = some (.int .i64 a1_2) := (blk_cell BK326.out 2).trans rfl
         have hcz12_3 : wr.cell? ⟨gb326, 3, none⟩ = some (.slice A1_3 l1_3.length c1_3) := (blk_cell BK326.out 3).trans rfl
         have hcz12_4 : wr.cell? ⟨gb326, 4, none⟩ = some (.slice A1_4 l1_4.length c1_4) := (blk_cell BK326.out 4).trans rfl
         have hcz12_5 : wr.cell? ⟨gb326, 5, none⟩ = some (.slice A1_5 l1_5.length c1_5) := (blk_cell BK326.out 5).trans rfl
         have hcz12_6 : wr.cell? ⟨gb326, 6, none⟩ = some (.slice A1_6 l1_6.length c1_6) := (blk_cell BK326.out 6).trans rfl
         have hcz12_7 : wr.cell? ⟨gb326, 7, none⟩ = some (.slice A1_7 l1_7.length c1_7) := (blk_cell BK326.out 7).trans rfl
         have hcz12_8 : wr.cell? ⟨gb326, 8, none⟩ = some (.slice A1_8 l1_8.length c1_8) := (blk_cell BK326.out 8).trans rfl
         have hcz12_9 : wr.cell? ⟨gb326, 9, none⟩ = some (.int .i64 a1_9) := (blk_cell BK326.out 9).trans rfl
         have hfz12_0 := blk_frozen BK326.out 0
         have hfz12_1 := blk_frozen BK326.out 1
         have hfz12_2 := blk_frozen BK326.out 2
         have hfz12_3 := blk_frozen BK326.out 3
         have hfz12_4 := blk_frozen BK326.out 4
         have hfz12_5 := blk_frozen BK326.out 5
         have hfz12_6 := blk_frozen BK326.out 6
         have hfz12_7 := blk_frozen BK326.out 7
         have hfz12_8 := blk_frozen BK326.out 8
         have hfz12_9 := blk_frozen BK326.out 9
         try go_wp2
         have n0_ := Aside0.mk (Kd.N_drew HO_5.out)
         have n1_ := Aside0.mk (Kd.V_drew HO_326005.out)
         have n2_ := Aside0.mk (blk_drew BK325.out)
         have n3_ := Aside0.mk (blk_drew BK326.out)
         have n4_ := Aside0.mk (below_drew1 HB.out)
         clear HO_5
         clear HO_326005
         clear BK325
         clear BK326
         clear HB
         have HO_5 := n0_
         have HO_326005 := n1_
         have BK325 := n2_
         have BK326 := n3_
         have HB := n4_
         clear n0_ n1_ n2_ n3_ n4_
         have p327 : 0 ≤ (x6_1 : Int) := of_decide_eq_true as_
         have q327 : x6_1 < (l0_5.length : Int) := of_decide_eq_true as_
         obtain ⟨ad327, A327_0, c327_0, e327, hx327_0, hl327_0, hi327_0⟩ := at_L3 (Kd.V_reads' HO_326005.out).2.2 x6_1 p327 q327
         cases e327
         obtain ⟨ce327, hce327, hMe327, hcc327⟩ := Kd.V_get HO_326005.out [] x6_1 p327 (by first | exact q327 | exact of_decide_eq_true as_ | (have e_ := (Kd.V_reads' HO_326005.out).1; omega))
         obtain ⟨ua327_0, uc327_0, rfl, ul327_0, ge327_0⟩ := Kd.FK_slice_open hMe327
         have hv327_0 := hcc327 0 _ rfl
         rw [Nat.add_zero, show ((Kd.slice 57 (Kd.int .i8))).sz = 1 from rfl, Nat.mul_one] at hv327_0
         replace hv327_0 := Option.some.inj (hv327_0.symm.trans hx327_0)
         injection hv327_0 with hva_ hvn_ hvc_
         rw [hva_] at ge327_0
         rw [hvc_] at ul327_0
         have HL327_0 := Aside0.mk (show Kd.V (Kd.int .i8) 57 _ w.heap.size _ _ (rd_L3 l0_5 x6_1) from Kd.V_mk ul327_0 ge327_0)
         clear hva_ hvn_ hvc_ ge327_0 ul327_0
         clear hcc327 hce327
         have HR327_0 := Aside0.mk hi327_0
         have HC327_0 := Aside0.mk hl327_0
         clear hi327_0 hl327_0
         replace p327 := eq_true p327
         replace q327 := eq_true q327
         have p328 : 0 ≤ (x6_1 : Int) := of_decide_eq_true as_
         have q328 : x6_1 < (l1_7.length : Int) := of_decide_eq_true as_
         obtain ⟨ad328, A328_0, c328_0, e328, hx328_0, hl328_0, hi328_0⟩ := at_L3 HR1_7.out x6_1 p328 q328
         have hw328_0 := hx328_0
         cases e328
         replace hx328_0 := (HB.out.cell (World.block_lt_of_cell? w _ hx328_0)).trans hx328_0
         have HR328_0 := Aside0.mk hi328_0
         have HC328_0 := Aside0.mk hl328_0
         clear hi328_0 hl328_0
         replace p328 := eq_true p328
         replace q328 := eq_true q328
         have q14 : (((rd_L3 l1_7 x6_1).length : Int) : Int) ≤ (((rd_L3 l0_5 x6_1).length : Int) : Int) := of_decide_eq_true as_
         obtain ⟨i014, hi014, _, hsz14, _⟩ := info_parts info57
         have hroom14 : (rd_L3 l0_5 x6_1).length ≤ c327_0 := HC327_0.out
         have hC14 : Kd.F (Kd.int .i8) _ _ A327_0 (rd_L3 l0_5 x6_1).length (rd_L3 l0_5 x6_1) := (Kd.V_at (base := w.heap.size) HL327_0.out).2.2
         have hcut14 := cut_to (P := Tryd.prog) 33 57 .i64 Tryd.underlying33 hi014 A327_0 (rd_L3 l0_5 x6_1).length c327_0 ((rd_L3 l1_7 x6_1).length : Int) (of_decide_eq_true as_) q14 hroom14
         have hr14 := Kd.F_take (m := (((rd_L3 l1_7 x6_1).length : Int) : Int).toNat) hC14 (by omega)
         have hy14 : y329.length = (((rd_L3 l1_7 x6_1).length : Int) : Int).toNat := (by rw [Ny329.out, List.length_take]; omega)
         rw [← Ny329.out] at hr14
         rw [← hy14] at hcut14
         have HO333 := Aside0.mk (show Kd.V (Kd.int .i8) 57 _ w.heap.size _ (.slice A327_0 y329.length c327_0) y329 from Kd.V_mk (by omega) hr14)
         have HC333 := Aside0.mk (show y329.length ≤ c327_0 from by omega)
         clear hr14 hC14 hroom14 hi014 hsz14
         have KY14 := Aside0.mk hy14
         clear hy14
         replace q14 := eq_true q14
         refine start_ (n := 16) (S := fun w' => w'.cell? ⟨gb325, 0, none⟩ = some (.slice A0_0 l0_0.length c0_0) ∧ w'.cell? ⟨gb325, 1, none⟩ = some (.slice A0_1 l0_1.length c0_1) ∧ w'.cell? ⟨gb325, 2, none⟩ = some (.slice A0_2 l0_2.length c0_2) ∧ w'.cell? ⟨gb325, 3, none⟩ = some (.slice A0_3 l0_3.length c0_3) ∧ w'.cell? ⟨gb325, 4, none⟩ = some (.slice A0_4 l0_4.length c0_4) ∧ w'.cell? ⟨gb325, 5, none⟩ = some (.slice (some ad327) l0_5.length c0_5) ∧ w'.cell? ⟨gb326, 0, none⟩ = some (.int .i64 a1_0) ∧ w'.cell? ⟨gb326, 1, none⟩ = some (.int .i64 a1_1) ∧ w'.cell? ⟨gb326, 2, none⟩ = some (.int .i64 a1_2) ∧ w'.cell? ⟨gb326, 3, none⟩ = some (.slice A1_3 l1_3.length c1_3) ∧ w'.cell? ⟨gb326, 4, none⟩ = some (.slice A1_4 l1_4.length c1_4) ∧ w'.cell? ⟨gb326, 5, none⟩ = some (.slice A1_5 l1_5.length c1_5) ∧ w'.cell? ⟨gb326, 6, none⟩ = some (.slice A1_6 l1_6.length c1_6) ∧ w'.cell? ⟨gb326, 7, none⟩ = some (.slice (some ad328) l1_7.length c1_7) ∧ w'.cell? ⟨gb326, 8, none⟩ = some (.slice A1_8 l1_8.length c1_8) ∧ w'.cell? ⟨gb326, 9, none⟩ = some (.int .i64 a1_9) ∧ w'.cell? (ad327.add (x6_1).toNat) = some (.slice A327_0 (rd_L3 l0_5 x6_1).length c327_0) ∧ w'.cell? (ad328.add (x6_1).toNat) = some (.slice A328_0 (rd_L3 l1_7 x6_1).length c328_0)) (ds := [13, 14]) #[false, false, false, false, false, false, false, false, false, false, false, false, false, false, false, false] (by kernel_rfl) rfl rfl ⟨(blk_cell BK325.out 0).trans rfl, (blk_cell BK325.out 1).trans rfl, (blk_cell BK325.out 2).trans rfl, (blk_cell BK325.out 3).trans rfl, (blk_cell BK325.out 4).trans rfl, (blk_cell BK325.out 5).trans rfl, (blk_cell BK326.out 0).trans rfl, (blk_cell BK326.out 1).trans rfl, (blk_cell BK326.out 2).trans rfl, (blk_cell BK326.out 3).trans rfl, (blk_cell BK326.out 4).trans rfl, (blk_cell BK326.out 5).trans rfl, (blk_cell BK326.out 6).trans rfl, (blk_cell BK326.out 7).trans rfl, (blk_cell BK326.out 8).trans rfl, (blk_cell BK326.out 9).trans rfl, hx327_0, ((HB.out.cell (World.block_lt_of_cell? w _ hw328_0)).trans hw328_0)⟩ (fun hHeld => ?_); refine with_tabW augurlaw03_In_vectors.tab5 augurlaw03_In_vectors.bits5 (fun HT_ HW_ => ?_)
         generalize wr.drew = w13 at HO_5 HO_326005 BK325 BK326 HB HL327_0 HO333 HR327_0 HR328_0 hx327_0 hx328_0 hHeld ⊢
         refine puT_ 0 14 ?_
         refine puT_ 1 15 ?_
         refine puT_ 3 17 ?_
         refine puT_ 6 20 ?_
         refine puT_ 8 22 ?_
         refine tkT_ 2 16 hHeld ?_
         refine puT_ 4 18 ?_
         refine tkT_ 5 19 hHeld ?_
         refine tkT_ 7 21 hHeld ?_
         refine puT_ 9 23 ?_
         refine tkT_ 10 24 hHeld ?_
         refine puT_ 11 25 ?_
         refine puT_ 12 26 ?_
         refine last_ (i := 13) (N := some 27) #[true, true, true, true, true, true, true, true, true, true, true, true, true, true, false, false] rfl rfl (one_of HT_.out (by kernel_rfl)) (by decide) (fun K hK => ?_)
         refine value_ (w1 := ?_) (v := ?_) (by rfl) rfl ?_ ?_
         rotate_left 2
         ·go_simp
          constructor
          ·rfl
          ·rfl
         refine hK.out _ _ ?_
         clear hK K
         refine nm_ 27 ?_
         refine last_ (i := 14) (N := some 28) #[true, true, true, true, true, true, true, true, true, true, true, true, true, true, true, false] rfl rfl (one_of HT_.out (by kernel_rfl)) (by decide) (fun K hK => ?_)
         refine Kd.N_append_step (Kd.slice 57 (Kd.int .i8)) (w0 := w) w.heap.size (by rfl) (.tmp 14) (.tmp 27) 36 33 (.slice none 0 0) 24 rfl Tryd.underlying36 info33 rfl (by decide) (by omega) u5 x5_1 y329 [.slice A327_0 y329.length c327_0] (fun k_ => (P0_5_ k_ ∨ w.heap.size ≤ k_) ∧ k_ ≠ gb325 ∧ k_ ≠ gb326) (fun k_ => ((fun k_ => (P0_5_ k_ ∨ w.heap.size ≤ k_) ∧ k_ ≠ gb325 ∧ k_ ≠ gb326)) k_ ∧ some k_ ≠ (u5 : Value).ownBlock) rfl rfl ?aP (fun _ hk => hk) ?aF ?aO ?aB ?aS ?aL ?_
         (case aP => exact (Kd.FK_slice_mk (Kd.V_reads' (Kd.V_mono (ok' := (fun k_ => ((fun k_ => (P0_5_ k_ ∨ w.heap.size ≤ k_) ∧ k_ ≠ gb325 ∧ k_ ≠ gb326)) k_ ∧ some k_ ≠ (u5 : Value).ownBlock)) (HO333.out) (fun k_ hk => ⟨⟨hk.1, ⟨hk.2.2.1, hk.2.2.2⟩⟩, hk.2.1⟩))).2.1 (Kd.V_F (Kd.V_mono (ok' := (fun k_ => ((fun k_ => (P0_5_ k_ ∨ w.heap.size ≤ k_) ∧ k_ ≠ gb325 ∧ k_ ≠ gb326)) k_ ∧ some k_ ≠ (u5 : Value).ownBlock)) (HO333.out) (fun k_ hk => ⟨⟨hk.1, ⟨hk.2.2.1, hk.2.2.2⟩⟩, hk.2.1⟩)))))
         (case aB => exact (by repeat (first | (with_reducible first | exact HB.out | apply below_alloc | apply pw_below_drewN | apply below_drew1 | refine below_set ?_ GE325.out | refine below_set ?_ GE326.out) | exact HB.out)))
         (case aF => exact (fun k_ hk => ⟨(.inr (Nat.le_trans (below_size (by repeat (first | (with_reducible first | exact HB.out | apply below_alloc | apply pw_below_drewN | apply below_drew1 | refine below_set ?_ GE325.out | refine below_set ?_ GE326.out) | exact HB.out))) hk)), Kd.freshB (g := gb325) (o := .cells #[.slice A0_0 l0_0.length c0_0, .slice A0_1 l0_1.length c0_1, .slice A0_2 l0_2.length c0_2, .slice A0_3 l0_3.length c0_3, .slice A0_4 l0_4.length c0_4, .slice (some ad327) l0_5.length c0_5] 47 (0, 0)) (bk_ BK325.out) k_ hk, Kd.freshB (g := gb326) (o := .cells #[.int .i64 a1_0, .int .i64 a1_1, .int .i64 a1_2, .slice A1_3 l1_3.length c1_3, .slice A1_4 l1_4.length c1_4, .slice A1_5 l1_5.length c1_5, .slice A1_6 l1_6.length c1_6, .slice (some ad328) l1_7.length c1_7, .slice A1_8 l1_8.length c1_8, .int .i64 a1_9] 39 (0, 0)) (bk_ BK326.out) k_ hk⟩))
         (case aO => exact (by (with_reducible repeat (first | apply Kd.N_alloc | apply Kd.N_drewN | apply Kd.N_drew)); exact HO_5.out))
         (case aS => exact (below_size (by repeat (first | (with_reducible first | exact HB.out | apply below_alloc | apply pw_below_drewN | apply below_drew1 | refine below_set ?_ GE325.out | refine below_set ?_ GE326.out) | exact HB.out))))
         (case aL => have := LMc10.out; omega)
         intro v335 w15 ho hb hg hat
         rw [← Ny334.out] at ho
         have n0_ := Aside0.mk (Kd.V_afterv (ok := (fun k_ => (P0_5_ k_ ∨ w.heap.size ≤ k_) ∧ k_ ≠ gb325 ∧ k_ ≠ gb326)) (by (with_reducible repeat (first | apply Kd.V_alloc | apply Kd.V_drewN | apply Kd.V_drew)); exact Kd.V_mono HO_326005.out (fun _ hk => ⟨⟨hk.1, ⟨hk.2.2.1, hk.2.2.2⟩⟩, hk.2.1⟩)) hg hat)
         have n1_ := Aside0.mk (blk_grown (g := gb325) (o := .cells #[.slice A0_0 l0_0.length c0_0, .slice A0_1 l0_1.length c0_1, .slice A0_2 l0_2.length c0_2, .slice A0_3 l0_3.length c0_3, .slice A0_4 l0_4.length c0_4, .slice (some ad327) l0_5.length c0_5] 47 (0, 0)) (bk_ BK325.out) hg (Kd.N_ne HO_5.out BK325.out (by decide)))
         have n2_ := Aside0.mk (blk_grown (g := gb326) (o := .cells #[.int .i64 a1_0, .int .i64 a1_1, .int .i64 a1_2, .slice A1_3 l1_3.length c1_3, .slice A1_4 l1_4.length c1_4, .slice A1_5 l1_5.length c1_5, .slice A1_6 l1_6.length c1_6, .slice (some ad328) l1_7.length c1_7, .slice A1_8 l1_8.length c1_8, .int .i64 a1_9] 39 (0, 0)) (bk_ BK326.out) hg (Kd.N_ne HO_5.out BK326.out (by decide)))
         have n3_ := Aside0.mk (Kd.V_afterv (ok := (fun k_ => (P0_5_ k_ ∨ w.heap.size ≤ k_) ∧ k_ ≠ gb325 ∧ k_ ≠ gb326)) (by (with_reducible repeat (first | apply Kd.V_alloc | apply Kd.V_drewN | apply Kd.V_drew)); exact Kd.V_mono HL327_0.out (fun _ hk => ⟨⟨hk.1, ⟨hk.2.2.1, hk.2.2.2⟩⟩, hk.2.1⟩)) hg hat)
         have n4_ := Aside0.mk (Kd.V_afterv (ok := (fun k_ => (P0_5_ k_ ∨ w.heap.size ≤ k_) ∧ k_ ≠ gb325 ∧ k_ ≠ gb326)) (by (with_reducible repeat (first | apply Kd.V_alloc | apply Kd.V_drewN | apply Kd.V_drew)); exact Kd.V_mono HO333.out (fun _ hk => ⟨⟨hk.1, ⟨hk.2.2.1, hk.2.2.2⟩⟩, hk.2.1⟩)) hg hat)
         have n5_ := Aside0.mk (hb)
         have n6_ := Aside0.mk (ho)
         clear HO_326005
         clear BK325
         clear BK326
         clear HL327_0
         clear HO333
         clear HB
         clear HO_5
         have HO_326005 := n0_
         have BK325 := n1_
         have BK326 := n2_
         have HL327_0 := n3_
         have HO333 := n4_
         have HB := n5_
         have HO336 := n6_
         clear n0_ n1_ n2_ n3_ n4_ n5_ n6_
         clear ho hb hg hat
         refine hK.out _ _ ?_
         clear hK K
         refine nm_ 28 ?_
         refine puT_ 15 5 ?_
         refine dnT_ ?_
         try go_wp2
         go_roundg k1
         case measure => have := HK1.out; omega
         case rel => exact ⟨(y334), (wrap64 (x6_1 + 1)), eqx_, H', ⟨by have := HK1.out; omega⟩, ⟨by (with_reducible repeat (first | apply Kd.N_alloc | apply Kd.N_drewN | apply Kd.N_drew)); exact HO336.out⟩, ⟨by (with_reducible repeat (first | apply Kd.V_alloc | apply Kd.V_drewN | apply Kd.V_drew)); exact Kd.V_mono HO_326005.out (fun _ hk => ⟨hk.1.1, ⟨hk.2, ⟨hk.1.2.1, hk.1.2.2⟩⟩⟩)⟩, ⟨bk_ BK325.out⟩, ⟨bk_ BK326.out⟩, ⟨by repeat (first | (with_reducible first | exact HB.out | apply below_alloc | apply pw_below_drewN | apply below_drew1 | refine below_set ?_ GE325.out | refine below_set ?_ GE326.out) | exact HB.out)⟩⟩
        ·rw [if_neg c10] at H
         exact absurd H (by simp)
       ·rw [if_neg c9] at H
        exact absurd H (by simp)
      ·rw [if_neg c8] at H
       exact absurd H (by simp)
     ·rw [if_neg c7] at H
      exact absurd H (by simp)
    ·rw [if_neg c6] at H
     exact absurd H (by simp)
   ·rw [if_neg c5] at H
    have c5b0 : decide (x6_1 < (l1_7.length : Int)) = false := decide_eq_false c5
    clear c5
    obtain rfl := Option.some.inj H
    have hnb16 := NB326_325.out
    have hnc16 := NB325_326.out
    have hcz17_0 : wr.cell? ⟨gb326, 0, none⟩ = some (.int .i64 a1_0) := (blk_cell BK326.out 0).trans rfl
    have hcz17_1 : wr.cell? ⟨gb326, 1, none⟩ = some (.int .i64 a1_1) := (blk_cell BK326.out 1).trans rfl
    have hcz17_2 : wr.cell? ⟨gb326, 2, none⟩ = some (.int .i64 a1_2) := (blk_cell BK326.out 2).trans rfl
    have hcz17_3 : wr.cell? ⟨gb326, 3, none⟩ = some (.slice A1_3 l1_3.length c1_3) := (blk_cell BK326.out 3).trans rfl
    have hcz17_4 : wr.cell? ⟨gb326, 4, none⟩ = some (.slice A1_4 l1_4.length c1_4) := (blk_cell BK326.out 4).trans rfl
    have hcz17_5 : wr.cell? ⟨gb326, 5, none⟩ = some (.slice A1_5 l1_5.length c1_5) := (blk_cell BK326.out 5).trans rfl
    have hcz17_6 : wr.cell? ⟨gb326, 6, none⟩ = some (.slice A1_6 l1_6.length c1_6) := (blk_cell BK326.out 6).trans rfl
    have hcz17_7 : wr.cell? ⟨gb326, 7, none⟩ = some (.slice A1_7 l1_7.length c1_7) := (blk_cell BK326.out 7).trans rfl
    have hcz17_8 : wr.cell? ⟨gb326, 8, none⟩ = some (.slice A1_8 l1_8.length c1_8) := (blk_cell BK326.out 8).trans rfl
    have hcz17_9 : wr.cell? ⟨gb326, 9, none⟩ = some (.int .i64 a1_9) := (blk_cell BK326.out 9).trans rfl
    have hfz17_0 := blk_frozen BK326.out 0
    have hfz17_1 := blk_frozen BK326.out 1
    have hfz17_2 := blk_frozen BK326.out 2
    have hfz17_3 := blk_frozen BK326.out 3
    have hfz17_4 := blk_frozen BK326.out 4
    have hfz17_5 := blk_frozen BK326.out 5
    have hfz17_6 := blk_frozen BK326.out 6
    have hfz17_7 := blk_frozen BK326.out 7
    have hfz17_8 := blk_frozen BK326.out 8
    have hfz17_9 := blk_frozen BK326.out 9
    go_wp2
    go_ret
    exact ⟨_, er_, by (with_reducible repeat (first | apply Kd.N_alloc | apply Kd.N_drewN | apply Kd.N_drew)); exact Kd.N_mono HO_5.out (fun _ hk => hk.1), by repeat (first | (with_reducible first | exact HB.out | apply below_alloc | apply pw_below_drewN | apply below_drew1 | refine below_set ?_ GE325.out | refine below_set ?_ GE326.out) | exact HB.out)⟩
def tensor_products_int64_int8.l0 : Nat → List Int → List Int → Int → Int → Int → Option (Int)
 | 0, _, _, _, _, _ => none
 | k + 1, x0, x1, x5, x8, x9 => if x9 < x8 then (if 0 ≤ x9 then (if x9 < (x0.length : Int) then (if x9 < (x1.length : Int) then (tensor_products_int64_int8.l0 k x0 x1 (wrap64 (x5 + (wrap64 ((rd x0 x9) * (wrap64 (rd x1 x9)))))) x8 (wrap64 (x9 + 1))) else (none)) else (none)) else (none)) else (some x5)
def tensor_products_int64_int8.f (k : Nat) (l0 : List Int) (l1 : List Int) : Option (Int) := tensor_products_int64_int8.l0 k l0 l1 0 (l0.length : Int) 0
set_option maxHeartbeats 8000000 in
set_option maxRecDepth 100000 in
theorem tensor_products_int64_int8.calls (k : Nat) (A0 : Option Addr) (c0 : Nat) (l0 : List Int) (A1 : Option Addr) (c1 : Nat) (l1 : List Int) (r : Int) (w : World) (hr0 : Kd.C (Kd.int .i64) w A0 l0.length l0) (hc0 : l0.length ≤ c0) (hr1 : Kd.C (Kd.int .i8) w A1 l1.length l1) (hc1 : l1.length ≤ c1) (h : tensor_products_int64_int8.f k l0 l1 = some r) :
  Calls Tryd.prog 68 #[.slice A0 l0.length c0, .slice A1 l1.length c1] w fun e w' => e = .returned (.int .i64 r) ∧ Drawn0 w w' := by
 have HR0 := Aside0.mk hr0
 have HC0 := Aside0.mk hc0
 clear hr0 hc0
 have HR1 := Aside0.mk hr1
 have HC1 := Aside0.mk hc1
 clear hr1 hc1
 have H : (tensor_products_int64_int8.l0 k l0 l1 0 (l0.length : Int) 0) = some r := h
 clear h
 have H' := Aside0.mk H
 clear H
 go_enter Tryd.func68, Tryd.ntmps68
 go_wp2
 repeat (go_quiet (fail); try go_wp2)
 go_loopg [5, 9] k (fun kq v5 v9 w' => ∃ (x5_1 : Int) (x9_1 : Int), v5 = .int .i64 x5_1 ∧ v9 = .int .i64 x9_1 ∧ Aside0 (tensor_products_int64_int8.l0 kq l0 l1 x5_1 (l0.length : Int) x9_1 = some r) ∧ Aside0 (kq ≤ k) ∧ Drawn0 w w')
 case atStart => exact ⟨(0), (0), eqx_, eqx_, H', ⟨Nat.le_refl _⟩, dr_⟩
 case round =>
  clear H'
  try clear c1
  try clear p2
  obtain ⟨x5_1, x9_1, rfl, rfl, HA, HK1, ⟨m1, rfl⟩⟩ := hrel
  cases gk with
  | zero => exact absurd HA.out (by simp [tensor_products_int64_int8.l0])
  | succ k1 =>
   have H := HA.out
   clear HA
   simp only [tensor_products_int64_int8.l0] at H
   by_cases c3 : x9_1 < (l0.length : Int)
   ·rw [if_pos c3] at H
    have c3b0 : decide (x9_1 < (l0.length : Int)) = true := decide_eq_true c3
    clear c3
    by_cases c4 : 0 ≤ x9_1
    ·rw [if_pos c4] at H
     have c4b0 : decide (0 ≤ x9_1) = true := decide_eq_true c4
     clear c4
     by_cases c5 : x9_1 < (l0.length : Int)
     ·rw [if_pos c5] at H
      have c5b0 : decide (x9_1 < (l0.length : Int)) = true := decide_eq_true c5
      clear c5
      by_cases c6 : x9_1 < (l1.length : Int)
      ·rw [if_pos c6] at H
       have c6b0 : decide (x9_1 < (l1.length : Int)) = true := decide_eq_true c6
       clear c6
       have H' := Aside0.mk H
       clear H
       have p337 : 0 ≤ (x9_1 : Int) := of_decide_eq_true as_
       have q337 : x9_1 < (l0.length : Int) := of_decide_eq_true as_
       obtain ⟨ad337, e337, hx337_0⟩ := Kd.at_int HR0.out x9_1 p337 q337
       cases e337
       replace p337 := eq_true p337
       replace q337 := eq_true q337
       have p338 : 0 ≤ (x9_1 : Int) := of_decide_eq_true as_
       have q338 : x9_1 < (l1.length : Int) := of_decide_eq_true as_
       obtain ⟨ad338, e338, hx338_0⟩ := Kd.at_int HR1.out x9_1 p338 q338
       cases e338
       replace p338 := eq_true p338
       replace q338 := eq_true q338
       go_wp2
       repeat (go_quiet (fail); try go_wp2)
       go_roundg k1
       case measure => have := HK1.out; omega
       case rel => exact ⟨(wrap64 (x5_1 + (wrap64 ((rd l0 x9_1) * (wrap64 (rd l1 x9_1)))))), (wrap64 (x9_1 + 1)), eqx_, eqx_, H', ⟨by have := HK1.out; omega⟩, dr_⟩
      ·rw [if_neg c6] at H
       exact absurd H (by simp)
     ·rw [if_neg c5] at H
      exact absurd H (by simp)
    ·rw [if_neg c4] at H
     exact absurd H (by simp)
   ·rw [if_neg c3] at H
    have c3b0 : decide (x9_1 < (l0.length : Int)) = false := decide_eq_false c3
    clear c3
    obtain rfl := Option.some.inj H
    go_wp2
    repeat (go_quiet (fail); try go_wp2)
    go_ret
    exact ⟨eqx_, dr_⟩
def tensor_turn.f (a0 : Int) (a1 : Int) (a2_0 : Int) (a2_1 : Int) : Option (Int × Int) := (fix_Shift.f (wrap64 ((wrap64 (a0 * a2_0)) - (wrap64 (a1 * a2_1)))) 14).bind fun t357 => ((fix_Shift.f (wrap64 ((wrap64 (a0 * a2_1)) + (wrap64 (a1 * a2_0)))) 14).bind fun t358 => (some (t357, t358)))
def tensor_turn.T1 : Bool × List (List Nat × List Nat) := (true, [([], []), ([], []), ([1], [1]), ([0, 2], [0, 2]), ([], []), ([], []), ([5], [5]), ([4, 6], [4, 6]), ([3, 7], [3, 7]), ([8], [8]), ([], []), ([], []), ([11], [11]), ([10, 12], [10, 12]), ([], []), ([], []), ([15], [15]), ([14, 16], [14, 16]), ([13, 17], [13, 17]), ([18, 9], [18]), ([9, 19, 0, 1, 2, 3, 4, 5, 6, 7, 8, 9], [9]), ([19, 20, 0, 1, 2, 3, 4, 5, 6, 7, 8, 9, 10, 11, 12, 13, 14, 15, 16, 17, 18, 19, 20], [19])])
def tensor_turn.B1 : List Nat := [0, 0, 2, 7, 0, 0, 32, 112, 255, 511, 0, 0, 2048, 7168, 0, 0, 32768, 114688, 261120, 524287, 1048575, 2097151]
theorem tensor_turn.tab1 : rtab .any (opsOf Tryd.f69 1) = tensor_turn.T1 := by kernel_rfl
theorem tensor_turn.bits1 : waitsOk tensor_turn.T1.2 tensor_turn.B1 = true := by kernel_rfl
set_option maxHeartbeats 8000000 in
set_option maxRecDepth 100000 in
theorem tensor_turn.calls (a0 : Int) (a1 : Int) (a2_0 : Int) (a2_1 : Int) (r1 : Int) (r2 : Int) (w : World) (h : tensor_turn.f a0 a1 a2_0 a2_1 = some (r1, r2)) :
  Calls Tryd.prog 69 #[.int .i64 a0, .int .i64 a1, .agg #[.int .i64 a2_0, .int .i64 a2_1]] w fun e w' => e = .returned (.tuple #[.int .i64 r1, .int .i64 r2]) ∧ Below w.heap.size w w' := by
 have hu87 := Tryd.underlying87
 have HB := Aside0.mk (Below.refl w.heap.size w)
 have H : ((fix_Shift.f (wrap64 ((wrap64 (a0 * a2_0)) - (wrap64 (a1 * a2_1)))) 14).bind fun t357 => ((fix_Shift.f (wrap64 ((wrap64 (a0 * a2_1)) + (wrap64 (a1 * a2_0)))) 14).bind fun t358 => (some (t357, t358)))) = some (r1, r2) := h
 clear h
 replace H := Option.bind_eq_some_iff.mp H
 obtain ⟨t357, A40, H⟩ := H
 replace H : ((fix_Shift.f (wrap64 ((wrap64 (a0 * a2_1)) + (wrap64 (a1 * a2_0)))) 14).bind fun t358 => (some (t357, t358))) = some (r1, r2) := H
 have A4 := Aside0.mk A40
 clear A40
 replace H := Option.bind_eq_some_iff.mp H
 obtain ⟨t358, A50, H⟩ := H
 replace H : (some (t357, t358)) = some (r1, r2) := H
 have A5 := Aside0.mk A50
 clear A50
 simp only [Option.some.injEq, Prod.mk.injEq] at H
 obtain ⟨rfl, rfl⟩ := H
 go_enter Tryd.func69, Tryd.ntmps69
 try go_wp2_with (first | ((with_reducible refine gate_dst (N := 5) rfl ?_); refine box_event ?hg (N := 5) ?hd (cs := #[.int .i64 a2_0, .int .i64 a2_1]) (t := 87) ?hr ?_; (case hd => rfl); (case hg => rfl); (case hr => first | (go_simp; done) | (go_simp; rfl)); intro gb356 hg w6 hbox hb; have n0_ := Aside0.mk (below_step hb_ hb); have n1_ := Aside0.mk (hbox); have n2_ := Aside0.mk ((by rw [hg]; exact (below_size hb_) : w.heap.size ≤ gb356)); have n3_ := Aside0.mk ((by rw [hg]; exact (below_size hb_) : w.heap.size ≤ gb356)); clear HB; have HB := n0_; have BK356 := n1_; have GW356 := n2_; have GE356 := n3_; clear n0_ n1_ n2_ n3_; clear hb hbox hg))
 have n0_ := Aside0.mk (blk_drew BK356.out)
 have n1_ := Aside0.mk (below_drew1 HB.out)
 clear BK356
 clear HB
 have BK356 := n0_
 have HB := n1_
 clear n0_ n1_
 refine start_ (n := 22) (S := fun w' => w'.cell? ⟨gb356, 0, none⟩ = some (.int .i64 a2_0) ∧ w'.cell? ⟨gb356, 1, none⟩ = some (.int .i64 a2_1)) (ds := []) #[false, false, false, false, false, false, false, false, false, false, false, false, false, false, false, false, false, false, false, false, false, false] (by kernel_rfl) rfl rfl ⟨(blk_cell BK356.out 0).trans rfl, (blk_cell BK356.out 1).trans rfl⟩ (fun hHeld => ?_); refine with_tabW tensor_turn.tab1 tensor_turn.bits1 (fun HT_ HW_ => ?_)
 generalize w6.drew = w7 at BK356 HB hHeld ⊢
 refine puT_ 0 8 ?_
 refine puT_ 1 9 ?_
 refine puT_ 4 12 ?_
 refine puT_ 5 13 ?_
 refine puT_ 10 18 ?_
 refine puT_ 11 19 ?_
 refine puT_ 14 22 ?_
 refine puT_ 15 23 ?_
 refine tkT_ 2 10 hHeld ?_
 refine puT_ 3 11 ?_
 refine tkT_ 6 14 hHeld ?_
 refine puT_ 7 15 ?_
 refine puT_ 8 16 ?_
 refine tkT_ 12 20 hHeld ?_
 refine puT_ 13 21 ?_
 refine tkT_ 16 24 hHeld ?_
 refine puT_ 17 25 ?_
 refine puT_ 18 26 ?_
 refine onT_ 9 (some 17) (fun K hK => ?_)
 refine goes_ Tryd.func50 (by kernel_rfl) rfl #[.int .i64 (wrap64 ((wrap64 (a0 * a2_0)) - (wrap64 (a1 * a2_1)))), .int .i64 14] (by rfl) rfl rfl mp_ ?_
 with_reducible refine (fix_Shift.calls (wrap64 ((wrap64 (a0 * a2_0)) - (wrap64 (a1 * a2_1)))) 14 t357 _ A4.out).mono ?_
 rintro e w8 ⟨rfl, hb⟩
 refine ⟨_, rfl, ?_⟩
 have n0_ := Aside0.mk (blk_below (g := gb356) (o := .cells #[.int .i64 a2_0, .int .i64 a2_1] 87 (0, 0)) (bk_ BK356.out) hb)
 have n1_ := Aside0.mk (below_step (hs_ GE356.out) hb)
 clear BK356
 clear HB
 have BK356 := n0_
 have HB := n1_
 clear n0_ n1_
 (try clear hb)
 (try clear hb2)
 (try clear hk)
 (try clear hi)
 refine hK.out _ _ ⟨(blk_cell BK356.out 0).trans rfl, (blk_cell BK356.out 1).trans rfl⟩ (fun hHeld => ?_)
 clear hK K
 refine nm_ 17 ?_
 refine onT_ 19 (some 27) (fun K hK => ?_)
 refine goes_ Tryd.func50 (by kernel_rfl) rfl #[.int .i64 (wrap64 ((wrap64 (a0 * a2_1)) + (wrap64 (a1 * a2_0)))), .int .i64 14] (by rfl) rfl rfl mp_ ?_
 with_reducible refine (fix_Shift.calls (wrap64 ((wrap64 (a0 * a2_1)) + (wrap64 (a1 * a2_0)))) 14 t358 _ A5.out).mono ?_
 rintro e w9 ⟨rfl, hb⟩
 refine ⟨_, rfl, ?_⟩
 have n0_ := Aside0.mk (blk_below (g := gb356) (o := .cells #[.int .i64 a2_0, .int .i64 a2_1] 87 (0, 0)) (bk_ BK356.out) hb)
 have n1_ := Aside0.mk (below_step (hs_ GE356.out) hb)
 clear BK356
 clear HB
 have BK356 := n0_
 have HB := n1_
 clear n0_ n1_
 (try clear hb)
 (try clear hb2)
 (try clear hk)
 (try clear hi)
 refine hK.out _ _ ⟨(blk_cell BK356.out 0).trans rfl, (blk_cell BK356.out 1).trans rfl⟩ (fun hHeld => ?_)
 clear hK K
 refine nm_ 27 ?_
 refine puT_ 20 6 ?_
 refine puT_ 21 7 ?_
 refine dnT_ ?_
 try go_wp2
 go_ret2
 exact ⟨er_, hs_ GE356.out⟩
-- NOT PRINTED: function 33 (tensor_Turns)
mutual
def tensor_Rotate.j0 : Nat → List Int → List (S87) → Bool → Option (List Int × Int)
 | 0, _, _, _ => none
 | k + 1, x0, x1, x22 => if x22 = true then (some (([] : List Int), 30)) else (if 0 ≤ (x0.length : Int) then (if ((x0.length : Int) : Int).toNat ≤ 281474976710656 then (tensor_Rotate.l0 k x0 (List.replicate ((x0.length : Int) : Int).toNat 0) x1 (x1.length : Int) 0) else (none)) else (none))
def tensor_Rotate.l0 : Nat → List Int → List Int → List (S87) → Int → Int → Option (List Int × Int)
 | 0, _, _, _, _, _ => none
 | k + 1, x0, x6, x26, x27, x28 => if x28 < x27 then (if 0 ≤ x28 then (if x28 < (x26.length : Int) then (if 0 ≤ (wrap64 (2 * x28)) then (if (wrap64 (2 * x28)) < (x0.length : Int) then (if 0 ≤ (wrap64 ((wrap64 (2 * x28)) + 1)) then (if (wrap64 ((wrap64 (2 * x28)) + 1)) < (x0.length : Int) then ((tensor_turn.f (wrap64 (rd x0 (wrap64 (2 * x28)))) (wrap64 (rd x0 (wrap64 ((wrap64 (2 * x28)) + 1)))) ((rd_T87 x26 x28).f0) ((rd_T87 x26 x28).f1)).bind fun bt376 => ((fix_Clamp8.f bt376.1).bind fun t378 => ((fix_Clamp8.f bt376.2).bind fun t379 => (if (wrap64 (2 * x28)) < (x6.length : Int) then (if (wrap64 ((wrap64 (2 * x28)) + 1)) < (x6.length : Int) then (tensor_Rotate.l0 k x0 ((x6.set ((wrap64 (2 * x28)) : Int).toNat t378).set ((wrap64 ((wrap64 (2 * x28)) + 1)) : Int).toNat t379) x26 x27 (wrap64 (x28 + 1))) else (none)) else (none))))) else (none)) else (none)) else (none)) else (none)) else (none)) else (none)) else (some (x6, 0))
end
def tensor_Rotate.f (k : Nat) (l0 : List Int) (l1 : List (S87)) : Option (List Int × Int) := if ((l0.length : Int) % 2) = 0 then (tensor_Rotate.j0 k l0 l1 ((wrap64 ((l0.length : Int) / 2)) != (l1.length : Int))) else (tensor_Rotate.j0 k l0 l1 true)
def tensor_Rotate.T7 : Bool × List (List Nat × List Nat) := (true, [([], []), ([], []), ([1], [1]), ([0, 2], [0, 2]), ([3], [3]), ([4], [4]), ([], []), ([], []), ([7], [7]), ([8], [8]), ([6, 9], [6, 9]), ([10], [10]), ([11], [11]), ([], []), ([5, 12, 13], [5, 12, 13]), ([14], [14]), ([15], [15]), ([15], [15]), ([16, 14, 0, 1, 2, 3, 4, 5, 6, 7, 8, 9, 10, 11, 12, 13, 14, 15, 16], [16]), ([17, 18, 0, 1, 2, 3, 4, 5, 6, 7, 8, 9, 10, 11, 12, 13, 14, 15, 16, 17, 18], [17])])
def tensor_Rotate.B7 : List Nat := [0, 0, 2, 7, 15, 31, 0, 0, 128, 384, 960, 1984, 4032, 0, 16383, 32767, 65535, 65535, 131071, 524287]
theorem tensor_Rotate.tab7 : rtab .any (opsOf Tryd.f35 7) = tensor_Rotate.T7 := by kernel_rfl
theorem tensor_Rotate.bits7 : waitsOk tensor_Rotate.T7.2 tensor_Rotate.B7 = true := by kernel_rfl
set_option maxHeartbeats 8000000 in
set_option maxRecDepth 100000 in
theorem tensor_Rotate.calls (k : Nat) (A0 : Option Addr) (c0 : Nat) (l0 : List Int) (A1 : Option Addr) (c1 : Nat) (l1 : List (S87)) (r1 : List Int) (r2 : Int) (w : World) (hr0 : Kd.C (Kd.int .i8) w A0 l0.length l0) (hc0 : l0.length ≤ c0) (hr1 : Kd.C k87 w A1 l1.length l1) (hc1 : l1.length ≤ c1) (h : tensor_Rotate.f k l0 l1 = some (r1, r2)) :
  Calls Tryd.prog 35 #[.slice A0 l0.length c0, .slice A1 l1.length c1] w fun e w' => ∃ v0_ : Value, e = .returned (.tuple #[v0_, .int .i64 r2]) ∧ Kd.R (Kd.int .i8) 57 w' w.heap.size (fun _ => True) v0_ r1 ∧ Below w.heap.size w w' := by
 have hu87 := Tryd.underlying87
 have HR0 := Aside0.mk hr0
 have HC0 := Aside0.mk hc0
 clear hr0 hc0
 have HR1 := Aside0.mk hr1
 have HC1 := Aside0.mk hc1
 clear hr1 hc1
 have HB := Aside0.mk (Below.refl w.heap.size w)
 have H : (if ((l0.length : Int) % 2) = 0 then (tensor_Rotate.j0 k l0 l1 ((wrap64 ((l0.length : Int) / 2)) != (l1.length : Int))) else (tensor_Rotate.j0 k l0 l1 true)) = some (r1, r2) := h
 clear h
 have HC3 := Aside0.mk H
 clear H
 go_enter Tryd.func35, Tryd.ntmps35
 go_upto_region 1 with (fail)
 go_cut [22] (fun v22 wc => ∃ (kq : Nat) (x22_2 : Bool), v22 = .bool x22_2 ∧ Aside0 (tensor_Rotate.j0 kq l0 l1 x22_2 = some (r1, r2)) ∧ Aside0 (kq ≤ k) ∧ Aside0 (Below w.heap.size w wc))
 case first =>
  have H := HC3.out
  clear HC3
  by_cases c4 : ((l0.length : Int) % 2) = 0
  ·rw [if_pos c4] at H
   have c4b0 : (((l0.length : Int) % 2) == 0) = true := beq_iff_eq.mpr c4
   have c4b1 : (((l0.length : Int) % 2) != 0) = false := bne_eq_false_iff_eq.mpr c4
   clear c4
   (first | rw [c4b0] | (simp only [i64_w, i32_w]; rw [c4b0]) | skip)
   have H' := Aside0.mk H
   clear H
   go_wp2
   go_meet
   case rel => exact ⟨_, (((wrap64 ((l0.length : Int) / 2)) != (l1.length : Int))), eqx_, H', ⟨om_⟩, ⟨hb_⟩⟩
  ·rw [if_neg c4] at H
   have c4b0 : (((l0.length : Int) % 2) == 0) = false := beq_eq_false_iff_ne.mpr c4
   have c4b1 : (((l0.length : Int) % 2) != 0) = true := bne_iff_ne.mpr c4
   (first | rw [c4b0] | (simp only [i64_w, i32_w]; rw [c4b0]) | skip)
   have H' := Aside0.mk H
   clear H
   go_wp2
   go_meet
   case rel => exact ⟨_, (true), eqx_, H', ⟨om_⟩, ⟨hb_⟩⟩
 case rest =>
  clear HC3
  try clear c1
  try clear p2
  try clear c3
  try clear c4
  try clear c4b0
  try clear c4b1
  obtain ⟨kq, x22_2, rfl, HA, HJ2, HB⟩ := hcut
  cases kq with
  | zero => exact absurd HA.out (by simp [tensor_Rotate.j0])
  | succ kj2 =>
   have H := HA.out
   clear HA
   simp only [tensor_Rotate.j0] at H
   by_cases c5 : x22_2 = true
   ·subst c5
    have H1 : (some (([] : List Int), 30)) = some (r1, r2) := by rw [if_pos rfl] at H; exact H
    clear H
    have H := H1
    clear H1
    simp only [Option.some.injEq, Prod.mk.injEq] at H
    obtain ⟨rfl, rfl⟩ := H
    go_wp2
    go_ret2
    exact ⟨_, er_, nl_, hb_⟩
   ·replace c5 := Bool.eq_false_iff.mpr c5
    subst c5
    have H1 : (if 0 ≤ (l0.length : Int) then (if ((l0.length : Int) : Int).toNat ≤ 281474976710656 then (tensor_Rotate.l0 kj2 l0 (List.replicate ((l0.length : Int) : Int).toNat 0) l1 (l1.length : Int) 0) else (none)) else (none)) = some (r1, r2) := by rw [if_neg (show ¬ (false = true) by decide)] at H; exact H
    clear H
    have H := H1
    clear H1
    by_cases c6 : 0 ≤ (l0.length : Int)
    ·rw [if_pos c6] at H
     have c6b0 := eq_true c6
     have c6b1 : decide (0 ≤ (l0.length : Int)) = true := decide_eq_true c6
     clear c6
     by_cases c7 : ((l0.length : Int) : Int).toNat ≤ 281474976710656
     ·rw [if_pos c7] at H
      have c7b0 := eq_true c7
      have c7b1 : decide (((l0.length : Int) : Int).toNat ≤ 281474976710656) = true := decide_eq_true c7
      clear c7
      obtain ⟨y369, hy369⟩ : ∃ y_ : List Int, y_ = (List.replicate ((l0.length : Int) : Int).toNat 0) := ⟨_, rfl⟩
      replace H : (tensor_Rotate.l0 kj2 l0 y369 l1 (l1.length : Int) 0) = some (r1, r2) := rh_ hy369 H
      have Ny369 := Aside0.mk hy369
      clear hy369
      have H' := Aside0.mk H
      clear H
      go_wp2_with (first | ((with_reducible refine gate_dst (N := 25) rfl ?_); (try (refine gate_guard (by rfl) ?_; dsimp only)); refine Kd.R_make (Kd.int .i8) _ 57 rfl (N := 25) rfl 33 _ _ rfl (l0.length : Int) rfl rfl Tryd.underlying33 (.int .i8 0) 1 info57 rfl (by decide) (by omega) 0 (ok := fun _ => True) (okp := fun _ => True) rfl (fun _ hk => hk) trivial (of_decide_eq_true as_) (Nat.le_trans (Nat.mul_le_mul_right _ (of_decide_eq_true as_ : (l0.length : Int).toNat ≤ 281474976710656)) (by omega)) (Below.refl _ _) (Nat.le_refl _) ?_; intro v370 w8 ho9 hb hg_ hnew_; clear hg_ hnew_; (first | rw [← Ny369.out] at ho9 | (simp only [Int.reduceToNat] at ho9; rw [← Ny369.out] at ho9)); have n0_ := Aside0.mk (Kd.R_lower ho9 (below_size hb_)); have n1_ := Aside0.mk (below_step hb_ hb); clear HB; have HO371 := n0_; have HB := n1_; clear n0_ n1_; clear hb ho9))
      go_loopg [28] kj2 (fun kq v28 w' => ∃ (x6_2 : List Int) (x28_2 : Int), v28 = .int .i64 x28_2 ∧ Aside0 (tensor_Rotate.l0 kq l0 x6_2 l1 (l1.length : Int) x28_2 = some (r1, r2)) ∧ Aside0 (kq ≤ kj2) ∧ Aside0 (Kd.R (Kd.int .i8) 57 w' w.heap.size (fun _ => True) v370 x6_2) ∧ Aside0 (Below w.heap.size w w'))
      case atStart => exact ⟨(y369), (0), eqx_, H', ⟨Nat.le_refl _⟩, ⟨rk_ HO371.out⟩, ⟨hb_⟩⟩
      case round =>
       clear H'
       try clear c1
       try clear p2
       try clear c3
       try clear c4
       try clear c4b0
       try clear c4b1
       try clear c5
       try clear c6
       try clear c6b0
       try clear c6b1
       try clear p6
       try clear c7
       try clear c7b0
       try clear c7b1
       try clear p2
       obtain ⟨x6_2, x28_2, rfl, HA, HK2, HO_6, HB⟩ := hrel
       cases gk with
       | zero => exact absurd HA.out (by simp [tensor_Rotate.l0])
       | succ k2 =>
        have H := HA.out
        clear HA
        simp only [tensor_Rotate.l0] at H
        by_cases c10 : x28_2 < (l1.length : Int)
        ·rw [if_pos c10] at H
         have c10b0 : decide (x28_2 < (l1.length : Int)) = true := decide_eq_true c10
         clear c10
         by_cases c11 : 0 ≤ x28_2
         ·rw [if_pos c11] at H
          have c11b0 : decide (0 ≤ x28_2) = true := decide_eq_true c11
          clear c11
          by_cases c12 : x28_2 < (l1.length : Int)
          ·rw [if_pos c12] at H
           have c12b0 : decide (x28_2 < (l1.length : Int)) = true := decide_eq_true c12
           clear c12
           obtain ⟨ji13, hji13⟩ : ∃ j_ : Int, (wrap64 (2 * x28_2)) = j_ := ⟨_, rfl⟩
           replace H : (if 0 ≤ (ji13) then (if (ji13) < (l0.length : Int) then (if 0 ≤ (wrap64 ((ji13) + 1)) then (if (wrap64 ((ji13) + 1)) < (l0.length : Int) then ((tensor_turn.f (wrap64 (rd l0 (ji13))) (wrap64 (rd l0 (wrap64 ((ji13) + 1)))) ((rd_T87 l1 x28_2).f0) ((rd_T87 l1 x28_2).f1)).bind fun bt376 => ((fix_Clamp8.f bt376.1).bind fun t378 => ((fix_Clamp8.f bt376.2).bind fun t379 => (if (ji13) < (x6_2.length : Int) then (if (wrap64 ((ji13) + 1)) < (x6_2.length : Int) then (tensor_Rotate.l0 k2 l0 ((x6_2.set ((ji13) : Int).toNat t378).set ((wrap64 ((ji13) + 1)) : Int).toNat t379) l1 (l1.length : Int) (wrap64 (x28_2 + 1))) else (none)) else (none))))) else (none)) else (none)) else (none)) else (none)) = some (r1, r2) := by first | (rw [hji13] at H; exact H) | (simp only [hji13] at H ⊢; exact H)
           have hji13w : (IntKind.i64.wrap (2 * x28_2)) = ji13 := (i64_w _).trans hji13
           by_cases c14 : 0 ≤ (ji13)
           ·rw [if_pos c14] at H
            have c14b0 : decide (0 ≤ (ji13)) = true := decide_eq_true c14
            clear c14
            by_cases c15 : (ji13) < (l0.length : Int)
            ·rw [if_pos c15] at H
             have c15b0 : decide ((ji13) < (l0.length : Int)) = true := decide_eq_true c15
             clear c15
             obtain ⟨ji16, hji16⟩ : ∃ j_ : Int, (wrap64 ((ji13) + 1)) = j_ := ⟨_, rfl⟩
             replace H : (if 0 ≤ (ji16) then (if (ji16) < (l0.length : Int) then ((tensor_turn.f (wrap64 (rd l0 (ji13))) (wrap64 (rd l0 (ji16))) ((rd_T87 l1 x28_2).f0) ((rd_T87 l1 x28_2).f1)).bind fun bt376 => ((fix_Clamp8.f bt376.1).bind fun t378 => ((fix_Clamp8.f bt376.2).bind fun t379 => (if (ji13) < (x6_2.length : Int) then (if (ji16) < (x6_2.length : Int) then (tensor_Rotate.l0 k2 l0 ((x6_2.set ((ji13) : Int).toNat t378).set ((ji16) : Int).toNat t379) l1 (l1.length : Int) (wrap64 (x28_2 + 1))) else (none)) else (none))))) else (none)) else (none)) = some (r1, r2) := by first | (rw [hji16] at H; exact H) | (simp only [hji16] at H ⊢; exact H)
             have hji16w : (IntKind.i64.wrap ((ji13) + 1)) = ji16 := (i64_w _).trans hji16
             by_cases c17 : 0 ≤ (ji16)
             ·rw [if_pos c17] at H
              have c17b0 : decide (0 ≤ (ji16)) = true := decide_eq_true c17
              clear c17
              by_cases c18 : (ji16) < (l0.length : Int)
              ·rw [if_pos c18] at H
               have c18b0 : decide ((ji16) < (l0.length : Int)) = true := decide_eq_true c18
               clear c18
               replace H := Option.bind_eq_some_iff.mp H
               obtain ⟨⟨t376, t377⟩, A190, H⟩ := H
               replace H : ((fix_Clamp8.f t376).bind fun t378 => ((fix_Clamp8.f t377).bind fun t379 => (if (ji13) < (x6_2.length : Int) then (if (ji16) < (x6_2.length : Int) then (tensor_Rotate.l0 k2 l0 ((x6_2.set ((ji13) : Int).toNat t378).set ((ji16) : Int).toNat t379) l1 (l1.length : Int) (wrap64 (x28_2 + 1))) else (none)) else (none)))) = some (r1, r2) := H
               have A19 := Aside0.mk A190
               clear A190
               replace H := Option.bind_eq_some_iff.mp H
               obtain ⟨t378, A200, H⟩ := H
               replace H : ((fix_Clamp8.f t377).bind fun t379 => (if (ji13) < (x6_2.length : Int) then (if (ji16) < (x6_2.length : Int) then (tensor_Rotate.l0 k2 l0 ((x6_2.set ((ji13) : Int).toNat t378).set ((ji16) : Int).toNat t379) l1 (l1.length : Int) (wrap64 (x28_2 + 1))) else (none)) else (none))) = some (r1, r2) := H
               have A20 := Aside0.mk A200
               clear A200
               replace H := Option.bind_eq_some_iff.mp H
               obtain ⟨t379, A210, H⟩ := H
               replace H : (if (ji13) < (x6_2.length : Int) then (if (ji16) < (x6_2.length : Int) then (tensor_Rotate.l0 k2 l0 ((x6_2.set ((ji13) : Int).toNat t378).set ((ji16) : Int).toNat t379) l1 (l1.length : Int) (wrap64 (x28_2 + 1))) else (none)) else (none)) = some (r1, r2) := H
               have A21 := Aside0.mk A210
               clear A210
               by_cases c22 : (ji13) < (x6_2.length : Int)
               ·rw [if_pos c22] at H
                have c22b0 : decide ((ji13) < (x6_2.length : Int)) = true := decide_eq_true c22
                clear c22
                obtain ⟨y380, hy380⟩ : ∃ y_ : List Int, y_ = (x6_2.set ((ji13) : Int).toNat t378) := ⟨_, rfl⟩
                replace H : (if (ji16) < (x6_2.length : Int) then (tensor_Rotate.l0 k2 l0 (y380.set ((ji16) : Int).toNat t379) l1 (l1.length : Int) (wrap64 (x28_2 + 1))) else (none)) = some (r1, r2) := rh_ hy380 H
                have Ny380 := Aside0.mk hy380
                clear hy380
                by_cases c24 : (ji16) < (x6_2.length : Int)
                ·rw [if_pos c24] at H
                 have c24b0 : decide ((ji16) < (x6_2.length : Int)) = true := decide_eq_true c24
                 clear c24
                 obtain ⟨y381, hy381⟩ : ∃ y_ : List Int, y_ = (y380.set ((ji16) : Int).toNat t379) := ⟨_, rfl⟩
                 replace H : (tensor_Rotate.l0 k2 l0 y381 l1 (l1.length : Int) (wrap64 (x28_2 + 1))) = some (r1, r2) := rh_ hy381 H
                 have Ny381 := Aside0.mk hy381
                 clear hy381
                 have H' := Aside0.mk H
                 clear H
                 have p372 : 0 ≤ (x28_2 : Int) := of_decide_eq_true as_
                 have q372 : x28_2 < (l1.length : Int) := of_decide_eq_true as_
                 obtain ⟨ad372, e372, hx372_0, hx372_1⟩ := at_T87 HR1.out x28_2 p372 q372
                 cases e372
                 replace hx372_0 := (HB.out.cell (World.block_lt_of_cell? w _ hx372_0)).trans hx372_0
                 replace hx372_1 := (HB.out.cell (World.block_lt_of_cell? w _ hx372_1)).trans hx372_1
                 replace p372 := eq_true p372
                 replace q372 := eq_true q372
                 try go_wp2_with (first | ((with_reducible refine gate_dst (N := 8) rfl ?_); (try (refine gate_guard (by rfl) ?_; dsimp only)); refine box_event ?hg (N := 8) ?hd (cs := #[.int .i64 0, .int .i64 0]) (t := 87) ?hr ?_; (case hd => rfl); (case hg => rfl); (case hr => first | (go_simp; done) | (go_simp; rfl)); intro gb373 hg w26 hbox hb; have n0_ := Aside0.mk (Kd.R_below (rk_ HO_6.out) hb); have n1_ := Aside0.mk (below_step hb_ hb); have n2_ := Aside0.mk (hbox); have n3_ := Aside0.mk ((by rw [hg]; exact (below_size hb_) : w.heap.size ≤ gb373)); have n4_ := Aside0.mk ((by rw [hg]; exact (below_size hb_) : w.heap.size ≤ gb373)); clear HO_6; clear HB; have HO_6 := n0_; have HB := n1_; have BK373 := n2_; have GW373 := n3_; have GE373 := n4_; clear n0_ n1_ n2_ n3_ n4_; clear hb hbox hg; have hcz27_0 : w26.cell? ⟨gb373, 0, none⟩ = some (.int .i64 0) := (blk_cell BK373.out 0).trans rfl; have hcz27_1 : w26.cell? ⟨gb373, 1, none⟩ = some (.int .i64 0) := (blk_cell BK373.out 1).trans rfl; have hfz27_0 := blk_frozen BK373.out 0; have hfz27_1 := blk_frozen BK373.out 1))
                 have n0_ : Aside0 (Kd.R (Kd.int .i8) 57 ((w26.setCell ⟨gb373, 0, none⟩ (.int .i64 ((rd_T87 l1 x28_2).f0))).setCell ⟨gb373, 1, none⟩ (.int .i64 ((rd_T87 l1 x28_2).f1))) w.heap.size (fun _ => True) v370 x6_2) := ⟨by (with_reducible repeat (first | apply Kd.R_alloc | apply Kd.R_drewN | apply Kd.R_drew)); exact Kd.R_mono (Kd.R_far (p := ⟨gb373, 1, none⟩) (Kd.R_far (p := ⟨gb373, 0, none⟩) (Kd.R_types HO_6.out BK373.out (by decide)) (fun _ hk => hk.2) (.int .i64 ((rd_T87 l1 x28_2).f0))) (fun _ hk => hk.2) (.int .i64 ((rd_T87 l1 x28_2).f1))) (fun _ hk => trivial)⟩
                 have n1_ : Aside0 (((w26.setCell ⟨gb373, 0, none⟩ (.int .i64 ((rd_T87 l1 x28_2).f0))).setCell ⟨gb373, 1, none⟩ (.int .i64 ((rd_T87 l1 x28_2).f1))).heap[gb373]? = some (.cells #[.int .i64 ((rd_T87 l1 x28_2).f0), .int .i64 ((rd_T87 l1 x28_2).f1)] 87 (0, 0))) := ⟨by (with_reducible repeat (first | refine blk_drewN ?_ _ | refine blk_drew ?_ | refine blk_alloc ?_ _)); refine blk_put (cs := #[.int .i64 ((rd_T87 l1 x28_2).f0), .int .i64 0]) ?_ 1 _ rfl; (with_reducible repeat (first | refine blk_drewN ?_ _ | refine blk_drew ?_ | refine blk_alloc ?_ _)); refine blk_put (cs := #[.int .i64 0, .int .i64 0]) ?_ 0 _ rfl; (with_reducible repeat (first | refine blk_drewN ?_ _ | refine blk_drew ?_ | refine blk_alloc ?_ _)); exact BK373.out⟩
                 have n2_ : Aside0 (Below w.heap.size w ((w26.setCell ⟨gb373, 0, none⟩ (.int .i64 ((rd_T87 l1 x28_2).f0))).setCell ⟨gb373, 1, none⟩ (.int .i64 ((rd_T87 l1 x28_2).f1)))) := ⟨hs_ GE373.out⟩
                 (try clear HO_6)
                 (try clear BK373)
                 (try clear HB)
                 generalize ((w26.setCell ⟨gb373, 0, none⟩ (.int .i64 ((rd_T87 l1 x28_2).f0))).setCell ⟨gb373, 1, none⟩ (.int .i64 ((rd_T87 l1 x28_2).f1))) = w28 at n0_ n1_ n2_ ⊢
                 have HO_6 := n0_
                 have BK373 := n1_
                 have HB := n2_
                 clear n0_ n1_ n2_
                 have n0_ := Aside0.mk (Kd.R_drew HO_6.out)
                 have n1_ := Aside0.mk (blk_drew BK373.out)
                 have n2_ := Aside0.mk (below_drew1 HB.out)
                 clear HO_6
                 clear BK373
                 clear HB
                 have HO_6 := n0_
                 have BK373 := n1_
                 have HB := n2_
                 clear n0_ n1_ n2_
                 have p374 : 0 ≤ ((ji13) : Int) := of_decide_eq_true as_
                 have q374 : (ji13) < (l0.length : Int) := of_decide_eq_true as_
                 obtain ⟨ad374, e374, hx374_0⟩ := Kd.at_int HR0.out (ji13) p374 q374
                 have hw374_0 := hx374_0
                 cases e374
                 replace hx374_0 := (HB.out.cell (World.block_lt_of_cell? w _ hx374_0)).trans hx374_0
                 replace p374 := eq_true p374
                 replace q374 := eq_true q374
                 have p375 : 0 ≤ ((ji16) : Int) := of_decide_eq_true as_
                 have q375 : (ji16) < (l0.length : Int) := of_decide_eq_true as_
                 obtain ⟨ad375, e375, hx375_0⟩ := Kd.at_int HR0.out (ji16) p375 q375
                 have hw375_0 := hx375_0
                 obtain rfl : ad374 = ad375 := (by injection e375)
                 replace hx375_0 := (HB.out.cell (World.block_lt_of_cell? w _ hx375_0)).trans hx375_0
                 replace p375 := eq_true p375
                 replace q375 := eq_true q375
                 refine start_ (n := 20) (S := fun w' => w'.cell? ⟨gb373, 0, none⟩ = some (.int .i64 ((rd_T87 l1 x28_2).f0)) ∧ w'.cell? ⟨gb373, 1, none⟩ = some (.int .i64 ((rd_T87 l1 x28_2).f1)) ∧ w'.cell? (ad374.add ((ji13)).toNat) = some (.int .i8 (rd l0 (ji13))) ∧ w'.cell? (ad374.add ((ji16)).toNat) = some (.int .i8 (rd l0 (ji16)))) (ds := []) #[false, false, false, false, false, false, false, false, false, false, false, false, false, false, false, false, false, false, false, false] (by kernel_rfl) rfl rfl ⟨(blk_cell BK373.out 0).trans rfl, (blk_cell BK373.out 1).trans rfl, ((HB.out.cell (World.block_lt_of_cell? w _ hw374_0)).trans hw374_0), ((HB.out.cell (World.block_lt_of_cell? w _ hw375_0)).trans hw375_0)⟩ (fun hHeld => ?_); refine with_tabW tensor_Rotate.tab7 tensor_Rotate.bits7 (fun HT_ HW_ => ?_)
                 generalize w28.drew = w29 at HO_6 BK373 HB hx374_0 hx375_0 hHeld ⊢
                 refine puT_ 0 34 ?_
                 refine puT_ 1 35 ?_
                 refine puT_ 2 36 ?_
                 refine puT_ 3 37 ?_
                 refine puT_ 6 40 ?_
                 refine puT_ 7 41 ?_
                 refine puT_ 8 42 ?_
                 refine puT_ 9 43 ?_
                 refine puT_ 10 44 ?_
                 refine tkT_ 4 38 hHeld ?_
                 refine puT_ 5 39 ?_
                 refine tkT_ 11 45 hHeld ?_
                 refine puT_ 12 46 ?_
                 refine tkT_ 13 47 hHeld ?_
                 refine onT_ 14 (some 48) (fun K hK => ?_)
                 refine goes_ Tryd.func69 (by kernel_rfl) rfl #[.int .i64 (wrap64 (rd l0 (ji13))), .int .i64 (wrap64 (rd l0 (ji16))), .agg #[.int .i64 ((rd_T87 l1 x28_2).f0), .int .i64 ((rd_T87 l1 x28_2).f1)]] (by rfl) rfl rfl (by (try simp only [List.map_toArray, List.map_cons, List.map_nil]); first | done | (simp only [hji13, hji16]; rfl) | rfl | (simp only [List.length_drop, List.length_take]; rfl)) ?_
                 with_reducible refine (tensor_turn.calls (wrap64 (rd l0 (ji13))) (wrap64 (rd l0 (ji16))) ((rd_T87 l1 x28_2).f0) ((rd_T87 l1 x28_2).f1) t376 t377 _ A19.out).mono ?_
                 rintro e w30 ⟨rfl, hb⟩
                 refine ⟨_, rfl, ?_⟩
                 have n0_ := Aside0.mk (Kd.R_below (rk_ HO_6.out) hb)
                 have n1_ := Aside0.mk (blk_below (g := gb373) (o := .cells #[.int .i64 ((rd_T87 l1 x28_2).f0), .int .i64 ((rd_T87 l1 x28_2).f1)] 87 (0, 0)) (bk_ BK373.out) hb)
                 have n2_ := Aside0.mk (below_step (hs_ GE373.out) hb)
                 clear HO_6
                 clear BK373
                 clear HB
                 have HO_6 := n0_
                 have BK373 := n1_
                 have HB := n2_
                 clear n0_ n1_ n2_
                 (try clear hb)
                 (try clear hb2)
                 (try clear hk)
                 (try clear hi)
                 refine hK.out _ _ ⟨(blk_cell BK373.out 0).trans rfl, (blk_cell BK373.out 1).trans rfl, ((HB.out.cell (World.block_lt_of_cell? w _ hw374_0)).trans hw374_0), ((HB.out.cell (World.block_lt_of_cell? w _ hw375_0)).trans hw375_0)⟩ (fun hHeld => ?_)
                 clear hK K
                 refine nm_ 48 ?_
                 refine puT_ 15 33 ?_
                 refine puT_ 16 49 ?_
                 refine puT_ 17 50 ?_
                 refine puT_ 18 9 ?_
                 refine puT_ 19 10 ?_
                 refine dnT_ ?_
                 try go_wp2_with (first | ((with_reducible refine gate_callee (f := 63) rfl ?_); refine goesL_ (some 59) rfl rfl Tryd.func63 (by kernel_rfl) rfl #[.int .i64 t376] rfl mp_ ?_; (with_reducible refine (fix_Clamp8.calls t376 t378 _ A20.out).mono ?_); rintro e w31 ⟨rfl, hb⟩; refine ⟨_, rfl, ?_⟩; have n0_ := Aside0.mk (Kd.R_below (rk_ HO_6.out) hb); have n1_ := Aside0.mk (blk_below (g := gb373) (o := .cells #[.int .i64 ((rd_T87 l1 x28_2).f0), .int .i64 ((rd_T87 l1 x28_2).f1)] 87 (0, 0)) (bk_ BK373.out) hb); have n2_ := Aside0.mk (below_step (hs_ GE373.out) hb); clear HO_6; clear BK373; clear HB; have HO_6 := n0_; have BK373 := n1_; have HB := n2_; clear n0_ n1_ n2_; (try clear hb); (try clear hb2); (try clear hk); (try clear hi)) | ((with_reducible refine gate_callee (f := 63) rfl ?_); refine goesL_ (some 61) rfl rfl Tryd.func63 (by kernel_rfl) rfl #[.int .i64 t377] rfl mp_ ?_; (with_reducible refine (fix_Clamp8.calls t377 t379 _ A21.out).mono ?_); rintro e w32 ⟨rfl, hb⟩; refine ⟨_, rfl, ?_⟩; have n0_ := Aside0.mk (Kd.R_below (rk_ HO_6.out) hb); have n1_ := Aside0.mk (blk_below (g := gb373) (o := .cells #[.int .i64 ((rd_T87 l1 x28_2).f0), .int .i64 ((rd_T87 l1 x28_2).f1)] 87 (0, 0)) (bk_ BK373.out) hb); have n2_ := Aside0.mk (below_step (hs_ GE373.out) hb); clear HO_6; clear BK373; clear HB; have HO_6 := n0_; have BK373 := n1_; have HB := n2_; clear n0_ n1_ n2_; (try clear hb); (try clear hb2); (try clear hk); (try clear hi); have p23 : 0 ≤ ((ji13) : Int) := of_decide_eq_true as_; have q23 : ((ji13) : Int) < ((x6_2.length : Int) : Int) := of_decide_eq_true as_; obtain ⟨go23, co23, eo23, gb23, gl23, cl23, HG23⟩ := Kd.R_form HO_6.out (by omega); (first | cases eo23 | (injection eo23 with ea_ en_ ec_; (first | subst ea_ | (injection ea_ with ea_; subst ea_)); subst ec_; clear en_)); have GB23 := Aside0.mk gb23; have GG23 := Aside0.mk HG23; clear gb23 gl23 HG23; obtain ⟨hx23_0, hf23_0⟩ := Kd.R_celln 0 HO_6.out ((ji13) : Int) p23 q23; replace p23 := eq_true p23; replace q23 := eq_true q23; obtain ⟨hy33_, hz33_⟩ := Kd.R_celln 0 HO_6.out ((ji13) : Int) (of_decide_eq_true as_) (of_decide_eq_true as_); have HP33 := Kd.R_putg HO_6.out ((ji13) : Int) t378) | ((with_reducible refine gate_store (t := 57) (p := 62) rfl ?_); refine store_event (t := 57) (p := 62) (v := ?vo_w34) (w1 := (w32.setCell ⟨go23, ((ji13) : Int).toNat, none⟩ (.int .i8 t378))) ?hg ?ho ?hn ?hr ?_; (case ho => rfl); (case hg => rfl); (case hn => rfl); (case hr => first | (go_simp; done) | (go_simp; rfl)); intro w34 hw; have hg : w32.grownBy w34 (some go23) := (by rw [hw]; exact HP33.2); have hp_ : Kd.R (Kd.int .i8) 57 w34 w.heap.size (fun _ => True) (.slice (some ⟨go23, 0, none⟩) x6_2.length co23) y380 := (by rw [hw, Ny380.out]; exact HP33.1); clear HP33; have n0_ := Aside0.mk (hp_); have n1_ := Aside0.mk (blk_grown (g := gb373) (o := .cells #[.int .i64 ((rd_T87 l1 x28_2).f0), .int .i64 ((rd_T87 l1 x28_2).f1)] 87 (0, 0)) (bk_ BK373.out) hg (Kd.R_ne HO_6.out BK373.out (by decide))); have n2_ := Aside0.mk ((by rw [hw]; exact below_set (HB.out) GB23.out : Below w.heap.size w w34)); clear HO_6; clear BK373; clear HB; have HO_6 := n0_; have BK373 := n1_; have HB := n2_; clear n0_ n1_ n2_; clear hg hw hp_; have p25 : 0 ≤ ((ji16) : Int) := of_decide_eq_true as_; have q25 : ((ji16) : Int) < ((x6_2.length : Int) : Int) := of_decide_eq_true as_; obtain ⟨hx25_0, hf25_0⟩ := Kd.R_celln 0 HO_6.out ((ji16) : Int) p25 q25; replace p25 := eq_true p25; replace q25 := eq_true q25; obtain ⟨hy35_, hz35_⟩ := Kd.R_celln 0 HO_6.out ((ji16) : Int) (of_decide_eq_true as_) (of_decide_eq_true as_); have HP35 := Kd.R_putg HO_6.out ((ji16) : Int) t379) | ((with_reducible refine gate_store (t := 57) (p := 63) rfl ?_); refine store_event (t := 57) (p := 63) (v := ?vo_w36) (w1 := (w34.setCell ⟨go23, ((ji16) : Int).toNat, none⟩ (.int .i8 t379))) ?hg ?ho ?hn ?hr ?_; (case ho => rfl); (case hg => rfl); (case hn => rfl); (case hr => first | (go_simp; done) | (go_simp; rfl)); intro w36 hw; have hg : w34.grownBy w36 (some go23) := (by rw [hw]; exact HP35.2); have hp_ : Kd.R (Kd.int .i8) 57 w36 w.heap.size (fun _ => True) (.slice (some ⟨go23, 0, none⟩) x6_2.length co23) y381 := (by rw [hw, Ny381.out]; exact HP35.1); clear HP35; have n0_ := Aside0.mk (hp_); have n1_ := Aside0.mk (blk_grown (g := gb373) (o := .cells #[.int .i64 ((rd_T87 l1 x28_2).f0), .int .i64 ((rd_T87 l1 x28_2).f1)] 87 (0, 0)) (bk_ BK373.out) hg (Kd.R_ne HO_6.out BK373.out (by decide))); have n2_ := Aside0.mk ((by rw [hw]; exact below_set (HB.out) GB23.out : Below w.heap.size w w36)); clear HO_6; clear BK373; clear HB; have HO_6 := n0_; have BK373 := n1_; have HB := n2_; clear n0_ n1_ n2_; clear hg hw hp_))
                 go_roundg k2
                 case measure => have := HJ2.out; have := HK2.out; omega
                 case rel => exact ⟨(y381), (wrap64 (x28_2 + 1)), eqx_, H', ⟨by have := HJ2.out; have := HK2.out; omega⟩, ⟨rk_ HO_6.out⟩, ⟨hs_ GE373.out⟩⟩
                ·rw [if_neg c24] at H
                 exact absurd H (by simp)
               ·rw [if_neg c22] at H
                exact absurd H (by simp)
              ·rw [if_neg c18] at H
               exact absurd H (by simp)
             ·rw [if_neg c17] at H
              exact absurd H (by simp)
            ·rw [if_neg c15] at H
             exact absurd H (by simp)
           ·rw [if_neg c14] at H
            exact absurd H (by simp)
          ·rw [if_neg c12] at H
           exact absurd H (by simp)
         ·rw [if_neg c11] at H
          exact absurd H (by simp)
        ·rw [if_neg c10] at H
         have c10b0 : decide (x28_2 < (l1.length : Int)) = false := decide_eq_false c10
         clear c10
         simp only [Option.some.injEq, Prod.mk.injEq] at H
         obtain ⟨rfl, rfl⟩ := H
         go_wp2
         go_ret2
         exact ⟨_, er_, rk_ HO_6.out, hb_⟩
     ·rw [if_neg c7] at H
      exact absurd H (by simp)
    ·rw [if_neg c6] at H
     exact absurd H (by simp)
mutual
def augurref03_Softmax.l0 : Nat → List Int → Int → Int → Option (List Int × Int)
 | 0, _, _, _ => none
 | k + 1, x0, x4, x5 => if x5 < (x0.length : Int) then (if 0 ≤ x5 then ((augurref01_Clamp.f k (rd x0 x5) 16777216).bind fun t395 => (if t395 > x4 then (augurref03_Softmax.l0 k x0 t395 (wrap64 (x5 + 1))) else (augurref03_Softmax.l0 k x0 x4 (wrap64 (x5 + 1))))) else (none)) else (augurref03_Softmax.l1 k x0 x4 ([] : List Int) 0 0)
def augurref03_Softmax.l1 : Nat → List Int → Int → List Int → Int → Int → Option (List Int × Int)
 | 0, _, _, _, _, _ => none
 | k + 1, x0, x4, x7, x8, x9 => if x9 < (x0.length : Int) then (if 0 ≤ x9 then ((augurref01_Clamp.f k (rd x0 x9) 16777216).bind fun t397 => ((augurref01_Exp.f k (wrap64 (64 * (wrap64 (t397 - x4))))).bind fun t398 => (if x7.length < 17592186044416 then (augurref03_Softmax.l1 k x0 x4 (x7 ++ [t398]) (wrap64 (x8 + t398)) (wrap64 (x9 + 1))) else (none)))) else (none)) else (some (x7, x8))
end
def augurref03_Softmax.f (k : Nat) (l0 : List Int) : Option (List Int × Int) := if (l0.length : Int) = 0 then (some (([] : List Int), 0)) else (if 0 < (l0.length : Int) then ((augurref01_Clamp.f k (rd l0 0) 16777216).bind fun t393 => (augurref03_Softmax.l0 k l0 t393 1)) else (none))
set_option maxHeartbeats 8000000 in
set_option maxRecDepth 100000 in
theorem augurref03_Softmax.calls (k : Nat) (A0 : Option Addr) (c0 : Nat) (l0 : List Int) (r1 : List Int) (r2 : Int) (w : World) (hr0 : Kd.C (Kd.int .i64) w A0 l0.length l0) (hc0 : l0.length ≤ c0) (h : augurref03_Softmax.f k l0 = some (r1, r2)) :
  Calls Tryd.prog 59 #[.slice A0 l0.length c0] w fun e w' => ∃ v0_ : Value, e = .returned (.tuple #[v0_, .int .i64 r2]) ∧ Kd.R (Kd.int .i64) 2 w' w.heap.size (fun _ => True) v0_ r1 ∧ Below w.heap.size w w' := by
 have HR0 := Aside0.mk hr0
 have HC0 := Aside0.mk hc0
 clear hr0 hc0
 have HB := Aside0.mk (Below.refl w.heap.size w)
 have H : (if (l0.length : Int) = 0 then (some (([] : List Int), 0)) else (if 0 < (l0.length : Int) then ((augurref01_Clamp.f k (rd l0 0) 16777216).bind fun t393 => (augurref03_Softmax.l0 k l0 t393 1)) else (none))) = some (r1, r2) := h
 clear h
 by_cases c2 : (l0.length : Int) = 0
 ·rw [if_pos c2] at H
  have c2b0 : ((l0.length : Int) == 0) = true := beq_iff_eq.mpr c2
  have c2b1 : ((l0.length : Int) != 0) = false := bne_eq_false_iff_eq.mpr c2
  clear c2
  simp only [Option.some.injEq, Prod.mk.injEq] at H
  obtain ⟨rfl, rfl⟩ := H
  go_enter Tryd.func59, Tryd.ntmps59
  go_wp2
  go_ret2
  exact ⟨_, er_, nl_, hb_⟩
 ·rw [if_neg c2] at H
  have c2b0 : ((l0.length : Int) == 0) = false := beq_eq_false_iff_ne.mpr c2
  have c2b1 : ((l0.length : Int) != 0) = true := bne_iff_ne.mpr c2
  have c2b2 : ¬ (l0 = []) := fun h_ => c2 (by rw [h_]; rfl)
  by_cases c3 : 0 < (l0.length : Int)
  ·rw [if_pos c3] at H
   have c3b0 : decide (0 < (l0.length : Int)) = true := decide_eq_true c3
   have c3b1 : decide (0 < l0.length) = true := decide_eq_true (by omega)
   clear c3
   replace H := Option.bind_eq_some_iff.mp H
   obtain ⟨t393, A40, H⟩ := H
   replace H : (augurref03_Softmax.l0 k l0 t393 1) = some (r1, r2) := H
   have A4 := Aside0.mk A40
   clear A40
   have H' := Aside0.mk H
   clear H
   have p392 : 0 ≤ (0 : Int) := (by omega)
   have q392 : 0 < (l0.length : Int) := of_decide_eq_true as_
   obtain ⟨ad392, e392, hx392_0⟩ := Kd.at_int HR0.out 0 p392 q392
   cases e392
   have qi392 : (0 < l0.length) = True := eq_true (by omega)
   (try rw [show ((0 : Int)).toNat = 0 from rfl] at hx392_0)
   (try rw [Addr.add_zero'] at hx392_0)
   replace p392 := eq_true p392
   replace q392 := eq_true q392
   go_enter Tryd.func59, Tryd.ntmps59
   go_wp2_with (first | ((with_reducible refine gate_callee (f := 72) rfl ?_); refine goesL_ (some 18) rfl rfl Tryd.func72 (by kernel_rfl) rfl #[.int .i64 (rd l0 0), .int .i64 16777216] rfl mp_ ?_; (with_reducible refine (augurref01_Clamp.calls k (rd l0 0) 16777216 t393 _ A4.out).mono ?_); rintro e w' ⟨rfl, ⟨nd, rfl⟩⟩; refine ⟨_, rfl, ?_⟩))
   go_loopg [4, 5] k (fun kq v4 v5 w' => ∃ (x4_1 : Int) (x5_1 : Int), v4 = .int .i64 x4_1 ∧ v5 = .int .i64 x5_1 ∧ Aside0 (augurref03_Softmax.l0 kq l0 x4_1 x5_1 = some (r1, r2)) ∧ Aside0 (kq ≤ k) ∧ Aside0 (Below w.heap.size w w'))
   case atStart => exact ⟨(t393), (1), eqx_, eqx_, H', ⟨Nat.le_refl _⟩, ⟨hb_⟩⟩
   case round =>
    clear H'
    try clear c2
    try clear c2b0
    try clear c2b1
    try clear c2b2
    try clear p2
    try clear c3
    try clear c3b0
    try clear c3b1
    try clear p3
    try clear q3
    try clear hx3
    try clear qi3
    try clear hx392_0
    try clear p392
    try clear q392
    obtain ⟨x4_1, x5_1, rfl, rfl, HA, HK1, HB⟩ := hrel
    cases gk with
    | zero => exact absurd HA.out (by simp [augurref03_Softmax.l0])
    | succ k1 =>
     have H := HA.out
     clear HA
     simp only [augurref03_Softmax.l0] at H
     by_cases c5 : x5_1 < (l0.length : Int)
     ·rw [if_pos c5] at H
      have c5b0 : decide (x5_1 < (l0.length : Int)) = true := decide_eq_true c5
      clear c5
      by_cases c6 : 0 ≤ x5_1
      ·rw [if_pos c6] at H
       have c6b0 : decide (0 ≤ x5_1) = true := decide_eq_true c6
       clear c6
       replace H := Option.bind_eq_some_iff.mp H
       obtain ⟨t395, A70, H⟩ := H
       replace H : (if t395 > x4_1 then (augurref03_Softmax.l0 k1 l0 t395 (wrap64 (x5_1 + 1))) else (augurref03_Softmax.l0 k1 l0 x4_1 (wrap64 (x5_1 + 1)))) = some (r1, r2) := H
       have A7 := Aside0.mk A70
       clear A70
       by_cases c8 : t395 > x4_1
       ·rw [if_pos c8] at H
        have c8b0 : decide (x4_1 < t395) = true := decide_eq_true c8
        clear c8
        have H' := Aside0.mk H
        clear H
        have p394 : 0 ≤ (x5_1 : Int) := of_decide_eq_true as_
        have q394 : x5_1 < (l0.length : Int) := of_decide_eq_true as_
        obtain ⟨ad394, e394, hx394_0⟩ := Kd.at_int HR0.out x5_1 p394 q394
        obtain rfl : ad392 = ad394 := (by injection e394)
        replace hx394_0 := (HB.out.cell (World.block_lt_of_cell? w _ hx394_0)).trans hx394_0
        replace p394 := eq_true p394
        replace q394 := eq_true q394
        go_wp2_with (first | ((with_reducible refine gate_callee (f := 72) rfl ?_); refine goesL_ (some 29) rfl rfl Tryd.func72 (by kernel_rfl) rfl #[.int .i64 (rd l0 x5_1), .int .i64 16777216] rfl mp_ ?_; (with_reducible refine (augurref01_Clamp.calls k1 (rd l0 x5_1) 16777216 t395 _ A7.out).mono ?_); rintro e w' ⟨rfl, ⟨nd, rfl⟩⟩; refine ⟨_, rfl, ?_⟩))
        go_roundg k1
        case measure => have := HK1.out; omega
        case rel => exact ⟨(t395), (wrap64 (x5_1 + 1)), eqx_, eqx_, H', ⟨by have := HK1.out; omega⟩, ⟨hb_⟩⟩
       ·rw [if_neg c8] at H
        have c8b0 : decide (x4_1 < t395) = false := decide_eq_false c8
        clear c8
        have H' := Aside0.mk H
        clear H
        have p394 : 0 ≤ (x5_1 : Int) := of_decide_eq_true as_
        have q394 : x5_1 < (l0.length : Int) := of_decide_eq_true as_
        obtain ⟨ad394, e394, hx394_0⟩ := Kd.at_int HR0.out x5_1 p394 q394
        obtain rfl : ad392 = ad394 := (by injection e394)
        replace hx394_0 := (HB.out.cell (World.block_lt_of_cell? w _ hx394_0)).trans hx394_0
        replace p394 := eq_true p394
        replace q394 := eq_true q394
        go_wp2_with (first | ((with_reducible refine gate_callee (f := 72) rfl ?_); refine goesL_ (some 29) rfl rfl Tryd.func72 (by kernel_rfl) rfl #[.int .i64 (rd l0 x5_1), .int .i64 16777216] rfl mp_ ?_; (with_reducible refine (augurref01_Clamp.calls k1 (rd l0 x5_1) 16777216 t395 _ A7.out).mono ?_); rintro e w' ⟨rfl, ⟨nd, rfl⟩⟩; refine ⟨_, rfl, ?_⟩))
        go_roundg k1
        case measure => have := HK1.out; omega
        case rel => exact ⟨(x4_1), (wrap64 (x5_1 + 1)), eqx_, eqx_, H', ⟨by have := HK1.out; omega⟩, ⟨hb_⟩⟩
      ·rw [if_neg c6] at H
       exact absurd H (by simp)
     ·rw [if_neg c5] at H
      have c5b0 : decide (x5_1 < (l0.length : Int)) = false := decide_eq_false c5
      clear c5
      have H' := Aside0.mk H
      clear H
      go_wp2
      go_loopg [7, 8, 9] k1 (fun kq v7 v8 v9 w' => ∃ (x7_2 : List Int) (x8_2 : Int) (x9_2 : Int), v8 = .int .i64 x8_2 ∧ v9 = .int .i64 x9_2 ∧ Aside0 (augurref03_Softmax.l1 kq l0 x4_1 x7_2 x8_2 x9_2 = some (r1, r2)) ∧ Aside0 (kq ≤ k1) ∧ Aside0 (Kd.R (Kd.int .i64) 2 w' w.heap.size (fun _ => True) v7 x7_2) ∧ Aside0 (Below w.heap.size w w'))
      case atStart => exact ⟨(([] : List Int)), (0), (0), eqx_, eqx_, H', ⟨Nat.le_refl _⟩, ⟨nl_⟩, ⟨hb_⟩⟩
      case round =>
       clear H'
       try clear c2
       try clear c2b0
       try clear c2b1
       try clear c2b2
       try clear p2
       try clear c3
       try clear c3b0
       try clear c3b1
       try clear p3
       try clear q3
       try clear hx3
       try clear qi3
       try clear c5
       try clear c5b0
       try clear c6
       try clear c6b0
       try clear p6
       try clear c7
       try clear c8
       try clear c8b0
       try clear hx392_0
       try clear hx394_0
       try clear p2
       try clear p3
       try clear p392
       try clear p394
       try clear q3
       try clear q392
       try clear q394
       obtain ⟨x7_2, x8_2, x9_2, rfl, rfl, HA, HK2, HO_7, HB⟩ := hrel
       cases gk with
       | zero => exact absurd HA.out (by simp [augurref03_Softmax.l1])
       | succ k2 =>
        have H := HA.out
        clear HA
        simp only [augurref03_Softmax.l1] at H
        by_cases c9 : x9_2 < (l0.length : Int)
        ·rw [if_pos c9] at H
         have c9b0 : decide (x9_2 < (l0.length : Int)) = true := decide_eq_true c9
         clear c9
         by_cases c10 : 0 ≤ x9_2
         ·rw [if_pos c10] at H
          have c10b0 : decide (0 ≤ x9_2) = true := decide_eq_true c10
          clear c10
          replace H := Option.bind_eq_some_iff.mp H
          obtain ⟨t397, A110, H⟩ := H
          replace H : ((augurref01_Exp.f k2 (wrap64 (64 * (wrap64 (t397 - x4_1))))).bind fun t398 => (if x7_2.length < 17592186044416 then (augurref03_Softmax.l1 k2 l0 x4_1 (x7_2 ++ [t398]) (wrap64 (x8_2 + t398)) (wrap64 (x9_2 + 1))) else (none))) = some (r1, r2) := H
          have A11 := Aside0.mk A110
          clear A110
          replace H := Option.bind_eq_some_iff.mp H
          obtain ⟨t398, A120, H⟩ := H
          replace H : (if x7_2.length < 17592186044416 then (augurref03_Softmax.l1 k2 l0 x4_1 (x7_2 ++ [t398]) (wrap64 (x8_2 + t398)) (wrap64 (x9_2 + 1))) else (none)) = some (r1, r2) := H
          have A12 := Aside0.mk A120
          clear A120
          by_cases c13 : x7_2.length < 17592186044416
          ·rw [if_pos c13] at H
           have LMc13 := Aside0.mk c13
           clear c13
           obtain ⟨y399, hy399⟩ : ∃ y_ : List Int, y_ = (x7_2 ++ [t398]) := ⟨_, rfl⟩
           replace H : (augurref03_Softmax.l1 k2 l0 x4_1 y399 (wrap64 (x8_2 + t398)) (wrap64 (x9_2 + 1))) = some (r1, r2) := rh_ hy399 H
           have Ny399 := Aside0.mk hy399
           clear hy399
           have H' := Aside0.mk H
           clear H
           have p396 : 0 ≤ (x9_2 : Int) := of_decide_eq_true as_
           have q396 : x9_2 < (l0.length : Int) := of_decide_eq_true as_
           obtain ⟨ad396, e396, hx396_0⟩ := Kd.at_int HR0.out x9_2 p396 q396
           obtain rfl : ad392 = ad396 := (by injection e396)
           replace hx396_0 := (HB.out.cell (World.block_lt_of_cell? w _ hx396_0)).trans hx396_0
           replace p396 := eq_true p396
           replace q396 := eq_true q396
           go_wp2_with (first | ((with_reducible refine gate_callee (f := 72) rfl ?_); refine goesL_ (some 44) rfl rfl Tryd.func72 (by kernel_rfl) rfl #[.int .i64 (rd l0 x9_2), .int .i64 16777216] rfl mp_ ?_; (with_reducible refine (augurref01_Clamp.calls k2 (rd l0 x9_2) 16777216 t397 _ A11.out).mono ?_); rintro e w' ⟨rfl, ⟨nd, rfl⟩⟩; refine ⟨_, rfl, ?_⟩) | ((with_reducible refine gate_callee (f := 75) rfl ?_); refine goesL_ (some 49) rfl rfl Tryd.func75 (by kernel_rfl) rfl #[.int .i64 (wrap64 (64 * (wrap64 (t397 - x4_1))))] rfl mp_ ?_; (with_reducible refine (augurref01_Exp.calls k2 (wrap64 (64 * (wrap64 (t397 - x4_1)))) t398 _ A12.out).mono ?_); rintro e w' ⟨rfl, ⟨nd, rfl⟩⟩; refine ⟨_, rfl, ?_⟩) | ((with_reducible refine gate_builtin (b := .append) (xs := #[.tmp 50, .tmp 52]) rfl ?_); at_builtin; refine Kd.R_append (Kd.int .i64) (w0 := w) w.heap.size rfl (.tmp 50) (.tmp 52) 22 2 (.int .i64 0) 8 rfl Tryd.underlying22 info2 rfl (by decide) (by omega) u7 x7_2 t398 [.int .i64 t398] (fun _ => True) (fun _ => False) rfl rfl ?aP (fun _ hk => hk.elim) ?aF ?aO ?aB ?aS ?aL ?_; (case aP => exact rfl); (case aB => exact hb_); (case aF => exact (fun _ _ => trivial)); (case aO => exact (rk_ HO_7.out)); (case aS => exact (below_size hb_)); (case aL => have := LMc13.out; omega); intro v400 w14 ho hb hg hat; rw [← Ny399.out] at ho; have n0_ := Aside0.mk (hb); have n1_ := Aside0.mk (ho); clear HB; clear HO_7; have HB := n0_; have HO401 := n1_; clear n0_ n1_; clear ho hb hg hat))
           go_roundg k2
           case measure => have := HK1.out; have := HK2.out; omega
           case rel => exact ⟨(y399), (wrap64 (x8_2 + t398)), (wrap64 (x9_2 + 1)), eqx_, eqx_, H', ⟨by have := HK1.out; have := HK2.out; omega⟩, ⟨rk_ HO401.out⟩, ⟨hb_⟩⟩
          ·rw [if_neg c13] at H
           exact absurd H (by simp)
         ·rw [if_neg c10] at H
          exact absurd H (by simp)
        ·rw [if_neg c9] at H
         have c9b0 : decide (x9_2 < (l0.length : Int)) = false := decide_eq_false c9
         clear c9
         simp only [Option.some.injEq, Prod.mk.injEq] at H
         obtain ⟨rfl, rfl⟩ := H
         go_wp2
         go_ret2
         exact ⟨_, er_, rk_ HO_7.out, hb_⟩
  ·rw [if_neg c3] at H
   exact absurd H (by simp)
mutual
def augurref03_blends.j0 : Nat → List Int → List (List Int) → Bool → Option (Bool × Int)
 | 0, _, _, _ => none
 | k + 1, x0, x1, x17 => if x17 = true then (some (false, 0)) else (augurref03_blends.l0 k x0 x1 0 0)
def augurref03_blends.l0 : Nat → List Int → List (List Int) → Int → Int → Option (Bool × Int)
 | 0, _, _, _, _ => none
 | k + 1, x0, x1, x6, x7 => if x7 < (x0.length : Int) then (if 0 ≤ x7 then (if (rd x0 x7) < 0 then (some (false, 0)) else (if x7 < (x1.length : Int) then (if 0 < (x1.length : Int) then (if ((rd_L3 x1 x7).length : Int) = ((rd_L3 x1 0).length : Int) then (augurref03_blends.l0 k x0 x1 (wrap64 (x6 + (rd x0 x7))) (wrap64 (x7 + 1))) else (some (false, 0))) else (none)) else (none))) else (none)) else (some (decide (x6 ≥ 1), x6))
end
def augurref03_blends.f (k : Nat) (l0 : List Int) (l1 : List (List Int)) : Option (Bool × Int) := if (l0.length : Int) = 0 then (augurref03_blends.j0 k l0 l1 true) else (augurref03_blends.j0 k l0 l1 ((l0.length : Int) != (l1.length : Int)))
set_option maxHeartbeats 8000000 in
set_option maxRecDepth 100000 in
theorem augurref03_blends.calls (k : Nat) (A0 : Option Addr) (c0 : Nat) (l0 : List Int) (A1 : Option Addr) (c1 : Nat) (l1 : List (List Int)) (r1 : Bool) (r2 : Int) (w : World) (hr0 : Kd.C (Kd.int .i64) w A0 l0.length l0) (hc0 : l0.length ≤ c0) (hr1 : Kd.C (Kd.slice 57 (Kd.int .i8)) w A1 l1.length l1) (hc1 : l1.length ≤ c1) (h : augurref03_blends.f k l0 l1 = some (r1, r2)) :
  Calls Tryd.prog 76 #[.slice A0 l0.length c0, .slice A1 l1.length c1] w fun e w' => e = .returned (.tuple #[.bool r1, .int .i64 r2]) ∧ Drawn0 w w' := by
 have HR0 := Aside0.mk hr0
 have HC0 := Aside0.mk hc0
 clear hr0 hc0
 have HR1 := Aside0.mk hr1
 have HC1 := Aside0.mk hc1
 clear hr1 hc1
 have H : (if (l0.length : Int) = 0 then (augurref03_blends.j0 k l0 l1 true) else (augurref03_blends.j0 k l0 l1 ((l0.length : Int) != (l1.length : Int)))) = some (r1, r2) := h
 clear h
 have HC3 := Aside0.mk H
 clear H
 go_enter Tryd.func76, Tryd.ntmps76
 go_upto_region 1 with (fail)
 repeat (go_quiet (fail); go_upto_region 1 with (fail))
 go_cut [17] (fun v17 wc => ∃ (kq : Nat) (x17_2 : Bool), v17 = .bool x17_2 ∧ Aside0 (augurref03_blends.j0 kq l0 l1 x17_2 = some (r1, r2)) ∧ Aside0 (kq ≤ k) ∧ Drawn0 w wc)
 case first =>
  have H := HC3.out
  clear HC3
  by_cases c4 : (l0.length : Int) = 0
  ·rw [if_pos c4] at H
   have c4b0 : ((l0.length : Int) == 0) = true := beq_iff_eq.mpr c4
   have c4b1 : ((l0.length : Int) != 0) = false := bne_eq_false_iff_eq.mpr c4
   clear c4
   (first | rw [c4b0] | (simp only [i64_w, i32_w]; rw [c4b0]) | skip)
   have H' := Aside0.mk H
   clear H
   go_wp2
   repeat (go_quiet (fail); try go_wp2)
   go_meet
   case rel => exact ⟨_, (true), eqx_, H', ⟨om_⟩, dr_⟩
  ·rw [if_neg c4] at H
   have c4b0 : ((l0.length : Int) == 0) = false := beq_eq_false_iff_ne.mpr c4
   have c4b1 : ((l0.length : Int) != 0) = true := bne_iff_ne.mpr c4
   have c4b2 : ¬ (l0 = []) := fun h_ => c4 (by rw [h_]; rfl)
   (first | rw [c4b0] | (simp only [i64_w, i32_w]; rw [c4b0]) | skip)
   have H' := Aside0.mk H
   clear H
   go_wp2
   repeat (go_quiet (fail); try go_wp2)
   go_meet
   case rel => exact ⟨_, (((l0.length : Int) != (l1.length : Int))), eqx_, H', ⟨om_⟩, dr_⟩
 case rest =>
  clear HC3
  try clear c1
  try clear p2
  try clear c4
  try clear c4b0
  try clear c4b1
  try clear c4b2
  obtain ⟨kq, x17_2, rfl, HA, HJ2, ⟨mc2, rfl⟩⟩ := hcut
  cases kq with
  | zero => exact absurd HA.out (by simp [augurref03_blends.j0])
  | succ kj2 =>
   have H := HA.out
   clear HA
   simp only [augurref03_blends.j0] at H
   by_cases c5 : x17_2 = true
   ·subst c5
    have H1 : (some (false, 0)) = some (r1, r2) := by rw [if_pos rfl] at H; exact H
    clear H
    have H := H1
    clear H1
    simp only [Option.some.injEq, Prod.mk.injEq] at H
    obtain ⟨rfl, rfl⟩ := H
    go_wp2
    repeat (go_quiet (fail); try go_wp2)
    go_ret2
    exact ⟨eqx_, dr_⟩
   ·replace c5 := Bool.eq_false_iff.mpr c5
    subst c5
    have H1 : (augurref03_blends.l0 kj2 l0 l1 0 0) = some (r1, r2) := by rw [if_neg (show ¬ (false = true) by decide)] at H; exact H
    clear H
    have H := H1
    clear H1
    have H' := Aside0.mk H
    clear H
    go_wp2
    repeat (go_quiet (fail); try go_wp2)
    go_loopg [6, 7] kj2 (fun kq v6 v7 w' => ∃ (x6_2 : Int) (x7_2 : Int), v6 = .int .i64 x6_2 ∧ v7 = .int .i64 x7_2 ∧ Aside0 (augurref03_blends.l0 kq l0 l1 x6_2 x7_2 = some (r1, r2)) ∧ Aside0 (kq ≤ kj2) ∧ Drawn0 w w')
    case atStart => exact ⟨(0), (0), eqx_, eqx_, H', ⟨Nat.le_refl _⟩, dr_⟩
    case round =>
     clear H'
     try clear c1
     try clear c2
     try clear p2
     try clear c4
     try clear c4b0
     try clear c4b1
     try clear c4b2
     try clear c5
     try clear p2
     obtain ⟨x6_2, x7_2, rfl, rfl, HA, HK2, ⟨m2, rfl⟩⟩ := hrel
     cases gk with
     | zero => exact absurd HA.out (by simp [augurref03_blends.l0])
     | succ k2 =>
      have H := HA.out
      clear HA
      simp only [augurref03_blends.l0] at H
      by_cases c6 : x7_2 < (l0.length : Int)
      ·rw [if_pos c6] at H
       have c6b0 : decide (x7_2 < (l0.length : Int)) = true := decide_eq_true c6
       clear c6
       by_cases c7 : 0 ≤ x7_2
       ·rw [if_pos c7] at H
        have c7b0 : decide (0 ≤ x7_2) = true := decide_eq_true c7
        clear c7
        by_cases c8 : (rd l0 x7_2) < 0
        ·rw [if_pos c8] at H
         have c8b0 : decide ((rd l0 x7_2) < 0) = true := decide_eq_true c8
         clear c8
         simp only [Option.some.injEq, Prod.mk.injEq] at H
         obtain ⟨rfl, rfl⟩ := H
         have p402 : 0 ≤ (x7_2 : Int) := of_decide_eq_true as_
         have q402 : x7_2 < (l0.length : Int) := of_decide_eq_true as_
         obtain ⟨ad402, e402, hx402_0⟩ := Kd.at_int HR0.out x7_2 p402 q402
         cases e402
         replace p402 := eq_true p402
         replace q402 := eq_true q402
         go_wp2
         repeat (go_quiet (fail); try go_wp2)
         go_ret2
         exact ⟨eqx_, dr_⟩
        ·rw [if_neg c8] at H
         have c8b0 : decide ((rd l0 x7_2) < 0) = false := decide_eq_false c8
         clear c8
         by_cases c9 : x7_2 < (l1.length : Int)
         ·rw [if_pos c9] at H
          have c9b0 : decide (x7_2 < (l1.length : Int)) = true := decide_eq_true c9
          clear c9
          by_cases c10 : 0 < (l1.length : Int)
          ·rw [if_pos c10] at H
           have c10b0 : decide (0 < (l1.length : Int)) = true := decide_eq_true c10
           have c10b1 : decide (0 < l1.length) = true := decide_eq_true (by omega)
           clear c10
           by_cases c11 : ((rd_L3 l1 x7_2).length : Int) = ((rd_L3 l1 0).length : Int)
           ·rw [if_pos c11] at H
            have c11b0 : (((rd_L3 l1 x7_2).length : Int) == ((rd_L3 l1 0).length : Int)) = true := beq_iff_eq.mpr c11
            have c11b1 : (((rd_L3 l1 x7_2).length : Int) != ((rd_L3 l1 0).length : Int)) = false := bne_eq_false_iff_eq.mpr c11
            have c11b2 : ((rd_L3 l1 x7_2).length == (rd_L3 l1 0).length) = true := by first | simpa using c11 | (simp at c11 ⊢; omega)
            clear c11
            have H' := Aside0.mk H
            clear H
            have p402 : 0 ≤ (x7_2 : Int) := of_decide_eq_true as_
            have q402 : x7_2 < (l0.length : Int) := of_decide_eq_true as_
            obtain ⟨ad402, e402, hx402_0⟩ := Kd.at_int HR0.out x7_2 p402 q402
            cases e402
            replace p402 := eq_true p402
            replace q402 := eq_true q402
            have p403 : 0 ≤ (x7_2 : Int) := of_decide_eq_true as_
            have q403 : x7_2 < (l1.length : Int) := of_decide_eq_true as_
            obtain ⟨ad403, A403_0, c403_0, e403, hx403_0, hl403_0, hi403_0⟩ := at_L3 HR1.out x7_2 p403 q403
            cases e403
            have HR403_0 := Aside0.mk hi403_0
            have HC403_0 := Aside0.mk hl403_0
            clear hi403_0 hl403_0
            replace p403 := eq_true p403
            replace q403 := eq_true q403
            have p404 : 0 ≤ (0 : Int) := (by omega)
            have q404 : 0 < (l1.length : Int) := of_decide_eq_true as_
            obtain ⟨ad404, A404_0, c404_0, e404, hx404_0, hl404_0, hi404_0⟩ := at_L3 HR1.out 0 p404 q404
            obtain rfl : ad403 = ad404 := (by injection e404)
            have qi404 : (0 < l1.length) = True := eq_true (by omega)
            (try rw [show ((0 : Int)).toNat = 0 from rfl] at hx404_0)
            (try rw [Addr.add_zero'] at hx404_0)
            have HR404_0 := Aside0.mk hi404_0
            have HC404_0 := Aside0.mk hl404_0
            clear hi404_0 hl404_0
            replace p404 := eq_true p404
            replace q404 := eq_true q404
            have p405 : 0 ≤ (x7_2 : Int) := of_decide_eq_true as_
            have q405 : x7_2 < (l0.length : Int) := of_decide_eq_true as_
            obtain ⟨ad405, e405, hx405_0⟩ := Kd.at_int HR0.out x7_2 p405 q405
            obtain rfl : ad402 = ad405 := (by injection e405)
            replace p405 := eq_true p405
            replace q405 := eq_true q405
            go_wp2
            repeat (go_quiet (fail); try go_wp2)
            go_roundg k2
            case measure => have := HJ2.out; have := HK2.out; omega
            case rel => exact ⟨(wrap64 (x6_2 + (rd l0 x7_2))), (wrap64 (x7_2 + 1)), eqx_, eqx_, H', ⟨by have := HJ2.out; have := HK2.out; omega⟩, dr_⟩
           ·rw [if_neg c11] at H
            have c11b0 : (((rd_L3 l1 x7_2).length : Int) == ((rd_L3 l1 0).length : Int)) = false := beq_eq_false_iff_ne.mpr c11
            have c11b1 : (((rd_L3 l1 x7_2).length : Int) != ((rd_L3 l1 0).length : Int)) = true := bne_iff_ne.mpr c11
            have c11b2 : ((rd_L3 l1 x7_2).length == (rd_L3 l1 0).length) = false := by first | simpa using c11 | (simp at c11 ⊢; omega)
            simp only [Option.some.injEq, Prod.mk.injEq] at H
            obtain ⟨rfl, rfl⟩ := H
            have p402 : 0 ≤ (x7_2 : Int) := of_decide_eq_true as_
            have q402 : x7_2 < (l0.length : Int) := of_decide_eq_true as_
            obtain ⟨ad402, e402, hx402_0⟩ := Kd.at_int HR0.out x7_2 p402 q402
            cases e402
            replace p402 := eq_true p402
            replace q402 := eq_true q402
            have p403 : 0 ≤ (x7_2 : Int) := of_decide_eq_true as_
            have q403 : x7_2 < (l1.length : Int) := of_decide_eq_true as_
            obtain ⟨ad403, A403_0, c403_0, e403, hx403_0, hl403_0, hi403_0⟩ := at_L3 HR1.out x7_2 p403 q403
            cases e403
            have HR403_0 := Aside0.mk hi403_0
            have HC403_0 := Aside0.mk hl403_0
            clear hi403_0 hl403_0
            replace p403 := eq_true p403
            replace q403 := eq_true q403
            have p404 : 0 ≤ (0 : Int) := (by omega)
            have q404 : 0 < (l1.length : Int) := of_decide_eq_true as_
            obtain ⟨ad404, A404_0, c404_0, e404, hx404_0, hl404_0, hi404_0⟩ := at_L3 HR1.out 0 p404 q404
            obtain rfl : ad403 = ad404 := (by injection e404)
            have qi404 : (0 < l1.length) = True := eq_true (by omega)
            (try rw [show ((0 : Int)).toNat = 0 from rfl] at hx404_0)
            (try rw [Addr.add_zero'] at hx404_0)
            have HR404_0 := Aside0.mk hi404_0
            have HC404_0 := Aside0.mk hl404_0
            clear hi404_0 hl404_0
            replace p404 := eq_true p404
            replace q404 := eq_true q404
            go_wp2
            repeat (go_quiet (fail); try go_wp2)
            go_ret2
            exact ⟨eqx_, dr_⟩
          ·rw [if_neg c10] at H
           exact absurd H (by simp)
         ·rw [if_neg c9] at H
          exact absurd H (by simp)
       ·rw [if_neg c7] at H
        exact absurd H (by simp)
      ·rw [if_neg c6] at H
       have c6b0 : decide (x7_2 < (l0.length : Int)) = false := decide_eq_false c6
       clear c6
       simp only [Option.some.injEq, Prod.mk.injEq] at H
       obtain ⟨rfl, rfl⟩ := H
       go_wp2
       repeat (go_quiet (fail); try go_wp2)
       go_ret2
       exact ⟨eqx_, dr_⟩
mutual
def augurref03_Blend.l0 : Nat → List Int → List (List Int) → Int → List Int → Int → Option (List Int × Int)
 | 0, _, _, _, _, _ => none
 | k + 1, x0, x1, x7, x8, x9 => if 0 < (x1.length : Int) then (if x9 < ((rd_L3 x1 0).length : Int) then (augurref03_Blend.l1 k x0 x1 x7 x8 x9 0 0) else (some (x8, 0))) else (none)
def augurref03_Blend.l1 : Nat → List Int → List (List Int) → Int → List Int → Int → Int → Int → Option (List Int × Int)
 | 0, _, _, _, _, _, _, _ => none
 | k + 1, x0, x1, x7, x8, x9, x10, x11 => if x11 < (x1.length : Int) then (if 0 ≤ x11 then (if x11 < (x0.length : Int) then (if 0 ≤ x9 then (if x9 < ((rd_L3 x1 x11).length : Int) then (augurref03_Blend.l1 k x0 x1 x7 x8 x9 (wrap64 (x10 + (wrap64 ((rd x0 x11) * (wrap64 (rd (rd_L3 x1 x11) x9)))))) (wrap64 (x11 + 1))) else (none)) else (none)) else (none)) else (none)) else ((augurref01_Div.f x10 x7).bind fun t412 => ((augurref01_Clamp8.f k t412).bind fun t413 => (if x8.length < 140737488355328 then (augurref03_Blend.l0 k x0 x1 x7 (x8 ++ [t413]) (wrap64 (x9 + 1))) else (none))))
end
def augurref03_Blend.f (k : Nat) (l0 : List Int) (l1 : List (List Int)) : Option (List Int × Int) := (augurref03_blends.f k l0 l1).bind fun bt406 => (if bt406.1 = true then (augurref03_Blend.l0 k l0 l1 bt406.2 ([] : List Int) 0) else (some (([] : List Int), 30)))
theorem augurref03_Blend.mono_l : ∀ k, (∀ y0 y1 y2 y3 y4, LeO (augurref03_Blend.l0 k y0 y1 y2 y3 y4) (augurref03_Blend.l0 (k + 1) y0 y1 y2 y3 y4)) ∧ (∀ y0 y1 y2 y3 y4 y5 y6, LeO (augurref03_Blend.l1 k y0 y1 y2 y3 y4 y5 y6) (augurref03_Blend.l1 (k + 1) y0 y1 y2 y3 y4 y5 y6))
 | 0 => ⟨fun _ _ _ _ _ r h => by simp [augurref03_Blend.l0] at h, fun _ _ _ _ _ _ _ r h => by simp [augurref03_Blend.l1] at h⟩
 | k + 1 => by
  obtain ⟨ih0, ih1⟩ := augurref03_Blend.mono_l k
  refine ⟨?_, ?_⟩
  ·intro y0 y1 y2 y3 y4
   unfold augurref03_Blend.l0
   repeat' first
   | (with_reducible exact ih0 _ _ _ _ _)
   | (with_reducible exact ih1 _ _ _ _ _ _ _)
   | (with_reducible exact augurref01_Clamp8.mono _ _)
   | (with_reducible exact augurref03_blends.mono _ _ _)
   | (with_reducible exact LeO.refl _)
   | (with_reducible exact LeO.none _)
   | (with_reducible refine LeO.ite ?_ ?_)
   | (with_reducible refine LeO.bind ?_ (fun _ => ?_))
   | exact ih0 _ _ _ _ _
   | exact ih1 _ _ _ _ _ _ _
   | exact augurref01_Clamp8.mono _ _
   | exact augurref03_blends.mono _ _ _
   | exact LeO.none _
   | refine LeO.ite ?_ ?_
   | refine LeO.bind ?_ (fun _ => ?_)
  ·intro y0 y1 y2 y3 y4 y5 y6
   unfold augurref03_Blend.l1
   repeat' first
   | (with_reducible exact ih0 _ _ _ _ _)
   | (with_reducible exact ih1 _ _ _ _ _ _ _)
   | (with_reducible exact augurref01_Clamp8.mono _ _)
   | (with_reducible exact augurref03_blends.mono _ _ _)
   | (with_reducible exact LeO.refl _)
   | (with_reducible exact LeO.none _)
   | (with_reducible refine LeO.ite ?_ ?_)
   | (with_reducible refine LeO.bind ?_ (fun _ => ?_))
   | exact ih0 _ _ _ _ _
   | exact ih1 _ _ _ _ _ _ _
   | exact augurref01_Clamp8.mono _ _
   | exact augurref03_blends.mono _ _ _
   | exact LeO.none _
   | refine LeO.ite ?_ ?_
   | refine LeO.bind ?_ (fun _ => ?_)
set_option maxHeartbeats 8000000 in
set_option maxRecDepth 100000 in
theorem augurref03_Blend.calls (k : Nat) (A0 : Option Addr) (c0 : Nat) (l0 : List Int) (A1 : Option Addr) (c1 : Nat) (l1 : List (List Int)) (r1 : List Int) (r2 : Int) (w : World) (hr0 : Kd.C (Kd.int .i64) w A0 l0.length l0) (hc0 : l0.length ≤ c0) (hr1 : Kd.C (Kd.slice 57 (Kd.int .i8)) w A1 l1.length l1) (hc1 : l1.length ≤ c1) (h : augurref03_Blend.f k l0 l1 = some (r1, r2)) :
  Calls Tryd.prog 60 #[.slice A0 l0.length c0, .slice A1 l1.length c1] w fun e w' => ∃ v0_ : Value, e = .returned (.tuple #[v0_, .int .i64 r2]) ∧ Kd.R (Kd.int .i8) 57 w' w.heap.size (fun _ => True) v0_ r1 ∧ Below w.heap.size w w' := by
 have HR0 := Aside0.mk hr0
 have HC0 := Aside0.mk hc0
 clear hr0 hc0
 have HR1 := Aside0.mk hr1
 have HC1 := Aside0.mk hc1
 clear hr1 hc1
 have HB := Aside0.mk (Below.refl w.heap.size w)
 have H : ((augurref03_blends.f k l0 l1).bind fun bt406 => (if bt406.1 = true then (augurref03_Blend.l0 k l0 l1 bt406.2 ([] : List Int) 0) else (some (([] : List Int), 30)))) = some (r1, r2) := h
 clear h
 replace H := Option.bind_eq_some_iff.mp H
 obtain ⟨⟨t406, t407⟩, A30, H⟩ := H
 replace H : (if t406 = true then (augurref03_Blend.l0 k l0 l1 t407 ([] : List Int) 0) else (some (([] : List Int), 30))) = some (r1, r2) := H
 have A3 := Aside0.mk A30
 clear A30
 by_cases c4 : t406 = true
 ·subst c4
  have H1 : (augurref03_Blend.l0 k l0 l1 t407 ([] : List Int) 0) = some (r1, r2) := by rw [if_pos rfl] at H; exact H
  clear H
  have H := H1
  clear H1
  have H' := Aside0.mk H
  clear H
  go_enter Tryd.func60, Tryd.ntmps60
  go_wp2_with (first | (go_at_call 76; (with_reducible refine (augurref03_blends.calls k _ _ l0 _ _ l1 true t407 _ ?side1 ?side2 ?side3 ?side4 A3.out).mono ?_); (case side1 => exact ck_ HR0.out); (case side2 => exact HC0.out); (case side3 => exact ck_ HR1.out); (case side4 => exact HC1.out); rintro e w' ⟨rfl, ⟨nd, rfl⟩⟩; (try exact dx_)))
  repeat (go_quiet (first | (go_at_call 76; (with_reducible refine (augurref03_blends.calls k _ _ l0 _ _ l1 true t407 _ ?side1 ?side2 ?side3 ?side4 A3.out).mono ?_); (case side1 => exact ck_ HR0.out); (case side2 => exact HC0.out); (case side3 => exact ck_ HR1.out); (case side4 => exact HC1.out); rintro e w' ⟨rfl, ⟨nd, rfl⟩⟩; (try exact dx_))); try go_wp2_with (first | (go_at_call 76; (with_reducible refine (augurref03_blends.calls k _ _ l0 _ _ l1 true t407 _ ?side1 ?side2 ?side3 ?side4 A3.out).mono ?_); (case side1 => exact ck_ HR0.out); (case side2 => exact HC0.out); (case side3 => exact ck_ HR1.out); (case side4 => exact HC1.out); rintro e w' ⟨rfl, ⟨nd, rfl⟩⟩; (try exact dx_))))
  go_loopg [8, 9] k (fun kq v8 v9 w' => ∃ (x8_1 : List Int) (x9_1 : Int), v9 = .int .i64 x9_1 ∧ Aside0 (augurref03_Blend.l0 kq l0 l1 t407 x8_1 x9_1 = some (r1, r2)) ∧ Aside0 (kq ≤ k) ∧ Aside0 (Kd.R (Kd.int .i8) 57 w' w.heap.size (fun _ => True) v8 x8_1) ∧ Aside0 (Below w.heap.size w w'))
  case atStart => exact ⟨(([] : List Int)), (0), eqx_, H', ⟨Nat.le_refl _⟩, ⟨nl_⟩, ⟨hb_⟩⟩
  case round =>
   clear H'
   try clear c1
   try clear p2
   try clear c4
   obtain ⟨x8_1, x9_1, rfl, HA, HK1, HO_8, HB⟩ := hrel
   cases gk with
   | zero => exact absurd HA.out (by simp [augurref03_Blend.l0])
   | succ k1 =>
    have H := HA.out
    clear HA
    simp only [augurref03_Blend.l0] at H
    by_cases c5 : 0 < (l1.length : Int)
    ·rw [if_pos c5] at H
     have c5b0 : decide (0 < (l1.length : Int)) = true := decide_eq_true c5
     have c5b1 : decide (0 < l1.length) = true := decide_eq_true (by omega)
     clear c5
     by_cases c6 : x9_1 < ((rd_L3 l1 0).length : Int)
     ·rw [if_pos c6] at H
      have c6b0 : decide (x9_1 < ((rd_L3 l1 0).length : Int)) = true := decide_eq_true c6
      clear c6
      have H' := Aside0.mk H
      clear H
      have p408 : 0 ≤ (0 : Int) := (by omega)
      have q408 : 0 < (l1.length : Int) := of_decide_eq_true as_
      obtain ⟨ad408, A408_0, c408_0, e408, hx408_0, hl408_0, hi408_0⟩ := at_L3 HR1.out 0 p408 q408
      cases e408
      have qi408 : (0 < l1.length) = True := eq_true (by omega)
      (try rw [show ((0 : Int)).toNat = 0 from rfl] at hx408_0)
      (try rw [Addr.add_zero'] at hx408_0)
      replace hx408_0 := (HB.out.cell (World.block_lt_of_cell? w _ hx408_0)).trans hx408_0
      have HR408_0 := Aside0.mk hi408_0
      have HC408_0 := Aside0.mk hl408_0
      clear hi408_0 hl408_0
      replace p408 := eq_true p408
      replace q408 := eq_true q408
      go_wp2
      repeat (go_quiet (fail); try go_wp2)
      go_loopg [10, 11] k1 (fun kq v10 v11 w' => ∃ (x10_2 : Int) (x11_2 : Int), v10 = .int .i64 x10_2 ∧ v11 = .int .i64 x11_2 ∧ Aside0 (augurref03_Blend.l1 kq l0 l1 t407 x8_1 x9_1 x10_2 x11_2 = some (r1, r2)) ∧ Aside0 (kq ≤ k1) ∧ Aside0 (Kd.R (Kd.int .i8) 57 w' w.heap.size (fun _ => True) u8 x8_1) ∧ Aside0 (Below w.heap.size w w'))
      case atStart => exact ⟨(0), (0), eqx_, eqx_, H', ⟨Nat.le_refl _⟩, ⟨rk_ HO_8.out⟩, ⟨hb_⟩⟩
      case round =>
       clear H'
       try clear c1
       try clear p2
       try clear c4
       try clear p4
       try clear q4
       try clear hx4
       try clear qi4
       try clear c5
       try clear c5b0
       try clear c5b1
       try clear c6
       try clear c6b0
       try clear hx408_0
       try clear p2
       try clear p408
       try clear q408
       obtain ⟨x10_2, x11_2, rfl, rfl, HA, HK2, HO_8, HB⟩ := hrel
       cases gk with
       | zero => exact absurd HA.out (by simp [augurref03_Blend.l1])
       | succ k2 =>
        have H := HA.out
        clear HA
        simp only [augurref03_Blend.l1] at H
        by_cases c7 : x11_2 < (l1.length : Int)
        ·rw [if_pos c7] at H
         have c7b0 : decide (x11_2 < (l1.length : Int)) = true := decide_eq_true c7
         clear c7
         by_cases c8 : 0 ≤ x11_2
         ·rw [if_pos c8] at H
          have c8b0 : decide (0 ≤ x11_2) = true := decide_eq_true c8
          clear c8
          by_cases c9 : x11_2 < (l0.length : Int)
          ·rw [if_pos c9] at H
           have c9b0 : decide (x11_2 < (l0.length : Int)) = true := decide_eq_true c9
           clear c9
           by_cases c10 : 0 ≤ x9_1
           ·rw [if_pos c10] at H
            have c10b0 : decide (0 ≤ x9_1) = true := decide_eq_true c10
            clear c10
            by_cases c11 : x9_1 < ((rd_L3 l1 x11_2).length : Int)
            ·rw [if_pos c11] at H
             have c11b0 : decide (x9_1 < ((rd_L3 l1 x11_2).length : Int)) = true := decide_eq_true c11
             clear c11
             have H' := Aside0.mk H
             clear H
             have p409 : 0 ≤ (x11_2 : Int) := of_decide_eq_true as_
             have q409 : x11_2 < (l0.length : Int) := of_decide_eq_true as_
             obtain ⟨ad409, e409, hx409_0⟩ := Kd.at_int HR0.out x11_2 p409 q409
             cases e409
             replace hx409_0 := (HB.out.cell (World.block_lt_of_cell? w _ hx409_0)).trans hx409_0
             replace p409 := eq_true p409
             replace q409 := eq_true q409
             have p410 : 0 ≤ (x11_2 : Int) := of_decide_eq_true as_
             have q410 : x11_2 < (l1.length : Int) := of_decide_eq_true as_
             obtain ⟨ad410, A410_0, c410_0, e410, hx410_0, hl410_0, hi410_0⟩ := at_L3 HR1.out x11_2 p410 q410
             obtain rfl : ad408 = ad410 := (by injection e410)
             replace hx410_0 := (HB.out.cell (World.block_lt_of_cell? w _ hx410_0)).trans hx410_0
             have HR410_0 := Aside0.mk hi410_0
             have HC410_0 := Aside0.mk hl410_0
             clear hi410_0 hl410_0
             replace p410 := eq_true p410
             replace q410 := eq_true q410
             have p411 : 0 ≤ (x9_1 : Int) := of_decide_eq_true as_
             have q411 : x9_1 < ((rd_L3 l1 x11_2).length : Int) := of_decide_eq_true as_
             obtain ⟨ad411, e411, hx411_0⟩ := Kd.at_int HR410_0.out x9_1 p411 q411
             cases e411
             replace hx411_0 := (HB.out.cell (World.block_lt_of_cell? w _ hx411_0)).trans hx411_0
             replace p411 := eq_true p411
             replace q411 := eq_true q411
             go_wp2
             repeat (go_quiet (fail); try go_wp2)
             go_roundg k2
             case measure => have := HK1.out; have := HK2.out; omega
             case rel => exact ⟨(wrap64 (x10_2 + (wrap64 ((rd l0 x11_2) * (wrap64 (rd (rd_L3 l1 x11_2) x9_1)))))), (wrap64 (x11_2 + 1)), eqx_, eqx_, H', ⟨by have := HK1.out; have := HK2.out; omega⟩, ⟨rk_ HO_8.out⟩, ⟨hb_⟩⟩
            ·rw [if_neg c11] at H
             exact absurd H (by simp)
           ·rw [if_neg c10] at H
            exact absurd H (by simp)
          ·rw [if_neg c9] at H
           exact absurd H (by simp)
         ·rw [if_neg c8] at H
          exact absurd H (by simp)
        ·rw [if_neg c7] at H
         have c7b0 : decide (x11_2 < (l1.length : Int)) = false := decide_eq_false c7
         clear c7
         replace H := Option.bind_eq_some_iff.mp H
         obtain ⟨t412, A120, H⟩ := H
         replace H : ((augurref01_Clamp8.f k2 t412).bind fun t413 => (if x8_1.length < 140737488355328 then (augurref03_Blend.l0 k2 l0 l1 t407 (x8_1 ++ [t413]) (wrap64 (x9_1 + 1))) else (none))) = some (r1, r2) := H
         have A12 := Aside0.mk A120
         clear A120
         replace H := Option.bind_eq_some_iff.mp H
         obtain ⟨t413, A130, H⟩ := H
         replace H : (if x8_1.length < 140737488355328 then (augurref03_Blend.l0 k2 l0 l1 t407 (x8_1 ++ [t413]) (wrap64 (x9_1 + 1))) else (none)) = some (r1, r2) := H
         have A13 := Aside0.mk A130
         clear A130
         by_cases c14 : x8_1.length < 140737488355328
         ·rw [if_pos c14] at H
          have LMc14 := Aside0.mk c14
          clear c14
          obtain ⟨y414, hy414⟩ : ∃ y_ : List Int, y_ = (x8_1 ++ [t413]) := ⟨_, rfl⟩
          replace H : (augurref03_Blend.l0 k2 l0 l1 t407 y414 (wrap64 (x9_1 + 1))) = some (r1, r2) := rh_ hy414 H
          have Ny414 := Aside0.mk hy414
          clear hy414
          have H' := Aside0.mk H
          clear H
          go_wp2_with (first | (go_at_call 73; (with_reducible refine (augurref01_Div.calls x10_2 t407 t412 _ A12.out).mono ?_); rintro e w' ⟨rfl, ⟨nd, rfl⟩⟩; (try exact dx_)) | (go_at_call 71; (with_reducible refine (augurref01_Clamp8.calls k2 t412 t413 _ A13.out).mono ?_); rintro e w' ⟨rfl, ⟨nd, rfl⟩⟩; (try exact dx_)) | ((with_reducible refine gate_builtin (b := .append) (xs := #[.tmp 56, .tmp 58]) rfl ?_); at_builtin; refine Kd.R_append (Kd.int .i8) (w0 := w) w.heap.size rfl (.tmp 56) (.tmp 58) 33 57 (.int .i8 0) 1 rfl Tryd.underlying33 info57 rfl (by decide) (by omega) u8 x8_1 t413 [.int .i8 t413] (fun _ => True) (fun _ => False) rfl rfl ?aP (fun _ hk => hk.elim) ?aF ?aO ?aB ?aS ?aL ?_; (case aP => exact rfl); (case aB => exact hb_); (case aF => exact (fun _ _ => trivial)); (case aO => exact (rk_ HO_8.out)); (case aS => exact (below_size hb_)); (case aL => have := LMc14.out; omega); intro v415 w15 ho hb hg hat; rw [← Ny414.out] at ho; have n0_ := Aside0.mk (hb); have n1_ := Aside0.mk (ho); clear HB; clear HO_8; have HB := n0_; have HO416 := n1_; clear n0_ n1_; clear ho hb hg hat))
          repeat (go_quiet (first | (go_at_call 73; (with_reducible refine (augurref01_Div.calls x10_2 t407 t412 _ A12.out).mono ?_); rintro e w' ⟨rfl, ⟨nd, rfl⟩⟩; (try exact dx_)) | (go_at_call 71; (with_reducible refine (augurref01_Clamp8.calls k2 t412 t413 _ A13.out).mono ?_); rintro e w' ⟨rfl, ⟨nd, rfl⟩⟩; (try exact dx_)) | ((with_reducible refine gate_builtin (b := .append) (xs := #[.tmp 56, .tmp 58]) rfl ?_); at_builtin; refine Kd.R_append (Kd.int .i8) (w0 := w) w.heap.size rfl (.tmp 56) (.tmp 58) 33 57 (.int .i8 0) 1 rfl Tryd.underlying33 info57 rfl (by decide) (by omega) u8 x8_1 t413 [.int .i8 t413] (fun _ => True) (fun _ => False) rfl rfl ?aP (fun _ hk => hk.elim) ?aF ?aO ?aB ?aS ?aL ?_; (case aP => exact rfl); (case aB => exact hb_); (case aF => exact (fun _ _ => trivial)); (case aO => exact (rk_ HO_8.out)); (case aS => exact (below_size hb_)); (case aL => have := LMc14.out; omega); intro v415 w15 ho hb hg hat; rw [← Ny414.out] at ho; have n0_ := Aside0.mk (hb); have n1_ := Aside0.mk (ho); clear HB; clear HO_8; have HB := n0_; have HO416 := n1_; clear n0_ n1_; clear ho hb hg hat)); try go_wp2_with (first | (go_at_call 73; (with_reducible refine (augurref01_Div.calls x10_2 t407 t412 _ A12.out).mono ?_); rintro e w' ⟨rfl, ⟨nd, rfl⟩⟩; (try exact dx_)) | (go_at_call 71; (with_reducible refine (augurref01_Clamp8.calls k2 t412 t413 _ A13.out).mono ?_); rintro e w' ⟨rfl, ⟨nd, rfl⟩⟩; (try exact dx_)) | ((with_reducible refine gate_builtin (b := .append) (xs := #[.tmp 56, .tmp 58]) rfl ?_); at_builtin; refine Kd.R_append (Kd.int .i8) (w0 := w) w.heap.size rfl (.tmp 56) (.tmp 58) 33 57 (.int .i8 0) 1 rfl Tryd.underlying33 info57 rfl (by decide) (by omega) u8 x8_1 t413 [.int .i8 t413] (fun _ => True) (fun _ => False) rfl rfl ?aP (fun _ hk => hk.elim) ?aF ?aO ?aB ?aS ?aL ?_; (case aP => exact rfl); (case aB => exact hb_); (case aF => exact (fun _ _ => trivial)); (case aO => exact (rk_ HO_8.out)); (case aS => exact (below_size hb_)); (case aL => have := LMc14.out; omega); intro v415 w15 ho hb hg hat; rw [← Ny414.out] at ho; have n0_ := Aside0.mk (hb); have n1_ := Aside0.mk (ho); clear HB; clear HO_8; have HB := n0_; have HO416 := n1_; clear n0_ n1_; clear ho hb hg hat)))
          go_roundg k2
          case measure => have := HK1.out; have := HK2.out; omega
          case rel => exact ⟨(y414), (wrap64 (x9_1 + 1)), eqx_, H', ⟨by have := HK1.out; have := HK2.out; omega⟩, ⟨rk_ HO416.out⟩, ⟨hb_⟩⟩
         ·rw [if_neg c14] at H
          exact absurd H (by simp)
     ·rw [if_neg c6] at H
      have c6b0 : decide (x9_1 < ((rd_L3 l1 0).length : Int)) = false := decide_eq_false c6
      clear c6
      simp only [Option.some.injEq, Prod.mk.injEq] at H
      obtain ⟨rfl, rfl⟩ := H
      have p408 : 0 ≤ (0 : Int) := (by omega)
      have q408 : 0 < (l1.length : Int) := of_decide_eq_true as_
      obtain ⟨ad408, A408_0, c408_0, e408, hx408_0, hl408_0, hi408_0⟩ := at_L3 HR1.out 0 p408 q408
      cases e408
      have qi408 : (0 < l1.length) = True := eq_true (by omega)
      (try rw [show ((0 : Int)).toNat = 0 from rfl] at hx408_0)
      (try rw [Addr.add_zero'] at hx408_0)
      replace hx408_0 := (HB.out.cell (World.block_lt_of_cell? w _ hx408_0)).trans hx408_0
      have HR408_0 := Aside0.mk hi408_0
      have HC408_0 := Aside0.mk hl408_0
      clear hi408_0 hl408_0
      replace p408 := eq_true p408
      replace q408 := eq_true q408
      go_wp2
      repeat (go_quiet (fail); try go_wp2)
      go_ret2
      exact ⟨_, er_, rk_ HO_8.out, hb_⟩
    ·rw [if_neg c5] at H
     exact absurd H (by simp)
 ·replace c4 := Bool.eq_false_iff.mpr c4
  subst c4
  have H1 : (some (([] : List Int), 30)) = some (r1, r2) := by rw [if_neg (show ¬ (false = true) by decide)] at H; exact H
  clear H
  have H := H1
  clear H1
  simp only [Option.some.injEq, Prod.mk.injEq] at H
  obtain ⟨rfl, rfl⟩ := H
  go_enter Tryd.func60, Tryd.ntmps60
  go_wp2_with (first | (go_at_call 76; (with_reducible refine (augurref03_blends.calls k _ _ l0 _ _ l1 false t407 _ ?side1 ?side2 ?side3 ?side4 A3.out).mono ?_); (case side1 => exact ck_ HR0.out); (case side2 => exact HC0.out); (case side3 => exact ck_ HR1.out); (case side4 => exact HC1.out); rintro e w' ⟨rfl, ⟨nd, rfl⟩⟩; (try exact dx_)))
  repeat (go_quiet (first | (go_at_call 76; (with_reducible refine (augurref03_blends.calls k _ _ l0 _ _ l1 false t407 _ ?side1 ?side2 ?side3 ?side4 A3.out).mono ?_); (case side1 => exact ck_ HR0.out); (case side2 => exact HC0.out); (case side3 => exact ck_ HR1.out); (case side4 => exact HC1.out); rintro e w' ⟨rfl, ⟨nd, rfl⟩⟩; (try exact dx_))); try go_wp2_with (first | (go_at_call 76; (with_reducible refine (augurref03_blends.calls k _ _ l0 _ _ l1 false t407 _ ?side1 ?side2 ?side3 ?side4 A3.out).mono ?_); (case side1 => exact ck_ HR0.out); (case side2 => exact HC0.out); (case side3 => exact ck_ HR1.out); (case side4 => exact HC1.out); rintro e w' ⟨rfl, ⟨nd, rfl⟩⟩; (try exact dx_))))
  go_ret2
  exact ⟨_, er_, nl_, hb_⟩
def augurref03_small.f (a0 : Int) : Option (Bool) := if a0 ≥ (-16384) then (some (decide (a0 ≤ 16384))) else (some false)
set_option maxHeartbeats 8000000 in
set_option maxRecDepth 100000 in
theorem augurref03_small.calls (a0 : Int) (r : Bool) (w : World) (h : augurref03_small.f a0 = some r) :
  Calls Tryd.prog 77 #[.int .i64 a0] w fun e w' => e = .returned (.bool r) ∧ Drawn0 w w' := by
 have H : (if a0 ≥ (-16384) then (some (decide (a0 ≤ 16384))) else (some false)) = some r := h
 clear h
 by_cases c2 : a0 ≥ (-16384)
 ·rw [if_pos c2] at H
  have c2b0 : decide ((-16384) ≤ a0) = true := decide_eq_true c2
  clear c2
  obtain rfl := Option.some.inj H
  go_enter Tryd.func77, Tryd.ntmps77
  go_wp2
  go_ret
  exact ⟨eqx_, dr_⟩
 ·rw [if_neg c2] at H
  have c2b0 : decide ((-16384) ≤ a0) = false := decide_eq_false c2
  clear c2
  obtain rfl := Option.some.inj H
  go_enter Tryd.func77, Tryd.ntmps77
  go_wp2
  go_ret
  exact ⟨eqx_, dr_⟩
end Go.Proofs.YtnioohhiphpplaaDoor.Pplays
