/- The walk of booked. -/
import Derived.Test.YtnioohhiphpplaaDoorLp
import Derived.Test.YtnioohhiphpplaaDoorSq
set_option linter.unusedVariables false
set_option linter.unusedSimpArgs false
namespace Go.Proofs.YtnioohhiphpplaaDoor.Dp
open Go.RowKit Go.Proofs.YtnioohhiphpplaaDoor.Pplays Go.Proofs.YtnioohhiphpplaaDoorW.PrintWords Go.Proofs.YtnioohhiphpplaaDoorW.PrintLast Go.Proofs.YtnioohhiphpplaaDoorW.PrintMore Go.Proofs.YtnioohhiphpplaaDoor.M Go.Proofs.YtnioohhiphpplaaDoor.Wk Go.Lib
namespace Wk
theorem lit_V2 {W : World} {g : Nat} {u v : Value} {xs ys : List Int} (h0 : W.cell? ⟨g, 0, none⟩ = some u) (h1 : W.cell? ⟨g, 1, none⟩ = some v) (hu : Rd (Kd.int .i8) W u xs) (hv : Rd (Kd.int .i8) W v ys) : Kd.C (Kd.slice 57 (Kd.int .i8)) W (some ⟨g, 0, none⟩) 2 [xs, ys] := by
 obtain ⟨p, c, rfl, hc, hp⟩ := hu
 obtain ⟨p', c', rfl, hc', hp'⟩ := hv
 refine ⟨rfl, by omega, fun _ => ⟨_, rfl, fun j l hj => ?_⟩⟩
 match j, hj with
 | 0, hj =>
  obtain rfl : xs = l := by simpa using hj
  exact ⟨_, rfl, ⟨p, c, rfl, hc, hp⟩, fun i q hq => by
   match i, hq with
   | 0, hq =>
    obtain rfl := Option.some.inj hq
    exact h0⟩
 | 1, hj =>
  obtain rfl : ys = l := by simpa using hj
  exact ⟨_, rfl, ⟨p', c', rfl, hc', hp'⟩, fun i q hq => by
   match i, hq with
   | 0, hq =>
    obtain rfl := Option.some.inj hq
    exact h1⟩
theorem lit_T1 {W : World} {g : Nat} {c s : Int} (h : W.heap[g]? = some (.cells #[.int .i64 c, .int .i64 s] 87 (0, 0))) : Kd.C k87 W (some ⟨g, 0, none⟩) 1 [⟨c, s⟩] := by
 refine ⟨rfl, by omega, fun _ => ⟨_, rfl, fun j l hj => ?_⟩⟩
 match j, hj with
 | 0, hj =>
  obtain rfl : (⟨c, s⟩ : S87) = l := by simpa using hj
  exact ⟨_, rfl, k87.K_of_M (k87_mkM W 0 (fun _ => True) ⟨c, s⟩), fun i q hq => by
   match i, hq with
   | 0, hq =>
    obtain rfl := Option.some.inj hq
    exact (blk_cell h 0).trans rfl
   | 1, hq =>
    obtain rfl := Option.some.inj hq
    exact (blk_cell h 1).trans rfl⟩
structure Bo (w0 : World) (g1 gV g3 : Nat) (x0 x1 a0 a1 b0 b1 c s : Int) (ra rb : Nat) (W : World) : Prop where
 h1 : W.heap[g1]? = some (.cells #[.int .i64 x0, .int .i64 x1] 2 (0, 0))
 hV : W.heap[gV]? = some (.cells #[.slice (some ⟨ra, 0, none⟩) 2 2, .slice (some ⟨rb, 0, none⟩) 2 2] 33 (0, 0))
 hA : W.heap[ra]? = some (.cells #[.int .i8 a0, .int .i8 a1] 57 (0, 0))
 hB : W.heap[rb]? = some (.cells #[.int .i8 b0, .int .i8 b1] 57 (0, 0))
 h3 : W.heap[g3]? = some (.cells #[.int .i64 c, .int .i64 s] 87 (0, 0))
 sA : Small [a0, a1]
 sB : Small [b0, b1]
 ne : ra ≠ rb
 bel : Below w0.heap.size w0 W
 l1 : w0.heap.size ≤ g1
 lV : w0.heap.size ≤ gV
 lA : w0.heap.size ≤ ra
 l3 : w0.heap.size ≤ g3
theorem blk_ne {W : World} {g g' t t' : Nat} {cs cs' : Array Value} (h : W.heap[g]? = some (.cells cs t (0, 0))) (h' : W.heap[g']? = some (.cells cs' t' (0, 0))) (ht : t ≠ t') : g ≠ g' := fun e => by
 subst e
 exact ht (typed_ne h h')
section
variable {w0 W W1 : World} {g1 gV g3 ra rb : Nat} {x0 x1 a0 a1 b0 b1 c s : Int}
theorem Bo.below (h : Bo w0 g1 gV g3 x0 x1 a0 a1 b0 b1 c s ra rb W) (hb : Below W.heap.size W W1) : Bo w0 g1 gV g3 x0 x1 a0 a1 b0 b1 c s ra rb W1 :=
 { h with h1 := blk_below h.h1 hb, hV := blk_below h.hV hb, hA := blk_below h.hA hb, hB := blk_below h.hB hb, h3 := blk_below h.h3 hb, bel := below_step h.bel hb }
theorem blk_off {W : World} {g k j : Nat} {o : Obj} (h : W.heap[k]? = some o) (hne : k ≠ g) (v : Value) : (W.setCell ⟨g, j, none⟩ v).heap[k]? = some o := (Below.heap_setCell W ⟨g, j, none⟩ v k hne).trans h
theorem Bo.setX (h : Bo w0 g1 gV g3 x0 x1 a0 a1 b0 b1 c s ra rb W) (y : Int) : Bo w0 g1 gV g3 y x1 a0 a1 b0 b1 c s ra rb (W.setCell ⟨g1, 0, none⟩ (.int .i64 y)) :=
 { h with h1 := blk_put h.h1 0 _ rfl, hV := blk_off h.hV (blk_ne h.hV h.h1 (by decide)) _, hA := blk_off h.hA (blk_ne h.hA h.h1 (by decide)) _, hB := blk_off h.hB (blk_ne h.hB h.h1 (by decide)) _, h3 := blk_off h.h3 (blk_ne h.h3 h.h1 (by decide)) _, bel := below_set h.bel h.l1 }
theorem Bo.setA (h : Bo w0 g1 gV g3 x0 x1 a0 a1 b0 b1 c s ra rb W) (y : Int) (hy : Small [y, a1]) : Bo w0 g1 gV g3 x0 x1 y a1 b0 b1 c s ra rb (W.setCell ⟨ra, 0, none⟩ (.int .i8 y)) :=
 { h with h1 := blk_off h.h1 (blk_ne h.h1 h.hA (by decide)) _, hV := blk_off h.hV (blk_ne h.hV h.hA (by decide)) _, hA := blk_put h.hA 0 _ rfl, hB := blk_off h.hB (Ne.symm h.ne) _, h3 := blk_off h.h3 (blk_ne h.h3 h.hA (by decide)) _, sA := hy, bel := below_set h.bel h.lA }
theorem Bo.setV (h : Bo w0 g1 gV g3 x0 x1 a0 a1 b0 b1 c s ra rb W) {rc : Nat} {y0 y1 : Int} (hC : W.heap[rc]? = some (.cells #[.int .i8 y0, .int .i8 y1] 57 (0, 0))) (hy : Small [y0, y1]) (hne : ra ≠ rc) : Bo w0 g1 gV g3 x0 x1 a0 a1 y0 y1 c s ra rc (W.setCell ⟨gV, 1, none⟩ (.slice (some ⟨rc, 0, none⟩) 2 2)) :=
 { h with h1 := blk_off h.h1 (blk_ne h.h1 h.hV (by decide)) _, hV := blk_put h.hV 1 _ rfl, hA := blk_off h.hA (blk_ne h.hA h.hV (by decide)) _, hB := blk_off hC (blk_ne hC h.hV (by decide)) _, h3 := blk_off h.h3 (blk_ne h.h3 h.hV (by decide)) _, sB := hy, ne := hne, bel := below_set h.bel h.lV }
theorem Bo.setT (h : Bo w0 g1 gV g3 x0 x1 a0 a1 b0 b1 c s ra rb W) (y z : Int) : Bo w0 g1 gV g3 x0 x1 a0 a1 b0 b1 y z ra rb ((W.setCell ⟨g3, 0, none⟩ (.int .i64 y)).setCell ⟨g3, 1, none⟩ (.int .i64 z)) := by
 have hk : ∀ {k : Nat} {o : Obj}, W.heap[k]? = some o → k ≠ g3 → ((W.setCell ⟨g3, 0, none⟩ (.int .i64 y)).setCell ⟨g3, 1, none⟩ (.int .i64 z)).heap[k]? = some o := fun h1 h2 => blk_off (blk_off h1 h2 _) h2 _
 exact { h with h1 := hk h.h1 (blk_ne h.h1 h.h3 (by decide)), hV := hk h.hV (blk_ne h.hV h.h3 (by decide)), hA := hk h.hA (blk_ne h.hA h.h3 (by decide)), hB := hk h.hB (blk_ne h.hB h.h3 (by decide)), h3 := blk_put (blk_put h.h3 0 _ rfl) 1 _ rfl, bel := below_set (below_set h.bel h.l3) h.l3 }
end
set_option maxHeartbeats 4000000 in
set_option maxRecDepth 100000 in
theorem booked_calls (w : World) : Calls Tryd.prog 39 #[] w fun e w' => e = .returned (.bool true) ∧ Below w.heap.size w w' := by
 go_enter Tryd.func39, Tryd.ntmps39
 go_upto_block 0 with (fail)
 obtain ⟨n, hn⟩ : ∃ y, y = w.heap.size := ⟨_, rfl⟩
 rw [← hn]
 obtain ⟨W, hW⟩ : ∃ y, y = (((((w.alloc (.cells #[.int .i64 1, .int .i64 3] 2)).alloc (.cells #[.int .i8 10, .int .i8 (-10)] 57)).alloc (.cells #[.int .i8 20, .int .i8 (-11)] 57)).alloc (.cells #[.slice (some ⟨n + 1, 0, none⟩) 2 2, .slice (some ⟨n + 1 + 1, 0, none⟩) 2 2] 33)).alloc (.cells #[.int .i64 0, .int .i64 16384] 87)) := ⟨_, rfl⟩
 have nw : ∀ {V : World} {k : Nat} (o : Obj), V.heap.size = k → (V.alloc o).heap[k]? = some o ∧ (V.alloc o).heap.size = k + 1 := fun o hk => ⟨hk ▸ blk_new _ _, by rw [← hk]; exact Array.size_push _⟩
 have m1 := nw (.cells #[.int .i64 1, .int .i64 3] 2) hn.symm
 have m2 := nw (.cells #[.int .i8 10, .int .i8 (-10)] 57) m1.2
 have m3 := nw (.cells #[.int .i8 20, .int .i8 (-11)] 57) m2.2
 have m4 := nw (.cells #[.slice (some ⟨n + 1, 0, none⟩) 2 2, .slice (some ⟨n + 1 + 1, 0, none⟩) 2 2] 33) m3.2
 have m5 := nw (.cells #[.int .i64 0, .int .i64 16384] 87) m4.2
 have hBo : Bo w n (n + 1 + 1 + 1) (n + 1 + 1 + 1 + 1) 1 3 10 (-10) 20 (-11) 0 16384 (n + 1) (n + 1 + 1) W := by
  rw [hW]
  exact ⟨blk_alloc (blk_alloc (blk_alloc (blk_alloc m1.1 _) _) _) _, blk_alloc m4.1 _, blk_alloc (blk_alloc (blk_alloc m2.1 _) _) _, blk_alloc (blk_alloc m3.1 _) _, m5.1, by unfold Small; decide, by unfold Small; decide, by omega, below_alloc (below_alloc (below_alloc (below_alloc (below_alloc (Below.refl _ _) _) _) _) _) _, by omega, by omega, by omega, by omega⟩
 rw [← hW]
 clear hW m1 m2 m3 m4 m5 nw
 obtain ⟨g3, hg3⟩ : ∃ y, y = n + 1 + 1 + 1 + 1 := ⟨_, rfl⟩
 obtain ⟨gV, hgV⟩ : ∃ y, y = n + 1 + 1 + 1 := ⟨_, rfl⟩
 rw [← hg3] at hBo ⊢
 rw [← hgV] at hBo ⊢
 have HB0 := Lib.hid hBo
 clear hBo hg3 hgV hn
 go_wp2
 go_loopw [4] (fun y wr => ∃ (k : Nat) (x0 x1 a0 a1 b0 b1 c s : Int) (ra rb : Nat), y = .int .i64 (k : Int) ∧ k ≤ 3 ∧ Bo w n gV g3 x0 x1 a0 a1 b0 b1 c s ra rb wr) (fun y _ => 3 - (intOf y).toNat)
 case atStart => exact ⟨0, _, _, _, _, _, _, _, _, _, _, rfl, by omega, HB0.out⟩
 case round =>
  rename World => wa
  clear HB0
  obtain ⟨k, x0, x1, a0, a1, b0, b1, c, s, ra, rb, rfl, hk, hB⟩ := hrel
  have HB := Lib.hid hB
  clear hB
  by_cases hlt : k < 3
  ·have d1 : decide ((k : Int) < 3) = true := decide_eq_true (by omega)
   have HLT := Lib.hid hlt
   go_upto_if 26 with (fail)
   go_cut [] (fun wx => ∃ (x0 x1 a0 a1 b0 b1 c s : Int) (ra rb : Nat), Bo w n gV g3 x0 x1 a0 a1 b0 b1 c s ra rb wx)
   case first =>
    by_cases h1 : k = 1
    ·subst h1
     have v0 : wa.cell? ⟨gV, 0, none⟩ = some (.slice (some ⟨ra, 0, none⟩) 2 2) := (blk_cell HB.out.hV 0).trans rfl
     have z0 : wa.cell? ⟨ra, 0, none⟩ = some (.int .i8 a0) := (blk_cell HB.out.hA 0).trans rfl
     have z1 := blk_frozen HB.out.hA 0
     have hs := HB.out.setA 50 (by have := HB.out.sA; unfold Small at this ⊢; simp at this ⊢; omega)
     have HS := Lib.hid hs
     have t0 : (wa.setCell ⟨ra, 0, none⟩ (.int .i8 50)).cell? ⟨g3, 0, none⟩ = some (.int .i64 c) := (blk_cell hs.h3 0).trans rfl
     have t1 : (wa.setCell ⟨ra, 0, none⟩ (.int .i8 50)).cell? ⟨g3, 1, none⟩ = some (.int .i64 s) := (blk_cell hs.h3 1).trans rfl
     have y0 := blk_frozen hs.h3 0
     have y1 := blk_frozen hs.h3 1
     clear hs
     go_wp2
     go_meet
     exact ⟨_, _, _, _, _, _, _, _, _, _, HS.out.setT 16384 0⟩
    ·have e1 : ((k : Int) == 1) = false := beq_false_of_ne (by omega)
     have e2 : ((k : Int) = 1) = False := eq_false (by omega)
     have e3 : (k = 1) = False := eq_false h1
     go_wp2
     go_meet
     exact ⟨_, _, _, _, _, _, _, _, _, _, HB.out⟩
   case rest =>
    clear HB
    obtain ⟨x0, x1, a0, a1, b0, b1, c, s, ra, rb, hB⟩ := hcut
    have HB := Lib.hid hB
    clear hB
    go_upto_if 35 with (fail)
    go_cut [] (fun wx => ∃ (x0 x1 a0 a1 b0 b1 c s : Int) (ra rb : Nat), Bo w n gV g3 x0 x1 a0 a1 b0 b1 c s ra rb wx)
    case first =>
     rename World => wd
     by_cases h1 : k = 2
     ·subst h1
      have z0 : wd.cell? ⟨n, 0, none⟩ = some (.int .i64 x0) := (blk_cell HB.out.h1 0).trans rfl
      have z1 := blk_frozen HB.out.h1 0
      have HS := Lib.hid (HB.out.setX 9)
      go_upto_region 12 with (fail)
      obtain ⟨we, hwe⟩ : ∃ y, y = wd.setCell ⟨n, 0, none⟩ (.int .i64 9) := ⟨_, rfl⟩
      rw [← hwe] at HS ⊢
      clear hwe z0 z1
      obtain ⟨rc, hrc⟩ : ∃ y, y = we.heap.size := ⟨_, rfl⟩
      obtain ⟨wf, hwf⟩ : ∃ y, y = we.alloc (.cells #[.int .i8 (-40), .int .i8 7] 57) := ⟨_, rfl⟩
      have hb : Below we.heap.size we wf := by rw [hwf]; exact below_alloc (Below.refl _ _) _
      have hC : wf.heap[rc]? = some (.cells #[.int .i8 (-40), .int .i8 7] 57 (0, 0)) := by rw [hwf, hrc]; exact blk_new _ _
      have hs2 := HS.out.below hb
      have hne : ra ≠ rc := by have := blk_lt HS.out.hA; omega
      have v0 : wf.cell? ⟨gV, 1, none⟩ = some (.slice (some ⟨rb, 0, none⟩) 2 2) := (blk_cell hs2.hV 1).trans rfl
      have v1 := blk_frozen hs2.hV 1
      have hs3 := hs2.setV hC (by unfold Small; decide) hne
      have HS3 := Lib.hid hs3
      have t0 : (wf.setCell ⟨gV, 1, none⟩ (.slice (some ⟨rc, 0, none⟩) 2 2)).cell? ⟨g3, 0, none⟩ = some (.int .i64 c) := (blk_cell hs3.h3 0).trans rfl
      have t1 : (wf.setCell ⟨gV, 1, none⟩ (.slice (some ⟨rc, 0, none⟩) 2 2)).cell? ⟨g3, 1, none⟩ = some (.int .i64 s) := (blk_cell hs3.h3 1).trans rfl
      have y0 := blk_frozen hs3.h3 0
      have y1 := blk_frozen hs3.h3 1
      clear hs2 hs3 hne hb hC HS
      subst hrc hwf
      go_wp2
      go_meet
      exact ⟨_, _, _, _, _, _, _, _, _, _, HS3.out.setT 0 (-16384)⟩
     ·have e1 : ((k : Int) == 2) = false := beq_false_of_ne (by omega)
      have e2 : ((k : Int) = 2) = False := eq_false (by omega)
      have e3 : (k = 2) = False := eq_false h1
      go_wp2
      go_meet
      exact ⟨_, _, _, _, _, _, _, _, _, _, HB.out⟩
    case rest =>
     clear HB
     obtain ⟨x0, x1, a0, a1, b0, b1, c, s, ra, rb, hB⟩ := hcut
     have HB := Lib.hid hB
     clear hB
     rename World => wb
     obtain ⟨xs, err, hxl, hbl⟩ := blend_two (x := [x0, x1]) (vs := [[a0, a1], [b0, b1]]) (by simp) (by simp) (by intro v hv; simp at hv; rcases hv with rfl | rfl <;> simp) (by
      intro v hv
      simp at hv
      rcases hv with rfl | rfl
      ·exact HB.out.sA
      ·exact HB.out.sB)
     obtain ⟨ys, err2, hyl, hyr, htn⟩ := turns_two (us := [⟨c, s⟩]) 3 (by simp)
     have HBL := Lib.hid hbl
     have HTN := Lib.hid htn
     have HYR := Lib.hid hyr
     clear hbl htn hyr
     have HCX : Hid (∀ V, Bo w n gV g3 x0 x1 a0 a1 b0 b1 c s ra rb V → Kd.C (Kd.int .i64) V (some ⟨n, 0, none⟩) 2 [x0, x1]) := Lib.hid (fun V h => lit_C h.h1 rfl (by simp))
     have HCA : Hid (∀ V, Bo w n gV g3 x0 x1 a0 a1 b0 b1 c s ra rb V → Kd.C (Kd.int .i8) V (some ⟨ra, 0, none⟩) 2 [a0, a1]) := Lib.hid (fun V h => lit_C h.hA rfl (by simp))
     have HCB : Hid (∀ V, Bo w n gV g3 x0 x1 a0 a1 b0 b1 c s ra rb V → Kd.C (Kd.int .i8) V (some ⟨rb, 0, none⟩) 2 [b0, b1]) := Lib.hid (fun V h => lit_C h.hB rfl (by simp))
     have HV1 : Hid (∀ V, Bo w n gV g3 x0 x1 a0 a1 b0 b1 c s ra rb V → Calls Tryd.prog 42 #[.slice (some ⟨n, 0, none⟩) 2 2] V fun e w' => ∃ (A1 : Option Addr) (c1 : Nat), e = .returned (.slice A1 2 c1) ∧ Rd (Kd.int .i64) w' (.slice A1 2 c1) [x0, x1] ∧ Below V.heap.size V w') := Lib.hid (fun V h => (copyW_calls (l := [x0, x1]) (c := 2) V (HCX.out V h) (Nat.le_refl _) (by simp)).mono fun e w' ⟨v, h1, h2, h3⟩ => by
      obtain ⟨A1, c1, e1⟩ := Kd.R_slice h2
      subst e1
      exact ⟨A1, c1, h1, Kd.R_reads h2, h3⟩)
     have HV2 : Hid (∀ V, Bo w n gV g3 x0 x1 a0 a1 b0 b1 c s ra rb V → Calls Tryd.prog 41 #[.slice (some ⟨ra, 0, none⟩) 2 2] V fun e w' => ∃ (A1 : Option Addr) (c1 : Nat), e = .returned (.slice A1 2 c1) ∧ Rd (Kd.int .i8) w' (.slice A1 2 c1) [a0, a1] ∧ Below V.heap.size V w') := Lib.hid (fun V h => (copyN_calls (l := [a0, a1]) (c := 2) V (HCA.out V h) (Nat.le_refl _) (by simp)).mono fun e w' ⟨v, h1, h2, h3⟩ => by
      obtain ⟨A1, c1, e1⟩ := Kd.R_slice h2
      subst e1
      exact ⟨A1, c1, h1, Kd.R_reads h2, h3⟩)
     have HV3 : Hid (∀ V, Bo w n gV g3 x0 x1 a0 a1 b0 b1 c s ra rb V → Calls Tryd.prog 41 #[.slice (some ⟨rb, 0, none⟩) 2 2] V fun e w' => ∃ (A1 : Option Addr) (c1 : Nat), e = .returned (.slice A1 2 c1) ∧ Rd (Kd.int .i8) w' (.slice A1 2 c1) [b0, b1] ∧ Below V.heap.size V w') := Lib.hid (fun V h => (copyN_calls (l := [b0, b1]) (c := 2) V (HCB.out V h) (Nat.le_refl _) (by simp)).mono fun e w' ⟨v, h1, h2, h3⟩ => by
      obtain ⟨A1, c1, e1⟩ := Kd.R_slice h2
      subst e1
      exact ⟨A1, c1, h1, Kd.R_reads h2, h3⟩)
     have HV4 : Hid (∀ V, Bo w n gV g3 x0 x1 a0 a1 b0 b1 c s ra rb V → Calls Tryd.prog 43 #[.slice (some ⟨g3, 0, none⟩) 1 1] V fun e w' => ∃ (A1 : Option Addr) (c1 : Nat), e = .returned (.slice A1 1 c1) ∧ Rd k87 w' (.slice A1 1 c1) [⟨c, s⟩] ∧ Below V.heap.size V w') := Lib.hid (fun V h => (copyT_calls (l := [⟨c, s⟩]) (c := 1) V (lit_T1 h.h3) (Nat.le_refl _) (by simp)).mono fun e w' ⟨v, h1, h2, h3⟩ => by
      obtain ⟨A1, c1, e1⟩ := Kd.R_slice h2
      subst e1
      exact ⟨A1, c1, h1, Kd.R_reads h2, h3⟩)
     have HV5 : Hid (∀ (V : World) (A1 A2 A3 : Option Addr) (c1 c2 c3 : Nat), Rd (Kd.int .i64) V (.slice A1 2 c1) [x0, x1] → Rd (Kd.int .i8) V (.slice A2 2 c2) [a0, a1] → Rd (Kd.int .i8) V (.slice A3 2 c3) [b0, b1] → Calls Tryd.prog 60 #[.slice A1 2 c1, .slice (some ⟨V.heap.size, 0, none⟩) 2 2] (V.alloc (.cells #[.slice A2 2 c2, .slice A3 2 c3] 33)) fun e w' => ∃ v0, e = .returned (.tuple #[v0, .int .i64 err]) ∧ Rd (Kd.int .i8) w' v0 xs ∧ Below (V.alloc (.cells #[.slice A2 2 c2, .slice A3 2 c3] 33)).heap.size (V.alloc (.cells #[.slice A2 2 c2, .slice A3 2 c3] 33)) w') := Lib.hid (fun V A1 A2 A3 c1 c2 c3 h1 h2 h3 => by
      have hb := below_alloc (Below.refl V.heap.size V) (.cells #[.slice A2 2 c2, .slice A3 2 c3] 33)
      have hblk := blk_new V (.cells #[.slice A2 2 c2, .slice A3 2 c3] 33)
      obtain ⟨p, q, e1, hq, hC⟩ := h1
      injection e1 with e2 e3 e4
      subst e2 e4
      exact (HBL.out _ A1 (some ⟨V.heap.size, 0, none⟩) c1 2 (Kd.C_below hC hb) hq (lit_V2 ((blk_cell hblk 0).trans rfl) ((blk_cell hblk 1).trans rfl) (h2.below hb) (h3.below hb)) (Nat.le_refl _)).2)
     have p0 : wb.cell? ⟨gV, 0, none⟩ = some (.slice (some ⟨ra, 0, none⟩) 2 2) := (blk_cell HB.out.hV 0).trans rfl
     have p1 : wb.cell? ⟨gV, 1, none⟩ = some (.slice (some ⟨rb, 0, none⟩) 2 2) := (blk_cell HB.out.hV 1).trans rfl
     have HD : Hid (Bo w n gV g3 x0 x1 a0 a1 b0 b1 c s ra rb wb.drew) := Lib.hid (HB.out.below (below_drew (Below.refl _ _)))
     go_upto_region 14 with (fail)
     refine start_ (n := 17) (S := fun w' => w'.cell? ⟨gV, 0, none⟩ = some (.slice (some ⟨ra, 0, none⟩) 2 2) ∧ w'.cell? ⟨gV, 1, none⟩ = some (.slice (some ⟨rb, 0, none⟩) 2 2)) (ds := []) #[false, false, false, false, false, false, false, false, false, false, false, false, false, false, false, false, false] (by kernel_rfl) rfl rfl ⟨p0, p1⟩ (fun hHeld => ?_)
     refine pu_ 0 45 ?_
     refine pu_ 2 47 ?_
     refine pu_ 3 48 ?_
     refine pu_ 6 51 ?_
     refine pu_ 7 52 ?_
     refine tk_ 4 49 hHeld ?_
     refine tk_ 8 53 hHeld ?_
     refine on_ 1 (some 46) (fun K hK => ?_)
     refine gs_ Tryd.func42 #[.slice (some ⟨n, 0, none⟩) 2 2] ?_
     with_reducible refine (HV1.out _ HD.out).mono ?_
     rintro e w1 ⟨A1, c1, rfl, hR1, hb1⟩
     refine ⟨_, rfl, ?_⟩
     have HD1 := Lib.hid (HD.out.below hb1)
     have HR1 := Lib.hid hR1
     have p01 := pw_cell_below hb1 p0
     have p11 := pw_cell_below hb1 p1
     clear hR1 hb1
     refine hK.out _ _ ⟨p01, p11⟩ (fun hHeld => ?_)
     clear hK K
     refine nm_ 46 ?_
     refine on_ 5 (some 50) (fun K hK => ?_)
     refine gs_ Tryd.func41 #[.slice (some ⟨ra, 0, none⟩) 2 2] ?_
     with_reducible refine (HV2.out _ HD1.out).mono ?_
     rintro e w2 ⟨A2, c2, rfl, hR2, hb2⟩
     refine ⟨_, rfl, ?_⟩
     have HD2 := Lib.hid (HD1.out.below hb2)
     have HR12 := Lib.hid (HR1.out.below hb2)
     have HR2 := Lib.hid hR2
     have p02 := pw_cell_below hb2 p01
     have p12 := pw_cell_below hb2 p11
     clear hR2 hb2
     refine hK.out _ _ ⟨p02, p12⟩ (fun hHeld => ?_)
     clear hK K
     refine nm_ 50 ?_
     refine on_ 9 (some 54) (fun K hK => ?_)
     refine gs_ Tryd.func41 #[.slice (some ⟨rb, 0, none⟩) 2 2] ?_
     with_reducible refine (HV3.out _ HD2.out).mono ?_
     rintro e w3 ⟨A3, c3, rfl, hR3, hb3⟩
     refine ⟨_, rfl, ?_⟩
     have HD3 := Lib.hid (HD2.out.below hb3)
     have HR13 := Lib.hid (HR12.out.below hb3)
     have HR23 := Lib.hid (HR2.out.below hb3)
     have HR3 := Lib.hid hR3
     have p03 := pw_cell_below hb3 p02
     have p13 := pw_cell_below hb3 p12
     clear hR3 hb3
     refine hK.out _ _ ⟨p03, p13⟩ (fun hHeld => ?_)
     clear hK K
     refine nm_ 54 ?_
     refine on_ 10 (some 55) (fun K hK => ?_)
     refine value_ (w1 := ?_) (v := ?_) (by rfl) rfl ?_ ?_
     rotate_left 2
     ·go_simp
      constructor
      ·rfl
      ·rfl
     refine hK.out _ _ ⟨pw_cell_below (below_alloc (Below.refl w3.heap.size w3) _) p03, pw_cell_below (below_alloc (Below.refl w3.heap.size w3) _) p13⟩ (fun hHeld => ?_)
     clear hK K
     refine nm_ 55 ?_
     refine on_ 11 (some 56) (fun K hK => ?_)
     refine gs_ Tryd.func60 #[.slice A1 2 c1, .slice (some ⟨w3.heap.size, 0, none⟩) 2 2] ?_
     with_reducible refine (HV5.out w3 A1 A2 A3 c1 c2 c3 HR13.out HR23.out HR3.out).mono ?_
     rintro e w4 ⟨v4, rfl, hv4, hb4⟩
     refine ⟨_, rfl, ?_⟩
     have hb5 := below_step (below_alloc (Below.refl w3.heap.size w3) _) hb4
     have HD4 := Lib.hid (HD3.out.below hb5)
     have HV4' := Lib.hid hv4
     have p04 := pw_cell_below hb5 p03
     have p14 := pw_cell_below hb5 p13
     clear hv4 hb4 hb5
     refine hK.out _ _ ⟨p04, p14⟩ (fun hHeld => ?_)
     clear hK K
     refine nm_ 56 ?_
     refine pu_ 12 44 ?_
     refine pu_ 13 57 ?_
     refine pu_ 14 58 ?_
     refine pu_ 15 5 ?_
     refine pu_ 16 6 ?_
     refine dn_ ?_
     clear p0 p1 p01 p11 p02 p12 p03 p13 p04 p14
     obtain ⟨P4, z4, e4, hz4, hC4⟩ := HV4'.out
     subst e4
     have HC4 := Lib.hid hC4
     have HZ4 := Lib.hid hz4
     clear hC4 hz4 HV4' HR1 HR12 HR13 HR2 HR23 HR3 HV1 HV2 HV3 HV5 HD HD1 HD2 HD3
     go_wp2_with fail
     refine (HV4.out _ HD4.out).mono ?_
     rintro e w5 ⟨A5, c5, rfl, hR5, hb5⟩
     have HD5 := Lib.hid (HD4.out.below hb5)
     have HC5 := Lib.hid (Kd.C_below HC4.out hb5)
     obtain ⟨p5, q5, e5, hq5, hr5⟩ := hR5
     injection e5 with e6 e7 e8
     subst e6 e8
     have HR5 := Lib.hid hr5
     have HQ5 := Lib.hid hq5
     clear e7 hr5 hq5 hb5
     go_wp2_with fail
     refine Calls.mono (HTN.out w5 A5 c5 HR5.out HQ5.out).2 ?_
     rintro e w6 ⟨v6, rfl, ⟨P6, z6, rfl, hz6, hC6⟩, hb6⟩
     have HD6 := Lib.hid (HD5.out.below hb6)
     have HC6 := Lib.hid (Kd.C_below HC5.out hb6)
     have HT6 := Lib.hid hC6
     have HZ6 := Lib.hid hz6
     clear hC6 hz6 hb6
     go_wp2_with fail
     refine Calls.mono (HBL.out w6 (some ⟨n, 0, none⟩) (some ⟨gV, 0, none⟩) 2 2 (HCX.out w6 HD6.out) (Nat.le_refl _) (lit_V2 ((blk_cell HD6.out.hV 0).trans rfl) ((blk_cell HD6.out.hV 1).trans rfl) ⟨_, _, rfl, Nat.le_refl _, HCA.out w6 HD6.out⟩ ⟨_, _, rfl, Nat.le_refl _, HCB.out w6 HD6.out⟩) (Nat.le_refl _)).1 ?_
     rintro e w7 ⟨v7, rfl, ⟨P7, z7, rfl, hz7, hC7⟩, hb7⟩
     have HD7 := Lib.hid (HD6.out.below hb7)
     have HC7 := Lib.hid (Kd.C_below HC6.out hb7)
     have HT7 := Lib.hid (Kd.C_below HT6.out hb7)
     have HN7 := Lib.hid hC7
     have HZ7 := Lib.hid hz7
     clear hC7 hz7 hb7
     go_wp2_with fail
     refine Calls.mono (HTN.out w7 (some ⟨g3, 0, none⟩) 1 (lit_T1 HD7.out.h3) (Nat.le_refl _)).1 ?_
     rintro e w8 ⟨v8, rfl, ⟨P8, z8, rfl, hz8, hC8⟩, hb8⟩
     have HD8 := Lib.hid (HD7.out.below hb8)
     have HC8 := Lib.hid (Kd.C_below HC7.out hb8)
     have HT8 := Lib.hid (Kd.C_below HT7.out hb8)
     have HN8 := Lib.hid (Kd.C_below HN7.out hb8)
     have HU8 := Lib.hid hC8
     have HZ8 := Lib.hid hz8
     clear hC8 hz8 hb8
     go_wp2_with fail
     refine Calls.mono (augurref00_EqNarrow.calls (xs.length + 1) _ _ _ _ _ _ true w8 HN8.out HZ7.out HC8.out HZ4.out (eqNarrow_is (by omega) (Nat.lt_succ_self _))) ?_
     rintro e w9 ⟨rfl, hd9⟩
     have hb9 := hd9.below
     have HD9 := Lib.hid (HD8.out.below hb9)
     have HT9 := Lib.hid (Kd.C_below HT8.out hb9)
     have HU9 := Lib.hid (Kd.C_below HU8.out hb9)
     clear hb9 hd9 HN8 HC8 HT8 HU8 HN7 HT7 HC7 HC6 HC5 HC4 HT6
     go_wp2
     obtain ⟨L, hL⟩ : ∃ L, ys.length = L := ⟨_, rfl⟩
     have HL := Lib.hid hL
     rw [hL] at HT9 HU9 ⊢
     clear hL
     go_loopw [13] (fun y wr => ∃ j : Nat, y = .int .i64 (j : Int) ∧ j ≤ L ∧ Below w9.heap.size w9 wr) (fun y _ => L - (intOf y).toNat)
     case atStart => exact ⟨0, rfl, Nat.zero_le _, Below.refl _ _⟩
     case round =>
      rename World => wx
      obtain ⟨j, rfl, hj, hb⟩ := hrel
      have HBX := Lib.hid hb
      clear hb
      by_cases hlj : j < L
      ·have d3 : decide ((j : Int) < (L : Int)) = true := decide_eq_true (by omega)
       have d4 : decide (j < L) = true := decide_eq_true hlj
       obtain ⟨ad, Aj, cj, rfl, e1, e2, e3⟩ := at_L4 HU9.out (j : Int) (by omega) (by omega)
       obtain ⟨ad2, Aj2, cj2, rfl, f1, f2, f3⟩ := at_L4 HT9.out (j : Int) (by omega) (by omega)
       rw [Int.toNat_natCast] at e1 f1
       obtain ⟨l, hl⟩ : ∃ l, rd_L4 ys (j : Int) = l := ⟨_, rfl⟩
       have hll : l.length ≤ 16777216 := by
        refine HYR.out l ?_
        rw [← hl]
        unfold rd_L4
        rw [Int.toNat_natCast, List.getD_eq_getElem?_getD, List.getElem?_eq_getElem (by rw [HL.out]; exact hlj)]
        exact List.getElem_mem _
       rw [hl] at e1 e2 e3 f1 f2 f3
       have hbd := below_drew1 HBX.out
       have HEQ := Lib.hid ((augurref00_EqTurns.calls (l.length + 1) _ _ _ _ _ _ true wx.drew (Kd.C_below e3 hbd) e2 (Kd.C_below f3 hbd) f2 (eqTurns_is (by omega) (Nat.lt_succ_self _))).mono (fun _ _ (h : _ ∧ _) => (⟨h.1, h.2.below⟩ : _ ∧ _)))
       have j1 := pw_cell_below hbd e1
       have j2 := pw_cell_below hbd f1
       have q2 : (0 : Int) ≤ (j : Int) := by omega
       have q3 : (j : Int) < (L : Int) := by omega
       have HLJ := Lib.hid hlj
       have HLL : Hid (L ≤ 16777216) := Lib.hid (by rw [← HL.out]; exact hyl)
       clear e1 e2 e3 f1 f2 f3 hl hll hbd hlj hj
       go_upto_region 23 with (fail)
       refine start_ (n := 10) (S := fun w' => w'.cell? (ad.add j) = some (.slice Aj l.length cj) ∧ w'.cell? (ad2.add j) = some (.slice Aj2 l.length cj2)) (ds := []) #[false, false, false, false, false, false, false, false, false, false] (by kernel_rfl) rfl rfl ⟨j1, j2⟩ (fun hHeld => ?_)
       refine pu_ 0 103 ?_
       refine pu_ 1 104 ?_
       refine pu_ 2 105 ?_
       refine pu_ 4 107 ?_
       refine pu_ 5 108 ?_
       refine pu_ 6 109 ?_
       refine tk_ 3 106 hHeld ?_
       refine tk_ 7 110 hHeld ?_
       refine on_ 8 (some 111) (fun K hK => ?_)
       refine gs_ Tryd.func37 #[.slice Aj l.length cj, .slice Aj2 l.length cj2] ?_
       with_reducible refine (HEQ.out).mono ?_
       rintro e wy ⟨rfl, hy⟩
       refine ⟨_, rfl, ?_⟩
       have HBY := Lib.hid (below_step (below_drew1 HBX.out) hy)
       have j3 := pw_cell_below hy j1
       have j4 := pw_cell_below hy j2
       clear hy
       refine hK.out _ _ ⟨j3, j4⟩ (fun hHeld => ?_)
       clear hK K
       refine nm_ 111 ?_
       refine pu_ 9 14 ?_
       refine dn_ ?_
       clear j1 j2 j3 j4
       go_wp2
       try rw [up1 (by have := HLJ.out; have := HLL.out; omega)]
       go_roundw
       case rel => exact ⟨j + 1, by first | rfl | (rw [Int.natCast_add]; rfl), HLJ.out, HBY.out⟩
       case measure => have := HLJ.out; simp [intOf]; omega
      ·have d3 : decide ((j : Int) < (L : Int)) = false := decide_eq_false (by omega)
       have d4 : decide (j < L) = false := decide_eq_false hlj
       clear hlj hj
       go_wp2
       try rw [up1 (by have := HLT.out; omega)]
       go_roundw
       case rel => exact ⟨k + 1, _, _, _, _, _, _, _, _, _, _, by first | rfl | (rw [Int.natCast_add]; rfl), HLT.out, HD9.out.below HBX.out⟩
       case measure => have := HLT.out; simp [intOf]; omega
  ·have d1 : decide ((k : Int) < 3) = false := decide_eq_false (by omega)
   clear hlt hk
   go_wp2
   go_ret
   exact ⟨rfl, HB.out.bel⟩
end Wk
end Go.Proofs.YtnioohhiphpplaaDoor.Dp
