/- The walk of augurlaw03.TensorBlend. -/
import Derived.Test.YtnioohhiphpplaaBw
import Derived.Test.YtnioohhiphpplaaFx
set_option linter.unusedVariables false
set_option linter.unusedSimpArgs false
namespace Go.Proofs.Ytnioohhiphpplaa.Wk
open Go.RowKit Go.Proofs.YtnioohhiphpplaaW.PrintWords Go.Proofs.YtnioohhiphpplaaW.PrintLast Go.Proofs.YtnioohhiphpplaaW.PrintMore Go.Proofs.Ytnioohhiphpplaa.M Go.Proofs.Ytnioohhiphpplaa.Br

theorem binfo22 : (Try.prog.info? 22).map (fun i => (i.zero, i.size, i.bytes)) = some (some (.slice none 0 0), 1, 24) := by kernel_rfl
/-- A slice of L numbers, as one cell. -/
def rowKd (L : Nat) : Kd (Option Addr × Nat) := Kd.scalar (fun p => .slice p.1 L p.2) (fun _ => rfl)
theorem own_cells {α : Type} {d : Kd α} {e : Nat} {W : World} {base : Nat} {ok : Nat → Prop} {v : Value} {xs : List α} (h : d.R e W base ok v xs) {k : Nat} (hk : v.ownBlock = some k) : ∃ cells, W.heap[k]? = some (.cells cells e (0, 0)) := by
  obtain ⟨_, inner, ⟨_, ho⟩, _⟩ := h
  rcases ho with ⟨rfl, _⟩ | ⟨g, cap, cur, rfl, _, hc, _⟩
  · cases hk
  · injection hk with hk
    subst hk
    exact ⟨cur, hc⟩
/-- Rows of unlike types are apart. -/
theorem apart_types {α β : Type} {d : Kd α} {d' : Kd β} {e e' : Nat} {W : World} {base base' : Nat} {ok ok' : Nat → Prop} {v u : Value} {xs : List α} {ys : List β} (h : d.R e W base ok v xs) (h' : d'.R e' W base' ok' u ys) (ne : e ≠ e') : Apart u v := fun k hk => by
  obtain ⟨cells, hc⟩ := own_cells h' hk
  exact Kd.R_ne h hc ne
theorem grow_other {α β : Type} {d : Kd α} {d' : Kd β} {e e' : Nat} {W w1 : World} {base base' : Nat} {ok ok' : Nat → Prop} {v u : Value} {xs : List α} {ys : List β} (h : d.R e W base ok u xs) (hE : d.E = []) (h' : d'.R e' W base' ok' v ys) (ne : e ≠ e') (hg : W.grownBy w1 v.ownBlock) : d.R e w1 base ok u xs :=
  Kd.R_grown2 h hE hg (apart_types h h' ne)
/-- The vectors that are handed in, as they are read. -/
def RowsA (w : World) (A : Option Addr) (n : Nat) (Z : Nat → List Int) : Prop :=
  0 < n → ∃ ad, A = some ad ∧ ∀ i, i < n → ∃ Ai ci, w.cell? (ad.add i) = some (.slice Ai (Z i).length ci) ∧ (Z i).length ≤ ci ∧ Kd.C (Kd.int .i8) w Ai (Z i).length (Z i)
theorem RowsA.below {w w1 : World} {A : Option Addr} {n : Nat} {Z : Nat → List Int} (h : RowsA w A n Z) (hb : Below w.heap.size w w1) : RowsA w1 A n Z := fun hn => by
  obtain ⟨ad, e, hc⟩ := h hn
  refine ⟨ad, e, fun i hi => ?_⟩
  obtain ⟨Ai, ci, h1, h2, h3⟩ := hc i hi
  exact ⟨Ai, ci, pw_cell_below hb h1, h2, Kd.C_below h3 hb⟩
theorem RowsA.at {w : World} {A : Option Addr} {n : Nat} {Z : Nat → List Int} (h : RowsA w A n Z) {i : Nat} (hi : i < n) : ∃ ad Ai ci, A = some ad ∧ w.cell? (ad.add i) = some (.slice Ai (Z i).length ci) ∧ (Z i).length ≤ ci ∧ Kd.C (Kd.int .i8) w Ai (Z i).length (Z i) := by
  obtain ⟨ad, e, hc⟩ := h (by omega)
  obtain ⟨Ai, ci, h1, h2, h3⟩ := hc i hi
  exact ⟨ad, Ai, ci, e, h1, h2, h3⟩
/-- A weight. -/
def wgt (ws : List Int) (i : Nat) : Int := if i < ws.length then (if Int.tmod (nth ws i) 1099511627776 < 0 then -(Int.tmod (nth ws i) 1099511627776) else Int.tmod (nth ws i) 1099511627776) else 1
theorem t40_in (a : Int) : -1099511627776 < Int.tmod a 1099511627776 ∧ Int.tmod a 1099511627776 < 1099511627776 :=
  ⟨Int.lt_tmod_of_pos a (by omega), Int.tmod_lt_of_pos a (by omega)⟩
theorem wgt_in (ws : List Int) (i : Nat) : 0 ≤ wgt ws i ∧ wgt ws i ≤ 1099511627776 := by
  have := t40_in (nth ws i)
  unfold wgt
  (repeat' split) <;> omega
/-- A row of L numbers of the call's own. -/
def rowR (w : World) (base L : Nat) (p : Option Addr × Nat) (xs : List Int) : Prop := Kd.R (Kd.int .i8) 31 w base (fun _ => True) (.slice p.1 L p.2) xs
def tabP (f : Nat → Option Addr × Nat) (n : Nat) : List (Option Addr × Nat) := (List.range n).map f
theorem tabP_succ (f : Nat → Option Addr × Nat) (n : Nat) : tabP f (n + 1) = tabP f n ++ [f n] := by simp [tabP, List.range_succ]
theorem tabP_length (f : Nat → Option Addr × Nat) (n : Nat) : (tabP f n).length = n := by simp [tabP]
theorem tabP_get {f : Nat → Option Addr × Nat} {n i : Nat} (h : i < n) : (tabP f n).getD i (none, 0) = f i := by
  unfold tabP
  rw [List.getD_eq_getElem?_getD, List.getElem?_map, List.getElem?_range h]; rfl
def updP (f : Nat → Option Addr × Nat) (i : Nat) (p : Option Addr × Nat) (k : Nat) : Option Addr × Nat := if k = i then p else f k
theorem tabP_upd (f : Nat → Option Addr × Nat) (i : Nat) (p : Option Addr × Nat) : tabP f i ++ [p] = tabP (updP f i p) (i + 1) := by
  rw [tabP_succ]
  congr 1
  · refine List.map_congr_left fun k hk => ?_
    have := List.mem_range.1 hk
    unfold updP
    rw [if_neg (by omega)]
  · unfold updP; rw [if_pos rfl]
theorem updP_lt {f : Nat → Option Addr × Nat} {i k : Nat} {p : Option Addr × Nat} (h : k < i) : updP f i p k = f k := by unfold updP; rw [if_neg (by omega)]
theorem updP_at {f : Nat → Option Addr × Nat} {i : Nat} {p : Option Addr × Nat} : updP f i p i = p := by unfold updP; rw [if_pos rfl]
/-- Behind i vectors. -/
def V1Rel (w : World) (W : Nat → Int) (V : Nat → Nat → Int) (n L : Nat) (x8 x9 x10 x11 x : Value) (wr : World) : Prop :=
  ∃ (i : Nat) (f : Nat → Option Addr × Nat), x = .int .i64 i ∧ i ≤ n ∧ x11 = .int .i64 (sumN W i) ∧ Kd.R (rowKd L) 22 wr w.heap.size (fun _ => True) x8 (tabP f i) ∧ (∀ k, k < i → rowR wr w.heap.size L (f k) (tab (V k) L)) ∧
    Kd.R (Kd.int .i64) 2 wr w.heap.size (fun _ => True) x9 (tab W i) ∧ Kd.R (Kd.int .i64) 2 wr w.heap.size (fun _ => True) x10 (tab (fun k => 3 * W k) i) ∧ Apart x9 x10 ∧ Below w.heap.size w wr
/-- Behind j numbers of a vector. -/
def V2Rel (w : World) (f : Nat → Int) (L : Nat) (v x : Value) (wr : World) : Prop := ∃ j : Nat, x = .int .i64 j ∧ j ≤ L ∧ Kd.R (Kd.int .i8) 31 wr w.heap.size (fun _ => True) v (tab f j) ∧ Below w.heap.size w wr
/-- Behind i of the column's numbers. -/
def V4Rel (w : World) (V : Nat → Int) (n : Nat) (lo hi x : Value) (wr : World) : Prop := ∃ i : Nat, x = .int .i64 i ∧ i ≤ n ∧ lo = .int .i8 (loN V i) ∧ hi = .int .i8 (hiN V i) ∧ Below w.heap.size w wr
/-- Behind i places: vectors and weights in another order. -/
def V5Rel (w : World) (W : Nat → Int) (f : Nat → Option Addr × Nat) (n L : Nat) (x24 x25 x : Value) (wr : World) : Prop :=
  ∃ i : Nat, x = .int .i64 i ∧ i ≤ n ∧ Kd.R (rowKd L) 22 wr w.heap.size (fun _ => True) x24 (tabP f i) ∧ Kd.R (Kd.int .i64) 2 wr w.heap.size (fun _ => True) x25 (tab W i) ∧ Below w.heap.size w wr
theorem rows_of {w : World} {A : Option Addr} {n L : Nat} {f : Nat → Option Addr × Nat} {V : Nat → Nat → Int} (h : Kd.C (rowKd L) w A n (tabP f n)) (hr : ∀ k, k < n → L ≤ (f k).2 ∧ Kd.C (Kd.int .i8) w (f k).1 L (tab (V k) L)) : Rows w A n L V := fun hn => by
  obtain ⟨ad, e, hc⟩ := h.2.2 hn
  refine ⟨ad, e, fun i hi => ?_⟩
  obtain ⟨c, hs, hk, hcell⟩ := hc i (f i) (by unfold tabP; rw [List.getElem?_map, List.getElem?_range hi]; rfl)
  have hk : c = [.slice (f i).1 L (f i).2] := hk
  subst hk
  have := hcell 0 _ rfl
  exact ⟨(f i).1, (f i).2, by simpa [rowKd, Kd.scalar] using this, (hr i hi).1, (hr i hi).2⟩
theorem row_cell {w : World} {A : Option Addr} {n L : Nat} {f : Nat → Option Addr × Nat} (h : Kd.C (rowKd L) w A n (tabP f n)) {i : Nat} (hi : i < n) : ∃ ad, A = some ad ∧ w.cell? (ad.add i) = some (.slice (f i).1 L (f i).2) := by
  obtain ⟨ad, e, hc⟩ := h.2.2 (by omega)
  obtain ⟨c, hs, hk, hcell⟩ := hc i (f i) (by unfold tabP; rw [List.getElem?_map, List.getElem?_range hi]; rfl)
  have hk : c = [.slice (f i).1 L (f i).2] := hk
  subst hk
  exact ⟨ad, e, by simpa [rowKd, Kd.scalar] using hcell 0 _ rfl⟩

set_option maxHeartbeats 4000000 in
set_option maxRecDepth 100000 in
theorem blendlaw_calls {A0 A1 A2 : Option Addr} {m c0 c1 c2 : Nat} {Z : Nat → List Int} {ws by_ : List Int} (w : World) (hr0 : RowsA w A0 m Z) (hc0 : m ≤ c0) (hr1 : Kd.C (Kd.int .i64) w A1 ws.length ws) (hc1 : ws.length ≤ c1)
    (hr2 : Kd.C (Kd.int .i64) w A2 by_.length by_) (hc2 : by_.length ≤ c2) (hs : ∀ i, i < m → Small (Z i)) (hL : ∀ i, i < m → (Z i).length ≤ 140737488351232) :
    Calls Try.prog 5 #[.slice A0 m c0, .slice A1 ws.length c1, .slice A2 by_.length c2] w fun e w' => e = .returned (.bool true) ∧ Below w.heap.size w w' := by
  have R0 := Lib.hid hr0
  have R1 := Lib.hid hr1
  have R2 := Lib.hid hr2
  have HS := Lib.hid hs
  obtain ⟨W, hW⟩ : ∃ W, W = wgt ws := ⟨_, rfl⟩
  have HWI : Hid (∀ i, 0 ≤ W i ∧ W i ≤ 1099511627776) := Lib.hid (fun i => by rw [hW]; exact wgt_in ws i)
  have HW3 : Hid (∀ n : Nat, ∀ i, i < n → 0 ≤ W i ∧ W i ≤ 3298534883328) := Lib.hid (fun n i _ => by have := HWI.out i; omega)
  obtain ⟨V, hV⟩ : ∃ V : Nat → Nat → Int, V = fun i => atF (Z i) := ⟨_, rfl⟩
  have HVI : Hid (∀ i j, i < m → -128 ≤ V i j ∧ V i j ≤ 127) := Lib.hid (fun i j hi => by rw [hV]; exact (at_eq (hs i hi) j).2)
  obtain ⟨L, hLL⟩ : ∃ L, (Z 0).length = L := ⟨_, rfl⟩
  obtain ⟨n, hn0, hn1, hn2⟩ : ∃ n : Nat, n ≤ m ∧ n ≤ 100 ∧ (n = m ∨ n = 100) := ⟨if m ≤ 100 then m else 100, by split <;> omega, by split <;> omega, by split <;> omega⟩
  have HL0 : Hid (0 < m → L ≤ 140737488351232) := Lib.hid (fun h => by rw [← hLL]; exact hL 0 h)
  have HW := Lib.hid hW
  have HV := Lib.hid hV
  have HL := Lib.hid hLL
  have HN2 := Lib.hid hn2
  clear hr0 hr1 hr2 hs hW hV hLL hL hn2
  go_enter Try.func5, Try.ntmps5
  go_wp2_with fail
  refine (fixed_calls _).mono ?_
  rintro e w1 ⟨rfl, hb⟩
  have HB := Lib.hid hb
  clear hb
  go_wp2
  go_loopw [8, 9, 10, 11, 12] (fun x8 x9 x10 x11 y wr => V1Rel w1 W V n L x8 x9 x10 x11 y wr) (fun _ _ _ _ y _ => n - (intOf y).toNat)
  case atStart => exact ⟨0, fun _ => (none, 0), rfl, by omega, rfl, Kd.R_nil _ _ _ _ _, fun k hk => by omega, Kd.R_nil _ _ _ _ _, Kd.R_nil _ _ _ _ _, Apart.nil _, Below.refl _ _⟩
  case round =>
    obtain ⟨i, f, rfl, hi, rfl, h8, hrows, h9, h10, ha, hB⟩ := hrel
    have R8 := Lib.hid h8
    have RR := Lib.hid hrows
    have R9 := Lib.hid h9
    have R10 := Lib.hid h10
    have A90 := Lib.hid ha
    have HC := Lib.hid hB
    clear h8 hrows h9 h10 ha hB
    rename World => wa
    go_upto_region 6 with (fail)
    go_cut [39] (fun s39 wx => wa = wx ∧ s39 = .bool (decide (i < n)))
    case first =>
      by_cases hlt : i < n
      · have d1 : decide ((i : Int) < (m : Int)) = true := decide_eq_true (by omega)
        have d2 : decide ((i : Int) < 100) = true := decide_eq_true (by omega)
        go_wp2_with fail
        go_meet
        exact ⟨rfl, by rw [decide_eq_true hlt]⟩
      · by_cases c : n = m
        · have d1 : decide ((i : Int) < (m : Int)) = false := decide_eq_false (by omega)
          go_wp2_with fail
          go_meet
          exact ⟨rfl, by rw [decide_eq_false hlt]⟩
        · have d1 : decide ((i : Int) < (m : Int)) = true := decide_eq_true (by omega)
          have d2 : decide ((i : Int) < 100) = false := decide_eq_false (by have := HN2.out; omega)
          go_wp2_with fail
          go_meet
          exact ⟨rfl, by rw [decide_eq_false hlt]⟩
    case rest =>
    obtain ⟨rfl, rfl⟩ := hcut
    by_cases hlt : i < n
    · have hlt' : decide (i < n) = true := decide_eq_true hlt
      rw [hlt']
      clear hi hlt'
      go_upto_region 9 with (fail)
      go_wp2
      go_loopw [13, 14] (fun v y wr => V2Rel wa (V i) L v y wr) (fun _ y _ => L - (intOf y).toNat)
      case atStart => exact ⟨0, rfl, by omega, Kd.R_nil _ _ _ _ _, Below.refl _ _⟩
      case round =>
        obtain ⟨j, rfl, hj, h13, hB⟩ := hrel
        have R13 := Lib.hid h13
        have HD := Lib.hid hB
        clear h13 hB
        rename World => wb
        have hr0 := ((R0.out.below HB.out).below HC.out).below HD.out
        obtain ⟨ad, A0', c0', e1, k0, _, _⟩ := hr0.at (i := 0) (by omega)
        obtain ⟨_, Ai, ci, e2, k1, hci, hCi⟩ := hr0.at (i := i) (by omega)
        subst e1
        injection e2 with e2
        subst e2
        rw [HL.out] at k0
        have k0 : wb.cell? ad = some (.slice A0' L c0') := k0
        have q0 : (0 : Int) < (m : Int) := by omega
        have q1 : (0 : Int) ≤ (i : Int) := by omega
        have q2 : (i : Int) < (m : Int) := by omega
        clear hr0
        by_cases hltj : j < L
        · have hltj' : decide ((j : Int) < (L : Int)) = true := decide_eq_true (by omega)
          have hLm := HL0.out (by omega)
          clear hj
          go_wp2_with fail
          refine (at_calls wb hCi hci (HS.out i (by omega)) j).mono ?_
          rintro e wc ⟨rfl, nd, rfl⟩
          have hv : atF (Z i) j = V i j := by rw [HV.out]
          rw [hv]
          obtain ⟨wc, hwc⟩ : ∃ wc, wc = wb.drewN nd := ⟨_, rfl⟩
          rw [← hwc]
          have R13c : Hid (Kd.R (Kd.int .i8) 31 wc wa.heap.size (fun _ => True) u13 (tab (V i) j)) := Lib.hid (by rw [hwc]; exact Kd.R_drewN R13.out nd)
          have HDc : Hid (Below wa.heap.size wa wc) := Lib.hid (by rw [hwc]; exact pw_below_drewN HD.out nd)
          clear hwc R13 HD k0 k1 hCi hv
          go_wp2_with ((with_reducible refine gate_builtin (b := .append) (xs := #[.tmp 50, .tmp 57]) rfl ?_); (try (refine gate_guard (by rfl) ?_; dsimp only)); at_builtin; refine Kd.R_append (Kd.int .i8) (w0 := wa) wa.heap.size rfl (.tmp 50) (.tmp 57) 22 31 (.int .i8 0) 1 rfl Try.underlying22 ninfo31 rfl (by decide) (by omega) u13 (tab (V i) j) (V i j) [.int .i8 (V i j)] (fun _ => True) (fun _ => False) rfl rfl rfl (fun _ hk => hk.elim) (fun _ _ => trivial) R13c.out HDc.out (below_size HDc.out) (by rw [tab_length]; omega) ?_; intro v1 wd ho hb hg hat; rw [← tab_succ] at ho; have HO := Lib.hid ho; have HDd := Lib.hid hb; clear ho hb hg hat)
          go_roundw
          case rel => exact ⟨j + 1, rfl, by omega, HO.out, HDd.out⟩
          case measure => simp [intOf]; omega
        · have hltj' : decide ((j : Int) < (L : Int)) = false := decide_eq_false (by omega)
          obtain rfl : L = j := by omega
          obtain ⟨Av, cv, ev, hcv, _⟩ := Kd.R_reads R13.out
          rw [tab_length] at ev hcv
          subst ev
          clear hltj hj hCi k1 q1 q2
          have R8b := Lib.hid (Kd.R_below R8.out HD.out)
          have R9b := Lib.hid (Kd.R_below R9.out HD.out)
          have R10b := Lib.hid (Kd.R_below R10.out HD.out)
          have RRb : Hid (∀ k, k < i → rowR wb w1.heap.size L (f k) (tab (V k) L)) := Lib.hid (fun k hk => Kd.R_below (RR.out k hk) HD.out)
          have RV : Hid (rowR wb w1.heap.size L (Av, cv) (tab (V i) L)) := Lib.hid (Kd.R_lower R13.out (below_size HC.out))
          have HBb := Lib.hid (below_step HC.out HD.out)
          clear R8 R9 R10 RR R13 HC HD
          go_upto_region 13 with (fail)
          clear k0
          obtain ⟨wi, hwi⟩ : ∃ x, W i = x := ⟨_, rfl⟩
          obtain ⟨su, hsu⟩ : ∃ x, sumN W i = x := ⟨_, rfl⟩
          have bW := HWI.out i
          have bS := sumW_in (W := W) (n := i) (fun k hk => HW3.out n k (by omega)) i (Nat.le_refl _)
          rw [hwi] at bW
          rw [hsu] at bS ⊢
          have HSU := Lib.hid hsu
          have hwd : wgt ws i = wi := by rw [← HW.out]; exact hwi
          clear hsu
          by_cases hlw : i < ws.length
          · have d1 : decide ((i : Int) < (ws.length : Int)) = true := decide_eq_true (by omega)
            obtain ⟨adw, ew, cw⟩ := Kd.at_int (Kd.C_below (Kd.C_below R1.out HB.out) HBb.out) (i : Int) (by omega) (by omega)
            rw [rd_nth, Int.toNat_natCast] at cw
            subst ew
            unfold wgt at hwd
            rw [if_pos hlw] at hwd
            obtain ⟨xi, hxi⟩ : ∃ x, nth ws i = x := ⟨_, rfl⟩
            rw [hxi] at cw hwd
            have bt := t40_in xi
            have q1 : (0 : Int) ≤ (i : Int) := by omega
            have q2 : (i : Int) < (ws.length : Int) := by omega
            have HWE := Lib.hid hwi
            clear hwi hxi
            by_cases hneg : Int.tmod xi 1099511627776 < 0
            · have d2 : decide (Int.tmod xi 1099511627776 < 0) = true := decide_eq_true hneg
              rw [if_pos hneg] at hwd
              have hwn : wrap64 (-(Int.tmod xi 1099511627776)) = wi := by rw [hwd]; exact w64' (by omega) (by omega)
              have HWN := Lib.hid hwn
              clear hwn hwd hneg bt
              go_upto_region 18 with (fail)
              rw [HWN.out]
              clear d1 d2 cw q1 q2
              have hE3 : wrap64 (3 * wi) = 3 * wi := w64' (by omega) (by omega)
              have hsum : wrap64 (su + wi) = su + wi := w64' (by omega) (by omega)
              have HE3 := Lib.hid hE3
              have HSUM := Lib.hid hsum
              clear hE3 hsum bW bS
              go_upto_region 19 with ((with_reducible refine gate_builtin (b := .append) (xs := #[.tmp 72, .tmp 74]) rfl ?_); (try (refine gate_guard (by rfl) ?_; dsimp only)); at_builtin; refine Kd.R_append (rowKd L) (w0 := w1) w1.heap.size rfl (.tmp 72) (.tmp 74) 55 22 (.slice none 0 0) 24 rfl Try.underlying55 binfo22 rfl Nat.zero_lt_one (by omega) u8 (tabP f i) (Av, cv) [.slice Av L cv] (fun _ => True) (fun _ => False) rfl rfl rfl (fun _ hk => hk.elim) (fun _ _ => trivial) R8b.out HBb.out (below_size HBb.out) (by rw [tabP_length]; omega) ?_; intro v8 wc ho hb hg hat)
              rw [tabP_upd] at ho
              have R8c := Lib.hid ho
              have HBc := Lib.hid hb
              have R9c := Lib.hid (grow_other R9b.out rfl R8b.out (by decide) hg)
              have R10c := Lib.hid (grow_other R10b.out rfl R8b.out (by decide) hg)
              have RRc : Hid (∀ k, k < i + 1 → rowR wc w1.heap.size L (updP f i (Av, cv) k) (tab (V k) L)) := Lib.hid (fun k hk => by
                rcases Nat.lt_or_ge k i with c | c
                · rw [updP_lt c]
                  exact grow_other (RRb.out k c) rfl R8b.out (by decide) hg
                · obtain rfl : k = i := by omega
                  rw [updP_at]
                  exact grow_other RV.out rfl R8b.out (by decide) hg)
              clear ho hb hg hat R8b R9b R10b RRb RV HBb
              go_upto_region 20 with ((with_reducible refine gate_builtin (b := .append) (xs := #[.tmp 76, .tmp 78]) rfl ?_); (try (refine gate_guard (by rfl) ?_; dsimp only)); at_builtin; refine Kd.R_append (Kd.int .i64) (w0 := w1) w1.heap.size rfl (.tmp 76) (.tmp 78) 32 2 (.int .i64 0) 8 rfl Try.underlying32 ninfo2 rfl (by decide) (by omega) u9 (tab (W) i) (wi) [.int .i64 (wi)] (fun _ => True) (fun _ => False) rfl rfl rfl (fun _ hk => hk.elim) (fun _ _ => trivial) R9c.out HBc.out (below_size HBc.out) (by rw [tab_length]; omega) ?_; intro v9 wd ho hb hg hat)
              have ho' : Kd.R (Kd.int .i64) 2 wd w1.heap.size (fun _ => True) v9 (tab W (i + 1)) := by rw [tab_succ, HWE.out]; exact ho
              have R9d := Lib.hid ho'
              have HBd := Lib.hid hb
              have R8d := Lib.hid (grow_other R8c.out rfl R9c.out (by decide) hg)
              have RRd : Hid (∀ k, k < i + 1 → rowR wd w1.heap.size L (updP f i (Av, cv) k) (tab (V k) L)) := Lib.hid (fun k hk => grow_other (RRc.out k hk) rfl R9c.out (by decide) hg)
              have h_ := updK R10c.out A90.out hg hat
              have R10d := Lib.hid h_.1
              have A90d := Lib.hid h_.2
              clear ho ho' hb hg hat h_ R8c R9c R10c RRc HBc A90
              go_upto_region 21 with ((with_reducible refine gate_builtin (b := .append) (xs := #[.tmp 80, .tmp 83]) rfl ?_); (try (refine gate_guard (by rfl) ?_; dsimp only)); at_builtin; refine Kd.R_append (Kd.int .i64) (w0 := w1) w1.heap.size rfl (.tmp 80) (.tmp 83) 32 2 (.int .i64 0) 8 rfl Try.underlying32 ninfo2 rfl (by decide) (by omega) u10 (tab (fun k => 3 * W k) i) (wrap64 (3 * wi)) [.int .i64 (wrap64 (3 * wi))] (fun _ => True) (fun _ => False) rfl rfl rfl (fun _ hk => hk.elim) (fun _ _ => trivial) R10d.out HBd.out (below_size HBd.out) (by rw [tab_length]; omega) ?_; intro v10 we ho hb hg hat)
              have ho' : Kd.R (Kd.int .i64) 2 we w1.heap.size (fun _ => True) v10 (tab (fun k => 3 * W k) (i + 1)) := by rw [tab_succ, HWE.out, ← HE3.out]; exact ho
              have R10e := Lib.hid ho'
              have HBe := Lib.hid hb
              have R8e := Lib.hid (grow_other R8d.out rfl R10d.out (by decide) hg)
              have RRe : Hid (∀ k, k < i + 1 → rowR we w1.heap.size L (updP f i (Av, cv) k) (tab (V k) L)) := Lib.hid (fun k hk => grow_other (RRd.out k hk) rfl R10d.out (by decide) hg)
              have h_ := updK R9d.out A90d.out.symm hg hat
              have R9e := Lib.hid h_.1
              have A90e := Lib.hid h_.2.symm
              clear ho ho' hb hg hat h_ R8d R9d R10d RRd HBd A90d
              go_wp2
              go_roundw
              case rel => exact ⟨i + 1, _, rfl, by omega, by rw [HSUM.out, ← HSU.out, ← HWE.out]; rfl, R8e.out, RRe.out, R9e.out, R10e.out, A90e.out, HBe.out⟩
              case measure => simp [intOf]; omega
            · have d2 : decide (Int.tmod xi 1099511627776 < 0) = false := decide_eq_false hneg
              rw [if_neg hneg] at hwd
              have HWN := Lib.hid hwd
              clear hwd hneg bt
              go_upto_region 18 with (fail)
              rw [HWN.out]
              clear d1 d2 cw q1 q2
              have hE3 : wrap64 (3 * wi) = 3 * wi := w64' (by omega) (by omega)
              have hsum : wrap64 (su + wi) = su + wi := w64' (by omega) (by omega)
              have HE3 := Lib.hid hE3
              have HSUM := Lib.hid hsum
              clear hE3 hsum bW bS
              go_upto_region 19 with ((with_reducible refine gate_builtin (b := .append) (xs := #[.tmp 72, .tmp 74]) rfl ?_); (try (refine gate_guard (by rfl) ?_; dsimp only)); at_builtin; refine Kd.R_append (rowKd L) (w0 := w1) w1.heap.size rfl (.tmp 72) (.tmp 74) 55 22 (.slice none 0 0) 24 rfl Try.underlying55 binfo22 rfl Nat.zero_lt_one (by omega) u8 (tabP f i) (Av, cv) [.slice Av L cv] (fun _ => True) (fun _ => False) rfl rfl rfl (fun _ hk => hk.elim) (fun _ _ => trivial) R8b.out HBb.out (below_size HBb.out) (by rw [tabP_length]; omega) ?_; intro v8 wc ho hb hg hat)
              rw [tabP_upd] at ho
              have R8c := Lib.hid ho
              have HBc := Lib.hid hb
              have R9c := Lib.hid (grow_other R9b.out rfl R8b.out (by decide) hg)
              have R10c := Lib.hid (grow_other R10b.out rfl R8b.out (by decide) hg)
              have RRc : Hid (∀ k, k < i + 1 → rowR wc w1.heap.size L (updP f i (Av, cv) k) (tab (V k) L)) := Lib.hid (fun k hk => by
                rcases Nat.lt_or_ge k i with c | c
                · rw [updP_lt c]
                  exact grow_other (RRb.out k c) rfl R8b.out (by decide) hg
                · obtain rfl : k = i := by omega
                  rw [updP_at]
                  exact grow_other RV.out rfl R8b.out (by decide) hg)
              clear ho hb hg hat R8b R9b R10b RRb RV HBb
              go_upto_region 20 with ((with_reducible refine gate_builtin (b := .append) (xs := #[.tmp 76, .tmp 78]) rfl ?_); (try (refine gate_guard (by rfl) ?_; dsimp only)); at_builtin; refine Kd.R_append (Kd.int .i64) (w0 := w1) w1.heap.size rfl (.tmp 76) (.tmp 78) 32 2 (.int .i64 0) 8 rfl Try.underlying32 ninfo2 rfl (by decide) (by omega) u9 (tab (W) i) (wi) [.int .i64 (wi)] (fun _ => True) (fun _ => False) rfl rfl rfl (fun _ hk => hk.elim) (fun _ _ => trivial) R9c.out HBc.out (below_size HBc.out) (by rw [tab_length]; omega) ?_; intro v9 wd ho hb hg hat)
              have ho' : Kd.R (Kd.int .i64) 2 wd w1.heap.size (fun _ => True) v9 (tab W (i + 1)) := by rw [tab_succ, HWE.out]; exact ho
              have R9d := Lib.hid ho'
              have HBd := Lib.hid hb
              have R8d := Lib.hid (grow_other R8c.out rfl R9c.out (by decide) hg)
              have RRd : Hid (∀ k, k < i + 1 → rowR wd w1.heap.size L (updP f i (Av, cv) k) (tab (V k) L)) := Lib.hid (fun k hk => grow_other (RRc.out k hk) rfl R9c.out (by decide) hg)
              have h_ := updK R10c.out A90.out hg hat
              have R10d := Lib.hid h_.1
              have A90d := Lib.hid h_.2
              clear ho ho' hb hg hat h_ R8c R9c R10c RRc HBc A90
              go_upto_region 21 with ((with_reducible refine gate_builtin (b := .append) (xs := #[.tmp 80, .tmp 83]) rfl ?_); (try (refine gate_guard (by rfl) ?_; dsimp only)); at_builtin; refine Kd.R_append (Kd.int .i64) (w0 := w1) w1.heap.size rfl (.tmp 80) (.tmp 83) 32 2 (.int .i64 0) 8 rfl Try.underlying32 ninfo2 rfl (by decide) (by omega) u10 (tab (fun k => 3 * W k) i) (wrap64 (3 * wi)) [.int .i64 (wrap64 (3 * wi))] (fun _ => True) (fun _ => False) rfl rfl rfl (fun _ hk => hk.elim) (fun _ _ => trivial) R10d.out HBd.out (below_size HBd.out) (by rw [tab_length]; omega) ?_; intro v10 we ho hb hg hat)
              have ho' : Kd.R (Kd.int .i64) 2 we w1.heap.size (fun _ => True) v10 (tab (fun k => 3 * W k) (i + 1)) := by rw [tab_succ, HWE.out, ← HE3.out]; exact ho
              have R10e := Lib.hid ho'
              have HBe := Lib.hid hb
              have R8e := Lib.hid (grow_other R8d.out rfl R10d.out (by decide) hg)
              have RRe : Hid (∀ k, k < i + 1 → rowR we w1.heap.size L (updP f i (Av, cv) k) (tab (V k) L)) := Lib.hid (fun k hk => grow_other (RRd.out k hk) rfl R10d.out (by decide) hg)
              have h_ := updK R9d.out A90d.out.symm hg hat
              have R9e := Lib.hid h_.1
              have A90e := Lib.hid h_.2.symm
              clear ho ho' hb hg hat h_ R8d R9d R10d RRd HBd A90d
              go_wp2
              go_roundw
              case rel => exact ⟨i + 1, _, rfl, by omega, by rw [HSUM.out, ← HSU.out, ← HWE.out]; rfl, R8e.out, RRe.out, R9e.out, R10e.out, A90e.out, HBe.out⟩
              case measure => simp [intOf]; omega
          · have d1 : decide ((i : Int) < (ws.length : Int)) = false := decide_eq_false (by omega)
            unfold wgt at hwd
            rw [if_neg hlw] at hwd
            subst hwd
            have HWE := Lib.hid hwi
            have d2 : decide ((1 : Int) < 0) = false := by decide
            clear hwi
            go_upto_region 18 with (fail)
            clear d1
            have hE3 : wrap64 (3 * 1) = 3 * 1 := w64' (by omega) (by omega)
            have hsum : wrap64 (su + 1) = su + 1 := w64' (by omega) (by omega)
            have HE3 := Lib.hid hE3
            have HSUM := Lib.hid hsum
            clear hE3 hsum bW bS
            go_upto_region 19 with ((with_reducible refine gate_builtin (b := .append) (xs := #[.tmp 72, .tmp 74]) rfl ?_); (try (refine gate_guard (by rfl) ?_; dsimp only)); at_builtin; refine Kd.R_append (rowKd L) (w0 := w1) w1.heap.size rfl (.tmp 72) (.tmp 74) 55 22 (.slice none 0 0) 24 rfl Try.underlying55 binfo22 rfl Nat.zero_lt_one (by omega) u8 (tabP f i) (Av, cv) [.slice Av L cv] (fun _ => True) (fun _ => False) rfl rfl rfl (fun _ hk => hk.elim) (fun _ _ => trivial) R8b.out HBb.out (below_size HBb.out) (by rw [tabP_length]; omega) ?_; intro v8 wc ho hb hg hat)
            rw [tabP_upd] at ho
            have R8c := Lib.hid ho
            have HBc := Lib.hid hb
            have R9c := Lib.hid (grow_other R9b.out rfl R8b.out (by decide) hg)
            have R10c := Lib.hid (grow_other R10b.out rfl R8b.out (by decide) hg)
            have RRc : Hid (∀ k, k < i + 1 → rowR wc w1.heap.size L (updP f i (Av, cv) k) (tab (V k) L)) := Lib.hid (fun k hk => by
              rcases Nat.lt_or_ge k i with c | c
              · rw [updP_lt c]
                exact grow_other (RRb.out k c) rfl R8b.out (by decide) hg
              · obtain rfl : k = i := by omega
                rw [updP_at]
                exact grow_other RV.out rfl R8b.out (by decide) hg)
            clear ho hb hg hat R8b R9b R10b RRb RV HBb
            go_upto_region 20 with ((with_reducible refine gate_builtin (b := .append) (xs := #[.tmp 76, .tmp 78]) rfl ?_); (try (refine gate_guard (by rfl) ?_; dsimp only)); at_builtin; refine Kd.R_append (Kd.int .i64) (w0 := w1) w1.heap.size rfl (.tmp 76) (.tmp 78) 32 2 (.int .i64 0) 8 rfl Try.underlying32 ninfo2 rfl (by decide) (by omega) u9 (tab (W) i) (1) [.int .i64 (1)] (fun _ => True) (fun _ => False) rfl rfl rfl (fun _ hk => hk.elim) (fun _ _ => trivial) R9c.out HBc.out (below_size HBc.out) (by rw [tab_length]; omega) ?_; intro v9 wd ho hb hg hat)
            have ho' : Kd.R (Kd.int .i64) 2 wd w1.heap.size (fun _ => True) v9 (tab W (i + 1)) := by rw [tab_succ, HWE.out]; exact ho
            have R9d := Lib.hid ho'
            have HBd := Lib.hid hb
            have R8d := Lib.hid (grow_other R8c.out rfl R9c.out (by decide) hg)
            have RRd : Hid (∀ k, k < i + 1 → rowR wd w1.heap.size L (updP f i (Av, cv) k) (tab (V k) L)) := Lib.hid (fun k hk => grow_other (RRc.out k hk) rfl R9c.out (by decide) hg)
            have h_ := updK R10c.out A90.out hg hat
            have R10d := Lib.hid h_.1
            have A90d := Lib.hid h_.2
            clear ho ho' hb hg hat h_ R8c R9c R10c RRc HBc A90
            go_upto_region 21 with ((with_reducible refine gate_builtin (b := .append) (xs := #[.tmp 80, .tmp 83]) rfl ?_); (try (refine gate_guard (by rfl) ?_; dsimp only)); at_builtin; refine Kd.R_append (Kd.int .i64) (w0 := w1) w1.heap.size rfl (.tmp 80) (.tmp 83) 32 2 (.int .i64 0) 8 rfl Try.underlying32 ninfo2 rfl (by decide) (by omega) u10 (tab (fun k => 3 * W k) i) 3 [.int .i64 3] (fun _ => True) (fun _ => False) rfl rfl rfl (fun _ hk => hk.elim) (fun _ _ => trivial) R10d.out HBd.out (below_size HBd.out) (by rw [tab_length]; omega) ?_; intro v10 we ho hb hg hat)
            have ho' : Kd.R (Kd.int .i64) 2 we w1.heap.size (fun _ => True) v10 (tab (fun k => 3 * W k) (i + 1)) := by rw [tab_succ, HWE.out]; exact ho
            have R10e := Lib.hid ho'
            have HBe := Lib.hid hb
            have R8e := Lib.hid (grow_other R8d.out rfl R10d.out (by decide) hg)
            have RRe : Hid (∀ k, k < i + 1 → rowR we w1.heap.size L (updP f i (Av, cv) k) (tab (V k) L)) := Lib.hid (fun k hk => grow_other (RRd.out k hk) rfl R10d.out (by decide) hg)
            have h_ := updK R9d.out A90d.out.symm hg hat
            have R9e := Lib.hid h_.1
            have A90e := Lib.hid h_.2.symm
            clear ho ho' hb hg hat h_ R8d R9d R10d RRd HBd A90d
            go_wp2
            go_roundw
            case rel => exact ⟨i + 1, _, rfl, by omega, by rw [HSUM.out, ← HSU.out, ← HWE.out]; rfl, R8e.out, RRe.out, R9e.out, R10e.out, A90e.out, HBe.out⟩
            case measure => simp [intOf]; omega
    · have hlt' : decide (i < n) = false := decide_eq_false hlt
      rw [hlt']
      obtain rfl : n = i := by omega
      clear hi hlt' hlt
      obtain ⟨A8, c8, e8, hc8, hC8⟩ := Kd.R_reads R8.out
      obtain ⟨A9, c9, e9, hc9, hC9⟩ := Kd.R_reads R9.out
      obtain ⟨A10, c10, e10, hc10, hC10⟩ := Kd.R_reads R10.out
      rw [tabP_length] at e8 hc8 hC8
      rw [tab_length] at e9 e10 hc9 hc10 hC9 hC10
      subst e8 e9 e10
      have hfr : ∀ k, k < n → L ≤ (f k).2 ∧ Kd.C (Kd.int .i8) wa (f k).1 L (tab (V k) L) := fun k hk => by
        obtain ⟨-, h2, h3⟩ := Kd.R_reads' (RR.out k hk)
        rw [tab_length] at h3
        exact ⟨h2, h3⟩
      have FR := Lib.hid hfr
      have C8 := Lib.hid hC8
      have C9 := Lib.hid hC9
      have C10 := Lib.hid hC10
      have RW := Lib.hid (rows_of hC8 hfr)
      clear hfr hC8 hC9 hC10 R8 R9 R10 RR A90
      obtain ⟨S, hS⟩ : ∃ S, sumN W n = S := ⟨_, rfl⟩
      rw [hS]
      have HS2 := Lib.hid hS
      clear hS
      have hLn : n = 0 ∨ L ≤ 140737488351232 := by
        rcases Nat.eq_zero_or_pos n with h | h
        · exact .inl h
        · exact .inr (HL0.out (by omega))
      have HA := Lib.hid (below_step HB.out HC.out)
      by_cases hS1 : S < 1
      · have d1 : decide (S < 1) = true := decide_eq_true hS1
        have hlow : Calls Try.prog 20 #[.slice A9 n c9, .slice A8 n c8] wa fun e w' => e = .returned (.tuple #[.slice none 0 0, .int .i64 30]) ∧ Below wa.heap.size wa w' := by
          rcases hLn with h | h
          · subst h
            exact blend_low (L := 0) (V := fun _ _ => 0) wa C9.out hc9 (fun h => by omega) hc8 hn1 (by omega) (HW3.out 0) (by rw [HS2.out]; exact hS1)
          · exact blend_low wa C9.out hc9 RW.out hc8 hn1 h (HW3.out n) (by rw [HS2.out]; exact hS1)
        have HLOW := Lib.hid hlow
        clear hlow hLn hS1
        go_wp2_with fail
        refine HLOW.out.mono ?_
        rintro e w2 ⟨rfl, hb⟩
        have HZ : Hid (Below w.heap.size w w2) := Lib.hid (below_step HA.out hb)
        clear hb
        go_wp2
        go_ret
        exact ⟨rfl, HZ.out⟩
      · have d1 : decide (S < 1) = false := decide_eq_false hS1
        have hn1' : 1 ≤ n := by
          rcases Nat.eq_zero_or_pos n with h | h
          · subst h
            have := HS2.out
            have h0 : sumN W 0 = 0 := rfl
            omega
          · exact h
        have hLm : L ≤ 140737488351232 := by omega
        have HVN : Hid (∀ i j, i < n → j < L → -128 ≤ V i j ∧ V i j ≤ 127) := Lib.hid (fun i j hi _ => HVI.out i j (by omega))
        go_wp2_with fail
        refine (blend_calls wa C9.out hc9 RW.out hc8 hn1' hn1 hLm (HW3.out n) HVN.out (by rw [HS2.out]; omega)).mono ?_
        rintro e w2 ⟨va, rfl, hR, hb⟩
        obtain ⟨Aa, ca, ev, hca, hCa⟩ := Kd.R_reads hR
        rw [tab_length] at ev hca hCa
        subst ev
        have CA := Lib.hid hCa
        have H2 := Lib.hid hb
        clear hR hCa hb hLn
        obtain ⟨ad8, e8, k8⟩ := row_cell (Kd.C_below C8.out H2.out) (i := 0) (by omega)
        subst e8
        have k8 : w2.cell? ad8 = some (.slice (f 0).1 L (f 0).2) := k8
        have hLL : ((L : Int) != (L : Int)) = false := bne_eq_false_iff_eq.2 rfl
        have q0 : (0 : Int) < (n : Int) := by omega
        have hSp : 1 ≤ S := by omega
        clear hS1
        go_wp2
        clear d1 k8 hLL
        have BT : Hid (∀ j, j < L → loN (fun i => V i j) n ≤ blF W V n j ∧ blF W V n j ≤ hiN (fun i => V i j) n) := Lib.hid (fun j hj => bl_between (HW3.out n) (fun i hi => HVN.out i j hi hj) (by rw [HS2.out]; omega))
        go_loopw [18] (fun y wr => G2Rel w2 L y wr) (fun y _ => L - (intOf y).toNat)
        case atStart => exact ⟨0, rfl, by omega, Below.refl _ _⟩
        case round =>
          obtain ⟨j, rfl, hj, hB⟩ := hrel
          have HD := Lib.hid hB
          clear hB
          rename World => wb
          by_cases hltj : j < L
          · have hltj' : decide ((j : Int) < (L : Int)) = true := decide_eq_true (by omega)
            clear hj
            go_wp2
            go_loopw [19, 20, 21] (fun lo hi y wr => V4Rel w2 (fun i => V i j) n lo hi y wr) (fun _ _ y _ => n - (intOf y).toNat)
            case atStart => exact ⟨0, rfl, by omega, rfl, rfl, HD.out⟩
            case round =>
              clear HD
              obtain ⟨k, rfl, hk, rfl, rfl, hB⟩ := hrel
              have HE := Lib.hid hB
              clear hB
              rename World => wc
              by_cases hltk : k < n
              · have hltk' : decide ((k : Int) < (n : Int)) = true := decide_eq_true (by omega)
                obtain ⟨_, e8, k8⟩ := row_cell (Kd.C_below (Kd.C_below C8.out H2.out) HE.out) hltk
                injection e8 with e8
                subst e8
                obtain ⟨adr, er, kv⟩ := Kd.at_int (Kd.C_below (Kd.C_below (FR.out k hltk).2 H2.out) HE.out) (j : Int) (by omega) (by omega)
                rw [rd_nth, Int.toNat_natCast, tab_nth hltj] at kv
                rw [er] at k8
                have q1 : (0 : Int) ≤ (k : Int) := by omega
                have q2 : (k : Int) < (n : Int) := by omega
                have q3 : (0 : Int) ≤ (j : Int) := by omega
                have q4 : (j : Int) < (L : Int) := by omega
                obtain ⟨lo, hlo⟩ : ∃ x, loN (fun i => V i j) k = x := ⟨_, rfl⟩
                obtain ⟨hi, hhi⟩ : ∃ x, hiN (fun i => V i j) k = x := ⟨_, rfl⟩
                obtain ⟨v, hv⟩ : ∃ x, V k j = x := ⟨_, rfl⟩
                have hlo1 : loN (fun i => V i j) (k + 1) = if m127 v < lo then m127 v else lo := by rw [← hlo, ← hv]; rfl
                have hhi1 : hiN (fun i => V i j) (k + 1) = if hi < m127 v then m127 v else hi := by rw [← hhi, ← hv]; rfl
                rw [hlo, hhi]
                rw [hv] at kv
                clear hlo hhi hv hk
                by_cases h128 : v = -128
                · have f0 : (v == -128) = true := beq_iff_eq.2 h128
                  have e127 : m127 v = -127 := by unfold m127; rw [if_pos h128]
                  rw [e127] at hlo1 hhi1
                  have HLO1 := Lib.hid hlo1
                  have HHI1 := Lib.hid hhi1
                  clear hlo1 hhi1 e127 h128
                  by_cases l1 : -127 < lo
                  · have f1 : decide (-127 < lo) = true := decide_eq_true l1
                    by_cases l2 : hi < -127
                    · have f2 : decide (hi < -127) = true := decide_eq_true l2
                      go_wp2
                      go_roundw
                      case rel => exact ⟨k + 1, rfl, by omega, by rw [HLO1.out, if_pos l1], by rw [HHI1.out, if_pos l2], HE.out⟩
                      case measure => simp [intOf]; omega
                    · have f2 : decide (hi < -127) = false := decide_eq_false l2
                      go_wp2
                      go_roundw
                      case rel => exact ⟨k + 1, rfl, by omega, by rw [HLO1.out, if_pos l1], by rw [HHI1.out, if_neg l2], HE.out⟩
                      case measure => simp [intOf]; omega
                  · have f1 : decide (-127 < lo) = false := decide_eq_false l1
                    by_cases l2 : hi < -127
                    · have f2 : decide (hi < -127) = true := decide_eq_true l2
                      go_wp2
                      go_roundw
                      case rel => exact ⟨k + 1, rfl, by omega, by rw [HLO1.out, if_neg l1], by rw [HHI1.out, if_pos l2], HE.out⟩
                      case measure => simp [intOf]; omega
                    · have f2 : decide (hi < -127) = false := decide_eq_false l2
                      go_wp2
                      go_roundw
                      case rel => exact ⟨k + 1, rfl, by omega, by rw [HLO1.out, if_neg l1], by rw [HHI1.out, if_neg l2], HE.out⟩
                      case measure => simp [intOf]; omega
                · have f0 : (v == -128) = false := beq_eq_false_iff_ne.2 h128
                  have e127 : m127 v = v := by unfold m127; rw [if_neg h128]
                  rw [e127] at hlo1 hhi1
                  have HLO1 := Lib.hid hlo1
                  have HHI1 := Lib.hid hhi1
                  clear hlo1 hhi1 e127 h128
                  by_cases l1 : v < lo
                  · have f1 : decide (v < lo) = true := decide_eq_true l1
                    by_cases l2 : hi < v
                    · have f2 : decide (hi < v) = true := decide_eq_true l2
                      go_wp2
                      go_roundw
                      case rel => exact ⟨k + 1, rfl, by omega, by rw [HLO1.out, if_pos l1], by rw [HHI1.out, if_pos l2], HE.out⟩
                      case measure => simp [intOf]; omega
                    · have f2 : decide (hi < v) = false := decide_eq_false l2
                      go_wp2
                      go_roundw
                      case rel => exact ⟨k + 1, rfl, by omega, by rw [HLO1.out, if_pos l1], by rw [HHI1.out, if_neg l2], HE.out⟩
                      case measure => simp [intOf]; omega
                  · have f1 : decide (v < lo) = false := decide_eq_false l1
                    by_cases l2 : hi < v
                    · have f2 : decide (hi < v) = true := decide_eq_true l2
                      go_wp2
                      go_roundw
                      case rel => exact ⟨k + 1, rfl, by omega, by rw [HLO1.out, if_neg l1], by rw [HHI1.out, if_pos l2], HE.out⟩
                      case measure => simp [intOf]; omega
                    · have f2 : decide (hi < v) = false := decide_eq_false l2
                      go_wp2
                      go_roundw
                      case rel => exact ⟨k + 1, rfl, by omega, by rw [HLO1.out, if_neg l1], by rw [HHI1.out, if_neg l2], HE.out⟩
                      case measure => simp [intOf]; omega
              · have hltk' : decide ((k : Int) < (n : Int)) = false := decide_eq_false (by omega)
                obtain rfl : n = k := by omega
                clear hltk hk
                obtain ⟨ada, ea, ka⟩ := Kd.at_int (Kd.C_below CA.out HE.out) (j : Int) (by omega) (by omega)
                rw [rd_nth, Int.toNat_natCast, tab_nth hltj] at ka
                subst ea
                have hbt := BT.out j hltj
                obtain ⟨lo, hlo⟩ : ∃ x, loN (fun i => V i j) n = x := ⟨_, rfl⟩
                obtain ⟨hi, hhi⟩ : ∃ x, hiN (fun i => V i j) n = x := ⟨_, rfl⟩
                obtain ⟨v, hv⟩ : ∃ x, blF W V n j = x := ⟨_, rfl⟩
                rw [hlo, hhi, hv] at hbt
                rw [hlo, hhi]
                rw [hv] at ka
                have f1 : decide (v < lo) = false := decide_eq_false (by omega)
                have f2 : decide (hi < v) = false := decide_eq_false (by omega)
                have q3 : (0 : Int) ≤ (j : Int) := by omega
                have q4 : (j : Int) < (L : Int) := by omega
                clear hbt hlo hhi hv
                go_wp2
                go_roundw
                case rel => exact ⟨j + 1, rfl, by omega, HE.out⟩
                case measure => simp [intOf]; omega
          · have hltj' : decide ((j : Int) < (L : Int)) = false := decide_eq_false (by omega)
            obtain rfl : L = j := by omega
            clear hltj hj
            obtain ⟨P, hP, ho⟩ := order_calls (n := n) wb (Kd.C_below (Kd.C_below (Kd.C_below R2.out HA.out) H2.out) HD.out) hc2 (by omega)
            have HO := Lib.hid ho
            have HP := Lib.hid hP
            clear ho hP
            go_wp2_with fail
            refine HO.out.mono ?_
            rintro e w4 ⟨vP, rfl, hR, hb⟩
            obtain ⟨AP, cP, ev, hcP, hCP⟩ := Kd.R_reads hR
            have HPL : Hid (P.length = n) := Lib.hid (by rw [HP.out.length_eq, iota_length])
            rw [HPL.out] at ev hcP
            subst ev
            have RP := Lib.hid hCP
            have H4 := Lib.hid (below_step (below_step H2.out HD.out) hb)
            have CA4 := Lib.hid (Kd.C_below (Kd.C_below CA.out HD.out) hb)
            clear hR hCP hb HO CA BT HD H2
            go_wp2
            go_loopw [24, 25, 26] (fun x24 x25 y wr => V5Rel w4 (fun k => W (nth P k).toNat) (fun k => f (nth P k).toNat) n L x24 x25 y wr) (fun _ _ y _ => n - (intOf y).toNat)
            case atStart => exact ⟨0, rfl, by omega, Kd.R_nil _ _ _ _ _, Kd.R_nil _ _ _ _ _, Below.refl _ _⟩
            case round =>
              obtain ⟨i, rfl, hi, h24, h25, hB⟩ := hrel
              have R24 := Lib.hid h24
              have R25 := Lib.hid h25
              have HE := Lib.hid hB
              clear h24 h25 hB
              rename World => we
              by_cases hlt : i < n
              · have hlt' : decide ((i : Int) < (n : Int)) = true := decide_eq_true (by omega)
                have hnp := perm_in HP.out hlt
                obtain ⟨np, hp⟩ : ∃ np : Nat, nth P i = np := ⟨(nth P i).toNat, by omega⟩
                rw [hp] at hnp
                have hpn : np < n := by omega
                have ENP : Hid ((nth P i).toNat = np) := Lib.hid (by rw [hp, Int.toNat_natCast])
                have RPn : Hid (∀ W, Below w4.heap.size w4 W → ∃ ad, AP = some ad ∧ W.cell? (ad.add i) = some (.int .i64 (np : Int))) := Lib.hid (fun W hW => by
                  obtain ⟨ad, e, h⟩ := Kd.at_int (Kd.C_below RP.out hW) (i : Int) (by omega) (by rw [HPL.out]; omega)
                  rw [rd_nth, Int.toNat_natCast, hp] at h
                  exact ⟨ad, e, h⟩)
                have q1 : (0 : Int) ≤ (i : Int) := by omega
                have q2 : (i : Int) < (n : Int) := by omega
                have q3 : (0 : Int) ≤ (np : Int) := by omega
                have q4 : (np : Int) < (n : Int) := by omega
                clear hp hnp hi
                obtain ⟨adP, eP, k1⟩ := RPn.out we HE.out
                obtain ⟨_, e8, k2⟩ := row_cell (Kd.C_below (Kd.C_below C8.out H4.out) HE.out) hpn
                injection e8 with e8
                subst eP e8
                go_upto_region 51 with ((with_reducible refine gate_builtin (b := .append) (xs := #[.tmp 174, .tmp 182]) rfl ?_); (try (refine gate_guard (by rfl) ?_; dsimp only)); at_builtin; refine Kd.R_append (rowKd L) (w0 := w4) w4.heap.size rfl (.tmp 174) (.tmp 182) 55 22 (.slice none 0 0) 24 rfl Try.underlying55 binfo22 rfl Nat.zero_lt_one (by omega) u24 (tabP (fun k => f (nth P k).toNat) i) (f np) [.slice (f np).1 L (f np).2] (fun _ => True) (fun _ => False) rfl rfl rfl (fun _ hk => hk.elim) (fun _ _ => trivial) R24.out HE.out (below_size HE.out) (by rw [tabP_length]; omega) ?_; intro v24 wf ho hb hg hat)
                have ho' : Kd.R (rowKd L) 22 wf w4.heap.size (fun _ => True) v24 (tabP (fun k => f (nth P k).toNat) (i + 1)) := by rw [tabP_succ, ENP.out]; exact ho
                have R24f := Lib.hid ho'
                have HF := Lib.hid hb
                have R25f := Lib.hid (grow_other R25.out rfl R24.out (by decide) hg)
                clear ho ho' hb hg hat R24 R25 HE k1 k2
                obtain ⟨_, eP, k1⟩ := RPn.out wf HF.out
                injection eP with eP
                subst eP
                obtain ⟨ad9, e9, k2⟩ := Kd.at_int (Kd.C_below (Kd.C_below C9.out H4.out) HF.out) (np : Int) (by omega) (by omega)
                rw [rd_nth, Int.toNat_natCast, tab_nth hpn] at k2
                subst e9
                go_upto_region 49 with ((with_reducible refine gate_builtin (b := .append) (xs := #[.tmp 184, .tmp 192]) rfl ?_); (try (refine gate_guard (by rfl) ?_; dsimp only)); at_builtin; refine Kd.R_append (Kd.int .i64) (w0 := w4) w4.heap.size rfl (.tmp 184) (.tmp 192) 32 2 (.int .i64 0) 8 rfl Try.underlying32 ninfo2 rfl (by decide) (by omega) u25 (tab (fun k => W (nth P k).toNat) i) (W np) [.int .i64 (W np)] (fun _ => True) (fun _ => False) rfl rfl rfl (fun _ hk => hk.elim) (fun _ _ => trivial) R25f.out HF.out (below_size HF.out) (by rw [tab_length]; omega) ?_; intro v25 wg ho hb hg hat)
                have ho' : Kd.R (Kd.int .i64) 2 wg w4.heap.size (fun _ => True) v25 (tab (fun k => W (nth P k).toNat) (i + 1)) := by rw [tab_succ, ENP.out]; exact ho
                have R25g := Lib.hid ho'
                have HG := Lib.hid hb
                have R24g := Lib.hid (grow_other R24f.out rfl R25f.out (by decide) hg)
                clear ho ho' hb hg hat R24f R25f HF k1 k2
                go_wp2
                go_roundw
                case rel => exact ⟨i + 1, rfl, by omega, R24g.out, R25g.out, HG.out⟩
                case measure => simp [intOf]; omega
              · have hlt' : decide ((i : Int) < (n : Int)) = false := decide_eq_false (by omega)
                obtain rfl : n = i := by omega
                clear hlt hi
                obtain ⟨A24, c24, e24, hc24, hC24⟩ := Kd.R_reads R24.out
                obtain ⟨A25, c25, e25, hc25, hC25⟩ := Kd.R_reads R25.out
                rw [tabP_length] at e24 hc24 hC24
                rw [tab_length] at e25 hc25 hC25
                subst e24 e25
                have RM : Hid (Rows we A24 n L (fun k => V (nth P k).toNat)) := Lib.hid (rows_of hC24 (fun k hk => by
                  have hp := perm_in HP.out hk
                  have h := FR.out (nth P k).toNat (by omega)
                  exact ⟨h.1, Kd.C_below (Kd.C_below h.2 H4.out) HE.out⟩))
                have C25 := Lib.hid hC25
                clear hC24 hC25 R24 R25
                have HWP : Hid (∀ i, i < n → 0 ≤ W (nth P i).toNat ∧ W (nth P i).toNat ≤ 3298534883328) := Lib.hid (fun i hi => by have := HWI.out (nth P i).toNat; omega)
                have HVP : Hid (∀ i j, i < n → j < L → -128 ≤ V (nth P i).toNat j ∧ V (nth P i).toNat j ≤ 127) := Lib.hid (fun i j hi hj => HVN.out _ j (by have := perm_in HP.out hi; omega) hj)
                go_wp2_with fail
                refine (blend_calls (W := fun k => W (nth P k).toNat) (V := fun k => V (nth P k).toNat) we C25.out hc25 RM.out hc24 hn1' hn1 hLm HWP.out HVP.out (by rw [sum_moved HP.out, HS2.out]; omega)).mono ?_
                rintro e w5 ⟨vb, rfl, hR, hb⟩
                obtain ⟨Ab, cb, ev, hcb, hCb⟩ := Kd.R_reads hR
                rw [tab_length] at ev hcb hCb
                rw [show tab (blF (fun k => W (nth P k).toNat) (fun k => V (nth P k).toNat) n) L = tab (blF W V n) L from tab_congr (fun j _ => bl_moved HP.out j)] at hCb
                subst ev
                have CB := Lib.hid hCb
                have H5 := Lib.hid hb
                have RW5 := Lib.hid (((RW.out.below H4.out).below HE.out).below hb)
                have C105 := Lib.hid (Kd.C_below (Kd.C_below (Kd.C_below C10.out H4.out) HE.out) hb)
                clear hR hCb hb
                have HW5 : Hid (∀ i, i < n → 0 ≤ 3 * W i ∧ 3 * W i ≤ 3298534883328) := Lib.hid (fun i hi => by have := HWI.out i; omega)
                go_wp2_with fail
                refine (blend_calls (W := fun k => 3 * W k) (V := V) w5 C105.out hc10 RW5.out hc8 hn1' hn1 hLm HW5.out HVN.out (by rw [sumN_mul, HS2.out]; omega)).mono ?_
                rintro e w6 ⟨vc, rfl, hR, hb⟩
                obtain ⟨Ac, cc, ev, hcc, hCc⟩ := Kd.R_reads hR
                rw [tab_length] at ev hcc hCc
                rw [show tab (blF (fun k => 3 * W k) V n) L = tab (blF W V n) L from tab_congr (fun j _ => bl_three)] at hCc
                subst ev
                have CC := Lib.hid hCc
                have H6 := Lib.hid hb
                clear hR hCc hb
                have CA6 := Lib.hid (Kd.C_below (Kd.C_below (Kd.C_below CA4.out HE.out) H5.out) H6.out)
                have CB6 := Lib.hid (Kd.C_below CB.out H6.out)
                go_wp2_with fail
                refine (eqn_calls w6 (tab_length _ _) (tab_length _ _) (by rw [tab_length]; exact CA6.out) hca (by rw [tab_length]; exact CB6.out) hcb rfl (by omega)).mono ?_
                rintro e w7 ⟨rfl, n7, rfl⟩
                go_wp2_with fail
                refine (eqn_calls _ (tab_length _ _) (tab_length _ _) (by rw [tab_length]; exact Kd.C_drewN CA6.out _) hca (by rw [tab_length]; exact Kd.C_drewN CC.out _) hcc rfl (by omega)).mono ?_
                rintro e w8 ⟨rfl, n8, rfl⟩
                have HZ : Hid (Below w.heap.size w ((w6.drewN n7).drewN n8)) := Lib.hid (pw_below_drewN (pw_below_drewN (below_step (below_step (below_step (below_step HA.out H4.out) HE.out) H5.out) H6.out) _) _)
                go_wp2
                go_ret
                exact ⟨rfl, by have := HZ.out; rwa [World.drewN_drewN] at this⟩
end Go.Proofs.Ytnioohhiphpplaa.Wk
