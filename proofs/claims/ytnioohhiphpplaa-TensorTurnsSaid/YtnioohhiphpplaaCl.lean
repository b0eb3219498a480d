/- The walk of augurlaw03.columns: of a right matrix each unit vector gives its column. -/
import Derived.Test.YtnioohhiphpplaaFx
import Derived.IntWalk
import Derived.Deep.QuietTactic
import Derived.BigQuiet
namespace Go.Proofs.Ytnioohhiphpplaa.M
open Go.RowKit Go.Proofs.YtnioohhiphpplaaW.PrintWords Go.Proofs.YtnioohhiphpplaaW.PrintLast Go.Proofs.YtnioohhiphpplaaW.PrintMore
/-- A unit vector. -/
def unitV (n c : Nat) : List Int := (List.replicate n 0).set c 1
theorem unit_length (n c : Nat) : (unitV n c).length = n := by simp [unitV]
theorem unit_nth {n c i : Nat} (hc : c < n) : nth (unitV n c) i = if i = c then 1 else 0 := by
  unfold nth unitV
  rw [List.getD_eq_getElem?_getD, List.getElem?_set]
  by_cases h : c = i
  · subst h; simp [hc]
  · rw [if_neg h, if_neg (fun e => h e.symm)]
    rw [List.getElem?_replicate]
    split <;> rfl
theorem unit_small (n c : Nat) : Small (unitV n c) := by
  intro x hx
  rcases List.mem_or_eq_of_mem_set hx with h | h
  · have := (List.mem_replicate.1 h).2; subst this; omega
  · subst h; omega
theorem dotN_unit (a : List Int) {n c : Nat} (hc : c < n) (m : Nat) : dotN a (unitV n c) m = if c < m then nth a c else 0 := by
  induction m with
  | zero => simp [dotN]
  | succ m ih =>
    show dotN a (unitV n c) m + nth a m * nth (unitV n c) m = _
    rw [ih, unit_nth hc]
    by_cases h1 : c < m
    · rw [if_pos h1, if_neg (by omega), if_pos (by omega)]; omega
    · by_cases h2 : m = c
      · subst h2; rw [if_neg h1, if_pos rfl, if_pos (by omega)]; omega
      · rw [if_neg h1, if_neg h2, if_neg (by omega)]; omega
theorem row_nth {D : List Int} {cols r c : Nat} (hc : c < cols) : nth (rowOf D cols r) c = nth D (r * cols + c) := by
  unfold rowOf nth
  rw [List.getD_eq_getElem?_getD, List.getElem?_drop, List.getElem?_take, if_pos (by rw [Nat.add_mul]; omega), List.getD_eq_getElem?_getD]
theorem row_length {D : List Int} {cols r : Nat} (h : (r + 1) * cols ≤ D.length) : (rowOf D cols r).length = cols := by
  unfold rowOf
  rw [List.length_drop, List.length_take, Nat.add_mul] at *
  omega
theorem mv_unit {D : List Int} {cols n r c : Nat} (hc : c < cols) (hr : r < n) (h : (r + 1) * cols ≤ D.length) : nth (mvN D (unitV cols c) cols n) r = nth D (r * cols + c) := by
  rw [mvN_nth _ _ _ _ _ hr]
  unfold dotL
  rw [dotN_unit _ hc, row_length h, if_pos hc, row_nth hc]
end Go.Proofs.Ytnioohhiphpplaa.M
namespace Go.Proofs.Ytnioohhiphpplaa.Wk
open Go.RowKit Go.Proofs.YtnioohhiphpplaaW.PrintWords Go.Proofs.YtnioohhiphpplaaW.PrintLast Go.Proofs.YtnioohhiphpplaaW.PrintMore Go.Proofs.Ytnioohhiphpplaa.M Go.Proofs.Ytnioohhiphpplaa.Br

/-- Behind c columns. -/
def ClRel (w : World) (rows cols : Nat) (A0 : Option Addr) (c0 : Nat) (D : List Int) (x : Value) (wr : World) : Prop :=
  ∃ c : Nat, x = .int .i64 c ∧ c ≤ cols ∧ wr.heap[w.heap.size]? = some (.cells #[.int .i64 (rows : Int), .int .i64 (cols : Int), .slice A0 D.length c0] 28 (0, 0)) ∧ Below w.heap.size w wr
/-- Behind i zeros. -/
def ZrRel (w : World) (cols : Nat) (v x : Value) (wr : World) : Prop :=
  ∃ i : Nat, x = .int .i64 i ∧ i ≤ cols ∧ Kd.R (Kd.int .i8) 31 wr w.heap.size (fun _ => True) v (List.replicate i 0) ∧ Below w.heap.size w wr
/-- Behind r rows. -/
def RwRel (w : World) (rows : Nat) (x : Value) (wr : World) : Prop :=
  ∃ r : Nat, x = .int .i64 r ∧ r ≤ rows ∧ Below w.heap.size w wr

theorem mvn_calls {rows cols n : Nat} {A0 A1 : Option Addr} {c0 c1 : Nat} {D v : List Int} (w : World) (hv : v.length = n) (hr0 : Kd.C (Kd.int .i8) w A0 D.length D) (hc0 : D.length ≤ c0) (hr1 : Kd.C (Kd.int .i8) w A1 v.length v) (hc1 : n ≤ c1)
    (hm : IsMat (rows : Int) (cols : Int) D) (hn : n = cols) (hD : Small D) (hV : Small v) (hl : (D.length : Int) ≤ 140737488351232) (hrows : (rows : Int) ≤ 35184372088832) :
    Calls Try.prog 9 #[.agg #[.int .i64 (rows : Int), .int .i64 (cols : Int), .slice A0 D.length c0], .slice A1 n c1] w fun e w' =>
      ∃ v0, e = .returned (.tuple #[v0, .int .i64 0]) ∧ Kd.R (Kd.int .i64) 2 w' w.heap.size (fun _ => True) v0 (mvN D v cols rows) ∧ Below w.heap.size w w' := by
  subst hv
  have := mv_calls w hr0 hc0 hr1 hc1 hm (by rw [hn]) hD hV hl hrows
  rw [Int.toNat_natCast, Int.toNat_natCast] at this
  exact this

set_option maxHeartbeats 1000000 in
theorem columns_calls {rows cols : Nat} {A0 : Option Addr} {c0 : Nat} {D : List Int} (w : World) (hr0 : Kd.C (Kd.int .i8) w A0 D.length D) (hc0 : D.length ≤ c0)
    (hm : IsMat (rows : Int) (cols : Int) D) (hD : Small D) (hn : (D.length : Int) ≤ 140737488351232) (hrows : (rows : Int) ≤ 35184372088832) :
    Calls Try.prog 13 #[.agg #[.int .i64 (rows : Int), .int .i64 (cols : Int), .slice A0 D.length c0]] w fun e w' => e = .returned (.bool true) ∧ Below w.heap.size w w' := by
  have HR0 := Lib.hid hr0
  have HM := Lib.hid hm
  have m0 := hm.1
  have m1 := hm.2.1
  have mc : (cols : Int) ≤ 140737488351232 := by have := row_bounds hm (r := 0) (by omega) (by omega); omega
  have HBK0 := Lib.hid (blk_new w (.cells #[.int .i64 (rows : Int), .int .i64 (cols : Int), .slice A0 D.length c0] 28 (0, 0)))
  clear hr0 hm
  go_enter Try.func13, Try.ntmps13
  go_wp2
  go_loopw [3] (fun x wr => ClRel w rows cols A0 c0 D x wr) (fun x _ => cols - (intOf x).toNat)
  case atStart => exact ⟨0, rfl, by omega, HBK0.out, below_alloc (Below.refl _ _) _⟩
  case round =>
    clear HBK0
    rename World => wa
    obtain ⟨c, rfl, hc, hBK, hB⟩ := hrel
    have HBK := Lib.hid hBK
    have HB := Lib.hid hB
    clear hBK hB
    by_cases hlt : c < cols
    · have k1 : wa.cell? ⟨w.heap.size, 1, none⟩ = some (.int .i64 (cols : Int)) := (blk_cell HBK.out 1).trans rfl
      have hlt' : decide ((c : Int) < (cols : Int)) = true := decide_eq_true (by omega)
      go_wp2
      go_loopw [4, 5] (fun v x wq => ZrRel wa cols v x wq) (fun _ x _ => cols - (intOf x).toNat)
      case atStart => exact ⟨0, rfl, by omega, Kd.R_nil _ _ _ _ _, Below.refl _ _⟩
      case round =>
        obtain ⟨i, rfl, hi, hR, hB⟩ := hrel
        have HR := Lib.hid hR
        have HB2 := Lib.hid hB
        clear hR hB
        by_cases hlti : i < cols
        · have k1 : wr.cell? ⟨w.heap.size, 1, none⟩ = some (.int .i64 (cols : Int)) := (blk_cell (blk_below HBK.out HB2.out) 1).trans rfl
          have hlt' : decide ((i : Int) < (cols : Int)) = true := decide_eq_true (by omega)
          go_wp2_with ((with_reducible refine gate_builtin (b := .append) (xs := #[.tmp 21, .tmp 22]) rfl ?_); (try (refine gate_guard (by rfl) ?_; dsimp only)); at_builtin; refine Kd.R_append (Kd.int .i8) (w0 := wa) wa.heap.size rfl (.tmp 21) (.tmp 22) 22 31 (.int .i8 0) 1 rfl Try.underlying22 info31 rfl (by decide) (by omega) u4 (List.replicate i 0) 0 [.int .i8 0] (fun _ => True) (fun _ => False) rfl rfl rfl (fun _ hk => hk.elim) (fun _ _ => trivial) HR.out HB2.out (below_size HB2.out) (by rw [List.length_replicate]; omega) ?_; intro v1 w5 ho hb hg hat; have HO := Lib.hid ho; have HB3 := Lib.hid hb; clear ho hb hg hat)
          go_roundw
          case rel => exact ⟨i + 1, rfl, by omega, by rw [List.replicate_succ']; exact HO.out, HB3.out⟩
          case measure => simp [intOf]; omega
        · have hi' : cols = i := by omega
          subst hi'
          have k1 : wr.cell? ⟨w.heap.size, 1, none⟩ = some (.int .i64 (cols : Int)) := (blk_cell (blk_below HBK.out HB2.out) 1).trans rfl
          have hlt' : decide ((cols : Int) < (cols : Int)) = false := decide_eq_false (by omega)
          obtain ⟨g, cap, hv, hge, hglt, _⟩ := Kd.R_form HR.out (by rw [List.length_replicate]; omega)
          rw [List.length_replicate] at hv
          subst hv
          obtain ⟨hx, hf⟩ := Kd.R_celln 0 HR.out (c : Int) (by omega) (by omega)
          rw [Int.toNat_natCast] at hx hf
          go_upto_region 10 with (fail)
          obtain ⟨ws, hws⟩ : ∃ x, x = wr.setCell ⟨g, c, none⟩ (.int .i8 1) := ⟨_, rfl⟩
          rw [← hws]
          have HRs : Hid (Kd.R (Kd.int .i8) 31 ws wa.heap.size (fun _ => True) (.slice (some ⟨g, 0, none⟩) cols cap) (unitV cols c)) := Lib.hid (by have := Kd.R_putn HR.out (c : Int) 1; rw [Int.toNat_natCast] at this; rw [hws]; exact this)
          have hne : w.heap.size ≠ g := fun e => Kd.R_ne HR.out (blk_below HBK.out HB2.out) (by decide) (by rw [e]; rfl)
          have HBKs : Hid (ws.heap[w.heap.size]? = some (.cells #[.int .i64 (rows : Int), .int .i64 (cols : Int), .slice A0 D.length c0] 28 (0, 0))) := Lib.hid (by rw [hws]; exact blk_far (blk_below HBK.out HB2.out) hne _)
          have HBs : Hid (Below wa.heap.size wa ws) := Lib.hid (by rw [hws]; exact below_set HB2.out hge)
          clear hx hf hne hge hglt HR HB2 HBK hws k1 hlt'
          have k0 : ws.cell? ⟨w.heap.size, 0, none⟩ = some (.int .i64 (rows : Int)) := (blk_cell HBKs.out 0).trans rfl
          have k1 : ws.cell? ⟨w.heap.size, 1, none⟩ = some (.int .i64 (cols : Int)) := (blk_cell HBKs.out 1).trans rfl
          have k2 : ws.cell? ⟨w.heap.size, 2, none⟩ = some (.slice A0 D.length c0) := (blk_cell HBKs.out 2).trans rfl
          go_wp2_with fail
          refine (mvn_calls (D := D) (v := unitV cols c) ws (unit_length _ _) (Kd.C_below (Kd.C_below HR0.out HB.out) HBs.out) hc0 (by have := (Kd.R_reads' HRs.out).2.2; exact this) (by have := Kd.R_reads' HRs.out; omega) HM.out rfl hD (unit_small _ _) hn hrows).mono ?_
          rintro e w3 ⟨v0, rfl, hR3, hb3⟩
          obtain ⟨g2, cap2, hv0, hge2, hglt2, _⟩ := Kd.R_form hR3 (by rw [mvN_length]; omega)
          rw [mvN_length] at hv0
          subst hv0
          have HR3 := Lib.hid hR3
          have HB3 := Lib.hid hb3
          have HBK3 : Hid (w3.heap[w.heap.size]? = some (.cells #[.int .i64 (rows : Int), .int .i64 (cols : Int), .slice A0 D.length c0] 28 (0, 0))) := Lib.hid (blk_below HBKs.out hb3)
          have hneq : ((rows : Int) != (rows : Int)) = false := bne_eq_false_iff_eq.2 rfl
          clear k0 k1 k2 hR3 hb3 hge2 hglt2
          have k0 : w3.cell? ⟨w.heap.size, 0, none⟩ = some (.int .i64 (rows : Int)) := (blk_cell HBK3.out 0).trans rfl
          go_wp2_with fail
          go_loopw [8] (fun x wq => RwRel w3 rows x wq) (fun x _ => rows - (intOf x).toNat)
          case atStart => exact ⟨0, rfl, by omega, Below.refl _ _⟩
          case round =>
            obtain ⟨r, rfl, hr, hB⟩ := hrel
            have HB4 := Lib.hid hB
            clear hB k0 k1 hneq
            have k0 : wr.cell? ⟨w.heap.size, 0, none⟩ = some (.int .i64 (rows : Int)) := (blk_cell (blk_below HBK3.out HB4.out) 0).trans rfl
            have k1 : wr.cell? ⟨w.heap.size, 1, none⟩ = some (.int .i64 (cols : Int)) := (blk_cell (blk_below HBK3.out HB4.out) 1).trans rfl
            have k2 : wr.cell? ⟨w.heap.size, 2, none⟩ = some (.slice A0 D.length c0) := (blk_cell (blk_below HBK3.out HB4.out) 2).trans rfl
            by_cases hltr : r < rows
            · have hltr' : decide ((r : Int) < (rows : Int)) = true := decide_eq_true (by omega)
              obtain ⟨q0, hq0⟩ : ∃ q : Nat, r * cols = q := ⟨_, rfl⟩
              have hb := row_bounds HM.out (r := (r : Int)) (by omega) (by omega)
              have hqi : (r : Int) * (cols : Int) = (q0 : Int) := by rw [← hq0]; exact (Int.natCast_mul _ _).symm
              rw [hqi] at hb
              obtain ⟨b0, b1, b2, _, _⟩ := hb
              have bq : q0 + cols ≤ D.length := by omega
              obtain ⟨x, hx⟩ : ∃ x, nth D (r * cols + c) = x := ⟨_, rfl⟩
              have hxs := hD.nth (r * cols + c)
              rw [hx] at hxs
              have p0 : (0 : Int) ≤ (q0 : Int) + (c : Int) := by omega
              have p1 : (q0 : Int) + (c : Int) < (D.length : Int) := by omega
              have p2 : (0 : Int) ≤ (r : Int) := by omega
              have p3 : (r : Int) < (rows : Int) := by omega
              have w3' : IntKind.i64.wrap x = x := IntWalk.i64_in _ (by omega)
              have hxx : (x != x) = false := bne_eq_false_iff_eq.2 rfl
              obtain ⟨ad, e1, hl⟩ := Kd.at_int (Kd.C_below (Kd.R_reads' HR3.out).2.2 HB4.out) (r : Int) (by omega) (by rw [mvN_length]; omega)
              have e1' := Option.some.inj e1
              subst e1'
              rw [rd_nth, mv_unit hlt hltr (by rw [Nat.add_mul]; omega), hx, Int.toNat_natCast, Go.WideShapes.add_plain, Nat.zero_add] at hl
              obtain ⟨ad, e2, hd⟩ := Kd.at_int (Kd.C_below (Kd.C_below (Kd.C_below (Kd.C_below HR0.out HB.out) HBs.out) HB3.out) HB4.out) ((q0 : Int) + (c : Int)) (by omega) (by omega)
              subst e2
              have hd' : wr.cell? (ad.add (q0 + c)) = some (.int .i8 x) := by
                rw [show ((q0 : Int) + (c : Int)) = ((q0 + c : Nat) : Int) from (Int.natCast_add _ _).symm, rd_nth, Int.toNat_natCast, ← hq0, hx, hq0] at hd
                exact hd
              have w1 : IntKind.i64.wrap ((r : Int) * (cols : Int)) = (q0 : Int) := by rw [hqi]; exact IntWalk.i64_in _ (by omega)
              have w2 : IntKind.i64.wrap ((q0 : Int) + (c : Int)) = (q0 : Int) + (c : Int) := IntWalk.i64_in _ (by omega)
              have w4 : ((q0 : Int) + (c : Int)).toNat = q0 + c := by omega
              clear hd hqi hq0 b1 hx e1
              clear HR0 HBKs HBK3 HR3 HBs HB HB3 HRs
              go_upto_region 16 with (fail)
              clear k0
              go_quiet (fail)
              clear w1 w2 w3' w4 p0 p1 p2 p3 hl hd' hxx
              go_wp2
              go_roundw
              case rel => exact ⟨r + 1, rfl, by omega, pw_below_drewN HB4.out _⟩
              case measure => simp [intOf]; omega
            · have hltr' : decide ((r : Int) < (rows : Int)) = false := decide_eq_false (by omega)
              clear k1 k2
              go_wp2
              go_roundw
              case rel => exact ⟨c + 1, rfl, by omega, blk_below HBK3.out HB4.out, below_step (below_step (below_step HB.out HBs.out) HB3.out) HB4.out⟩
              case measure => simp [intOf]; omega
    · have k1 : wa.cell? ⟨w.heap.size, 1, none⟩ = some (.int .i64 (cols : Int)) := (blk_cell HBK.out 1).trans rfl
      have hlt' : decide ((c : Int) < (cols : Int)) = false := decide_eq_false (by omega)
      go_wp2
      go_ret
      exact ⟨rfl, HB.out⟩
end Go.Proofs.Ytnioohhiphpplaa.Wk
