/- An argument opened: a script of operations, no list in it longer than its bulk. -/
import Derived.Test.YtnioohhiphpplaaDoorRows
import Derived.Test.YtnioohhiphpplaaDoorDz
import Derived.WalkKit
import Derived.ProofKit
import Derived.OpenShut
import Derived.ChangeOld
import Derived.Below
import Derived.Lib.SmallJoins
import Derived.Deep.Slices
import Derived.Deep.SlicePairs
set_option linter.unusedVariables false
set_option linter.unusedSimpArgs false
namespace Go.Proofs.YtnioohhiphpplaaDoor.Op
open Go.ChangeShapes Go.WideShapes Go.ChangeAt Go.RowKit Go.Joins Go.Deep Go.Proofs.YtnioohhiphpplaaDoorW.PrintWords Go.Proofs.YtnioohhiphpplaaDoor.Pplays Go.Proofs.YtnioohhiphpplaaDoor.M Go.Proofs.YtnioohhiphpplaaDoor.Dp Go.Proofs.YtnioohhiphpplaaDoor.Dp.Wk
variable {H : Type} {enc : TypeId × Value → H} {w : World} {base : Nat} {held : Bool}
theorem bulk_one {H : Type} (d : DataW H) : 1 ≤ Rows.uptoBulk d := by
 cases d with
 | lit l => cases l <;> simp [Rows.uptoBulk]
 | nil => simp [Rows.uptoBulk]
 | ptr d => simp [Rows.uptoBulk]
 | slice elems spare => simp [Rows.uptoBulk]
 | agg parts => simp [Rows.uptoBulk]
 | iface t d => simp [Rows.uptoBulk]
 | map entries => simp [Rows.uptoBulk]
 | held h => simp [Rows.uptoBulk]
theorem bulk_length {H : Type} (l : List (DataW H)) : l.length ≤ Rows.uptoBulkAll l := by
 induction l with
 | nil => simp [Rows.uptoBulkAll]
 | cons x r ih => have := bulk_one x; simp only [Rows.uptoBulkAll, List.length_cons]; omega
theorem bulk_mem {H : Type} {d : DataW H} : ∀ {l : List (DataW H)}, d ∈ l → Rows.uptoBulk d ≤ Rows.uptoBulkAll l
 | _ :: r, hd => by
  simp only [Rows.uptoBulkAll]
  rcases List.mem_cons.1 hd with rfl | hd
  ·omega
  ·have := bulk_mem hd; omega
theorem bulk_bound {H : Type} {l : List (DataW H)} (hk : Rows.uptoSmall H l = true) : Rows.uptoBulkAll l ≤ 1048576 := of_decide_eq_true hk
theorem bulk_elems {H : Type} (e s : List (DataW H)) : Rows.uptoBulkAll e ≤ Rows.uptoBulk (.slice e s) := by simp only [Rows.uptoBulk]; omega
theorem ints_bulk {t e : TypeId} {k : IntKind} {fuel : Nat} {v : Value} {y : DataW H × List MemPlace} (ht : Tryd.prog.underlying t = some (.slice e)) (he : Tryd.prog.underlying e = some (.int k)) (hc : Tryd.prog.cellsOf e = 1)
  (h : DataW.trod enc Tryd.prog w base (fun _ => true) held fuel t [v] = some y) : ∃ A c zs, v = .slice A zs.length c ∧ zs.length ≤ c ∧ Kd.C (Kd.int k) w A zs.length zs ∧ (∀ n ∈ zs, (Lit.int k n).wf = true) ∧ zs.length ≤ Rows.uptoBulk y.1 := by
 rcases open_ints ht he hc h with ⟨hcs, _⟩ | ⟨x, l, c, zs, hcs, _, hl, hm, hz, hy, hcell, hwz⟩
 ·obtain rfl : v = .slice none 0 0 := by simpa using hcs
  exact ⟨none, 0, [], rfl, Nat.le_refl _, Kd.C_nil _ _, (fun n hn => by cases hn), Nat.zero_le _⟩
 ·obtain rfl : v = .slice (some x) l c := by simpa using hcs
  have hz' : zs.length = c := by simpa using hz
  have hl' : (zs.take l).length = l := by rw [List.length_take]; omega
  refine ⟨some x, c, zs.take l, by rw [hl'], by omega, ?_, fun n hn => hwz n (List.mem_of_mem_take hn), ?_⟩
  ·refine Kd.C_of_reads (d := (0 : Int)) (h1 := fun _ => rfl) ⟨rfl, ?_, fun _ => ⟨x, rfl, fun j hj => ?_⟩⟩
   ·have : maxLen ≤ 9223372036854775807 := by decide
    omega
   ·rw [hcell j (by omega)]
    congr 2
    rw [List.getD_eq_getElem?_getD, List.getD_eq_getElem?_getD, List.getElem?_take, if_pos (by omega)]
  ·subst hy
   have := bulk_length (lits (H := H) k (zs.take l))
   simp only [Rows.uptoBulk]
   have h2 : (lits (H := H) k (zs.take l)).length = l := by unfold lits; rw [List.length_map]; exact hl'
   omega
theorem small_wf {zs : List Int} (h : ∀ n ∈ zs, (Lit.int .i8 n).wf = true) : Small zs := fun n hn => by
 have := h n hn
 simp [Lit.wf] at this
 have h1 : IntKind.i8.min = -128 := rfl
 have h2 : IntKind.i8.max = 127 := rfl
 omega
theorem rng_wf {zs : List Int} (h : ∀ n ∈ zs, (Lit.int .i64 n).wf = true) (i : Nat) : rng (nth zs i) := by
 unfold nth rng
 rw [List.getD_eq_getElem?_getD]
 cases e : zs[i]? with
 | none => simp
 | some n =>
  have := h n (List.mem_of_getElem? e)
  simp [Lit.wf] at this
  have h1 : IntKind.i64.min = -9223372036854775808 := rfl
  have h2 : IntKind.i64.max = 9223372036854775807 := rfl
  simp only [Option.getD_some]
  omega
theorem rows_bulk {fuel : Nat} {v : Value} {y : DataW H × List MemPlace} (h : DataW.trod enc Tryd.prog w base (fun _ => true) held fuel 36 [v] = some y) :
  ∃ A c vs, v = .slice A vs.length c ∧ vs.length ≤ c ∧ Kd.C (Kd.slice 57 (Kd.int .i8)) w A vs.length vs ∧ (∀ r ∈ vs, Small r) ∧ vs.length ≤ Rows.uptoBulk y.1 ∧ ∀ r ∈ vs, r.length ≤ Rows.uptoBulk y.1 := by
 rcases open_slice1 Tryd.underlying36 (by kernel_rfl) h with ⟨hcs, _⟩ | ⟨a, len, cap, m, n, V, D, Pl, hcs, _, hl, hcm, hm, hy, hx⟩
 ·obtain rfl : v = .slice none 0 0 := by simpa using hcs
  exact ⟨none, 0, [], rfl, Nat.le_refl _, Kd.C_nil _ _, (fun r hr => by cases hr), Nat.zero_le _, fun r hr => by cases hr⟩
 ·obtain rfl : v = .slice (some a) len cap := by simpa using hcs
  have hm' : m = cap := by simpa using hm
  have hD : ∀ j, j < len → Rows.uptoBulk (D j) ≤ Rows.uptoBulk y.1 := fun j hj => by
   rw [hy]
   exact Nat.le_trans (bulk_mem (List.mem_map.2 ⟨j, List.mem_range.2 hj, rfl⟩)) (bulk_elems _ _)
  have hL : len ≤ Rows.uptoBulk y.1 := by
   rw [hy]
   have h1 := bulk_length ((List.range len).map D)
   rw [List.length_map, List.length_range] at h1
   exact Nat.le_trans h1 (bulk_elems _ _)
  have hq : ∀ j : Nat, ∃ zs : List Int, j < len → ∃ A c, V j = .slice A zs.length c ∧ zs.length ≤ c ∧ Kd.C (Kd.int .i8) w A zs.length zs ∧ Small zs ∧ zs.length ≤ Rows.uptoBulk y.1 := fun j => by
   by_cases hj : j < len
   ·obtain ⟨_, htr⟩ := hx j (by omega)
    obtain ⟨A, c, zs, h1, h2, h3, h4, h5⟩ := ints_bulk Tryd.underlying33 Tryd.underlying57 (by kernel_rfl) htr
    exact ⟨zs, fun _ => ⟨A, c, h1, h2, h3, small_wf h4, Nat.le_trans h5 (hD j hj)⟩⟩
   ·exact ⟨[], fun h => absurd h hj⟩
  obtain ⟨Z, hZ⟩ := Classical.axiomOfChoice hq
  have hlen : ((List.range len).map Z).length = len := by rw [List.length_map, List.length_range]
  have hmem : ∀ r ∈ (List.range len).map Z, ∃ j, j < len ∧ r = Z j := fun r hr => by
   obtain ⟨j, hj, rfl⟩ := List.mem_map.1 hr
   exact ⟨j, List.mem_range.1 hj, rfl⟩
  refine ⟨some a, cap, (List.range len).map Z, by rw [hlen], by rw [hlen]; exact hl, ?_, fun r hr => ?_, by rw [hlen]; exact hL, fun r hr => ?_⟩
  ·rw [hlen]
   refine ⟨hlen, ?_, fun _ => ⟨a, rfl, fun j p hj => ?_⟩⟩
   ·have : maxLen ≤ 9223372036854775807 := by decide
    omega
   ·have hjl : j < len := by have := (List.getElem?_eq_some_iff.1 hj).1; rwa [hlen] at this
    rw [List.getElem?_map, List.getElem?_range hjl] at hj
    obtain rfl := Option.some.inj hj
    obtain ⟨A, c, h1, h2, h3, _, _⟩ := hZ j hjl
    refine ⟨[V j], rfl, ⟨A, c, by rw [h1], h2, h3⟩, fun i u hu => ?_⟩
    match i, hu with
    | 0, hu =>
     injection hu with hu
     subst hu
     have := (hx j (by omega)).1
     show w.cell? (a.add (j * 1 + 0)) = some (V j)
     rw [show j * 1 + 0 = j by omega]
     exact this
  ·obtain ⟨j, hj, rfl⟩ := hmem r hr
   obtain ⟨_, _, _, _, _, h4, _⟩ := hZ j hj
   exact h4
  ·obtain ⟨j, hj, rfl⟩ := hmem r hr
   obtain ⟨_, _, _, _, _, _, h5⟩ := hZ j hj
   exact h5
theorem turns_bulk {f0 f1 : Field} {fuel : Nat} {v : Value} {y : DataW H × List MemPlace} (he : Tryd.prog.underlying 87 = some (.struct #[f0, f1])) (t0 : f0.type = 2) (t1 : f1.type = 2) (o0 : f0.offset = 0) (o1 : f1.offset = 1)
  (h : DataW.trod enc Tryd.prog w base (fun _ => true) held fuel 37 [v] = some y) : ∃ A c z, v = .slice A z.length c ∧ z.length ≤ c ∧ Kd.C k87 w A z.length z ∧ z.length ≤ Rows.uptoBulk y.1 := by
 rcases open_slice_pairs Tryd.underlying37 he (by kernel_rfl) o0 o1 (by rw [t0]; kernel_rfl) (by rw [t1]; kernel_rfl) h with ⟨hcs, _⟩ | ⟨a, len, cap, m, n, V0, V1, D0, D1, P0, P1, hcs, _, hl, hcm, hm, hy, hx⟩
 ·obtain rfl : v = .slice none 0 0 := by simpa using hcs
  exact ⟨none, 0, [], rfl, Nat.le_refl _, Kd.C_nil _ _, Nat.zero_le _⟩
 ·obtain rfl : v = .slice (some a) len cap := by simpa using hcs
  have hm' : m = cap := by simpa using hm
  have hL : len ≤ Rows.uptoBulk y.1 := by
   rw [hy]
   refine Nat.le_trans ?_ (bulk_elems _ _)
   refine Nat.le_trans ?_ (bulk_length _)
   rw [List.length_map, List.length_range]
   exact Nat.le_refl _
  have hq : ∀ i : Nat, ∃ x : S87, i < len → w.cell? (a.add (i * 2)) = some (.int .i64 x.f0) ∧ w.cell? (a.add (i * 2 + 1)) = some (.int .i64 x.f1) := fun i => by
   by_cases hi : i < len
   ·obtain ⟨c0, c1, r0, r1⟩ := hx i (by omega)
    rw [t0] at r0
    rw [t1] at r1
    obtain ⟨g0, e0, _, _⟩ := DataW.trod_int Tryd.underlying2 r0
    obtain ⟨g1, e1, _, _⟩ := DataW.trod_int Tryd.underlying2 r1
    simp at e0 e1
    rw [e0] at c0
    rw [e1] at c1
    exact ⟨⟨g0, g1⟩, fun _ => ⟨c0, c1⟩⟩
   ·exact ⟨z87, fun h => absurd h hi⟩
  obtain ⟨T, hT⟩ := Classical.axiomOfChoice hq
  refine ⟨some a, cap, tabT T len, by rw [tabT_length], by rw [tabT_length]; exact hl, ?_, by rw [tabT_length]; exact hL⟩
  rw [tabT_length]
  refine ⟨tabT_length _ _, ?_, fun _ => ⟨a, rfl, fun j p hj => ?_⟩⟩
  ·have : maxLen ≤ 9223372036854775807 := by decide
   omega
  ·have hjl : j < len := by
    have := (List.getElem?_eq_some_iff.1 hj).1
    rwa [tabT_length] at this
   rw [tabT_get? hjl] at hj
   obtain rfl := Option.some.inj hj
   obtain ⟨c0, c1⟩ := hT j hjl
   refine ⟨[.int .i64 (T j).f0, .int .i64 (T j).f1], rfl, k87_mk w (T j), fun i u hu => ?_⟩
   match i, hu with
   | 0, hu => injection hu with hu; subst hu; exact c0
   | 1, hu => injection hu with hu; subst hu; exact c1
theorem op_read {a : Addr} {n : Nat} {cs : List Value} {y : DataW H × List MemPlace} (hcs : w.cells? base a 10 = some cs) (h : DataW.trod enc Tryd.prog w base (fun _ => true) held n 39 cs = some y) (hb : Rows.uptoBulk y.1 ≤ 1048576) : ∃ p : COp, p.At w a := by
 obtain ⟨_, hlen, hcell⟩ := World.cells?_some hcs
 obtain ⟨xs, k, hk, hxy, _, hxl, hf⟩ := DataW.trod_struct Tryd.underlying39 h
 match xs, hxl, cs, hlen with
 | [y0, y1, y2, y3, y4, y5, y6, y7], _, [v0, v1, v2, v3, v4, v5, v6, v7, v8, v9], _ =>
  have g0 := hf 0 _ rfl
  have g1 := hf 1 _ rfl
  have g2 := hf 2 _ rfl
  have g3 := hf 3 _ rfl
  have g4 := hf 4 _ rfl
  have g5 := hf 5 _ rfl
  have g6 := hf 6 _ rfl
  have g7 := hf 7 _ rfl
  have c3 : Tryd.prog.cellsOf 3 = 1 := by kernel_rfl
  have c35 : Tryd.prog.cellsOf 35 = 3 := by kernel_rfl
  have c33 : Tryd.prog.cellsOf 33 = 1 := by kernel_rfl
  have c22 : Tryd.prog.cellsOf 22 = 1 := by kernel_rfl
  have c36 : Tryd.prog.cellsOf 36 = 1 := by kernel_rfl
  have c37 : Tryd.prog.cellsOf 37 = 1 := by kernel_rfl
  simp [c3, c35, c33, c22, c36, c37] at g0 g1 g2 g3 g4 g5 g6 g7
  have hin : ∀ d ∈ [y0.1, y1.1, y2.1, y3.1, y4.1, y5.1, y6.1, y7.1], Rows.uptoBulk d ≤ 1048576 := fun d hd => by
   refine Nat.le_trans (bulk_mem hd) (Nat.le_trans ?_ hb)
   rw [hxy]
   simp [Rows.uptoBulk]
  have b2 := hin y2.1 (by simp)
  have b3 := hin y3.1 (by simp)
  have b4 := hin y4.1 (by simp)
  have b5 := hin y5.1 (by simp)
  have b6 := hin y6.1 (by simp)
  obtain ⟨ms, km, _, hmy, _, hml, hmf⟩ := DataW.trod_struct Tryd.underlying35 g1
  match ms, hml with
  | [z0, z1, z2], _ =>
   have f0 := hmf 0 _ rfl
   have f1 := hmf 1 _ rfl
   have f2 := hmf 2 _ rfl
   simp [c3, c33] at f0 f1 f2
   have bz : Rows.uptoBulk z2.1 ≤ 1048576 := by
    refine Nat.le_trans (bulk_mem (l := [z0.1, z1.1, z2.1]) (by simp)) (Nat.le_trans ?_ (hin y1.1 (by simp)))
    rw [hmy]
    simp [Rows.uptoBulk]
   have e0 := hcell 0 (by omega)
   have e1 := hcell 1 (by omega)
   have e2 := hcell 2 (by omega)
   have e3 := hcell 3 (by omega)
   have e4 := hcell 4 (by omega)
   have e5 := hcell 5 (by omega)
   have e6 := hcell 6 (by omega)
   have e7 := hcell 7 (by omega)
   have e8 := hcell 8 (by omega)
   have e9 := hcell 9 (by omega)
   simp at e0 e1 e2 e3 e4 e5 e6 e7 e8 e9
   obtain ⟨n0, hn0, _⟩ := DataW.trod_int Tryd.underlying3 g0
   obtain ⟨n1, hn1, _⟩ := DataW.trod_int Tryd.underlying3 f0
   obtain ⟨n2, hn2, _⟩ := DataW.trod_int Tryd.underlying3 f1
   obtain ⟨n9, hn9, _⟩ := DataW.trod_int Tryd.underlying3 g7
   obtain ⟨D, cD, d, rfl, d1, d2, d3, d4⟩ := ints_bulk Tryd.underlying33 Tryd.underlying57 (by kernel_rfl) f2
   obtain ⟨A, cA, a0, rfl, a1, a2, a3, a4⟩ := ints_bulk Tryd.underlying33 Tryd.underlying57 (by kernel_rfl) g2
   obtain ⟨B, cB, b0, rfl, b7, b8, b9, b10⟩ := ints_bulk Tryd.underlying33 Tryd.underlying57 (by kernel_rfl) g3
   obtain ⟨X, cX, x0, rfl, x1, x2, x3, x4⟩ := ints_bulk Tryd.underlying22 Tryd.underlying2 (by kernel_rfl) g4
   obtain ⟨V, cV, vs, rfl, v11, v12, v13, v14, v15⟩ := rows_bulk g5
   obtain ⟨T, cT, t, rfl, t1, t2, t3⟩ := turns_bulk Tryd.underlying87 rfl rfl rfl rfl g6
   obtain rfl : v0 = .int .i64 n0 := by simpa using hn0
   obtain rfl : v1 = .int .i64 n1 := by simpa using hn1
   obtain rfl : v2 = .int .i64 n2 := by simpa using hn2
   obtain rfl : v9 = .int .i64 n9 := by simpa using hn9
   exact ⟨⟨n0, n1, n2, d, a0, b0, x0, vs, t, n9⟩, A, B, D, X, T, V, cA, cB, cD, cX, cT, cV, e0, e1, e2, e3, e4, e5, e6, e7, e8, e9,
    ⟨a2, b8, d2, x2, t2, v12, a1, b7, d1, x1, t1, v11, Nat.le_trans a4 (Nat.le_trans b2 (by decide)), Nat.le_trans b10 (Nat.le_trans b3 (by decide)), Nat.le_trans d4 (Nat.le_trans bz (by decide)), Nat.le_trans x4 (Nat.le_trans b4 (by decide)), Nat.le_trans t3 (Nat.le_trans b6 (by decide)), Nat.le_trans v14 (Nat.le_trans b5 (by decide)), fun r hr => Nat.le_trans (v15 r hr) (Nat.le_trans b5 (by decide))⟩,
    ⟨small_wf a3, small_wf b9, small_wf d3, rng_wf x3, v13⟩⟩
theorem ops_read {fuel : Nat} {v : Value} {y : DataW H × List MemPlace} (h : DataW.trod enc Tryd.prog w base (fun _ => true) held fuel 29 [v] = some y) (hb : Rows.uptoBulk y.1 ≤ 1048576) :
  ∃ A c ps, v = .slice A ps.length c ∧ ps.length ≤ c ∧ OpsC w A ps := by
 rcases open_slice Tryd.underlying29 h with ⟨hcs, _⟩ | ⟨a, len, cap, m, n, D, Pl, hcs, _, hl, hcm, hm, hy, hx⟩
 ·obtain rfl : v = .slice none 0 0 := by simpa using hcs
  exact ⟨none, 0, [], rfl, Nat.le_refl _, Nat.zero_le _, fun i p hp => by cases hp⟩
 ·obtain rfl : v = .slice (some a) len cap := by simpa using hcs
  have hm' : m = cap := by simpa using hm
  have ce : Tryd.prog.cellsOf 39 = 10 := by kernel_rfl
  rw [ce] at hx
  have hD : ∀ j, j < len → Rows.uptoBulk (D j) ≤ 1048576 := fun j hj => by
   refine Nat.le_trans ?_ hb
   rw [hy]
   exact Nat.le_trans (bulk_mem (List.mem_map.2 ⟨j, List.mem_range.2 hj, rfl⟩)) (bulk_elems _ _)
  have hq : ∀ j : Nat, ∃ p : COp, j < len → p.At w (a.add (j * 10)) := fun j => by
   by_cases hj : j < len
   ·obtain ⟨cs', h1, h2⟩ := hx j (by omega)
    obtain ⟨p, hp⟩ := op_read h1 h2 (hD j hj)
    exact ⟨p, fun _ => hp⟩
   ·exact ⟨⟨0, 0, 0, [], [], [], [], [], [], 0⟩, fun h => absurd h hj⟩
  obtain ⟨Z, hZ⟩ := Classical.axiomOfChoice hq
  have hlen : len ≤ 17592186044416 := by
   have h1 : len ≤ Rows.uptoBulk y.1 := by
    rw [hy]
    refine Nat.le_trans ?_ (bulk_elems _ _)
    refine Nat.le_trans ?_ (bulk_length _)
    rw [List.length_map, List.length_range]
    exact Nat.le_refl _
   omega
  refine ⟨some a, cap, (List.range len).map Z, by rw [List.length_map, List.length_range], by rw [List.length_map, List.length_range]; exact hl, by rw [List.length_map, List.length_range]; exact hlen, fun i p hp => ?_⟩
  obtain ⟨hi, hp'⟩ := List.getElem?_eq_some_iff.1 hp
  rw [List.length_map, List.length_range] at hi
  rw [List.getElem_map, List.getElem_range] at hp'
  exact ⟨a, rfl, hp' ▸ hZ i hi⟩
end Go.Proofs.YtnioohhiphpplaaDoor.Op
