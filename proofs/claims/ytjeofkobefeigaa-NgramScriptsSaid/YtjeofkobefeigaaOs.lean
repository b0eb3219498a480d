/- An argument opened: a script, a list of steps that hold a list of numbers each. -/
import Derived.Test.YtjeofkobefeigaaSc
import Derived.Test.YtjeofkobefeigaaOp
set_option linter.unusedVariables false
set_option linter.unusedSimpArgs false
namespace Go.Proofs.Ytjeofkobefeigaa.Op
open Go.ChangeShapes Go.WideShapes Go.ChangeAt Go.RowKit Go.Joins Go.Deep Go.Proofs.YtjeofkobefeigaaW.PrintWords Go.Proofs.Ytjeofkobefeigaa.Wk
variable {H : Type} {enc : TypeId × Value → H} {P : Program} {w : World} {base : Nat} {held : Bool}

/-- The weights of one argument. -/
theorem weights_arg {ts : List TypeId} {ds : List (DataW H)} (h : (DataW.weightsEach P ts ds).all (· ≤ reachBytes) = true) {j : Nat} {t : TypeId} {d : DataW H} (ht : ts[j]? = some t) (hd : ds[j]? = some d) : ∀ n ∈ d.weights P t, n ≤ reachBytes := fun n hn => by
  have := List.all_eq_true.1 h n (DataW.weights_mem_each ht hd n hn)
  simpa using this
theorem weights_all {e : TypeId} {d : DataW H} : ∀ {l : List (DataW H)}, d ∈ l → ∀ n ∈ d.weights P e, n ∈ DataW.weightsAll P e l
  | _ :: r, hd, n, hn => by
    simp only [DataW.weightsAll, List.mem_append]
    rcases List.mem_cons.1 hd with rfl | hd
    · exact .inl hn
    · exact .inr (weights_all hd n hn)
theorem ints_read8 {fuel : Nat} {v : Value} {y : DataW H × List MemPlace} (h : DataW.trod enc Try.prog w base (fun _ => true) held fuel 22 [v] = some y) (hw : ∀ n ∈ y.1.weights Try.prog 22, n ≤ reachBytes) :
    ∃ A c zs, v = .slice A zs.length c ∧ zs.length ≤ c ∧ Kd.C (Kd.int .i64) w A zs.length zs ∧ Wf zs ∧ zs.length ≤ 17592186044416 := by
  rcases open_ints Try.underlying22 Try.underlying3 (by kernel_rfl) h with ⟨hcs, _⟩ | ⟨x, l, c, zs, hcs, _, hl, hm, hz, hy, hcell, hwz⟩
  · obtain rfl : v = .slice none 0 0 := by simpa using hcs
    exact ⟨none, 0, [], rfl, Nat.le_refl _, Kd.C_nil _ _, (fun n hn => by cases hn), Nat.zero_le _⟩
  · obtain rfl : v = .slice (some x) l c := by simpa using hcs
    have hz' : zs.length = c := by simpa using hz
    have hl' : (zs.take l).length = l := by rw [List.length_take]; omega
    have hsz : (zs.take l).length ≤ 17592186044416 := by
      have h1 := hw (((lits (H := H) .i64 (zs.take l)).length + (lits (H := H) .i64 (zs.drop l)).length) * Try.prog.bytesOf 3) (by rw [hy]; simp [DataW.weights, Try.underlying22])
      have h2 : (lits (H := H) .i64 (zs.take l)).length = (zs.take l).length := by simp [lits]
      rw [show Try.prog.bytesOf 3 = 8 by kernel_rfl, h2] at h1
      have h3 : reachBytes ≤ 140737488355328 := by decide
      omega
    refine ⟨some x, c, zs.take l, by rw [hl'], by omega, ?_, fun n hn => hwz n (List.mem_of_mem_take hn), hsz⟩
    refine Kd.C_of_reads (d := (0 : Int)) (h1 := fun _ => rfl) ⟨rfl, ?_, fun _ => ⟨x, rfl, fun j hj => ?_⟩⟩
    · have : maxLen ≤ 9223372036854775807 := by decide
      omega
    · rw [hcell j (by omega)]
      congr 2
      rw [List.getD_eq_getElem?_getD, List.getD_eq_getElem?_getD, List.getElem?_take, if_pos (by omega)]
/-- One step, out of its cells. -/
theorem op_read {a : Addr} {n : Nat} {cs : List Value} {y : DataW H × List MemPlace} (hcs : w.cells? base a 5 = some cs) (h : DataW.trod enc Try.prog w base (fun _ => true) held n 42 cs = some y) (hw : ∀ n ∈ y.1.weights Try.prog 42, n ≤ reachBytes) : ∃ p : SOp, p.At w a := by
  obtain ⟨_, hlen, hcell⟩ := World.cells?_some hcs
  obtain ⟨xs, k, hk, hxy, _, hxl, hf⟩ := DataW.trod_struct Try.underlying42 h
  match xs, hxl, cs, hlen with
  | [y0, y1, y2, y3, y4], _, [v0, v1, v2, v3, v4], _ =>
    have g0 := hf 0 _ rfl
    have g1 := hf 1 _ rfl
    have g2 := hf 2 _ rfl
    have g3 := hf 3 _ rfl
    have g4 := hf 4 _ rfl
    have c3 : Try.prog.cellsOf 3 = 1 := by kernel_rfl
    have c22 : Try.prog.cellsOf 22 = 1 := by kernel_rfl
    simp [c3, c22] at g0 g1 g2 g3 g4
    have e0 := hcell 0 (by omega)
    have e1 := hcell 1 (by omega)
    have e2 := hcell 2 (by omega)
    have e3 := hcell 3 (by omega)
    have e4 := hcell 4 (by omega)
    simp at e0 e1 e2 e3 e4
    obtain ⟨n0, hn0, _⟩ := DataW.trod_int Try.underlying3 g0
    obtain ⟨n1, hn1, _⟩ := DataW.trod_int Try.underlying3 g1
    obtain ⟨n3, hn3, _, hw3⟩ := DataW.trod_int Try.underlying3 g3
    obtain ⟨n4, hn4, _⟩ := DataW.trod_int Try.underlying3 g4
    obtain ⟨A, c, zs, rfl, h1, h2, h3, h4⟩ := ints_read8 g2 (fun n hn => by
      refine hw n ?_
      rw [hxy]
      simp only [DataW.weights, Try.underlying42]
      exact DataW.weights_mem_each (j := 2) rfl rfl n hn)
    obtain rfl : v0 = .int .i64 n0 := by simpa using hn0
    obtain rfl : v1 = .int .i64 n1 := by simpa using hn1
    obtain rfl : v3 = .int .i64 n3 := by simpa using hn3
    obtain rfl : v4 = .int .i64 n4 := by simpa using hn4
    exact ⟨⟨n0, n1, zs, n3, n4⟩, A, c, e0, e1, e2, e3, e4, h1, h2, h3, h4, int_le hw3⟩
theorem ops_read {fuel : Nat} {v : Value} {y : DataW H × List MemPlace} (h : DataW.trod enc Try.prog w base (fun _ => true) held fuel 39 [v] = some y) (hw : ∀ n ∈ y.1.weights Try.prog 39, n ≤ reachBytes) :
    ∃ A c ps, v = .slice A ps.length c ∧ ps.length ≤ c ∧ OpsC w A ps := by
  rcases open_slice Try.underlying39 h with ⟨hcs, _⟩ | ⟨a, len, cap, m, n, D, Pl, hcs, _, hl, hcm, hm, hy, hx⟩
  · obtain rfl : v = .slice none 0 0 := by simpa using hcs
    exact ⟨none, 0, [], rfl, Nat.le_refl _, Nat.zero_le _, fun i p hp => by cases hp⟩
  · obtain rfl : v = .slice (some a) len cap := by simpa using hcs
    have hm' : m = cap := by simpa using hm
    have ce : Try.prog.cellsOf 42 = 5 := by kernel_rfl
    rw [ce] at hx
    have hq : ∀ j : Nat, ∃ p : SOp, j < len → p.At w (a.add (j * 5)) := fun j => by
      by_cases hj : j < len
      · obtain ⟨cs', h1, h2⟩ := hx j (by omega)
        obtain ⟨p, hp⟩ := op_read h1 h2 (fun n hn => by
          refine hw n ?_
          rw [hy]
          simp only [DataW.weights, Try.underlying39, List.mem_cons, List.mem_append]
          exact .inr (.inl (weights_all (List.mem_map.2 ⟨j, List.mem_range.2 hj, rfl⟩) n hn)))
        exact ⟨p, fun _ => hp⟩
      · exact ⟨⟨0, 0, [], 0, 0⟩, fun h => absurd h hj⟩
    obtain ⟨Z, hZ⟩ := Classical.axiomOfChoice hq
    have hlen : len ≤ 17592186044416 := by
      have h1 := hw _ (by rw [hy]; simp only [DataW.weights, Try.underlying39]; exact List.mem_cons_self)
      rw [show Try.prog.bytesOf 42 = 56 by kernel_rfl, List.length_map, List.length_range] at h1
      have h3 : reachBytes ≤ 140737488355328 := by decide
      omega
    refine ⟨some a, cap, (List.range len).map Z, by rw [List.length_map, List.length_range], by rw [List.length_map, List.length_range]; exact hl, by rw [List.length_map, List.length_range]; exact hlen, fun i p hp => ?_⟩
    obtain ⟨hi, hp'⟩ := List.getElem?_eq_some_iff.1 hp
    rw [List.length_map, List.length_range] at hi
    rw [List.getElem_map, List.getElem_range] at hp'
    exact ⟨a, rfl, hp' ▸ hZ i hi⟩
end Go.Proofs.Ytjeofkobefeigaa.Op
