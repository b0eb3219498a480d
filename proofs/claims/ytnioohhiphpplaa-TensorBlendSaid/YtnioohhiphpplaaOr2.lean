/- Arguments opened: a list of lists of 8 bits, with the bound of their lengths. -/
import Derived.Test.YtnioohhiphpplaaOp
import Derived.Test.YtnioohhiphpplaaBl
import Derived.Deep.Slices
import Derived.SizedLaws
namespace Go.Proofs.Ytnioohhiphpplaa.Op
open Go.ChangeShapes Go.WideShapes Go.ChangeAt Go.RowKit Go.Joins Go.Deep Go.Proofs.YtnioohhiphpplaaW.PrintWords Go.Proofs.Ytnioohhiphpplaa.M Go.Proofs.Ytnioohhiphpplaa.Wk
variable {H : Type} {enc : TypeId × Value → H} {P : Program} {w : World} {base : Nat} {held : Bool}

theorem ints_read2 {t e : TypeId} {k : IntKind} {fuel : Nat} {v : Value} {y : DataW H × List MemPlace} (ht : P.underlying t = some (.slice e)) (he : P.underlying e = some (.int k)) (hc : P.cellsOf e = 1) (hb : 1 ≤ P.bytesOf e)
    (h : DataW.trod enc P w base (fun _ => true) held fuel t [v] = some y) (hw : ∀ n ∈ y.1.weights P t, n ≤ reachBytes) : ∃ A c zs, v = .slice A zs.length c ∧ zs.length ≤ c ∧ Kd.C (Kd.int k) w A zs.length zs ∧ (∀ n ∈ zs, (Lit.int k n).wf = true) ∧ zs.length ≤ reachBytes := by
  rcases open_ints ht he hc h with ⟨hcs, _⟩ | ⟨x, l, c, zs, hcs, _, hl, hm, hz, hy, hcell, hwz⟩
  · obtain rfl : v = .slice none 0 0 := by simpa using hcs
    exact ⟨none, 0, [], rfl, Nat.le_refl _, Kd.C_nil _ _, (fun n hn => by cases hn), Nat.zero_le _⟩
  · obtain rfl : v = .slice (some x) l c := by simpa using hcs
    have hz' : zs.length = c := by simpa using hz
    have hl' : (zs.take l).length = l := by rw [List.length_take]; omega
    have hsz : (zs.take l).length ≤ reachBytes := by
      have h1 := hw (((lits (H := H) k (zs.take l)).length + (lits (H := H) k (zs.drop l)).length) * P.bytesOf e) (by rw [hy]; simp [DataW.weights, ht])
      have h2 : (lits (H := H) k (zs.take l)).length = (zs.take l).length := by simp [lits]
      have h3 : (zs.take l).length * 1 ≤ ((lits (H := H) k (zs.take l)).length + (lits (H := H) k (zs.drop l)).length) * P.bytesOf e := Nat.mul_le_mul (by omega) hb
      omega
    refine ⟨some x, c, zs.take l, by rw [hl'], by omega, ?_, fun n hn => hwz n (List.mem_of_mem_take hn), hsz⟩
    refine Kd.C_of_reads (d := (0 : Int)) (h1 := fun _ => rfl) ⟨rfl, ?_, fun _ => ⟨x, rfl, fun j hj => ?_⟩⟩
    · have : maxLen ≤ 9223372036854775807 := by decide
      omega
    · rw [hcell j (by omega)]
      congr 2
      rw [List.getD_eq_getElem?_getD, List.getD_eq_getElem?_getD, List.getElem?_take, if_pos (by omega)]
theorem weights_all {e : TypeId} {d : DataW H} : ∀ {l : List (DataW H)}, d ∈ l → ∀ n ∈ d.weights P e, n ∈ DataW.weightsAll P e l
  | x :: r, hd, n, hn => by
    simp only [DataW.weightsAll, List.mem_append]
    rcases List.mem_cons.1 hd with rfl | hd
    · exact .inl hn
    · exact .inr (weights_all hd n hn)
theorem rows_read {t e i : TypeId} {fuel : Nat} {v : Value} {y : DataW H × List MemPlace} (ht : P.underlying t = some (.slice e)) (he : P.underlying e = some (.slice i)) (hi : P.underlying i = some (.int .i8)) (hc : P.cellsOf e = 1) (hc2 : P.cellsOf i = 1) (hb : 1 ≤ P.bytesOf i)
    (h : DataW.trod enc P w base (fun _ => true) held fuel t [v] = some y) (hw : ∀ n ∈ y.1.weights P t, n ≤ reachBytes) :
    ∃ A c m Z, v = .slice A m c ∧ m ≤ c ∧ RowsA w A m Z ∧ (∀ j, j < m → ∀ n ∈ Z j, (Lit.int .i8 n).wf = true) ∧ (∀ j, j < m → (Z j).length ≤ reachBytes) := by
  rcases open_slice1 ht hc h with ⟨hcs, _⟩ | ⟨a, len, cap, m, n, V, D, Pl, hcs, _, hl, _, hm, hy, hx⟩
  · obtain rfl : v = .slice none 0 0 := by simpa using hcs
    exact ⟨none, 0, 0, fun _ => [], rfl, Nat.le_refl _, fun h => by omega, fun j hj => by omega, fun j hj => by omega⟩
  · obtain rfl : v = .slice (some a) len cap := by simpa using hcs
    have hm' : m = cap := by simpa using hm
    have hq : ∀ j : Nat, ∃ zs : List Int, j < len → ∃ A c, V j = .slice A zs.length c ∧ zs.length ≤ c ∧ Kd.C (Kd.int .i8) w A zs.length zs ∧ (∀ n ∈ zs, (Lit.int .i8 n).wf = true) ∧ zs.length ≤ reachBytes := fun j => by
      by_cases hj : j < len
      · obtain ⟨_, htr⟩ := hx j (by omega)
        obtain ⟨A, c, zs, h1, h2, h3, h4, h5⟩ := ints_read2 he hi hc2 hb htr (fun n hn => by
          refine hw n ?_
          rw [hy]
          simp only [DataW.weights, ht, List.mem_cons, List.mem_append]
          exact .inr (.inl (weights_all (List.mem_map.2 ⟨j, List.mem_range.2 hj, rfl⟩) n hn)))
        exact ⟨zs, fun _ => ⟨A, c, h1, h2, h3, h4, h5⟩⟩
      · exact ⟨[], fun h => absurd h hj⟩
    obtain ⟨Z, hZ⟩ := Classical.axiomOfChoice hq
    refine ⟨some a, cap, len, Z, rfl, hl, fun _ => ⟨a, rfl, fun j hj => ?_⟩, fun j hj => ?_, fun j hj => ?_⟩
    · obtain ⟨A, c, h1, h2, h3, _, _⟩ := hZ j hj
      exact ⟨A, c, by rw [← h1]; exact (hx j (by omega)).1, h2, h3⟩
    · obtain ⟨A, c, _, _, _, h4, _⟩ := hZ j hj
      exact h4
    · obtain ⟨A, c, _, _, _, _, h5⟩ := hZ j hj
      exact h5
/-- The weights of one argument. -/
theorem weights_arg {ts : List TypeId} {ds : List (DataW H)} (h : (DataW.weightsEach P ts ds).all (· ≤ reachBytes) = true) {j : Nat} {t : TypeId} {d : DataW H} (ht : ts[j]? = some t) (hd : ds[j]? = some d) : ∀ n ∈ d.weights P t, n ≤ reachBytes := fun n hn => by
  have := List.all_eq_true.1 h n (DataW.weights_mem_each ht hd n hn)
  simpa using this
end Go.Proofs.Ytnioohhiphpplaa.Op
