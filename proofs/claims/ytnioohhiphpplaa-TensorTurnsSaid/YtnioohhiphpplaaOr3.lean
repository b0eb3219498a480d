/- Arguments opened: a list of turns. -/
import Derived.Test.YtnioohhiphpplaaOp
import Derived.Test.YtnioohhiphpplaaTm
import Derived.Deep.SlicePairs
namespace Go.Proofs.Ytnioohhiphpplaa.Op
open Go.ChangeShapes Go.WideShapes Go.ChangeAt Go.RowKit Go.Joins Go.Deep Go.Proofs.YtnioohhiphpplaaW.PrintWords Go.Proofs.Ytnioohhiphpplaa.M
open PTensorTurns (S44 k44 z44 rd_T44 k44_open k44_openM k44_mk k44_mkM)
variable {H : Type} {enc : TypeId × Value → H} {w : World} {base : Nat} {held : Bool}
theorem turns_read {f0 f1 : Field} {fuel : Nat} {v : Value} {y : DataW H × List MemPlace} (ht : Try.prog.underlying 42 = some (.slice 44)) (he : Try.prog.underlying 44 = some (.struct #[f0, f1])) (t0 : f0.type = 2) (t1 : f1.type = 2) (o0 : f0.offset = 0) (o1 : f1.offset = 1)
    (h : DataW.trod enc Try.prog w base (fun _ => true) held fuel 42 [v] = some y) : ∃ A c z, v = .slice A z.length c ∧ z.length ≤ c ∧ Kd.C k44 w A z.length z := by
  rcases open_slice_pairs ht he (by kernel_rfl) o0 o1 (by rw [t0]; kernel_rfl) (by rw [t1]; kernel_rfl) h with ⟨hcs, _⟩ | ⟨a, len, cap, m, n, V0, V1, D0, D1, P0, P1, hcs, _, hl, hcm, hm, _, hx⟩
  · obtain rfl : v = .slice none 0 0 := by simpa using hcs
    exact ⟨none, 0, [], rfl, Nat.le_refl _, Kd.C_nil _ _⟩
  · obtain rfl : v = .slice (some a) len cap := by simpa using hcs
    have hm' : m = cap := by simpa using hm
    have hq : ∀ i : Nat, ∃ x : S44, i < len → w.cell? (a.add (i * 2)) = some (.int .i64 x.f0) ∧ w.cell? (a.add (i * 2 + 1)) = some (.int .i64 x.f1) := fun i => by
      by_cases hi : i < len
      · obtain ⟨c0, c1, r0, r1⟩ := hx i (by omega)
        rw [t0] at r0
        rw [t1] at r1
        obtain ⟨g0, e0, _, _⟩ := DataW.trod_int Try.underlying2 r0
        obtain ⟨g1, e1, _, _⟩ := DataW.trod_int Try.underlying2 r1
        simp at e0 e1
        rw [e0] at c0
        rw [e1] at c1
        exact ⟨⟨g0, g1⟩, fun _ => ⟨c0, c1⟩⟩
      · exact ⟨z44, fun h => absurd h hi⟩
    obtain ⟨T, hT⟩ := Classical.axiomOfChoice hq
    refine ⟨some a, cap, tabT T len, by rw [tabT_length], by rw [tabT_length]; exact hl, ?_⟩
    rw [tabT_length]
    refine ⟨tabT_length _ _, ?_, fun _ => ⟨a, rfl, fun j p hj => ?_⟩⟩
    · have : maxLen ≤ 9223372036854775807 := by decide
      omega
    · have hjl : j < len := by
        have := (List.getElem?_eq_some_iff.1 hj).1
        rwa [tabT_length] at this
      rw [tabT_get? hjl] at hj
      obtain rfl := Option.some.inj hj
      obtain ⟨c0, c1⟩ := hT j hjl
      refine ⟨[.int .i64 (T j).f0, .int .i64 (T j).f1], rfl, k44_mk w (T j), fun i u hu => ?_⟩
      match i, hu with
      | 0, hu => injection hu with hu; subst hu; exact c0
      | 1, hu => injection hu with hu; subst hu; exact c1
end Go.Proofs.Ytnioohhiphpplaa.Op
