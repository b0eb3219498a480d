/- What the printed functions shaped and order come to: a right matrix of at most 9 rows and columns; a permutation. -/
import Derived.Test.YtnioohhiphpplaaPshapedx1
import Derived.Test.YtnioohhiphpplaaPorderx1
import Derived.Test.YtnioohhiphpplaaBr
namespace Go.Proofs.Ytnioohhiphpplaa.Br
open Go.RowKit Go.Proofs.YtnioohhiphpplaaW.PrintWords Go.Proofs.YtnioohhiphpplaaW.PrintLast Go.Proofs.YtnioohhiphpplaaW.PrintMore Go.Proofs.Ytnioohhiphpplaa.M

theorem mod_is (a : Int) {n : Int} (h : 0 < n) (hn : n ≤ 4611686018427387904) : ∃ m, Pshaped.augurlaw03_mod.f a n = some m ∧ 0 ≤ m ∧ m < n := by
  have h1 := Int.tmod_lt_of_pos a h
  have h2 := Int.lt_tmod_of_pos a h
  unfold Pshaped.augurlaw03_mod.f
  rw [if_neg (by omega)]
  by_cases h3 : a.tmod n < 0
  · rw [if_pos h3, w64' (by omega) (by omega)]
    exact ⟨_, rfl, by omega, by omega⟩
  · rw [if_neg h3]
    exact ⟨_, rfl, by omega, by omega⟩
theorem at_is {l : List Int} (hl : Small l) {i : Int} (h0 : 0 ≤ i) : ∃ x, Pshaped.augurlaw03_at.f l i = some x ∧ -128 ≤ x ∧ x ≤ 127 := by
  unfold Pshaped.augurlaw03_at.f
  by_cases h : (l.length : Int) = 0
  · rw [if_pos h]
    exact ⟨0, rfl, by decide, by decide⟩
  · rw [if_neg h]
    have h1 := Int.tmod_lt_of_pos i (b := (l.length : Int)) (by omega)
    have h2 : 0 ≤ i.tmod (l.length : Int) := Int.tmod_nonneg _ h0
    rw [if_pos h2, if_pos h1]
    obtain ⟨m, hm⟩ := Int.eq_ofNat_of_zero_le h2
    rw [hm, rd_nth]
    exact ⟨_, rfl, hl.nth m⟩
theorem sh1 {x3 : List Int} (h3 : Small x3) {C : Nat} (hC : C ≤ 9) (a b : Int) (D : List Int) (d : Nat) : ∀ (k i : Nat) (x : List Int), i + d = C → d < k → Small x → x.length = i →
    ∃ V, Pshaped.augurlaw03_shaped.l1 k x3 (C : Int) x (i : Int) a b D = some (a, b, D, V) ∧ V.length = C ∧ Small V := by
  induction d with
  | zero =>
    intro k i x hi hk hx hl
    obtain ⟨k, rfl⟩ : ∃ m, k = m + 1 := ⟨k - 1, by omega⟩
    simp only [Pshaped.augurlaw03_shaped.l1]
    rw [if_neg (by omega)]
    exact ⟨x, rfl, by omega, hx⟩
  | succ d ih =>
    intro k i x hi hk hx hl
    obtain ⟨k, rfl⟩ : ∃ m, k = m + 1 := ⟨k - 1, by omega⟩
    obtain ⟨y, hy, y0, y1⟩ := at_is h3 (i := (i : Int)) (by omega)
    simp only [Pshaped.augurlaw03_shaped.l1]
    rw [if_pos (by omega), hy]
    simp only [Option.bind_some]
    rw [if_pos (by omega), w64' (by omega) (by omega)]
    exact ih k (i + 1) (x ++ [y]) (by omega) (by omega) (fun z hz => by
      rcases List.mem_append.1 hz with h | h
      · exact hx z h
      · rw [List.mem_singleton.1 h]; exact ⟨y0, y1⟩) (by rw [List.length_append, hl]; rfl)
theorem sh0 {x2 x3 : List Int} (h2 : Small x2) (h3 : Small x3) {R C n : Nat} (hC : C ≤ 9) (hn : n ≤ 81) (hRC : (R : Int) * (C : Int) = n) (d : Nat) : ∀ (k i : Nat) (x : List Int), i + d = n → d + C + 1 < k → Small x → (∀ y ∈ x, -127 ≤ y) → x.length = i →
    ∃ D V, Pshaped.augurlaw03_shaped.l0 k x2 x3 (R : Int) (C : Int) (i : Int) (R : Int) (C : Int) x = some ((R : Int), (C : Int), D, V) ∧ D.length = n ∧ Small D ∧ (∀ y ∈ D, -127 ≤ y) ∧ V.length = C ∧ Small V := by
  have e : wrap64 ((R : Int) * (C : Int)) = n := by rw [hRC]; exact w64' (by omega) (by omega)
  induction d with
  | zero =>
    intro k i x hi hk hx hx2 hl
    obtain ⟨k, rfl⟩ : ∃ m, k = m + 1 := ⟨k - 1, by omega⟩
    simp only [Pshaped.augurlaw03_shaped.l0]
    rw [e, if_neg (by omega)]
    obtain ⟨V, hV, lV, sV⟩ := sh1 h3 hC (R : Int) (C : Int) x C k 0 [] (by omega) (by omega) (fun y hy => by cases hy) rfl
    exact ⟨x, V, hV, by omega, hx, hx2, lV, sV⟩
  | succ d ih =>
    intro k i x hi hk hx hx2 hl
    obtain ⟨k, rfl⟩ : ∃ m, k = m + 1 := ⟨k - 1, by omega⟩
    obtain ⟨y, hy, y0, y1⟩ := at_is h2 (i := (i : Int)) (by omega)
    simp only [Pshaped.augurlaw03_shaped.l0]
    rw [e, if_pos (by omega), hy]
    simp only [Option.bind_some]
    have step : ∀ z : Int, -127 ≤ z → z ≤ 127 → ∃ D V, Pshaped.augurlaw03_shaped.l0 k x2 x3 (R : Int) (C : Int) ((i : Int) + 1) (R : Int) (C : Int) (x ++ [z]) = some ((R : Int), (C : Int), D, V) ∧ D.length = n ∧ Small D ∧ (∀ y ∈ D, -127 ≤ y) ∧ V.length = C ∧ Small V := by
      intro z z0 z1
      exact ih k (i + 1) (x ++ [z]) (by omega) (by omega) (fun u hu => by
        rcases List.mem_append.1 hu with h | h
        · exact hx u h
        · rw [List.mem_singleton.1 h]; omega) (fun u hu => by
        rcases List.mem_append.1 hu with h | h
        · exact hx2 u h
        · rw [List.mem_singleton.1 h]; omega) (by rw [List.length_append, hl]; rfl)
    have ew : wrap64 ((i : Int) + 1) = (i : Int) + 1 := w64' (by omega) (by omega)
    by_cases h : y = -128
    · rw [if_pos h, if_pos (by omega), ew]
      exact step 7 (by decide) (by decide)
    · rw [if_neg h, if_pos (by omega), ew]
      exact step y (by omega) y1
/-- The side of a matrix. -/
def side (a : Int) : Nat := (wrap64 (1 + ((Pshaped.augurlaw03_mod.f a 9).getD 0))).toNat
theorem side_is (a : Int) : 1 ≤ side a ∧ side a ≤ 9 ∧ ∃ m, Pshaped.augurlaw03_mod.f a 9 = some m ∧ wrap64 (1 + m) = (side a : Int) := by
  obtain ⟨m, hm, m0, m1⟩ := mod_is a (n := 9) (by decide) (by decide)
  have e : wrap64 (1 + m) = 1 + m := w64' (by omega) (by omega)
  unfold side
  rw [hm, Option.getD_some, e]
  exact ⟨by omega, by omega, m, rfl, by rw [e]; omega⟩
theorem shaped_is (a b : Int) {l v : List Int} (hl : Small l) (hv : Small v) : ∃ D V, Pshaped.augurlaw03_shaped.f 100 a b l v = some ((side a : Int), (side b : Int), D, V) ∧ IsMat (side a : Int) (side b : Int) D ∧ Small D ∧ V.length = side b ∧ Small V := by
  obtain ⟨ra, rb, m, hm, em⟩ := side_is a
  obtain ⟨ca, cb, m', hm', em'⟩ := side_is b
  unfold Pshaped.augurlaw03_shaped.f
  rw [hm, hm']
  simp only [Option.bind_some]
  rw [em, em']
  have hb : side a * side b ≤ 9 * 9 := Nat.mul_le_mul rb cb
  obtain ⟨D, V, h, lD, sD, sD2, lV, sV⟩ := sh0 hl hv cb (n := side a * side b) (by omega) (Int.natCast_mul _ _).symm (side a * side b) 100 0 [] (by omega) (by omega) (fun y hy => by cases hy) (fun y hy => by cases hy) rfl
  exact ⟨D, V, h, ⟨by omega, by omega, by rw [lD]; exact (Int.natCast_mul _ _).symm, sD2⟩, sD, lV, sV⟩
end Go.Proofs.Ytnioohhiphpplaa.Br
