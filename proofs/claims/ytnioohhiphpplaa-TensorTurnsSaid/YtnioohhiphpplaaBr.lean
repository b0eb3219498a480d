/- What the printed functions of Check and of the products come to, in lists of whole numbers. -/
import Derived.Test.YtnioohhiphpplaaPCheckx1
import Derived.Test.YtnioohhiphpplaaPDotx1
import Derived.Test.YtnioohhiphpplaaMten
namespace Go.Proofs.Ytnioohhiphpplaa.Br
open Go.RowKit Go.Proofs.YtnioohhiphpplaaW.PrintWords Go.Proofs.YtnioohhiphpplaaW.PrintLast Go.Proofs.YtnioohhiphpplaaW.PrintMore Go.Proofs.Ytnioohhiphpplaa.M

theorem rd_nth (l : List Int) (i : Nat) : rd l (i : Int) = nth l i := by
  unfold rd nth; rfl

theorem prod_loop {a b : List Int} (ha : Small a) (hb : Small b) (hl : a.length ≤ b.length) (hn : (a.length : Int) ≤ 140737488351232) (d : Nat) : ∀ (k i : Nat), i + d = a.length → d < k →
    PDot.tensor_products_int8_int8.l0 k a b (dotN a b i) (a.length : Int) (i : Int) = some (dotL a b) := by
  induction d with
  | zero =>
    intro k i hi hk
    obtain ⟨k, rfl⟩ : ∃ m, k = m + 1 := ⟨k - 1, by omega⟩
    simp only [PDot.tensor_products_int8_int8.l0]
    rw [if_neg (by omega)]
    have : i = a.length := by omega
    rw [this]; rfl
  | succ d ih =>
    intro k i hi hk
    obtain ⟨k, rfl⟩ : ∃ m, k = m + 1 := ⟨k - 1, by omega⟩
    have h1 := dotN_in ha hb i
    have h2 := prod_in (ha.nth i) (hb.nth i)
    have h3 := ha.nth i
    have h4 := hb.nth i
    simp only [PDot.tensor_products_int8_int8.l0]
    rw [if_pos (by omega), if_pos (by omega), if_pos (by omega), if_pos (by omega), rd_nth, rd_nth, w64' (n := nth a i) (by omega) (by omega), w64' (n := nth b i) (by omega) (by omega), w64' (n := nth a i * nth b i) (by omega) (by omega), w64' (n := dotN a b i + nth a i * nth b i) (by omega) (by omega), w64' (n := (i : Int) + 1) (by omega) (by omega)]
    have := ih k (i + 1) (by omega) (by omega)
    exact this
theorem prod_is {a b : List Int} (ha : Small a) (hb : Small b) (hl : a.length ≤ b.length) (hn : (a.length : Int) ≤ 140737488351232) : PDot.tensor_products_int8_int8.f (a.length + 1) a b = some (dotL a b) := by
  unfold PDot.tensor_products_int8_int8.f
  exact prod_loop ha hb hl hn a.length (a.length + 1) 0 (by omega) (by omega)

theorem check_loop {D : List Int} (h : ∀ i, -127 ≤ nth D i) (hn : (D.length : Int) ≤ 140737488351232) (d : Nat) : ∀ (k i : Nat), i + d = D.length → d < k →
    PCheck.tensor_Check.l0 k D (D.length : Int) (i : Int) = some 0 := by
  induction d with
  | zero =>
    intro k i hi hk
    obtain ⟨k, rfl⟩ : ∃ m, k = m + 1 := ⟨k - 1, by omega⟩
    simp only [PCheck.tensor_Check.l0]
    rw [if_neg (by omega)]
  | succ d ih =>
    intro k i hi hk
    obtain ⟨k, rfl⟩ : ∃ m, k = m + 1 := ⟨k - 1, by omega⟩
    have h3 := h i
    simp only [PCheck.tensor_Check.l0]
    rw [if_pos (by omega), if_pos (by omega), if_pos (by omega), rd_nth, if_neg (by omega), w64' (n := (i : Int) + 1) (by omega) (by omega)]
    exact ih k (i + 1) (by omega) (by omega)
theorem check_is {rows cols : Int} {D : List Int} (h : IsMat rows cols D) (hn : (D.length : Int) ≤ 140737488351232) : PCheck.tensor_Check.f (D.length + 2) rows cols D = some 0 := by
  obtain ⟨m0, m1, m2, m3⟩ := h
  unfold PCheck.tensor_Check.f
  have e1 : ((D.length : Int) % cols) = 0 := by rw [← m2]; exact Int.mul_emod_left _ _
  have e2 : ((D.length : Int) / cols) = rows := by rw [← m2]; exact Int.mul_ediv_cancel _ (by omega)
  have hb := row_bounds (rows := rows) (cols := cols) (D := D) ⟨m0, m1, m2, m3⟩ (r := 0) (by omega) (by omega)
  rw [if_neg (by omega), if_neg (by omega), if_neg (by omega), if_pos e1, e2, w64' (by omega) (by omega)]
  have : (rows != rows) = false := by simp
  rw [this]
  simp only [PCheck.tensor_Check.j0]
  rw [if_neg (by decide)]
  exact check_loop (fun i => IsMat.small ⟨m0, m1, m2, m3⟩ i) hn D.length (D.length + 1) 0 (by omega) (by omega)
end Go.Proofs.Ytnioohhiphpplaa.Br
