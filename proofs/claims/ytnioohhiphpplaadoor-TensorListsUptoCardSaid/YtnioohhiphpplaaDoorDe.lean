/- What the printed walks of package tensor and of the document tell, plainly: Check, the products, Dot, Narrow, clamped. -/
import Derived.Test.YtnioohhiphpplaaDoorQc
import Derived.Test.YtnioohhiphpplaaDoorDp
import Derived.Test.YtnioohhiphpplaaDoorMten
import Derived.Lib.Hide
set_option linter.unusedVariables false
set_option linter.unusedSimpArgs false
namespace Go.Proofs.YtnioohhiphpplaaDoor.Dp
open Go.RowKit Go.Proofs.YtnioohhiphpplaaDoor.Pplays Go.Proofs.YtnioohhiphpplaaDoorW.PrintWords Go.Proofs.YtnioohhiphpplaaDoorW.PrintLast Go.Proofs.YtnioohhiphpplaaDoorW.PrintMore Go.Proofs.YtnioohhiphpplaaDoor.M
theorem up {α : Type} {g : Nat → Option α} (hm : ∀ k, LeO (g k) (g (k + 1))) {k k' : Nat} (h : k ≤ k') {r : α} (e : g k = some r) : g k' = some r := by
 induction k' with
 | zero =>
  obtain rfl : k = 0 := by omega
  exact e
 | succ n ih =>
  rcases Nat.lt_or_ge n k with c | c
  ·have : k = n + 1 := by omega
   subst this
   exact e
  ·exact hm n r (ih c)
theorem rd_at (l : List Int) (i : Nat) : rd l (i : Int) = nth l i := by unfold rd nth; rw [Int.toNat_natCast]
theorem up1 {i : Nat} (h : i ≤ 281474976710656) : wrap64 ((i : Int) + 1) = ((i + 1 : Nat) : Int) := by rw [w64' (by omega) (by omega)]; omega
def tb (f : Nat → Int) (n : Nat) : List Int := (List.range n).map f
theorem tb_succ (f : Nat → Int) (n : Nat) : tb f (n + 1) = tb f n ++ [f n] := by simp [tb, List.range_succ]
theorem tb_length (f : Nat → Int) (n : Nat) : (tb f n).length = n := by simp [tb]
theorem tb_set {f : Nat → Int} {n r : Nat} (h : r < n) : (tb f r ++ List.replicate (n - r) 0).set r (f r) = tb f (r + 1) ++ List.replicate (n - (r + 1)) 0 := set_step h
theorem tb_fill (f : Nat → Int) (n r : Nat) (h : r ≤ n) : (tb f r ++ List.replicate (n - r) 0).length = n := by rw [List.length_append, tb_length, List.length_replicate]; omega
def nrw (s x : Int) : Int := IntKind.i8.wrap (clampF (shiftF x s) 127)
theorem clamp8_is (x : Int) : fix_Clamp8.f x = some (IntKind.i8.wrap (clampF x 127)) := by
 unfold fix_Clamp8.f
 rw [clamp_is (by unfold rng; omega), Option.bind_some]
theorem refclamp8_is (x : Int) (k : Nat) : augurref01_Clamp8.f (k + 1) x = some (IntKind.i8.wrap (clampF x 127)) := by
 unfold augurref01_Clamp8.f
 rw [refclamp_is (by unfold rng; omega), Option.bind_some]
theorem narrow_l0 {s : Int} {v : List Int} (hv : ∀ i, rng (nth v i)) (hn : v.length ≤ 281474976710656) : ∀ (d k i : Nat), i + d = v.length → d < k →
  tensor_Narrow.l0 k s (tb (fun j => nrw s (nth v j)) i ++ List.replicate (v.length - i) 0) v (v.length : Int) (i : Int) = some (tb (fun j => nrw s (nth v j)) v.length, 0) := by
 intro d
 induction d with
 | zero =>
  intro k i hi hk
  obtain ⟨k, rfl⟩ : ∃ m, k = m + 1 := ⟨k - 1, by omega⟩
  simp only [tensor_Narrow.l0]
  obtain rfl : i = v.length := by omega
  rw [if_neg (by omega), Nat.sub_self, List.replicate_zero, List.append_nil]
 | succ d ih =>
  intro k i hi hk
  obtain ⟨k, rfl⟩ : ∃ m, k = m + 1 := ⟨k - 1, by omega⟩
  simp only [tensor_Narrow.l0]
  rw [if_pos (by omega), if_pos (by omega), if_pos (by omega), rd_at, shift_is (hv i), Option.bind_some, clamp8_is, Option.bind_some, tb_fill _ _ _ (by omega), if_pos (by omega), Int.toNat_natCast,
   show IntKind.i8.wrap (clampF (shiftF (nth v i) s) 127) = (fun j => nrw s (nth v j)) i from rfl, tb_set (by omega), up1 (by omega)]
  exact ih k (i + 1) (by omega) (by omega)
theorem refnarrow_l0 {s : Int} {v : List Int} (hv : ∀ i, rng (nth v i)) (hn : v.length < 140737488355328) : ∀ (d k i : Nat), i + d = v.length → d + 64 < k →
  augurref03_Narrow.l0 k v s (tb (fun j => nrw s (nth v j)) i) (i : Int) = some (tb (fun j => nrw s (nth v j)) v.length, 0) := by
 intro d
 induction d with
 | zero =>
  intro k i hi hk
  obtain ⟨k, rfl⟩ : ∃ m, k = m + 1 := ⟨k - 1, by omega⟩
  simp only [augurref03_Narrow.l0]
  obtain rfl : i = v.length := by omega
  rw [if_neg (by omega)]
 | succ d ih =>
  intro k i hi hk
  obtain ⟨k, rfl⟩ : ∃ m, k = m + 2 := ⟨k - 2, by omega⟩
  simp only [augurref03_Narrow.l0]
  rw [if_pos (by omega), if_pos (by omega), rd_at, refshift_is (hv i) _ (by omega), Option.bind_some, refclamp8_is, Option.bind_some, tb_length, if_pos (by omega),
   show IntKind.i8.wrap (clampF (shiftF (nth v i) s) 127) = (fun j => nrw s (nth v j)) i from rfl, ← tb_succ, up1 (by omega)]
  exact ih (k + 1) (i + 1) (by omega) (by omega)
def narrowV (v : List Int) (s : Int) : List Int × Int := if s < 0 ∨ 24 < s then ([], 1) else (tb (fun j => nrw s (nth v j)) v.length, 0)
theorem narrow_is {s : Int} {v : List Int} (hv : ∀ i, rng (nth v i)) (hn : v.length < 140737488355328) {k : Nat} (hk : v.length + 70 < k) : tensor_Narrow.f k v s = some (narrowV v s) := by
 obtain ⟨k, rfl⟩ : ∃ m, k = m + 1 := ⟨k - 1, by omega⟩
 unfold tensor_Narrow.f narrowV
 by_cases c : s < 0
 ·rw [if_pos c, if_pos (.inl c)]; simp only [tensor_Narrow.j0]; rw [if_pos trivial]
 ·rw [if_neg c]
  simp only [tensor_Narrow.j0]
  by_cases c2 : s > 24
  ·rw [if_pos (decide_eq_true c2), if_pos (.inr c2)]
  ·rw [if_neg (by rw [decide_eq_false c2]; decide), if_neg (show ¬ (s < 0 ∨ 24 < s) by omega), if_pos (by omega), if_pos (by omega), Int.toNat_natCast]
   have h := narrow_l0 (s := s) hv (by omega) v.length k 0 (by omega) (by omega)
   exact h
theorem refnarrow_is {s : Int} {v : List Int} (hv : ∀ i, rng (nth v i)) (hn : v.length < 140737488355328) {k : Nat} (hk : v.length + 70 < k) : augurref03_Narrow.f k v s = some (narrowV v s) := by
 obtain ⟨k, rfl⟩ : ∃ m, k = m + 1 := ⟨k - 1, by omega⟩
 unfold augurref03_Narrow.f narrowV
 by_cases c : s < 0
 ·rw [if_pos c, if_pos (.inl c)]; simp only [augurref03_Narrow.j0]; rw [if_pos trivial]
 ·rw [if_neg c]
  simp only [augurref03_Narrow.j0]
  by_cases c2 : s > 24
  ·rw [if_pos (decide_eq_true c2), if_pos (.inr c2)]
  ·rw [if_neg (by rw [decide_eq_false c2]; decide), if_neg (show ¬ (s < 0 ∨ 24 < s) by omega)]
   have h := refnarrow_l0 (s := s) hv hn v.length k 0 (by omega) (by omega)
   exact h
theorem drop_at {l : List Int} {i : Nat} (h : i < l.length) : l.drop i = nth l i :: l.drop (i + 1) := by
 rw [List.drop_eq_getElem_cons h]
 unfold nth
 rw [List.getD_eq_getElem?_getD, List.getElem?_eq_getElem h]; rfl
def chkL : List Int → Int
 | [] => 0
 | x :: r => if x < -127 then 30 else chkL r
def checkV (rows cols : Int) (D : List Int) : Int := if rows < 1 ∨ cols < 1 ∨ ¬ (D.length : Int) % cols = 0 ∨ ¬ (D.length : Int) / cols = rows then 30 else chkL D
theorem check_l0 {D : List Int} (hn : D.length ≤ 281474976710656) : ∀ (d k i : Nat), i + d = D.length → d < k → tensor_Check.l0 k D (D.length : Int) (i : Int) = some (chkL (D.drop i)) := by
 intro d
 induction d with
 | zero =>
  intro k i hi hk
  obtain ⟨k, rfl⟩ : ∃ m, k = m + 1 := ⟨k - 1, by omega⟩
  simp only [tensor_Check.l0]
  rw [if_neg (by omega), List.drop_of_length_le (by omega)]; rfl
 | succ d ih =>
  intro k i hi hk
  obtain ⟨k, rfl⟩ : ∃ m, k = m + 1 := ⟨k - 1, by omega⟩
  simp only [tensor_Check.l0]
  rw [if_pos (by omega), if_pos (by omega), if_pos (by omega), rd_at, drop_at (by omega)]
  unfold chkL
  by_cases c : nth D i < -127
  ·rw [if_pos c, if_pos c]
  ·rw [if_neg c, if_neg c, up1 (by omega)]
   exact ih k (i + 1) (by omega) (by omega)
theorem refcheck_l0 {rows cols : Int} {D : List Int} (hD : Small D) (hn : D.length ≤ 281474976710656) : ∀ (d k i : Nat), i + d = D.length → d < k → augurref03_Check.l0 k (i : Int) rows cols D = some (chkL (D.drop i)) := by
 intro d
 induction d with
 | zero =>
  intro k i hi hk
  obtain ⟨k, rfl⟩ : ∃ m, k = m + 1 := ⟨k - 1, by omega⟩
  simp only [augurref03_Check.l0]
  rw [if_neg (by omega), List.drop_of_length_le (by omega)]; rfl
 | succ d ih =>
  intro k i hi hk
  obtain ⟨k, rfl⟩ : ∃ m, k = m + 1 := ⟨k - 1, by omega⟩
  simp only [augurref03_Check.l0]
  rw [if_pos (by omega), if_pos (by omega), rd_at, drop_at (by omega)]
  unfold chkL
  have hs := hD.nth i
  by_cases c : nth D i < -127
  ·rw [if_pos (show nth D i = -128 by omega), if_pos c]
  ·rw [if_neg (show ¬ nth D i = -128 by omega), if_neg c, up1 (by omega)]
   exact ih k (i + 1) (by omega) (by omega)
theorem check_is {rows cols : Int} {D : List Int} (hn : D.length ≤ 281474976710656) {k : Nat} (hk : D.length + 70 < k) : tensor_Check.f k rows cols D = some (checkV rows cols D) := by
 obtain ⟨k, rfl⟩ : ∃ m, k = m + 1 := ⟨k - 1, by omega⟩
 have h0 := check_l0 hn D.length k 0 (by omega) (by omega)
 rw [List.drop_zero] at h0
 have ht : tensor_Check.j0 (k + 1) true rows cols D = some 30 := by simp only [tensor_Check.j0]; rw [if_pos trivial]
 have hf : tensor_Check.j0 (k + 1) false rows cols D = some (chkL D) := by simp only [tensor_Check.j0]; rw [if_neg (by decide)]; exact h0
 unfold tensor_Check.f checkV
 by_cases c1 : rows < 1
 ·rw [if_pos c1, if_pos (.inl c1), ht]
 by_cases c2 : cols < 1
 ·rw [if_neg c1, if_pos c2, if_pos (.inr (.inl c2)), ht]
 rw [if_neg c1, if_neg c2, if_neg (show ¬ cols = 0 by omega)]
 by_cases c3 : (D.length : Int) % cols = 0
 ·rw [if_pos c3]
  have hdl : 0 ≤ (D.length : Int) / cols := Int.ediv_nonneg (by omega) (by omega)
  have hdu : (D.length : Int) / cols ≤ D.length := Int.ediv_le_self _ (by omega)
  rw [w64' (by omega) (by omega)]
  by_cases c4 : (D.length : Int) / cols = rows
  ·rw [show ((D.length : Int) / cols != rows) = false from bne_eq_false_iff_eq.2 c4, hf, if_neg (by simp only [not_or, Decidable.not_not]; exact ⟨c1, c2, c3, c4⟩)]
  ·rw [show ((D.length : Int) / cols != rows) = true from bne_iff_ne.2 c4, ht, if_pos (.inr (.inr (.inr c4)))]
 ·rw [if_neg c3, ht, if_pos (.inr (.inr (.inl c3)))]
theorem refcheck_is {rows cols : Int} {D : List Int} (hD : Small D) (hn : D.length ≤ 281474976710656) {k : Nat} (hk : D.length + 70 < k) : augurref03_Check.f k rows cols D = some (checkV rows cols D) := by
 obtain ⟨k, rfl⟩ : ∃ m, k = m + 1 := ⟨k - 1, by omega⟩
 have h0 := refcheck_l0 (rows := rows) (cols := cols) hD hn D.length k 0 (by omega) (by omega)
 rw [List.drop_zero] at h0
 have ht : augurref03_Check.j0 (k + 1) true rows cols D = some 30 := by simp only [augurref03_Check.j0]; rw [if_pos trivial]
 have hf : augurref03_Check.j0 (k + 1) false rows cols D = some (chkL D) := by simp only [augurref03_Check.j0]; rw [if_neg (by decide)]; exact h0
 unfold augurref03_Check.f checkV
 by_cases c1 : rows < 1
 ·rw [if_pos c1, if_pos (.inl c1), ht]
 by_cases c2 : cols < 1
 ·rw [if_neg c1, if_pos c2, if_pos (.inr (.inl c2)), ht]
 rw [if_neg c1, if_neg c2, if_neg (show ¬ cols = 0 by omega)]
 by_cases c3 : (D.length : Int) % cols = 0
 ·rw [if_pos c3]
  have hdl : 0 ≤ (D.length : Int) / cols := Int.ediv_nonneg (by omega) (by omega)
  have hdu : (D.length : Int) / cols ≤ D.length := Int.ediv_le_self _ (by omega)
  rw [w64' (by omega) (by omega)]
  by_cases c4 : (D.length : Int) / cols = rows
  ·rw [show ((D.length : Int) / cols != rows) = false from bne_eq_false_iff_eq.2 c4, hf, if_neg (by simp only [not_or, Decidable.not_not]; exact ⟨c1, c2, c3, c4⟩)]
  ·rw [show ((D.length : Int) / cols != rows) = true from bne_iff_ne.2 c4, ht, if_pos (.inr (.inr (.inr c4)))]
 ·rw [if_neg c3, ht, if_pos (.inr (.inr (.inl c3)))]
def dotW (a b : Nat → Int) : Nat → Int
 | 0 => 0
 | n + 1 => wrap64 (dotW a b n + wrap64 (a n * b n))
theorem small_w {l : List Int} (h : Small l) (i : Nat) : wrap64 (nth l i) = nth l i := by have := h.nth i; exact w64' (by omega) (by omega)
theorem prod8_l0 {a b : List Int} (ha : Small a) (hb : Small b) (hl : a.length ≤ b.length) (hn : a.length ≤ 281474976710656) : ∀ (d k i : Nat), i + d = a.length → d < k →
  tensor_products_int8_int8.l0 k a b (dotW (nth a) (nth b) i) (a.length : Int) (i : Int) = some (dotW (nth a) (nth b) a.length) := by
 intro d
 induction d with
 | zero =>
  intro k i hi hk
  obtain ⟨k, rfl⟩ : ∃ m, k = m + 1 := ⟨k - 1, by omega⟩
  simp only [tensor_products_int8_int8.l0]
  obtain rfl : i = a.length := by omega
  rw [if_neg (by omega)]
 | succ d ih =>
  intro k i hi hk
  obtain ⟨k, rfl⟩ : ∃ m, k = m + 1 := ⟨k - 1, by omega⟩
  simp only [tensor_products_int8_int8.l0]
  rw [if_pos (by omega), if_pos (by omega), if_pos (by omega), if_pos (by omega), rd_at, rd_at, small_w ha, small_w hb, up1 (by omega)]
  exact ih k (i + 1) (by omega) (by omega)
theorem prod8_is {a b : List Int} (ha : Small a) (hb : Small b) (hl : a.length ≤ b.length) (hn : a.length ≤ 281474976710656) {k : Nat} (hk : a.length < k) : tensor_products_int8_int8.f k a b = some (dotW (nth a) (nth b) a.length) :=
 prod8_l0 ha hb hl hn a.length k 0 (by omega) hk
theorem refdot_l0 {a b : List Int} (ha : Small a) (hb : Small b) (hl : a.length ≤ b.length) (hn : a.length ≤ 281474976710656) : ∀ (d k i : Nat), i + d = a.length → d < k →
  augurref03_Dot.l0 k a b (dotW (nth a) (nth b) i) (i : Int) = some (dotW (nth a) (nth b) a.length, 0) := by
 intro d
 induction d with
 | zero =>
  intro k i hi hk
  obtain ⟨k, rfl⟩ : ∃ m, k = m + 1 := ⟨k - 1, by omega⟩
  simp only [augurref03_Dot.l0]
  obtain rfl : i = a.length := by omega
  rw [if_neg (by omega)]
 | succ d ih =>
  intro k i hi hk
  obtain ⟨k, rfl⟩ : ∃ m, k = m + 1 := ⟨k - 1, by omega⟩
  simp only [augurref03_Dot.l0]
  rw [if_pos (by omega), if_pos (by omega), if_pos (by omega), rd_at, rd_at, small_w ha, small_w hb, up1 (by omega)]
  exact ih k (i + 1) (by omega) (by omega)
def dotV (a b : List Int) : Int × Int := if a.length = b.length then (dotW (nth a) (nth b) a.length, 0) else (0, 30)
theorem dot_is {a b : List Int} (ha : Small a) (hb : Small b) (hn : a.length ≤ 281474976710656) {k : Nat} (hk : a.length < k) : tensor_Dot.f k a b = some (dotV a b) := by
 unfold tensor_Dot.f dotV
 by_cases c : a.length = b.length
 ·rw [if_pos (by omega), if_pos c, prod8_is ha hb (by omega) hn hk, Option.bind_some]
 ·rw [if_neg (by omega), if_neg c]
theorem refdot_is {a b : List Int} (ha : Small a) (hb : Small b) (hn : a.length ≤ 281474976710656) {k : Nat} (hk : a.length < k) : augurref03_Dot.f k a b = some (dotV a b) := by
 unfold augurref03_Dot.f dotV
 by_cases c : a.length = b.length
 ·rw [if_pos (by omega), if_pos c]
  exact refdot_l0 ha hb (by omega) hn a.length k 0 (by omega) hk
 ·rw [if_neg (by omega), if_neg c]
def rowW (D v : List Int) (C r : Nat) : Int := dotW (fun c => nth D (r * C + c)) (nth v) C
theorem refmv_l1 {D v acc : List Int} {R C r : Nat} (hD : Small D) (hv : Small v) (hvl : v.length = C) (hC : 1 ≤ C) (hr : r < R) (hRC : R * C = D.length) (hn : D.length ≤ 281474976710656) (ha : acc.length < 17592186044416) (k : Nat) : ∀ (d c : Nat), c + d = C →
  augurref03_MatVec.l1 (k + d + 1) v acc (r : Int) (dotW (fun c => nth D (r * C + c)) (nth v) c) (c : Int) (R : Int) (C : Int) D = augurref03_MatVec.l0 k v (acc ++ [rowW D v C r]) ((r + 1 : Nat) : Int) (R : Int) (C : Int) D := by
 have hle : (r + 1) * C ≤ R * C := Nat.mul_le_mul_right _ hr
 have hle2 : (r + 1) * C = r * C + C := Nat.succ_mul _ _
 have hr1 : r * 1 ≤ r * C := Nat.mul_le_mul_left _ hC
 have e1 : wrap64 ((r : Int) * (C : Int)) = ((r * C : Nat) : Int) := by rw [← Int.natCast_mul, w64' (by omega) (by omega)]
 obtain ⟨q, hq⟩ : ∃ q, r * C = q := ⟨_, rfl⟩
 have hf : (fun c => nth D (r * C + c)) = fun c => nth D (q + c) := by rw [hq]
 have hrow : rowW D v C r = dotW (fun c => nth D (q + c)) (nth v) C := by unfold rowW; rw [hf]
 rw [hrow, hf]
 rw [hq] at hle2 hr1 e1
 rw [hRC] at hle
 have hrb : r + 1 ≤ 281474976710656 := by omega
 have hqb : q + C ≤ D.length := by omega
 have E1 := Lib.hid e1
 clear hle hle2 hr1 hf hrow hRC hq e1
 intro d
 induction d with
 | zero =>
  intro c hc
  have hcc : c = C := by omega
  subst hcc
  simp only [augurref03_MatVec.l1]
  rw [if_neg (by omega), if_pos ha, up1 (by omega)]
 | succ d ih =>
  intro c hc
  have ih' := ih (c + 1) (by omega)
  rw [show k + (d + 1) + 1 = (k + d + 1) + 1 from rfl]
  generalize k + d + 1 = m at ih' ⊢
  simp only [augurref03_MatVec.l1]
  have E2 := Lib.hid (show wrap64 ((q : Int) + (c : Int)) = ((q + c : Nat) : Int) by rw [w64' (by omega) (by omega)]; omega)
  rw [if_pos (by omega), E1.out, E2.out, if_pos (by omega), if_pos (by omega), if_pos (by omega), if_pos (by omega), rd_at, rd_at, small_w hD, small_w hv, up1 (by omega)]
  exact ih'
theorem refmv_l0 {D v : List Int} {R C : Nat} (hD : Small D) (hv : Small v) (hvl : v.length = C) (hC : 1 ≤ C) (hRC : R * C = D.length) (hn : D.length ≤ 281474976710656) (hR : R < 17592186044416) : ∀ (d r : Nat), r + d = R →
  augurref03_MatVec.l0 (d * (C + 2) + 1) v (tb (rowW D v C) r) (r : Int) (R : Int) (C : Int) D = some (tb (rowW D v C) R, 0) := by
 intro d
 induction d with
 | zero =>
  intro r hr
  have hrr : r = R := by omega
  subst hrr
  rw [Nat.zero_mul]
  simp only [augurref03_MatVec.l0]
  rw [if_neg (by omega)]
 | succ d ih =>
  intro r hr
  have ih' := ih (r + 1) (by omega)
  have h1 := refmv_l1 (acc := tb (rowW D v C) r) (r := r) hD hv hvl hC (by omega) hRC hn (by rw [tb_length]; omega) (d * (C + 2) + 1) C 0 (by omega)
  rw [show (d + 1) * (C + 2) + 1 = (d * (C + 2) + 1 + C + 1) + 1 by rw [Nat.succ_mul]; omega]
  rw [← tb_succ, ih'] at h1
  generalize d * (C + 2) + 1 + C + 1 = m at h1 ⊢
  simp only [augurref03_MatVec.l0]
  rw [if_pos (by omega)]
  exact h1
def mvV (rows cols : Int) (D v : List Int) : List Int × Int := if checkV rows cols D = 0 ∧ (v.length : Int) = cols then (tb (rowW D v cols.toNat) rows.toNat, 0) else ([], 30)
theorem check_zero {rows cols : Int} {D : List Int} (h : checkV rows cols D = 0) : 1 ≤ rows ∧ 1 ≤ cols ∧ rows.toNat * cols.toNat = D.length := by
 unfold checkV at h
 split at h
 ·cases h
 ·rename_i c
  simp only [not_or, Decidable.not_not] at c
  obtain ⟨c1, c2, c3, c4⟩ := c
  refine ⟨by omega, by omega, ?_⟩
  have h1 := Int.mul_ediv_add_emod (D.length : Int) cols
  rw [c3, c4, Int.add_zero] at h1
  have h2 : ((rows.toNat * cols.toNat : Nat) : Int) = (D.length : Int) := by
   rw [Int.natCast_mul, Int.toNat_of_nonneg (by omega), Int.toNat_of_nonneg (by omega), Int.mul_comm]; exact h1
  omega
theorem refmv_is {rows cols : Int} {D v : List Int} (hD : Small D) (hv : Small v) (hn : D.length < 17592186044416) {k : Nat} (hk : D.length * 3 + 80 < k) : augurref03_MatVec.f k rows cols D v = some (mvV rows cols D v) := by
 have hc := refcheck_is (rows := rows) (cols := cols) hD (by omega) (k := k) (by omega)
 unfold augurref03_MatVec.f mvV
 rw [hc, Option.bind_some]
 have ht : ∀ b, b = true → augurref03_MatVec.j0 k v b rows cols D = some ([], 30) := fun b hb => by
  subst hb
  obtain ⟨m, rfl⟩ : ∃ m, k = m + 1 := ⟨k - 1, by omega⟩
  simp only [augurref03_MatVec.j0]
  rw [if_pos trivial]
 by_cases c1 : checkV rows cols D = 0
 ·rw [if_pos c1]
  by_cases c2 : (v.length : Int) = cols
  ·rw [show ((v.length : Int) != cols) = false from bne_eq_false_iff_eq.2 c2, if_pos ⟨c1, c2⟩]
   obtain ⟨h1, h2, h3⟩ := check_zero c1
   obtain ⟨R, rfl⟩ : ∃ R : Nat, rows = R := ⟨rows.toNat, by omega⟩
   obtain ⟨C, rfl⟩ : ∃ C : Nat, cols = C := ⟨cols.toNat, by omega⟩
   rw [Int.toNat_natCast] at h3 ⊢
   rw [Int.toNat_natCast] at h3 ⊢
   have hRC : R * 1 ≤ R * C := Nat.mul_le_mul_left _ (by omega)
   have hm := refmv_l0 hD hv (show v.length = C by omega) (by omega) h3 (by omega) (by omega) R 0 (by omega)
   have hfuel : R * (C + 2) + 1 ≤ k - 1 := by rw [Nat.mul_add]; omega
   have hu := up (g := fun k => augurref03_MatVec.l0 k v [] 0 (R : Int) (C : Int) D) (fun k => (augurref03_MatVec.mono_l k).2.1 v [] 0 (R : Int) (C : Int) D) hfuel hm
   obtain ⟨m, rfl⟩ : ∃ m, k = m + 1 := ⟨k - 1, by omega⟩
   simp only [augurref03_MatVec.j0]
   rw [if_neg (by decide)]
   exact hu
  ·rw [if_neg (fun h => c2 h.2)]
   exact ht _ (bne_iff_ne.2 c2)
 ·rw [if_neg c1, if_neg (fun h => c1 h.1)]
  exact ht _ rfl
end Go.Proofs.YtnioohhiphpplaaDoor.Dp
