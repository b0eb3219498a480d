/- Plainly: clamped, the products of wide numbers, the root, the document's Norm. -/
import Derived.Test.YtnioohhiphpplaaDoorDe
import Derived.Test.YtnioohhiphpplaaDoorQd
set_option linter.unusedVariables false
set_option linter.unusedSimpArgs false
namespace Go.Proofs.YtnioohhiphpplaaDoor.Dp
open Go.RowKit Go.Proofs.YtnioohhiphpplaaDoor.Pplays Go.Proofs.YtnioohhiphpplaaDoorW.PrintWords Go.Proofs.YtnioohhiphpplaaDoorW.PrintLast Go.Proofs.YtnioohhiphpplaaDoorW.PrintMore Go.Proofs.YtnioohhiphpplaaDoor.M
theorem tb_nth {f : Nat → Int} {n i : Nat} (h : i < n) : nth (tb f n) i = f i := by
 unfold nth tb
 rw [List.getD_eq_getElem?_getD, List.getElem?_map, List.getElem?_range h]; rfl
theorem tb_congr {f g : Nat → Int} {n : Nat} (h : ∀ i, i < n → f i = g i) : tb f n = tb g n := List.map_congr_left fun i hi => h i (List.mem_range.1 hi)
theorem dotW_congr {a b a' b' : Nat → Int} : ∀ {n : Nat}, (∀ i, i < n → a i = a' i ∧ b i = b' i) → dotW a b n = dotW a' b' n
 | 0, _ => rfl
 | n + 1, h => by
  show wrap64 (dotW a b n + wrap64 (a n * b n)) = wrap64 (dotW a' b' n + wrap64 (a' n * b' n))
  rw [dotW_congr (fun i hi => h i (by omega)), (h n (by omega)).1, (h n (by omega)).2]
theorem wrap_rng (x : Int) : rng (wrap64 x) := by
 have h : wrap64 x = IntKind.i64.wrap x := (i64_w x).symm
 have := IntKind.wrap_i64 x
 unfold rng
 rw [h, this]
 omega
theorem dotW_rng (a b : Nat → Int) (n : Nat) : rng (dotW a b n) := by
 cases n with
 | zero => show rng 0; unfold rng; exact ⟨by decide, by decide⟩
 | succ n => exact wrap_rng _
theorem refclamp_pos {a m : Int} (hm : rng m) {k : Nat} (hk : 0 < k) : augurref01_Clamp.f k a m = some (clampF a m) := by
 obtain ⟨j, rfl⟩ : ∃ j, k = j + 1 := ⟨k - 1, by omega⟩
 exact refclamp_is hm j
theorem refclamp8_pos (x : Int) {k : Nat} (hk : 0 < k) : augurref01_Clamp8.f k x = some (IntKind.i8.wrap (clampF x 127)) := by
 obtain ⟨j, rfl⟩ : ∃ j, k = j + 1 := ⟨k - 1, by omega⟩
 exact refclamp8_is x j
def cwF (x : List Int) (i : Nat) : Int := clampF (nth x i) 16777216
theorem clamped_l0 {v : List Int} (hn : v.length ≤ 281474976710656) : ∀ (d k i : Nat), i + d = v.length → d < k →
  tensor_clamped.l0 k (tb (cwF v) i ++ List.replicate (v.length - i) 0) v (v.length : Int) (i : Int) = some (tb (cwF v) v.length) := by
 intro d
 induction d with
 | zero =>
  intro k i hi hk
  obtain ⟨k, rfl⟩ : ∃ m, k = m + 1 := ⟨k - 1, by omega⟩
  simp only [tensor_clamped.l0]
  obtain rfl : i = v.length := by omega
  rw [if_neg (by omega), Nat.sub_self, List.replicate_zero, List.append_nil]
 | succ d ih =>
  intro k i hi hk
  obtain ⟨k, rfl⟩ : ∃ m, k = m + 1 := ⟨k - 1, by omega⟩
  simp only [tensor_clamped.l0]
  rw [if_pos (by omega), if_pos (by omega), if_pos (by omega), rd_at, clamp_is (by unfold rng; omega), Option.bind_some, tb_fill _ _ _ (by omega), if_pos (by omega), Int.toNat_natCast,
   show clampF (nth v i) 16777216 = cwF v i from rfl, tb_set (by omega), up1 (by omega)]
  exact ih k (i + 1) (by omega) (by omega)
theorem clamped_is {v : List Int} (hn : v.length ≤ 35184372088832) {k : Nat} (hk : v.length < k) : tensor_clamped.f k v = some (tb (cwF v) v.length) := by
 unfold tensor_clamped.f
 rw [if_pos (by omega), if_pos (by omega), Int.toNat_natCast]
 exact clamped_l0 (by omega) v.length k 0 (by omega) hk
theorem prod64_l0 {a b : List Int} (hl : a.length ≤ b.length) (hn : a.length ≤ 281474976710656) : ∀ (d k i : Nat), i + d = a.length → d < k →
  tensor_products_int64_int64.l0 k a b (dotW (nth a) (nth b) i) (a.length : Int) (i : Int) = some (dotW (nth a) (nth b) a.length) := by
 intro d
 induction d with
 | zero =>
  intro k i hi hk
  obtain ⟨k, rfl⟩ : ∃ m, k = m + 1 := ⟨k - 1, by omega⟩
  simp only [tensor_products_int64_int64.l0]
  obtain rfl : i = a.length := by omega
  rw [if_neg (by omega)]
 | succ d ih =>
  intro k i hi hk
  obtain ⟨k, rfl⟩ : ∃ m, k = m + 1 := ⟨k - 1, by omega⟩
  simp only [tensor_products_int64_int64.l0]
  rw [if_pos (by omega), if_pos (by omega), if_pos (by omega), if_pos (by omega), rd_at, rd_at, up1 (by omega)]
  exact ih k (i + 1) (by omega) (by omega)
theorem prod64_is {a b : List Int} (hl : a.length ≤ b.length) (hn : a.length ≤ 281474976710656) {k : Nat} (hk : a.length < k) : tensor_products_int64_int64.f k a b = some (dotW (nth a) (nth b) a.length) :=
 prod64_l0 hl hn a.length k 0 (by omega) hk
theorem prod648_l0 {a b : List Int} (hb : Small b) (hl : a.length ≤ b.length) (hn : a.length ≤ 281474976710656) : ∀ (d k i : Nat), i + d = a.length → d < k →
  tensor_products_int64_int8.l0 k a b (dotW (nth a) (nth b) i) (a.length : Int) (i : Int) = some (dotW (nth a) (nth b) a.length) := by
 intro d
 induction d with
 | zero =>
  intro k i hi hk
  obtain ⟨k, rfl⟩ : ∃ m, k = m + 1 := ⟨k - 1, by omega⟩
  simp only [tensor_products_int64_int8.l0]
  obtain rfl : i = a.length := by omega
  rw [if_neg (by omega)]
 | succ d ih =>
  intro k i hi hk
  obtain ⟨k, rfl⟩ : ∃ m, k = m + 1 := ⟨k - 1, by omega⟩
  simp only [tensor_products_int64_int8.l0]
  rw [if_pos (by omega), if_pos (by omega), if_pos (by omega), if_pos (by omega), rd_at, rd_at, small_w hb, up1 (by omega)]
  exact ih k (i + 1) (by omega) (by omega)
theorem prod648_is {a b : List Int} (hb : Small b) (hl : a.length ≤ b.length) (hn : a.length ≤ 281474976710656) {k : Nat} (hk : a.length < k) : tensor_products_int64_int8.f k a b = some (dotW (nth a) (nth b) a.length) :=
 prod648_l0 hb hl hn a.length k 0 (by omega) hk
def rootF (v : Int) : Int := (fix_Sqrt.f 40 v).getD 0
theorem root_is {v : Int} (hv : rng v) {k : Nat} (hk : 40 ≤ k) : fix_Sqrt.f k v = some (rootF v) ∧ augurref01_Sqrt.f k v = some (rootF v) := by
 have both : ∃ s, fix_Sqrt.f 40 v = some s ∧ augurref01_Sqrt.f 40 v = some s := by
  rcases sqrt_is hv 40 (by omega) with ⟨h, e⟩ | ⟨h, s, e, hs⟩
  ·refine ⟨0, e, ?_⟩
   unfold augurref01_Sqrt.f; rw [if_pos h]
  ·refine ⟨s, e, ?_⟩
   unfold augurref01_Sqrt.f
   rw [if_neg (by omega)]
   have c : (2 : Int) ^ 32 = 4294967296 := by decide
   have h1 := hv.2
   obtain ⟨t, e2, ht⟩ := ref_loop v 32 40 0 3037000500 (by omega) (by omega) (by omega) (by rw [c]; omega) (by omega) (by omega) (by omega)
   rw [e2, isRoot_unique ht hs]
 obtain ⟨s, e1, e2⟩ := both
 have er : rootF v = s := by unfold rootF; rw [e1]; rfl
 rw [er]
 exact ⟨up (fun k => fix_Sqrt.mono v k) hk e1, up (fun k => augurref01_Sqrt.mono v k) hk e2⟩
def ssW (x : List Int) (n : Nat) : Int := dotW (cwF x) (cwF x) n
def szW (x : List Int) : Int := wrap64 (rootF (divF (ssW x x.length) x.length) + 1)
def nmW (x g : List Int) (i : Nat) : Int := IntKind.i8.wrap (clampF (divF (wrap64 (cwF x i * nth g i)) (szW x)) 127)
def normV (x g : List Int) : List Int × Int := if x.length = 0 ∨ x.length ≠ g.length then ([], 30) else (tb (nmW x g) x.length, 0)
theorem refnorm_l1 {x g : List Int} (hg : Small g) (hl : x.length = g.length) (hn : x.length < 140737488355328) : ∀ (d k i : Nat), i + d = x.length → d + 2 < k →
  augurref03_Norm.l1 k x g (rootF (divF (ssW x x.length) x.length)) (tb (nmW x g) i) (i : Int) = some (tb (nmW x g) x.length, 0) := by
 intro d
 induction d with
 | zero =>
  intro k i hi hk
  obtain ⟨k, rfl⟩ : ∃ m, k = m + 1 := ⟨k - 1, by omega⟩
  simp only [augurref03_Norm.l1]
  obtain rfl : i = x.length := by omega
  rw [if_neg (by omega)]
 | succ d ih =>
  intro k i hi hk
  obtain ⟨k, rfl⟩ : ∃ m, k = m + 1 := ⟨k - 1, by omega⟩
  have ih' := ih k (i + 1) (by omega) (by omega)
  have hc := refclamp_pos (a := nth x i) (m := 16777216) (by unfold rng; omega) (show 0 < k by omega)
  have h8 := fun y => refclamp8_pos y (show 0 < k by omega)
  simp only [augurref03_Norm.l1]
  rw [if_pos (by omega), if_pos (by omega), rd_at, hc, Option.bind_some, if_pos (by omega), rd_at, small_w hg, refdiv_is (wrap_rng _), Option.bind_some, h8, Option.bind_some, tb_length, if_pos (by omega),
   show IntKind.i8.wrap (clampF (divF (wrap64 (clampF (nth x i) 16777216 * nth g i)) (wrap64 (rootF (divF (ssW x x.length) x.length) + 1))) 127) = nmW x g i from rfl, ← tb_succ, up1 (by omega)]
  exact ih'
theorem refnorm_l0 {x g : List Int} (hg : Small g) (hl : x.length = g.length) (hn : x.length < 140737488355328) : ∀ (d k i : Nat), i + d = x.length → d + x.length + 50 < k →
  augurref03_Norm.l0 k x g (ssW x i) (i : Int) = some (tb (nmW x g) x.length, 0) := by
 intro d
 induction d with
 | zero =>
  intro k i hi hk
  obtain ⟨k, rfl⟩ : ∃ m, k = m + 1 := ⟨k - 1, by omega⟩
  simp only [augurref03_Norm.l0]
  obtain rfl : i = x.length := by omega
  rw [if_neg (by omega), refdiv_is (a := ssW x x.length) (dotW_rng _ _ _), Option.bind_some, (root_is (divF_rng (a := ssW x x.length) (dotW_rng _ _ _)) (by omega)).2, Option.bind_some]
  exact refnorm_l1 hg hl hn x.length k 0 (by omega) (by omega)
 | succ d ih =>
  intro k i hi hk
  obtain ⟨k, rfl⟩ : ∃ m, k = m + 1 := ⟨k - 1, by omega⟩
  have ih' := ih k (i + 1) (by omega) (by omega)
  have hc := refclamp_pos (a := nth x i) (m := 16777216) (by unfold rng; omega) (show 0 < k by omega)
  simp only [augurref03_Norm.l0]
  rw [if_pos (by omega), if_pos (by omega), rd_at, hc, Option.bind_some, up1 (by omega)]
  exact ih'
theorem refnorm_is {x g : List Int} (hg : Small g) (hn : x.length < 140737488355328) {k : Nat} (hk : 2 * x.length + 80 < k) : augurref03_Norm.f k x g = some (normV x g) := by
 obtain ⟨k, rfl⟩ : ∃ m, k = m + 1 := ⟨k - 1, by omega⟩
 have ht : augurref03_Norm.j0 (k + 1) x g true = some ([], 30) := by simp only [augurref03_Norm.j0]; rw [if_pos trivial]
 unfold augurref03_Norm.f normV
 by_cases c : x.length = 0
 ·rw [if_pos (by omega), if_pos (.inl c), ht]
 ·rw [if_neg (by omega)]
  by_cases c2 : x.length = g.length
  ·rw [show ((x.length : Int) != (g.length : Int)) = false from bne_eq_false_iff_eq.2 (by omega), if_neg (show ¬ (x.length = 0 ∨ x.length ≠ g.length) by omega)]
   simp only [augurref03_Norm.j0]
   rw [if_neg (by decide)]
   exact refnorm_l0 hg c2 hn x.length k 0 (by omega) (by omega)
  ·rw [show ((x.length : Int) != (g.length : Int)) = true from bne_iff_ne.2 (by omega), if_pos (.inr c2), ht]
end Go.Proofs.YtnioohhiphpplaaDoor.Dp
