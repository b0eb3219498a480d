/- Plainly: copies with marks behind, lists equal to themselves, the document's Turns. -/
import Derived.Test.YtnioohhiphpplaaDoorDt
import Derived.Test.YtnioohhiphpplaaDoorQa
set_option linter.unusedVariables false
set_option linter.unusedSimpArgs false
namespace Go.Proofs.YtnioohhiphpplaaDoor.Dp
open Go.RowKit Go.Proofs.YtnioohhiphpplaaDoor.Pplays Go.Proofs.YtnioohhiphpplaaDoorW.PrintWords Go.Proofs.YtnioohhiphpplaaDoorW.PrintLast Go.Proofs.YtnioohhiphpplaaDoorW.PrintMore Go.Proofs.YtnioohhiphpplaaDoor.M
theorem take_step {α : Type} {l : List α} {i : Nat} {x : α} (h : l[i]? = some x) : l.take i ++ [x] = l.take (i + 1) := by
 rw [List.take_add_one, h]; rfl
theorem nth_get {l : List Int} {i : Nat} (h : i < l.length) : l[i]? = some (nth l i) := by
 unfold nth
 rw [List.getD_eq_getElem?_getD, List.getElem?_eq_getElem h]; rfl
theorem rdT_get {l : List S87} {i : Nat} (h : i < l.length) : l[i]? = some (rd_T87 l (i : Int)) := by
 unfold rd_T87
 rw [Int.toNat_natCast, List.getD_eq_getElem?_getD, List.getElem?_eq_getElem h]; rfl
def marks : List Int := tb (fun i => (i : Int)) 64
def marksT : List S87 := tabT (fun i => ⟨(i : Int), 0⟩) 64
theorem marks_length : marks.length = 64 := tb_length _ _
theorem marksT_length : marksT.length = 64 := tabT_length _ _
theorem i8n {i : Nat} (h : i < 64) : IntKind.i8.wrap (i : Int) = (i : Int) := Wk.i8w (by omega) (by omega)
theorem copyN_l0 {l : List Int} (hn : l.length ≤ 16777216) : ∀ (d k i : Nat), i + d = l.length → d < k → augurref00_CopyNarrow.l0 k l (l.take i) (i : Int) = some l := by
 intro d
 induction d with
 | zero =>
  intro k i hi hk
  obtain ⟨k, rfl⟩ : ∃ m, k = m + 1 := ⟨k - 1, by omega⟩
  simp only [augurref00_CopyNarrow.l0]
  rw [if_neg (by omega), List.take_of_length_le (by omega)]
 | succ d ih =>
  intro k i hi hk
  obtain ⟨k, rfl⟩ : ∃ m, k = m + 1 := ⟨k - 1, by omega⟩
  have ih' := ih k (i + 1) (by omega) (by omega)
  simp only [augurref00_CopyNarrow.l0]
  rw [if_pos (by omega), if_pos (by omega), if_pos (by rw [List.length_take]; omega), rd_at, take_step (nth_get (by omega)), up1 (by omega)]
  exact ih'
theorem copyW_l0 {l : List Int} (hn : l.length ≤ 16777216) : ∀ (d k i : Nat), i + d = l.length → d < k → augurref00_CopyWide.l0 k l (l.take i) (i : Int) = some l := by
 intro d
 induction d with
 | zero =>
  intro k i hi hk
  obtain ⟨k, rfl⟩ : ∃ m, k = m + 1 := ⟨k - 1, by omega⟩
  simp only [augurref00_CopyWide.l0]
  rw [if_neg (by omega), List.take_of_length_le (by omega)]
 | succ d ih =>
  intro k i hi hk
  obtain ⟨k, rfl⟩ : ∃ m, k = m + 1 := ⟨k - 1, by omega⟩
  have ih' := ih k (i + 1) (by omega) (by omega)
  simp only [augurref00_CopyWide.l0]
  rw [if_pos (by omega), if_pos (by omega), if_pos (by rw [List.length_take]; omega), rd_at, take_step (nth_get (by omega)), up1 (by omega)]
  exact ih'
theorem copyT_l0 {l : List S87} (hn : l.length ≤ 16777216) : ∀ (d k i : Nat), i + d = l.length → d < k → augurref00_CopyTurns.l0 k l (l.take i) (i : Int) = some l := by
 intro d
 induction d with
 | zero =>
  intro k i hi hk
  obtain ⟨k, rfl⟩ : ∃ m, k = m + 1 := ⟨k - 1, by omega⟩
  simp only [augurref00_CopyTurns.l0]
  rw [if_neg (by omega), List.take_of_length_le (by omega)]
 | succ d ih =>
  intro k i hi hk
  obtain ⟨k, rfl⟩ : ∃ m, k = m + 1 := ⟨k - 1, by omega⟩
  have ih' := ih k (i + 1) (by omega) (by omega)
  simp only [augurref00_CopyTurns.l0]
  rw [if_pos (by omega), if_pos (by omega), if_pos (by rw [List.length_take]; omega), up1 (by omega)]
  rw [show ([⟨(rd_T87 l (i : Int)).f0, (rd_T87 l (i : Int)).f1⟩] : List S87) = [rd_T87 l (i : Int)] from rfl, take_step (rdT_get (by omega))]
  exact ih'
theorem narrowed_l0 {l : List Int} (hn : l.length ≤ 16777216) : ∀ (d k i : Nat), i + d = 64 → d < k → augurlaw03_narrowed.l0 k (l ++ tb (fun i => (i : Int)) i) (i : Int) = some (l ++ marks) := by
 intro d
 induction d with
 | zero =>
  intro k i hi hk
  obtain ⟨k, rfl⟩ : ∃ m, k = m + 1 := ⟨k - 1, by omega⟩
  obtain rfl : i = 64 := by omega
  simp only [augurlaw03_narrowed.l0]
  rw [if_neg (by omega)]
  rfl
 | succ d ih =>
  intro k i hi hk
  obtain ⟨k, rfl⟩ : ∃ m, k = m + 1 := ⟨k - 1, by omega⟩
  have ih' := ih k (i + 1) (by omega) (by omega)
  simp only [augurlaw03_narrowed.l0]
  rw [if_pos (by omega), if_pos (by rw [List.length_append, tb_length]; omega), i8n (by omega), List.append_assoc, ← tb_succ (fun i => (i : Int)), up1 (by omega)]
  exact ih'
theorem widened_l0 {l : List Int} (hn : l.length ≤ 16777216) : ∀ (d k i : Nat), i + d = 64 → d < k → augurlaw03_widened.l0 k (l ++ tb (fun i => (i : Int)) i) (i : Int) = some (l ++ marks) := by
 intro d
 induction d with
 | zero =>
  intro k i hi hk
  obtain ⟨k, rfl⟩ : ∃ m, k = m + 1 := ⟨k - 1, by omega⟩
  obtain rfl : i = 64 := by omega
  simp only [augurlaw03_widened.l0]
  rw [if_neg (by omega)]
  rfl
 | succ d ih =>
  intro k i hi hk
  obtain ⟨k, rfl⟩ : ∃ m, k = m + 1 := ⟨k - 1, by omega⟩
  have ih' := ih k (i + 1) (by omega) (by omega)
  simp only [augurlaw03_widened.l0]
  rw [if_pos (by omega), if_pos (by rw [List.length_append, tb_length]; omega), List.append_assoc, ← tb_succ (fun i => (i : Int)), up1 (by omega)]
  exact ih'
theorem turned_l0 {l : List S87} (hn : l.length ≤ 16777216) : ∀ (d k i : Nat), i + d = 64 → d < k → augurlaw03_turned.l0 k (l ++ tabT (fun i => ⟨(i : Int), 0⟩) i) (i : Int) = some (l ++ marksT) := by
 intro d
 induction d with
 | zero =>
  intro k i hi hk
  obtain ⟨k, rfl⟩ : ∃ m, k = m + 1 := ⟨k - 1, by omega⟩
  obtain rfl : i = 64 := by omega
  simp only [augurlaw03_turned.l0]
  rw [if_neg (by omega)]
  rfl
 | succ d ih =>
  intro k i hi hk
  obtain ⟨k, rfl⟩ : ∃ m, k = m + 1 := ⟨k - 1, by omega⟩
  have ih' := ih k (i + 1) (by omega) (by omega)
  simp only [augurlaw03_turned.l0]
  rw [if_pos (by omega), if_pos (by rw [List.length_append, tabT_length]; omega), List.append_assoc, ← tabT_succ (fun i => (⟨(i : Int), 0⟩ : S87)), up1 (by omega)]
  exact ih'
theorem narrowed_is {l : List Int} (hn : l.length ≤ 16777216) {k : Nat} (hk : l.length + 64 < k) : augurlaw03_narrowed.f k l = some (l ++ marks) := by
 have h1 := copyN_l0 hn l.length k 0 (by omega) (by omega)
 have h2 := narrowed_l0 hn 64 k 0 (by omega) (by omega)
 unfold augurlaw03_narrowed.f augurref00_CopyNarrow.f
 rw [show ([] : List Int) = l.take 0 from rfl, show ((0 : Int)) = ((0 : Nat) : Int) from rfl, h1, Option.bind_some]
 rw [show tb (fun i => (i : Int)) 0 = [] from rfl, List.append_nil] at h2
 exact h2
theorem widened_is {l : List Int} (hn : l.length ≤ 16777216) {k : Nat} (hk : l.length + 64 < k) : augurlaw03_widened.f k l = some (l ++ marks) := by
 have h1 := copyW_l0 hn l.length k 0 (by omega) (by omega)
 have h2 := widened_l0 hn 64 k 0 (by omega) (by omega)
 unfold augurlaw03_widened.f augurref00_CopyWide.f
 rw [show ([] : List Int) = l.take 0 from rfl, show ((0 : Int)) = ((0 : Nat) : Int) from rfl, h1, Option.bind_some]
 rw [show tb (fun i => (i : Int)) 0 = [] from rfl, List.append_nil] at h2
 exact h2
theorem turned_is {l : List S87} (hn : l.length ≤ 16777216) {k : Nat} (hk : l.length + 64 < k) : augurlaw03_turned.f k l = some (l ++ marksT) := by
 have h1 := copyT_l0 hn l.length k 0 (by omega) (by omega)
 have h2 := turned_l0 hn 64 k 0 (by omega) (by omega)
 unfold augurlaw03_turned.f augurref00_CopyTurns.f
 rw [show ([] : List S87) = l.take 0 from rfl, show ((0 : Int)) = ((0 : Nat) : Int) from rfl, h1, Option.bind_some]
 rw [show tabT (fun i => (⟨(i : Int), 0⟩ : S87)) 0 = [] from rfl, List.append_nil] at h2
 exact h2
theorem eqn_self {l : List Int} (hn : l.length ≤ 281474976710656) : ∀ (d k i : Nat), i + d = l.length → d < k → augurref00_EqNarrow.l0 k l l (i : Int) = some true := by
 intro d
 induction d with
 | zero =>
  intro k i hi hk
  obtain ⟨k, rfl⟩ : ∃ m, k = m + 1 := ⟨k - 1, by omega⟩
  simp only [augurref00_EqNarrow.l0]
  rw [if_neg (by omega)]
 | succ d ih =>
  intro k i hi hk
  obtain ⟨k, rfl⟩ : ∃ m, k = m + 1 := ⟨k - 1, by omega⟩
  have ih' := ih k (i + 1) (by omega) (by omega)
  simp only [augurref00_EqNarrow.l0]
  rw [if_pos (by omega), if_pos (by omega), if_pos (by omega), if_pos trivial, up1 (by omega)]
  exact ih'
theorem eqw_self {l : List Int} (hn : l.length ≤ 281474976710656) : ∀ (d k i : Nat), i + d = l.length → d < k → augurref00_EqWide.l0 k l l (i : Int) = some true := by
 intro d
 induction d with
 | zero =>
  intro k i hi hk
  obtain ⟨k, rfl⟩ : ∃ m, k = m + 1 := ⟨k - 1, by omega⟩
  simp only [augurref00_EqWide.l0]
  rw [if_neg (by omega)]
 | succ d ih =>
  intro k i hi hk
  obtain ⟨k, rfl⟩ : ∃ m, k = m + 1 := ⟨k - 1, by omega⟩
  have ih' := ih k (i + 1) (by omega) (by omega)
  simp only [augurref00_EqWide.l0]
  rw [if_pos (by omega), if_pos (by omega), if_pos (by omega), if_pos trivial, up1 (by omega)]
  exact ih'
theorem eqt_self {l : List S87} (hn : l.length ≤ 281474976710656) : ∀ (d k i : Nat), i + d = l.length → d < k → augurref00_EqTurns.l0 k l l (i : Int) = some true := by
 intro d
 induction d with
 | zero =>
  intro k i hi hk
  obtain ⟨k, rfl⟩ : ∃ m, k = m + 1 := ⟨k - 1, by omega⟩
  simp only [augurref00_EqTurns.l0]
  rw [if_neg (by omega)]
 | succ d ih =>
  intro k i hi hk
  obtain ⟨k, rfl⟩ : ∃ m, k = m + 1 := ⟨k - 1, by omega⟩
  have ih' := ih k (i + 1) (by omega) (by omega)
  simp only [augurref00_EqTurns.l0]
  rw [if_pos (by omega), if_pos (by omega), if_pos (by omega), if_pos trivial, if_pos trivial, up1 (by omega)]
  exact ih'
theorem eqNarrow_is {l : List Int} (hn : l.length ≤ 281474976710656) {k : Nat} (hk : l.length < k) : augurref00_EqNarrow.f k l l = some true := by
 unfold augurref00_EqNarrow.f
 rw [if_pos rfl]
 exact eqn_self hn l.length k 0 (by omega) hk
theorem eqWide_is {l : List Int} (hn : l.length ≤ 281474976710656) {k : Nat} (hk : l.length < k) : augurref00_EqWide.f k l l = some true := by
 unfold augurref00_EqWide.f
 rw [if_pos rfl]
 exact eqw_self hn l.length k 0 (by omega) hk
theorem eqTurns_is {l : List S87} (hn : l.length ≤ 281474976710656) {k : Nat} (hk : l.length < k) : augurref00_EqTurns.f k l l = some true := by
 unfold augurref00_EqTurns.f
 rw [if_pos rfl]
 exact eqt_self hn l.length k 0 (by omega) hk
theorem eqns_self {l : List (List Int)} {m : Nat} (hn : l.length ≤ 281474976710656) (hm : m ≤ 281474976710656) (hr : ∀ x ∈ l, x.length ≤ m) : ∀ (d k i : Nat), i + d = l.length → d + m + 1 < k → augurref00_EqNarrows.l0 k l l (i : Int) = some true := by
 intro d
 induction d with
 | zero =>
  intro k i hi hk
  obtain ⟨k, rfl⟩ : ∃ m, k = m + 1 := ⟨k - 1, by omega⟩
  simp only [augurref00_EqNarrows.l0]
  rw [if_neg (by omega)]
 | succ d ih =>
  intro k i hi hk
  obtain ⟨k, rfl⟩ : ∃ m, k = m + 1 := ⟨k - 1, by omega⟩
  have ih' := ih k (i + 1) (by omega) (by omega)
  have hrow : (rd_L3 l (i : Int)).length ≤ m := by
   rw [rd3_at]
   unfold vrow
   rw [List.getD_eq_getElem?_getD, List.getElem?_eq_getElem (show i < l.length by omega)]
   exact hr _ (List.getElem_mem _)
  simp only [augurref00_EqNarrows.l0]
  rw [if_pos (by omega), if_pos (by omega), if_pos (by omega), eqNarrow_is (by omega) (by omega), Option.bind_some, if_pos rfl, up1 (by omega)]
  exact ih'
theorem eqNarrows_is {l : List (List Int)} {m : Nat} (hn : l.length ≤ 281474976710656) (hm : m ≤ 281474976710656) (hr : ∀ x ∈ l, x.length ≤ m) {k : Nat} (hk : l.length + m + 1 < k) : augurref00_EqNarrows.f k l l = some true := by
 unfold augurref00_EqNarrows.f
 rw [if_pos rfl]
 exact eqns_self hn hm hr l.length k 0 (by omega) hk
theorem eqtb_self {l : List (List S87)} {m : Nat} (hn : l.length ≤ 281474976710656) (hm : m ≤ 281474976710656) (hr : ∀ x ∈ l, x.length ≤ m) : ∀ (d k i : Nat), i + d = l.length → d + m + 1 < k → augurlaw03_eqTables.l0 k l l (i : Int) = some true := by
 intro d
 induction d with
 | zero =>
  intro k i hi hk
  obtain ⟨k, rfl⟩ : ∃ m, k = m + 1 := ⟨k - 1, by omega⟩
  simp only [augurlaw03_eqTables.l0]
  rw [if_neg (by omega)]
 | succ d ih =>
  intro k i hi hk
  obtain ⟨k, rfl⟩ : ∃ m, k = m + 1 := ⟨k - 1, by omega⟩
  have ih' := ih k (i + 1) (by omega) (by omega)
  have hrow : (rd_L4 l (i : Int)).length ≤ m := by
   unfold rd_L4
   rw [Int.toNat_natCast, List.getD_eq_getElem?_getD, List.getElem?_eq_getElem (show i < l.length by omega)]
   exact hr _ (List.getElem_mem _)
  simp only [augurlaw03_eqTables.l0]
  rw [if_pos (by omega), if_pos (by omega), if_pos (by omega), eqTurns_is (by omega) (by omega), Option.bind_some, if_pos rfl, up1 (by omega)]
  exact ih'
theorem eqTables_is {l : List (List S87)} {m : Nat} (hn : l.length ≤ 281474976710656) (hm : m ≤ 281474976710656) (hr : ∀ x ∈ l, x.length ≤ m) {k : Nat} (hk : l.length + m + 1 < k) : augurlaw03_eqTables.f k l l = some true := by
 unfold augurlaw03_eqTables.f
 rw [if_pos rfl]
 exact eqtb_self hn hm hr l.length k 0 (by omega) hk
theorem vectors_l0 {vs : List (List Int)} {a b d : List Int} {x : List Int} {t : List S87} {m0 m1 m2 nn : Int} {e0 e1 e2 e3 : List Int} {e4 : List S87} (hn : vs.length ≤ 16777216) : ∀ (dd k i : Nat), i + dd = vs.length → dd < k →
  augurlaw03_In_vectors.l0 k (vs.take i) (i : Int) a b d x t (vs.map (· ++ marks)) m0 m1 m2 e0 e1 e2 e3 vs e4 nn = some vs := by
 intro dd
 induction dd with
 | zero =>
  intro k i hi hk
  obtain ⟨k, rfl⟩ : ∃ m, k = m + 1 := ⟨k - 1, by omega⟩
  simp only [augurlaw03_In_vectors.l0]
  rw [if_neg (by omega), List.take_of_length_le (by omega)]
 | succ dd ih =>
  intro k i hi hk
  obtain ⟨k, rfl⟩ : ∃ m, k = m + 1 := ⟨k - 1, by omega⟩
  have ih' := ih k (i + 1) (by omega) (by omega)
  have hil : i < vs.length := by omega
  have hr : rd_L3 (vs.map (· ++ marks)) (i : Int) = vs[i] ++ marks := by
   unfold rd_L3
   rw [Int.toNat_natCast, List.getD_eq_getElem?_getD, List.getElem?_map, List.getElem?_eq_getElem hil]; rfl
  have hr2 : rd_L3 vs (i : Int) = vs[i] := by
   unfold rd_L3
   rw [Int.toNat_natCast, List.getD_eq_getElem?_getD, List.getElem?_eq_getElem hil]; rfl
  simp only [augurlaw03_In_vectors.l0]
  rw [hr, hr2, if_pos (by omega), if_pos (by omega), if_pos (by rw [List.length_map]; omega), if_pos (by omega), if_pos (by rw [List.length_append]; omega), if_pos (by rw [List.length_take]; omega), Int.toNat_natCast, List.take_left, take_step (List.getElem?_eq_getElem hil), up1 (by omega)]
  exact ih'
theorem small_is {x : Int} : augurref03_small.f x = some (decide (-16384 ≤ x ∧ x ≤ 16384)) := by
 unfold augurref03_small.f
 by_cases h : x ≥ -16384
 ·rw [if_pos h]
  congr 1
  exact decide_eq_decide.2 ⟨fun h2 => ⟨h, h2⟩, fun h2 => h2.2⟩
 ·rw [if_neg h]
  congr 1
  exact (decide_eq_false (fun h2 => h h2.1)).symm
theorem step_is {a b c s : Int} {k : Nat} (hk : 63 < k) : augurref03_Step.f k a b c s = some (clampF (Wk.tuX a b c s) 16384, clampF (Wk.tuY a b c s) 16384) := by
 unfold augurref03_Step.f
 rw [Dp.refshift_is (Dp.wrap_rng _) _ hk, Option.bind_some, Dp.refshift_is (Dp.wrap_rng _) _ hk, Option.bind_some, Dp.refclamp_pos (by unfold M.rng; omega) (by omega), Option.bind_some, Dp.refclamp_pos (by unfold M.rng; omega) (by omega), Option.bind_some]
 rfl
def Ut (us : List S87) (i : Nat) : S87 := rd_T87 us (i : Int)
theorem Ut_tab (us : List S87) : tabT (Ut us) us.length = us := by
 refine List.ext_getElem? fun i => ?_
 by_cases h : i < us.length
 ·rw [tabT_get? h, rdT_get h]; rfl
 ·rw [List.getElem?_eq_none (by rw [tabT_length]; omega), List.getElem?_eq_none (by omega)]
theorem rowsT_length (U : Nat → S87) (L n : Nat) : (Wk.rowsT U L n).length = n := by unfold Wk.rowsT; rw [List.length_map, List.length_range]
theorem rowsT_succ (U : Nat → S87) (L n : Nat) : Wk.rowsT U L (n + 1) = Wk.rowsT U L n ++ [tabT (fun i => turnN (U i) n) L] := by unfold Wk.rowsT; simp [List.range_succ]
theorem rowsT_rd {U : Nat → S87} {L n p : Nat} (h : p < n) : rd_L4 (Wk.rowsT U L n) (p : Int) = tabT (fun i => turnN (U i) p) L := by
 unfold rd_L4 Wk.rowsT
 rw [Int.toNat_natCast, List.getD_eq_getElem?_getD, List.getElem?_map, List.getElem?_range h]; rfl
theorem rturns_l2 {us : List S87} {n p : Nat} (hn : us.length ≤ 16777216) (hp : p < 64) (k : Nat) (hk : 80 ≤ k) : ∀ (d i : Nat), i + d = us.length →
  augurref03_Turns.l2 (k + d + 1) us (n : Int) (Wk.rowsT (Ut us) us.length p) (p : Int) (tabT (fun i => turnN (Ut us i) p) i) (i : Int) = augurref03_Turns.l1 k us (n : Int) (Wk.rowsT (Ut us) us.length (p + 1)) ((p + 1 : Nat) : Int) := by
 intro d
 induction d with
 | zero =>
  intro i hi
  obtain rfl : i = us.length := by omega
  simp only [augurref03_Turns.l2]
  rw [if_neg (by omega), if_pos (by rw [rowsT_length]; omega), up1 (by omega), rowsT_succ]
 | succ d ih =>
  intro i hi
  have ih' := ih (i + 1) (by omega)
  rw [show k + (d + 1) + 1 = (k + d + 1) + 1 from rfl]
  have hfu : 63 < k + d + 1 := by omega
  generalize k + d + 1 = m at ih' hfu ⊢
  rw [tabT_succ] at ih'
  simp only [augurref03_Turns.l2]
  rw [if_pos (by omega)]
  cases p with
  | zero =>
   rw [if_neg (by omega), if_pos (by rw [tabT_length]; omega), up1 (by omega)]
   exact ih'
  | succ q =>
   have e1 : wrap64 (((q + 1 : Nat) : Int) - 1) = (q : Int) := by rw [w64' (by omega) (by omega)]; omega
   have e2 : rd_T87 (tabT (fun i => turnN (Ut us i) q) us.length) (i : Int) = turnN (Ut us i) q := tabT_rd (by omega)
   rw [if_pos (by omega), e1, if_pos (by omega), if_pos (by rw [rowsT_length]; omega), if_pos (by omega), rowsT_rd (by omega), if_pos (by rw [tabT_length]; omega), e2, step_is hfu, Option.bind_some, if_pos (by rw [tabT_length]; omega), up1 (by omega)]
   exact ih'
theorem rturns_l1 {us : List S87} {n : Nat} (hn : us.length ≤ 16777216) (hp : n ≤ 64) : ∀ (d p : Nat), p + d = n →
  augurref03_Turns.l1 (80 + d * (us.length + 2) + 1) us (n : Int) (Wk.rowsT (Ut us) us.length p) (p : Int) = some (Wk.rowsT (Ut us) us.length n, 0) := by
 intro d
 induction d with
 | zero =>
  intro p hpp
  obtain rfl : p = n := by omega
  rw [Nat.zero_mul]
  simp only [augurref03_Turns.l1]
  rw [if_neg (by omega)]
 | succ d ih =>
  intro p hpp
  have ih' := ih (p + 1) (by omega)
  have h1 := rturns_l2 (us := us) (n := n) (p := p) hn (by omega) (80 + d * (us.length + 2) + 1) (by omega) us.length 0 (by omega)
  rw [ih'] at h1
  rw [show 80 + (d + 1) * (us.length + 2) + 1 = (80 + d * (us.length + 2) + 1 + us.length + 1) + 1 by rw [Nat.succ_mul]; omega]
  generalize 80 + d * (us.length + 2) + 1 + us.length + 1 = m at h1 ⊢
  simp only [augurref03_Turns.l1]
  rw [if_pos (by omega)]
  exact h1
theorem rturns_l0 {us : List S87} {n : Int} (hn : us.length ≤ 16777216) (hg : ∀ i, i < us.length → uniT (Ut us i)) (k : Nat) : ∀ (d i : Nat), i + d = us.length →
  augurref03_Turns.l0 (k + d + 1) us n (i : Int) = augurref03_Turns.l1 k us n [] 0 := by
 intro d
 induction d with
 | zero =>
  intro i hi
  simp only [augurref03_Turns.l0]
  rw [if_neg (by omega)]
 | succ d ih =>
  intro i hi
  have ih' := ih (i + 1) (by omega)
  obtain ⟨g1, g2⟩ := hg i (by omega)
  unfold uni Ut at g1 g2
  rw [show k + (d + 1) + 1 = (k + d + 1) + 1 from rfl]
  generalize k + d + 1 = m at ih' ⊢
  simp only [augurref03_Turns.l0]
  rw [if_pos (by omega), if_pos (by omega), small_is, Option.bind_some, small_is, Option.bind_some, if_pos (decide_eq_true g1), if_pos (decide_eq_true g2), up1 (by omega)]
  exact ih'
theorem rturns_bad {us : List S87} {n : Int} (hn : us.length ≤ 16777216) (hb : ¬ ∀ i, i < us.length → uniT (Ut us i)) : ∀ (d k i : Nat), i + d = us.length → (∀ j, j < i → uniT (Ut us j)) → d < k →
  augurref03_Turns.l0 k us n (i : Int) = some ([], 30) := by
 intro d
 induction d with
 | zero =>
  intro k i hi hg hk
  exact absurd (fun j hj => hg j (by omega)) hb
 | succ d ih =>
  intro k i hi hg hk
  obtain ⟨k, rfl⟩ : ∃ m, k = m + 1 := ⟨k - 1, by omega⟩
  simp only [augurref03_Turns.l0]
  rw [if_pos (by omega), if_pos (by omega), small_is, Option.bind_some, small_is, Option.bind_some]
  by_cases c1 : -16384 ≤ (rd_T87 us (i : Int)).f0 ∧ (rd_T87 us (i : Int)).f0 ≤ 16384
  ·rw [if_pos (decide_eq_true c1)]
   by_cases c2 : -16384 ≤ (rd_T87 us (i : Int)).f1 ∧ (rd_T87 us (i : Int)).f1 ≤ 16384
   ·rw [if_pos (decide_eq_true c2), up1 (by omega)]
    exact ih k (i + 1) (by omega) (fun j hj => by
     rcases Nat.lt_or_ge j i with h | h
     ·exact hg j h
     ·have : j = i := by omega
      subst this
      exact ⟨c1, c2⟩) (by omega)
   ·rw [if_neg (by rw [decide_eq_false c2]; decide)]
  ·rw [if_neg (by rw [decide_eq_false c1]; decide)]
theorem refturns_arg {us : List S87} {n : Int} (h : n < 0 ∨ 64 < n) (k : Nat) : augurref03_Turns.f (k + 1) us n = some ([], 1) := by
 have ht : augurref03_Turns.j0 (k + 1) us n true = some ([], 1) := by simp only [augurref03_Turns.j0]; rw [if_pos trivial]
 unfold augurref03_Turns.f
 by_cases c : n < 0
 ·rw [if_pos c, ht]
 ·rw [if_neg c, decide_eq_true (show n > 64 by omega), ht]
theorem refturns_j {us : List S87} {n : Nat} (hn : n ≤ 64) (k : Nat) : augurref03_Turns.f (k + 1) us (n : Int) = augurref03_Turns.l0 k us (n : Int) 0 := by
 unfold augurref03_Turns.f
 rw [if_neg (by omega), decide_eq_false (show ¬ (n : Int) > 64 by omega)]
 simp only [augurref03_Turns.j0]
 rw [if_neg (by decide)]
theorem refturns_bad {us : List S87} {n : Nat} (hn : n ≤ 64) (hL : us.length ≤ 16777216) (hb : ¬ ∀ i, i < us.length → uniT (Ut us i)) {k : Nat} (hk : us.length + 2 < k) : augurref03_Turns.f k us (n : Int) = some ([], 30) := by
 obtain ⟨k, rfl⟩ : ∃ m, k = m + 1 := ⟨k - 1, by omega⟩
 rw [refturns_j hn]
 exact rturns_bad hL hb us.length k 0 (by omega) (fun j hj => by omega) (by omega)
theorem refturns_good {us : List S87} {n : Nat} (hn : n ≤ 64) (hL : us.length ≤ 16777216) (hg : ∀ i, i < us.length → uniT (Ut us i)) : augurref03_Turns.f (80 + n * (us.length + 2) + us.length + 3) us (n : Int) = some (Wk.rowsT (Ut us) us.length n, 0) := by
 have h := rturns_l1 hL hn n 0 (by omega)
 rw [show 80 + n * (us.length + 2) + us.length + 3 = (80 + n * (us.length + 2) + 1 + us.length + 1) + 1 by omega, refturns_j hn]
 have h0 := rturns_l0 (n := (n : Int)) hL hg (80 + n * (us.length + 2) + 1) us.length 0 (by omega)
 exact h0.trans h
end Go.Proofs.YtnioohhiphpplaaDoor.Dp
