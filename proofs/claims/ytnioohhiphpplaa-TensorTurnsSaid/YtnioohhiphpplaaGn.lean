/- General words: lists written over place by place; permutations; own rows in different blocks; numbers at a place of a list that goes round. -/
import Derived.Test.YtnioohhiphpplaaTb
import Derived.Test.YtnioohhiphpplaaOr
import Derived.Test.YtnioohhiphpplaaPEqNarrowx1
import Derived.Test.YtnioohhiphpplaaPorderx1
import Derived.Test.YtnioohhiphpplaaPEqWidex1
set_option linter.unusedVariables false
namespace Go.Proofs.Ytnioohhiphpplaa.M
open Go.RowKit Go.Proofs.YtnioohhiphpplaaW.PrintWords Go.Proofs.YtnioohhiphpplaaW.PrintLast Go.Proofs.YtnioohhiphpplaaW.PrintMore Go.Proofs.Ytnioohhiphpplaa.Br
theorem sumN_congr' {f g : Nat → Int} {n : Nat} (h : ∀ j, j < n → f j = g j) : sumN f n = sumN g n := by
  induction n with
  | zero => rfl
  | succ n ih => show sumN f n + f n = sumN g n + g n; rw [ih (fun j hj => h j (by omega)), h n (by omega)]
theorem tab_congr {f g : Nat → Int} {n : Nat} (h : ∀ i, i < n → f i = g i) : tab f n = tab g n :=
  List.map_congr_left fun i hi => h i (List.mem_range.1 hi)
/-- Written over up to place i. -/
def overF (f g : Nat → Int) (i j : Nat) : Int := if j < i then f j else g j
theorem over_set (f g : Nat → Int) {n i : Nat} (_h : i < n) : (tab (overF f g i) n).set i (f i) = tab (overF f g (i + 1)) n := by
  refine List.ext_getElem (by rw [List.length_set, tab_length, tab_length]) fun j h1 h2 => ?_
  rw [tab_length] at h2
  rw [List.getElem_set]
  by_cases c : i = j
  · rw [if_pos c]; subst c; simp [tab, overF]
  · rw [if_neg c]
    simp only [tab, overF, List.getElem_map, List.getElem_range]
    by_cases c2 : j < i
    · rw [if_pos c2, if_pos (by omega)]
    · rw [if_neg c2, if_neg (by omega)]
theorem over_zero (f g : Nat → Int) (n : Nat) : tab (overF f g 0) n = tab g n := tab_congr fun i _ => by unfold overF; rw [if_neg (by omega)]
theorem over_all (f g : Nat → Int) (n : Nat) : tab (overF f g n) n = tab f n := tab_congr fun i hi => by unfold overF; rw [if_pos hi]
theorem perm_surj {P : List Int} {n : Nat} (h : P.Perm (iota n)) {j : Nat} (hj : j < n) : ∃ i, i < n ∧ nth P i = j := by
  have hl : P.length = n := by rw [h.length_eq, iota_length]
  have hm : (j : Int) ∈ P := h.mem_iff.2 (List.mem_map.2 ⟨j, List.mem_range.2 hj, rfl⟩)
  obtain ⟨i, hi, e⟩ := List.mem_iff_getElem.1 hm
  refine ⟨i, by omega, ?_⟩
  unfold nth
  rw [List.getD_eq_getElem?_getD, List.getElem?_eq_getElem hi]
  exact e

theorem rdOf_tab {f : Nat → Int} {n i : Nat} (h : i < n) : rdOf 0 (tab f n) (i : Int) = f i := by
  have := tab_nth (f := f) h
  unfold nth at this
  unfold rdOf
  rw [Int.toNat_natCast]
  exact this
theorem over_at (f g : Nat → Int) (i : Nat) : overF f g i i = g i := by unfold overF; rw [if_neg (by omega)]
/-- The places in another order. -/
def movF (l P : List Int) (j : Nat) : Int := nth l (nth P j).toNat
/-- The number at a place of a list that goes round. -/
def atF (l : List Int) (i : Nat) : Int := (Pshaped.augurlaw03_at.f l (i : Int)).getD 0
theorem at_eq {l : List Int} (hl : Small l) (i : Nat) : Pshaped.augurlaw03_at.f l (i : Int) = some (atF l i) ∧ -128 ≤ atF l i ∧ atF l i ≤ 127 := by
  obtain ⟨x, e, h⟩ := at_is hl (i := (i : Int)) (by omega)
  unfold atF
  rw [e]
  exact ⟨rfl, h⟩
theorem eqn_loop (l : List Int) (hl : l.length ≤ 140737488351232) (d : Nat) : ∀ (k i : Nat), i + d = l.length → d < k → PEqNarrow.augurref00_EqNarrow.l0 k l l (i : Int) = some true := by
  induction d with
  | zero =>
    intro k i hi hk
    obtain ⟨k, rfl⟩ : ∃ m, k = m + 1 := ⟨k - 1, by omega⟩
    simp only [PEqNarrow.augurref00_EqNarrow.l0]
    rw [if_neg (by omega)]
  | succ d ih =>
    intro k i hi hk
    obtain ⟨k, rfl⟩ : ∃ m, k = m + 1 := ⟨k - 1, by omega⟩
    simp only [PEqNarrow.augurref00_EqNarrow.l0]
    rw [if_pos (by omega), if_pos (by omega), if_pos (by omega)]
    simp only [if_true]
    rw [w64' (by omega) (by omega)]
    exact ih k (i + 1) (by omega) (by omega)
theorem eqn_is (l : List Int) (hl : l.length ≤ 140737488351232) : PEqNarrow.augurref00_EqNarrow.f (l.length + 1) l l = some true := by
  unfold PEqNarrow.augurref00_EqNarrow.f
  rw [if_pos rfl]
  exact eqn_loop l hl l.length (l.length + 1) 0 (by omega) (by omega)
end Go.Proofs.Ytnioohhiphpplaa.M
namespace Go.Proofs.Ytnioohhiphpplaa.Wk
open Go.RowKit Go.Proofs.YtnioohhiphpplaaW.PrintWords Go.Proofs.YtnioohhiphpplaaW.PrintLast Go.Proofs.YtnioohhiphpplaaW.PrintMore Go.Proofs.Ytnioohhiphpplaa.M Go.Proofs.Ytnioohhiphpplaa.Br
/-- Two own rows in different blocks. -/
def Apart (u v : Value) : Prop := ∀ k, u.ownBlock = some k → some k ≠ v.ownBlock
theorem Apart.symm {u v : Value} (h : Apart u v) : Apart v u := fun k hk e => h k e.symm hk.symm
theorem Apart.nil (v : Value) : Apart (.slice none 0 0) v := fun k hk => by simp [Value.ownBlock] at hk
theorem Apart.after {u v v1 : Value} {W : World} (h : Apart v u) (hlt : ∀ k, u.ownBlock = some k → k < W.heap.size) (hat : v1.ownBlock = v.ownBlock ∨ ∃ b, v1.ownBlock = some b ∧ W.heap.size ≤ b) : Apart v1 u := by
  intro k hk e
  rcases hat with hat | ⟨b, hb, hle⟩
  · exact h k (hat ▸ hk) e
  · rw [hb] at hk
    injection hk with hk
    subst hk
    have := hlt b e.symm
    omega

/-- One list grows: another stays as it was, and apart. -/
theorem updK {k : IntKind} {e : TypeId} {u v v1 : Value} {W w1 : World} {base : Nat} {xs : List Int} (hR : Kd.R (Kd.int k) e W base (fun _ => True) u xs) (ha : Apart v u) (hg : W.grownBy w1 v.ownBlock) (hat : v1.ownBlock = v.ownBlock ∨ ∃ b, v1.ownBlock = some b ∧ W.heap.size ≤ b) :
    Kd.R (Kd.int k) e w1 base (fun _ => True) u xs ∧ Apart v1 u := ⟨Kd.R_grown2 hR rfl hg ha, ha.after (Kd.R_lt hR) hat⟩
/-- Two lists of 8 bits that are one list. -/
theorem eqn_calls {A0 A1 : Option Addr} {n m c0 c1 : Nat} {a b : List Int} (w : World) (h0 : a.length = n) (h1 : b.length = m) (hr0 : Kd.C (Kd.int .i8) w A0 a.length a) (hc0 : n ≤ c0) (hr1 : Kd.C (Kd.int .i8) w A1 b.length b) (hc1 : m ≤ c1)
    (hab : a = b) (hl : n ≤ 140737488351232) : Calls Try.prog 19 #[.slice A0 n c0, .slice A1 m c1] w fun e w' => e = .returned (.bool true) ∧ ∃ d, w' = w.drewN d := by
  subst hab h0 h1
  refine (PEqNarrow.augurref00_EqNarrow.calls (a.length + 1) A0 c0 a A1 c1 a true w hr0 hc0 hr1 hc1 (eqn_is a hl)).mono ?_
  rintro e w' ⟨rfl, h⟩
  exact ⟨rfl, h.out⟩
/-- The number at a place of a list that goes round. -/
theorem at_calls {A0 : Option Addr} {c0 : Nat} {l : List Int} (w : World) (hr0 : Kd.C (Kd.int .i8) w A0 l.length l) (hc0 : l.length ≤ c0) (hl : Small l) (i : Nat) :
    Calls Try.prog 17 #[.slice A0 l.length c0, .int .i64 i] w fun e w' => e = .returned (.int .i8 (atF l i)) ∧ ∃ d, w' = w.drewN d := by
  refine (Pshaped.augurlaw03_at.calls A0 c0 l i (atF l i) w hr0 hc0 (at_eq hl i).1).mono ?_
  rintro e w' ⟨rfl, h⟩
  exact ⟨rfl, h.out⟩
/-- A permutation of as many places. -/
theorem order_calls {A0 : Option Addr} {c0 n : Nat} {l : List Int} (w : World) (hr0 : Kd.C (Kd.int .i64) w A0 l.length l) (hc0 : l.length ≤ c0) (hn : n ≤ 17592186044416) :
    ∃ P : List Int, P.Perm (iota n) ∧ Calls Try.prog 10 #[.int .i64 n, .slice A0 l.length c0] w fun e w' => ∃ v0 : Value, e = .returned v0 ∧ Kd.R (Kd.int .i64) 3 w' w.heap.size (fun _ => True) v0 P ∧ Below w.heap.size w w' := by
  rcases Nat.eq_zero_or_pos n with h | h
  · subst h
    exact ⟨[], List.Perm.refl _, Porder.augurlaw03_order.calls 3 0 A0 c0 l [] w hr0 hc0 rfl⟩
  · obtain ⟨P, hP, hp⟩ := order_is l h hn
    exact ⟨P, hp, Porder.augurlaw03_order.calls _ (n : Int) A0 c0 l P w hr0 hc0 hP⟩

/-- Behind i of n places, nothing turned. -/
def G2Rel (w : World) (n : Nat) (x : Value) (wr : World) : Prop := ∃ i : Nat, x = .int .i64 i ∧ i ≤ n ∧ Below w.heap.size w wr
end Go.Proofs.Ytnioohhiphpplaa.Wk
