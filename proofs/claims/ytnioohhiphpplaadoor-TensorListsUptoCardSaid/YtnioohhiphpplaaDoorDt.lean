/- The walk of tensor.Turns. -/
import Derived.Test.YtnioohhiphpplaaDoorDr
import Derived.Deep.RegionHeld3
set_option linter.unusedVariables false
set_option linter.unusedSimpArgs false
namespace Go.Proofs.YtnioohhiphpplaaDoor.Dp
open Go.RowKit Go.Proofs.YtnioohhiphpplaaDoor.Pplays Go.Proofs.YtnioohhiphpplaaDoorW.PrintWords Go.Proofs.YtnioohhiphpplaaDoorW.PrintLast Go.Proofs.YtnioohhiphpplaaDoorW.PrintMore Go.Proofs.YtnioohhiphpplaaDoor.M
def uni (a : Int) : Prop := -16384 ≤ a ∧ a ≤ 16384
def uniT (u : S87) : Prop := uni u.f0 ∧ uni u.f1
def stepT (u now : S87) : S87 := ⟨clampF (Wk.tuX now.f0 now.f1 u.f0 u.f1) 16384, clampF (Wk.tuY now.f0 now.f1 u.f0 u.f1) 16384⟩
def turnN (u : S87) : Nat → S87
 | 0 => ⟨16384, 0⟩
 | p + 1 => stepT u (turnN u p)
def tabT (f : Nat → S87) (n : Nat) : List S87 := (List.range n).map f
theorem tabT_length (f : Nat → S87) (n : Nat) : (tabT f n).length = n := by simp [tabT]
theorem tabT_succ (f : Nat → S87) (n : Nat) : tabT f (n + 1) = tabT f n ++ [f n] := by simp [tabT, List.range_succ]
theorem tabT_get? {f : Nat → S87} {n i : Nat} (h : i < n) : (tabT f n)[i]? = some (f i) := by
 unfold tabT
 rw [List.getElem?_map, List.getElem?_range h]; rfl
theorem tabT_rd {f : Nat → S87} {n i : Nat} (h : i < n) : rd_T87 (tabT f n) (i : Int) = f i := by
 unfold rd_T87
 rw [Int.toNat_natCast, List.getD_eq_getElem?_getD, tabT_get? h]; rfl
theorem tabT_congr {f g : Nat → S87} {n : Nat} (h : ∀ i, i < n → f i = g i) : tabT f n = tabT g n :=
 List.map_congr_left fun i hi => h i (List.mem_range.1 hi)
def overT (f g : Nat → S87) (i j : Nat) : S87 := if j < i then f j else g j
theorem overT_set (f g : Nat → S87) {n i : Nat} (_h : i < n) : (tabT (overT f g i) n).set i (f i) = tabT (overT f g (i + 1)) n := by
 refine List.ext_getElem (by rw [List.length_set, tabT_length, tabT_length]) fun j h1 h2 => ?_
 rw [tabT_length] at h2
 rw [List.getElem_set]
 by_cases c : i = j
 ·rw [if_pos c]; subst c; simp [tabT, overT]
 ·rw [if_neg c]
  simp only [tabT, overT, List.getElem_map, List.getElem_range]
  by_cases c2 : j < i
  ·rw [if_pos c2, if_pos (by omega)]
  ·rw [if_neg c2, if_neg (by omega)]
theorem overT_zero (f g : Nat → S87) (n : Nat) : tabT (overT f g 0) n = tabT g n := tabT_congr fun i _ => by unfold overT; rw [if_neg (by omega)]
theorem overT_all (f g : Nat → S87) (n : Nat) : tabT (overT f g n) n = tabT f n := tabT_congr fun i hi => by unfold overT; rw [if_pos hi]
theorem overT_at (f g : Nat → S87) (i : Nat) : overT f g i i = g i := by unfold overT; rw [if_neg (by omega)]
end Go.Proofs.YtnioohhiphpplaaDoor.Dp
namespace Go.Proofs.YtnioohhiphpplaaDoor.Wk
open Go.RowKit Go.Proofs.YtnioohhiphpplaaDoor.Pplays Go.Proofs.YtnioohhiphpplaaDoorW.PrintWords Go.Proofs.YtnioohhiphpplaaDoorW.PrintLast Go.Proofs.YtnioohhiphpplaaDoorW.PrintMore Go.Proofs.YtnioohhiphpplaaDoor.M Go.Proofs.YtnioohhiphpplaaDoor.Dp
attribute [local go_sem] max2_int min2_int max_two min_two
theorem tinfo87 : (Tryd.prog.info? 87).map (fun i => (i.zero, i.size, i.bytes)) = some (some (.agg #[.int .i64 0, .int .i64 0]), 2, 16) := by kernel_rfl
theorem tinfo37 : (Tryd.prog.info? 37).map (fun i => (i.zero, i.size, i.bytes)) = some (some (.slice none 0 0), 1, 24) := by kernel_rfl
theorem R87_cells {W : World} {base : Nat} {ok : Nat → Prop} {g n cap : Nat} {xs : List S87} (h : Kd.R k87 87 W base ok (.slice (some ⟨g, 0, none⟩) n cap) xs) {i : Nat} {x : S87} (hi : i < n) (hx : xs[i]? = some x) :
  W.cell? ⟨g, i * 2, none⟩ = some (.int .i64 x.f0) ∧ W.cell? ⟨g, i * 2 + 1, none⟩ = some (.int .i64 x.f1) ∧ W.frozen? ⟨g, i * 2, none⟩ = false ∧ W.frozen? ⟨g, i * 2 + 1, none⟩ = false := by
 obtain ⟨c, _, hM, hc, hf⟩ := Kd.R_elem h z87 (i : Int) (by omega) (by omega)
 rw [Int.toNat_natCast, List.getD_eq_getElem?_getD, hx] at hM
 obtain rfl := k87_openM hM
 have h0 := hc 0 _ rfl
 have h1 := hc 1 _ rfl
 have f0 := hf 0
 have f1 := hf 1
 exact ⟨h0, h1, f0, f1⟩
def rowsT (U : Nat → S87) (L n : Nat) : List (List S87) := (List.range n).map fun p => tabT (fun i => turnN (U i) p) L
theorem reps_get {W : World} {base : Nat} {ok : Nat → Prop} {xs : List S87} {inner : List Value} (h : Reps (k87.M W base ok) 2 xs inner) {j : Nat} {x : S87} (hx : xs[j]? = some x) : inner[j * 2]? = some (.int .i64 x.f0) ∧ inner[j * 2 + 1]? = some (.int .i64 x.f1) := by
 have e := k87_openM (h.2 j x hx)
 have h0 : ((inner.drop (j * 2)).take 2)[0]? = some (.int .i64 x.f0) := by rw [e]; rfl
 have h1 : ((inner.drop (j * 2)).take 2)[1]? = some (.int .i64 x.f1) := by rw [e]; rfl
 rw [List.getElem?_take, if_pos (by omega), List.getElem?_drop] at h0 h1
 exact ⟨h0, h1⟩
theorem reps_mk {W : World} {base : Nat} {ok : Nat → Prop} {xs : List S87} {inner : List Value} (hl : inner.length = xs.length * 2) (h : ∀ (j : Nat) (x : S87), xs[j]? = some x → inner[j * 2]? = some (.int .i64 x.f0) ∧ inner[j * 2 + 1]? = some (.int .i64 x.f1)) : Reps (k87.M W base ok) 2 xs inner := by
 refine ⟨hl, fun j x hx => ?_⟩
 obtain ⟨h0, h1⟩ := h j x hx
 have e : (inner.drop (j * 2)).take 2 = [.int .i64 x.f0, .int .i64 x.f1] := by
  refine List.ext_getElem? fun k => ?_
  rw [List.getElem?_take]
  match k with
  | 0 => rw [if_pos (by omega), List.getElem?_drop]; exact h0
  | 1 => rw [if_pos (by omega), List.getElem?_drop]; exact h1
  | k + 2 => rw [if_neg (by omega)]; rfl
 rw [e]
 exact k87_mkM W base ok x
theorem R87_put0 {W : World} {base : Nat} {g n cap : Nat} {xs : List S87} (h : Kd.R k87 87 W base (fun _ => True) (.slice (some ⟨g, 0, none⟩) n cap) xs) {i : Nat} {x : S87} (hx : xs[i]? = some x) (c : Int) :
  Kd.R k87 87 (W.setCell ⟨g, i * 2, none⟩ (.int .i64 c)) base (fun _ => True) (.slice (some ⟨g, 0, none⟩) n cap) (xs.set i ⟨c, x.f1⟩) := by
 obtain ⟨hn, _, _⟩ := Kd.R_reads' h
 obtain ⟨_, inner, hown, hr⟩ := h
 rw [← hn] at hown
 refine ⟨fun _ _ => trivial, inner.set (i * 2) (.int .i64 c), ?_, ?_⟩
 ·rw [List.length_set, ← hn]
  exact (World.ownsRow.stored hown (i * 2) _).1
 ·refine reps_mk (by rw [List.length_set, List.length_set, hr.1]; rfl) fun j y hy => ?_
  rw [List.getElem?_set] at hy
  rw [List.getElem?_set, List.getElem?_set]
  have hil : i < xs.length := (List.getElem?_eq_some_iff.1 hx).1
  have hin : inner.length = xs.length * 2 := hr.1
  by_cases e : i = j
  ·subst e
   rw [if_pos rfl, if_pos hil] at hy
   obtain rfl := Option.some.inj hy
   rw [if_pos rfl, if_pos (by omega), if_neg (by omega)]
   exact ⟨rfl, (reps_get hr hx).2⟩
  ·rw [if_neg e] at hy
   rw [if_neg (by omega), if_neg (by omega)]
   exact reps_get hr hy
theorem R87_put1 {W : World} {base : Nat} {g n cap : Nat} {xs : List S87} (h : Kd.R k87 87 W base (fun _ => True) (.slice (some ⟨g, 0, none⟩) n cap) xs) {i : Nat} {x : S87} (hx : xs[i]? = some x) (c : Int) :
  Kd.R k87 87 (W.setCell ⟨g, i * 2 + 1, none⟩ (.int .i64 c)) base (fun _ => True) (.slice (some ⟨g, 0, none⟩) n cap) (xs.set i ⟨x.f0, c⟩) := by
 obtain ⟨hn, _, _⟩ := Kd.R_reads' h
 obtain ⟨_, inner, hown, hr⟩ := h
 rw [← hn] at hown
 refine ⟨fun _ _ => trivial, inner.set (i * 2 + 1) (.int .i64 c), ?_, ?_⟩
 ·rw [List.length_set, ← hn]
  exact (World.ownsRow.stored hown (i * 2 + 1) _).1
 ·refine reps_mk (by rw [List.length_set, List.length_set, hr.1]; rfl) fun j y hy => ?_
  rw [List.getElem?_set] at hy
  rw [List.getElem?_set, List.getElem?_set]
  have hil : i < xs.length := (List.getElem?_eq_some_iff.1 hx).1
  have hin : inner.length = xs.length * 2 := hr.1
  by_cases e : i = j
  ·subst e
   rw [if_pos rfl, if_pos hil] at hy
   obtain rfl := Option.some.inj hy
   rw [if_neg (by omega), if_pos rfl, if_pos (by omega)]
   exact ⟨(reps_get hr hx).1, rfl⟩
  ·rw [if_neg e] at hy
   rw [if_neg (by omega), if_neg (by omega)]
   exact reps_get hr hy
theorem R87_put {W : World} {base : Nat} {g n cap : Nat} {xs : List S87} (h : Kd.R k87 87 W base (fun _ => True) (.slice (some ⟨g, 0, none⟩) n cap) xs) {i : Nat} (hi : i < xs.length) (y : S87) :
  Kd.R k87 87 ((W.setCell ⟨g, i * 2, none⟩ (.int .i64 y.f0)).setCell ⟨g, i * 2 + 1, none⟩ (.int .i64 y.f1)) base (fun _ => True) (.slice (some ⟨g, 0, none⟩) n cap) (xs.set i y) := by
 have h0 := R87_put0 h (List.getElem?_eq_getElem hi) y.f0
 have h1 := R87_put1 h0 (x := ⟨y.f0, xs[i].f1⟩) (by rw [List.getElem?_set, if_pos rfl, if_pos hi]) y.f1
 rw [List.set_set] at h1
 exact h1
theorem turn_calls (a b c s : Int) (w : World) :
  Calls Tryd.prog 69 #[.int .i64 a, .int .i64 b, .agg #[.int .i64 c, .int .i64 s]] w fun e w' => e = .returned (.tuple #[.int .i64 (tuX a b c s), .int .i64 (tuY a b c s)]) ∧ Below w.heap.size w w' :=
 Pplays.tensor_turn.calls a b c s _ _ w (turn_is a b c s)
def Apart (u v : Value) : Prop := ∀ k, u.ownBlock = some k → some k ≠ v.ownBlock
theorem at87 {w : World} {A : Option Addr} {n : Nat} {T : Nat → S87} (h : Kd.C k87 w A n (tabT T n)) {i : Nat} (hi : i < n) : ∃ ad, A = some ad ∧ w.cell? (ad.add (i * 2)) = some (.int .i64 (T i).f0) ∧ w.cell? ⟨(ad.add (i * 2)).block, (ad.add (i * 2)).off + 1, none⟩ = some (.int .i64 (T i).f1) := by
 obtain ⟨ad, e, h0, h1⟩ := at_T87 h (i : Int) (by omega) (by omega)
 rw [Int.toNat_natCast, tabT_rd hi] at h0 h1
 exact ⟨ad, e, h0, h1⟩
def slKd : Kd (Option Addr × Nat × Nat) := Kd.scalar (fun p => .slice p.1 p.2.1 p.2.2) (fun _ => rfl)
def tabS (f : Nat → Option Addr × Nat × Nat) (n : Nat) : List (Option Addr × Nat × Nat) := (List.range n).map f
theorem tabS_length (f : Nat → Option Addr × Nat × Nat) (n : Nat) : (tabS f n).length = n := by simp [tabS]
theorem tabS_get? {f : Nat → Option Addr × Nat × Nat} {n i : Nat} (h : i < n) : (tabS f n)[i]? = some (f i) := by
 unfold tabS
 rw [List.getElem?_map, List.getElem?_range h]; rfl
def uptoS (f : Nat → Option Addr × Nat × Nat) (p k : Nat) : Option Addr × Nat × Nat := if k < p then f k else (none, 0, 0)
def putS (f : Nat → Option Addr × Nat × Nat) (p : Nat) (x : Option Addr × Nat × Nat) (k : Nat) : Option Addr × Nat × Nat := if k = p then x else f k
theorem putS_set (f : Nat → Option Addr × Nat × Nat) {n p : Nat} (_h : p < n) (x : Option Addr × Nat × Nat) : (tabS (uptoS f p) n).set p x = tabS (uptoS (putS f p x) (p + 1)) n := by
 refine List.ext_getElem (by rw [List.length_set, tabS_length, tabS_length]) fun j h1 h2 => ?_
 rw [tabS_length] at h2
 rw [List.getElem_set]
 simp only [tabS, uptoS, putS, List.getElem_map, List.getElem_range]
 by_cases c : p = j
 ·rw [if_pos c, if_pos (by omega), if_pos (by omega)]
 ·rw [if_neg c, if_neg (show ¬ j = p by omega)]
  by_cases c2 : j < p
  ·rw [if_pos c2, if_pos (by omega)]
  ·rw [if_neg c2, if_neg (by omega)]
theorem R_keep {α : Type} {d : Kd α} {e : Nat} {W : World} {base g : Nat} {v : Value} {xs : List α} (hE : d.E = []) (h : d.R e W base (fun _ => True) v xs) (hne : some g ≠ v.ownBlock) (j : Nat) (u : Value) : d.R e (W.setCell ⟨g, j, none⟩ u) base (fun _ => True) v xs :=
 Kd.R_mono (Kd.R_far (Kd.R_far1 h hE hne) (p := ⟨g, j, none⟩) (fun _ hk => hk.2) u) (fun _ _ => trivial)
theorem own_cells2 {α : Type} {d : Kd α} {e : Nat} {W : World} {base : Nat} {ok : Nat → Prop} {v : Value} {xs : List α} (h : d.R e W base ok v xs) {k : Nat} (hk : v.ownBlock = some k) : ∃ cells, W.heap[k]? = some (.cells cells e (0, 0)) := by
 obtain ⟨_, inner, ⟨_, ho⟩, _⟩ := h
 rcases ho with ⟨rfl, _⟩ | ⟨g, cap, cur, rfl, _, hc, _⟩
 ·cases hk
 ·injection hk with hk
  subst hk
  exact ⟨cur, hc⟩
theorem apart_new {nv v1 : Value} {W : World} (hlt : ∀ k, nv.ownBlock = some k → k < W.heap.size) (hat : v1.ownBlock = (Value.slice none 0 0).ownBlock ∨ ∃ b, v1.ownBlock = some b ∧ W.heap.size ≤ b) : Apart nv v1 := fun k hk e => by
 rcases hat with h | ⟨b, h, hle⟩
 ·rw [h] at e; cases e
 ·rw [h] at e
  injection e with e
  have := hlt k hk
  omega
def RowsR (w : World) (base p L : Nat) (gv : Value) (U : Nat → S87) (f : Nat → Option Addr × Nat × Nat) : Prop :=
 ∀ k, k < p → (f k).2.1 = L ∧ Kd.R k87 87 w base (fun _ => True) (.slice (f k).1 L (f k).2.2) (tabT (fun i => turnN (U i) k) L) ∧ Apart gv (.slice (f k).1 L (f k).2.2) ∧ ∀ j, j < k → Apart (.slice (f j).1 L (f j).2.2) (.slice (f k).1 L (f k).2.2)
theorem RowsR.below {w w1 : World} {base p L : Nat} {gv : Value} {U : Nat → S87} {f : Nat → Option Addr × Nat × Nat} (h : RowsR w base p L gv U f) (hb : Below w.heap.size w w1) : RowsR w1 base p L gv U f := fun k hk => ⟨(h k hk).1, Kd.R_below (h k hk).2.1 hb, (h k hk).2.2⟩
def T2Rel (w : World) (n L : Nat) (U : Nat → S87) (nv lv x : Value) (wr : World) : Prop :=
 ∃ (p : Nat) (f : Nat → Option Addr × Nat × Nat), x = .int .i64 p ∧ p ≤ n ∧ Kd.R slKd 37 wr w.heap.size (fun _ => True) lv (tabS (uptoS f p) n) ∧ RowsR wr w.heap.size p L nv U f ∧
  Kd.R k87 87 wr w.heap.size (fun _ => True) nv (tabT (fun i => turnN (U i) p) L) ∧ Below w.heap.size w wr
def T3Rel (w : World) (n L p : Nat) (U : Nat → S87) (f : Nat → Option Addr × Nat × Nat) (nv lv x : Value) (wr : World) : Prop :=
 ∃ i : Nat, x = .int .i64 i ∧ i ≤ L ∧ Kd.R slKd 37 wr w.heap.size (fun _ => True) lv (tabS (uptoS f (p + 1)) n) ∧ RowsR wr w.heap.size (p + 1) L nv U f ∧
  Kd.R k87 87 wr w.heap.size (fun _ => True) nv (tabT (overT (fun i => turnN (U i) (p + 1)) (fun i => turnN (U i) p) i) L) ∧ Below w.heap.size w wr
def T1Rel (w : World) (L : Nat) (U : Nat → S87) (v x : Value) (wr : World) : Prop :=
 ∃ i : Nat, x = .int .i64 i ∧ i ≤ L ∧ (∀ k, k < i → uniT (U k)) ∧ Kd.R k87 87 wr w.heap.size (fun _ => True) v (tabT (overT (fun _ => ⟨16384, 0⟩) (fun _ => z87) i) L) ∧ Below w.heap.size w wr
def RowsG (w : World) (base n L : Nat) (U : Nat → S87) (f : Nat → Option Addr × Nat × Nat) : Prop :=
 ∀ k, k < n → (f k).2.1 = L ∧ Kd.R k87 87 w base (fun _ => True) (.slice (f k).1 L (f k).2.2) (tabT (fun i => turnN (U i) k) L) ∧ ∀ j, j < k → Apart (.slice (f j).1 L (f j).2.2) (.slice (f k).1 L (f k).2.2)
set_option maxHeartbeats 4000000 in
set_option maxRecDepth 100000 in
theorem turns_own {A0 : Option Addr} {L n c0 : Nat} {U : Nat → S87} (w : World) (hr0 : Kd.C k87 w A0 L (tabT U L)) (hc0 : L ≤ c0) (hL : L ≤ 16777216) (hn : n ≤ 64) :
  Calls Tryd.prog 33 #[.slice A0 L c0, .int .i64 n] w fun e w' => ∃ A m c err, e = .returned (.tuple #[.slice A m c, .int .i64 err]) ∧
   ((¬ (∀ i, i < L → uniT (U i)) ∧ A = none ∧ m = 0 ∧ c = 0 ∧ err = 30) ∨ ((∀ i, i < L → uniT (U i)) ∧ m = n ∧ err = 0 ∧ n ≤ c ∧ Kd.C (Kd.slice 87 k87) w' A n (rowsT U L n) ∧ ∃ f, Kd.R slKd 37 w' w.heap.size (fun _ => True) (.slice A n c) (tabS f n) ∧ RowsG w' w.heap.size n L U f)) ∧ Below w.heap.size w w' := by
 have HR0 := Lib.hid hr0
 clear hr0
 have d1 : decide ((n : Int) < 0) = false := decide_eq_false (by omega)
 have d2 : decide ((64 : Int) < (n : Int)) = false := decide_eq_false (by omega)
 go_enter Tryd.func33, Tryd.ntmps33
 go_upto_region 4 with ((with_reducible refine gate_dst (N := 23) rfl ?_); refine Kd.R_make k87 (w0 := w) w.heap.size 87 rfl (N := 23) rfl 37 _ _ rfl (L : Int) rfl rfl Tryd.underlying37 (.agg #[.int .i64 0, .int .i64 0]) 16 tinfo87 rfl (by decide) (by omega) z87 (ok := fun _ => True) (okp := fun _ => True) (k87_mkM _ _ _ z87) (fun _ hk => hk) trivial (by omega) (by omega) (Below.refl _ _) (Nat.le_refl _) ?_; intro v0 w1 hR hb2 hg2 hfresh)
 clear d1 d2
 obtain ⟨An, cn, ev, hcn, _⟩ := Kd.R_reads hR
 rw [List.length_replicate, Int.toNat_natCast] at ev hcn
 subst ev
 have HRN : Hid (Kd.R k87 87 w1 w.heap.size (fun _ => True) (.slice An L cn) (tabT (overT (fun _ => ⟨16384, 0⟩) (fun _ => z87) 0) L)) := Lib.hid (by rw [overT_zero]; unfold tabT; rw [List.map_const', List.length_range]; exact hR)
 have HB1 := Lib.hid hb2
 clear hR hb2 hg2 hfresh
 go_wp2
 go_loopw [26] (fun y wr => T1Rel w L U (.slice An L cn) y wr) (fun y _ => L - (intOf y).toNat)
 case atStart => exact ⟨0, rfl, by omega, fun k hk => by omega, HRN.out, HB1.out⟩
 case round =>
  clear HRN HB1
  obtain ⟨i, rfl, hi, hg, hR, hB⟩ := hrel
  have HG := Lib.hid hg
  clear hg
  have RN := Lib.hid hR
  have HB := Lib.hid hB
  clear hR hB
  rename World => wa
  by_cases hlt : i < L
  ·have hlt' : decide ((i : Int) < (L : Int)) = true := decide_eq_true (by omega)
   obtain ⟨ad, e1, k0, k1⟩ := at87 (Kd.C_below HR0.out HB.out) hlt
   subst e1
   obtain ⟨gn, cap, ev, gnle, gnlt, _, _⟩ := Kd.R_form RN.out (by rw [tabT_length]; omega)
   rw [tabT_length] at ev
   injection ev with ev _ ev2
   subst ev ev2
   have GN := Lib.hid gnle
   obtain ⟨cu, hcu⟩ : ∃ x, (U i).f0 = x := ⟨_, rfl⟩
   obtain ⟨su, hsu⟩ : ∃ x, (U i).f1 = x := ⟨_, rfl⟩
   rw [hcu] at k0
   rw [hsu] at k1
   have HUI : Hid (uniT (U i) ↔ (-16384 ≤ cu ∧ cu ≤ 16384) ∧ (-16384 ≤ su ∧ su ≤ 16384)) := Lib.hid (by unfold uniT uni; rw [hcu, hsu])
   obtain ⟨j, hj⟩ : ∃ j, mx cu su = j := ⟨_, rfl⟩
   have hj_ : (if cu < su then su else cu) = j := hj
   obtain ⟨q, hq⟩ : ∃ q, mn cu su = q := ⟨_, rfl⟩
   have hq_ : (if su < cu then su else cu) = q := hq
   have q1 : (0 : Int) ≤ (i : Int) := by omega
   have q2 : (i : Int) < (L : Int) := by omega
   have HLT := Lib.hid hlt
   by_cases hui : (-16384 ≤ cu ∧ cu ≤ 16384) ∧ (-16384 ≤ su ∧ su ≤ 16384)
   case neg =>
    have HBAD : Hid (∃ x, x < L ∧ ¬ uniT (U x)) := Lib.hid ⟨i, hlt, fun h => hui (HUI.out.1 h)⟩
    by_cases hd1 : 16384 < j
    ·have d1 : decide (16384 < j) = true := decide_eq_true hd1
     clear hj hq hui hcu hsu gnle hi hd1
     go_upto_region 7 with (fail)
     go_wp2
     go_ret2
     exact ⟨_, _, _, _, rfl, .inl ⟨HBAD.out, rfl, rfl, rfl, rfl⟩, below_alloc HB.out _⟩
    ·have d1 : decide (16384 < j) = false := decide_eq_false hd1
     have d2 : decide (q < -16384) = true := decide_eq_true (by
      rw [← hj_] at hd1
      rw [← hq_]
      split at hd1 <;> split <;> omega)
     clear hj hq hui hcu hsu gnle hi hd1
     go_upto_region 7 with (fail)
     go_wp2
     go_ret2
     exact ⟨_, _, _, _, rfl, .inl ⟨HBAD.out, rfl, rfl, rfl, rfl⟩, below_alloc HB.out _⟩
   have d1 : decide (16384 < j) = false := decide_eq_false (by rw [← hj_]; split <;> omega)
   have d2 : decide (q < -16384) = false := decide_eq_false (by rw [← hq_]; split <;> omega)
   have HUI2 := Lib.hid (HUI.out.2 hui)
   clear hj hq hui hcu hsu gnle hi
   go_upto_region 7 with (fail)
   go_upto_region 9 with (fail)
   clear k0 k1 d1 d2 hj_ hq_
   obtain ⟨wb, hwb⟩ : ∃ x, x = wa.alloc (.cells #[.int .i64 cu, .int .i64 su] 87) := ⟨_, rfl⟩
   rw [← hwb]
   have hab : Below wa.heap.size wa wb := by rw [hwb]; exact below_alloc (Below.refl _ _) _
   have RNb := Lib.hid (Kd.R_below RN.out hab)
   have HBb := Lib.hid (below_step HB.out hab)
   clear hab hwb RN HB
   have hx : (tabT (overT (fun _ => (⟨16384, 0⟩ : S87)) (fun _ => z87) i) L)[i]? = some z87 := by rw [tabT_get? hlt, overT_at]
   obtain ⟨k0, _, f0, _⟩ := R87_cells RNb.out hlt hx
   have hp := R87_put0 RNb.out hx 16384
   rw [show (⟨16384, z87.f1⟩ : S87) = (fun _ => (⟨16384, 0⟩ : S87)) i from rfl, overT_set (fun _ => (⟨16384, 0⟩ : S87)) (fun _ => z87) hlt] at hp
   have HP := Lib.hid hp
   have HBc : Hid (Below w.heap.size w (wb.setCell ⟨gn, i * 2, none⟩ (.int .i64 16384))) := Lib.hid (below_set HBb.out GN.out)
   clear hp hx
   go_wp2
   go_roundw
   case rel => exact ⟨i + 1, rfl, by omega, fun k hk => by
    rcases Nat.lt_or_ge k i with h | h
    ·exact HG.out k h
    ·have : k = i := by omega
     subst this
     exact HUI2.out, HP.out, HBc.out⟩
   case measure => simp [intOf]; omega
  ·have hlt' : decide ((i : Int) < (L : Int)) = false := decide_eq_false (by omega)
   obtain rfl : L = i := by omega
   clear hlt hi
   have HGA := HG
   have RN0 : Hid (Kd.R k87 87 wa wa.heap.size (fun _ => True) (.slice An L cn) (tabT (fun i => turnN (U i) 0) L) ∨ True) := Lib.hid (.inr trivial)
   have RNa : Hid (Kd.R k87 87 wa w.heap.size (fun _ => True) (.slice An L cn) (tabT (fun i => turnN (U i) 0) L)) := Lib.hid (by have := RN.out; rw [overT_all] at this; exact this)
   clear RN RN0
   go_upto_region 12 with ((with_reducible refine gate_dst (N := 51) rfl ?_); refine Kd.R_make slKd (w0 := w) w.heap.size 37 rfl (N := 51) rfl 43 _ _ rfl (n : Int) rfl rfl Tryd.underlying43 (.slice none 0 0) 24 tinfo37 rfl (by decide) (by omega) (none, 0, 0) (ok := fun _ => True) (okp := fun _ => True) rfl (fun _ hk => hk) trivial (by omega) (by omega) HB.out (below_size HB.out) ?_; intro v1 w2 hR hb2 hg2 hfresh)
   obtain ⟨Al, cl, ev, hcl, _⟩ := Kd.R_reads hR
   rw [List.length_replicate, Int.toNat_natCast] at ev hcl
   subst ev
   have HRL : Hid (Kd.R slKd 37 w2 w.heap.size (fun _ => True) (.slice Al n cl) (tabS (uptoS (fun _ => (none, 0, 0)) 0) n)) := Lib.hid (by
    have e : tabS (uptoS (fun _ => (none, 0, 0)) 0) n = List.replicate n (none, 0, 0) := by
     unfold tabS uptoS
     rw [show (fun k : Nat => if k < 0 then ((none, 0, 0) : Option Addr × Nat × Nat) else (none, 0, 0)) = fun _ => (none, 0, 0) from funext fun k => by split <;> rfl, List.map_const', List.length_range]
    rw [e]; exact hR)
   have HB2 := Lib.hid hb2
   have RN2 := Lib.hid (Kd.R_grown2 RNa.out rfl hg2 (fun k hk => by cases hk))
   clear hR hb2 hg2 hfresh RNa HB
   go_wp2
   go_loopw [54] (fun y wr => T2Rel w n L U (.slice An L cn) (.slice Al n cl) y wr) (fun y _ => n - (intOf y).toNat)
   case atStart => exact ⟨0, fun _ => (none, 0, 0), rfl, by omega, HRL.out, fun k hk => by omega, RN2.out, HB2.out⟩
   case round =>
    clear HRL RN2 HB2
    obtain ⟨p, f, rfl, hp, hRl, hrows, hRn, hB⟩ := hrel
    have RL := Lib.hid hRl
    have RR := Lib.hid hrows
    have RN := Lib.hid hRn
    have HB := Lib.hid hB
    clear hRl hrows hRn hB
    rename World => wb
    by_cases hltp : p < n
    ·have hltp' : decide ((p : Int) < (n : Int)) = true := decide_eq_true (by omega)
     obtain ⟨gl, cap, ev, glle, _, _, _⟩ := Kd.R_form RL.out (by rw [tabS_length]; omega)
     rw [tabS_length] at ev
     injection ev with ev _ ev2
     subst ev ev2
     have GL := Lib.hid glle
     have cell0 : ∀ W : World, Kd.R slKd 37 W w.heap.size (fun _ => True) (.slice (some ⟨gl, 0, none⟩) n cl) (tabS (uptoS f p) n) → W.cell? ⟨gl, p, none⟩ = some (.slice none 0 0) ∧ W.frozen? ⟨gl, p, none⟩ = false := fun W h => by
      obtain ⟨h1, h2⟩ := Kd.R_celln (none, 0, 0) h (p : Int) (by omega) (by omega)
      have e : rdOf (none, 0, 0) (tabS (uptoS f p) n) (p : Int) = (none, 0, 0) := by
       unfold rdOf
       rw [Int.toNat_natCast, List.getD_eq_getElem?_getD, tabS_get? hltp]
       unfold uptoS
       rw [if_neg (by omega)]; rfl
      rw [e, Int.toNat_natCast] at h1
      rw [Int.toNat_natCast] at h2
      exact ⟨h1, h2⟩
     have C0 := Lib.hid cell0
     obtain ⟨k0, f0⟩ := cell0 wb RL.out
     obtain ⟨-, -, hCn⟩ := Kd.R_reads' RN.out
     rw [tabT_length] at hCn
     have CN := Lib.hid hCn
     have q1 : (0 : Int) ≤ (p : Int) := by omega
     have q2 : (p : Int) < (n : Int) := by omega
     clear hCn glle hp cell0
     go_upto_region 16 with ((with_reducible refine gate_builtin (b := .append) (xs := #[.tmp 62, .tmp 63]) rfl ?_); (try (refine gate_guard (by rfl) ?_; dsimp only)); at_builtin; refine Kd.R_append_rows k87 (Rr := k87.K wb) (w0 := w) w.heap.size rfl (.tmp 62) (.tmp 63) 37 87 (.agg #[.int .i64 0, .int .i64 0]) 16 rfl Tryd.underlying37 tinfo87 rfl (by decide) (by omega) (.slice none 0 0) [] (tabT (fun i => turnN (U i) p) L) An L cn (fun _ => True) (fun _ => False) rfl rfl (Kd.R_nil _ _ _ _ _) CN.out (fun x cs hx => by obtain rfl := k87_open hx; exact k87_mkM _ _ _ x) (fun _ hk => hk.elim) (fun _ _ => trivial) HB.out (below_size HB.out) (by simp; omega) ?_; intro v3 w3 ho hb hg hat; rw [List.nil_append] at ho; obtain ⟨Av, cv, ev3, hcv, _⟩ := Kd.R_reads ho; rw [tabT_length] at ev3 hcv; subst ev3; have RV := Lib.hid ho; have HB3 := Lib.hid hb; have RL3 := Lib.hid (Kd.R_grown2 RL.out rfl hg (fun k hk => by cases hk)); have RN3 := Lib.hid (Kd.R_grown2 RN.out rfl hg (fun k hk => by cases hk)); have RR3 : Hid (RowsR w3 w.heap.size p L (.slice An L cn) U f) := Lib.hid (fun k hk => ⟨(RR.out k hk).1, Kd.R_grown2 (RR.out k hk).2.1 rfl hg (fun k hk => by cases hk), (RR.out k hk).2.2⟩); have AP3 : Hid (Apart (.slice An L cn) (.slice Av L cv)) := Lib.hid (apart_new (Kd.R_lt RN.out) hat); have AQ3 : Hid (∀ j, j < p → Apart (.slice (f j).1 L (f j).2.2) (.slice Av L cv)) := Lib.hid (fun j hj => apart_new (Kd.R_lt (RR.out j hj).2.1) hat); obtain ⟨k1, f1⟩ := C0.out w3 RL3.out; clear ho hb hg hat k0 f0 RL RN RR HB)
     clear k1 f1 CN
     obtain ⟨csl, hcsl⟩ := own_cells2 RL3.out (k := gl) rfl
     obtain ⟨w4, hw4⟩ : ∃ x, x = w3.setCell ⟨gl, p, none⟩ (.slice Av L cv) := ⟨_, rfl⟩
     rw [← hw4]
     have hp4 := Kd.R_putn RL3.out (p : Int) (Av, L, cv)
     rw [Int.toNat_natCast, putS_set f hltp] at hp4
     have RL4 : Hid (Kd.R slKd 37 w4 w.heap.size (fun _ => True) (.slice (some ⟨gl, 0, none⟩) n cl) (tabS (uptoS (putS f p (Av, L, cv)) (p + 1)) n)) := Lib.hid (by rw [hw4]; exact hp4)
     have RN4 : Hid (Kd.R k87 87 w4 w.heap.size (fun _ => True) (.slice An L cn) (tabT (overT (fun i => turnN (U i) (p + 1)) (fun i => turnN (U i) p) 0) L)) := Lib.hid (by rw [overT_zero, hw4]; exact R_keep rfl RN3.out (Kd.R_ne RN3.out hcsl (by decide)) _ _)
     have RR4 : Hid (RowsR w4 w.heap.size (p + 1) L (.slice An L cn) U (putS f p (Av, L, cv))) := Lib.hid (fun k hk => by
      rcases Nat.lt_or_ge k p with c | c
      ·have e : putS f p (Av, L, cv) k = f k := by unfold putS; rw [if_neg (by omega)]
       rw [e]
       obtain ⟨h1, h2, h3, h4⟩ := RR3.out k c
       exact ⟨h1, by rw [hw4]; exact R_keep rfl h2 (Kd.R_ne h2 hcsl (by decide)) _ _, h3, fun j hj => by rw [show putS f p (Av, L, cv) j = f j by unfold putS; rw [if_neg (by omega)]]; exact h4 j hj⟩
      ·obtain rfl : k = p := by omega
       have e : putS f k (Av, L, cv) k = (Av, L, cv) := by unfold putS; rw [if_pos rfl]
       rw [e]
       exact ⟨rfl, by rw [hw4]; exact R_keep rfl RV.out (Kd.R_ne RV.out hcsl (by decide)) _ _, AP3.out, fun j hj => by rw [show putS f k (Av, L, cv) j = f j by unfold putS; rw [if_neg (by omega)]]; exact AQ3.out j hj⟩)
     have HB4 : Hid (Below w.heap.size w w4) := Lib.hid (by rw [hw4]; exact below_set HB3.out GL.out)
     clear hp4 hw4 hcsl RL3 RN3 RR3 RV AP3 AQ3 HB3 C0
     go_wp2
     go_loopw [68] (fun y wr => T3Rel w n L p U (putS f p (Av, L, cv)) (.slice An L cn) (.slice (some ⟨gl, 0, none⟩) n cl) y wr) (fun y _ => L - (intOf y).toNat)
     case atStart => exact ⟨0, rfl, by omega, RL4.out, RR4.out, RN4.out, HB4.out⟩
     case round =>
      clear RL4 RR4 RN4 HB4
      obtain ⟨i, rfl, hi, hRl, hrows, hRn, hB⟩ := hrel
      have RL := Lib.hid hRl
      have RR := Lib.hid hrows
      have RN := Lib.hid hRn
      have HB := Lib.hid hB
      clear hRl hrows hRn hB
      rename World => wd
      by_cases hlti : i < L
      ·have hlti' : decide ((i : Int) < (L : Int)) = true := decide_eq_true (by omega)
       obtain ⟨ad, e1, k0, k1⟩ := at87 (Kd.C_below HR0.out HB.out) hlti
       subst e1
       obtain ⟨gn, cap, ev, gnle, gnlt, _, _⟩ := Kd.R_form RN.out (by rw [tabT_length]; omega)
       rw [tabT_length] at ev
       injection ev with ev _ ev2
       subst ev ev2
       have GN := Lib.hid gnle
       obtain ⟨cu, hcu⟩ : ∃ x, (U i).f0 = x := ⟨_, rfl⟩
       obtain ⟨su, hsu⟩ : ∃ x, (U i).f1 = x := ⟨_, rfl⟩
       rw [hcu] at k0
       rw [hsu] at k1
       have q3 : (0 : Int) ≤ (i : Int) := by omega
       have q4 : (i : Int) < (L : Int) := by omega
       clear gnle hi
       go_upto_region 19 with (fail)
       clear k0 k1
       obtain ⟨we, hwe⟩ : ∃ x, x = wd.alloc (.cells #[.int .i64 cu, .int .i64 su] 87) := ⟨_, rfl⟩
       rw [← hwe]
       obtain ⟨gb, hgb⟩ : ∃ x, x = wd.heap.size := ⟨_, rfl⟩
       rw [← hgb]
       have hbk : we.heap[gb]? = some (.cells #[.int .i64 cu, .int .i64 su] 87 (0, 0)) := by rw [hwe, hgb]; exact blk_new _ _
       have hde : Below wd.heap.size wd we := by rw [hwe]; exact below_alloc (Below.refl _ _) _
       have RLe := Lib.hid (Kd.R_below RL.out hde)
       have RRe := Lib.hid (RR.out.below hde)
       have RNe := Lib.hid (Kd.R_below RN.out hde)
       have HBe := Lib.hid (below_step HB.out hde)
       clear hde hwe hgb RL RR RN HB
       have b0 : we.cell? ⟨gb, 0, none⟩ = some (.int .i64 cu) := (blk_cell hbk 0).trans rfl
       have b1 : we.cell? ⟨gb, 1, none⟩ = some (.int .i64 su) := (blk_cell hbk 1).trans rfl
       obtain ⟨n0, n1, nf0, nf1⟩ := R87_cells RNe.out hlti (x := turnN (U i) p) (by rw [tabT_get? hlti, overT_at])
       obtain ⟨nc, hnc⟩ : ∃ x, (turnN (U i) p).f0 = x := ⟨_, rfl⟩
       obtain ⟨ns, hns⟩ : ∃ x, (turnN (U i) p).f1 = x := ⟨_, rfl⟩
       rw [hnc] at n0
       rw [hns] at n1
       have HST : Hid ((⟨clampF (tuX nc ns cu su) 16384, clampF (tuY nc ns cu su) 16384⟩ : S87) = turnN (U i) (p + 1)) := Lib.hid (by rw [← hnc, ← hns, ← hcu, ← hsu]; rfl)
       clear hbk nf0 nf1 hnc hns hcu hsu
       go_region_held3 (fun w' => w'.cell? ⟨gb, 0, none⟩ = some (.int .i64 cu) ∧ w'.cell? ⟨gb, 1, none⟩ = some (.int .i64 su) ∧ w'.cell? ⟨gn, i * 2, none⟩ = some (.int .i64 nc) ∧ w'.cell? ⟨gn, i * 2 + 1, none⟩ = some (.int .i64 ns))
        (first | exact ⟨b0, b1, n0, n1⟩ | exact ⟨pw_cell_below hb7 b0, pw_cell_below hb7 b1, pw_cell_below hb7 n0, pw_cell_below hb7 n1⟩)
        (first | (go_at_call 69; refine (turn_calls nc ns cu su _).mono ?_; rintro e w7 ⟨rfl, hb7⟩))
       clear b0 b1 n0 n1
       have h77 : Below we.heap.size we w7 := below_step (below_drew (Below.refl we.heap.size we)) hb7
       have RL7 := Lib.hid (Kd.R_below RLe.out h77)
       have RR7 := Lib.hid (RRe.out.below h77)
       have RN7 := Lib.hid (Kd.R_below RNe.out h77)
       have HB7 := Lib.hid (below_step HBe.out h77)
       have hx7 : (tabT (overT (fun i => turnN (U i) (p + 1)) (fun i => turnN (U i) p) i) L)[i]? = some (turnN (U i) p) := by rw [tabT_get? hlti, overT_at]
       obtain ⟨n0, n1, nf0, nf1⟩ := R87_cells RN7.out hlti hx7
       clear h77 hb7 RLe RRe RNe HBe hx7
       rename_i hheld
       clear hheld
       go_wp2_with fail
       refine (clamp_still (by unfold rng; omega) _).mono ?_
       rintro e w8 ⟨rfl, rfl⟩
       go_wp2_with fail
       refine (clamp_still (by unfold rng; omega) _).mono ?_
       rintro e w9 ⟨rfl, rfl⟩
       obtain ⟨sc, hsc⟩ : ∃ x, clampF (tuX nc ns cu su) 16384 = x := ⟨_, rfl⟩
       obtain ⟨ss, hss⟩ : ∃ x, clampF (tuY nc ns cu su) 16384 = x := ⟨_, rfl⟩
       have HST2 : Hid ((⟨sc, ss⟩ : S87) = (fun i => turnN (U i) (p + 1)) i) := Lib.hid (by rw [← hsc, ← hss]; exact HST.out)
       rw [hsc, hss]
       clear hsc hss
       obtain ⟨csn, hcsn⟩ := own_cells2 RN7.out (k := gn) rfl
       have hp := R87_put RN7.out (i := i) (by rw [tabT_length]; exact hlti) ⟨sc, ss⟩
       rw [HST2.out, overT_set (fun i => turnN (U i) (p + 1)) (fun i => turnN (U i) p) hlti, ← HST2.out] at hp
       obtain ⟨cl7, hcl7⟩ : ∃ x, x = (w9.setCell ⟨gn, i * 2, none⟩ (.int .i64 sc)).setCell ⟨gn, i * 2 + 1, none⟩ (.int .i64 ss) := ⟨_, rfl⟩
       have hcsn2 : ∃ csn2, (w9.setCell ⟨gn, i * 2, none⟩ (.int .i64 sc)).heap[gn]? = some (.cells csn2 87 (0, 0)) := own_cells2 (R87_put0 RN7.out (x := turnN (U i) p) (by rw [tabT_get? hlti, overT_at]) sc) (k := gn) rfl
       obtain ⟨csn2, hcsn2⟩ := hcsn2
       have RL8 : Hid (Kd.R slKd 37 cl7 w.heap.size (fun _ => True) (.slice (some ⟨gl, 0, none⟩) n cl) (tabS (uptoS (putS f p (Av, L, cv)) (p + 1)) n)) := Lib.hid (by
        have h1 := R_keep rfl RL7.out (Kd.R_ne RL7.out hcsn (by decide)) (i * 2) (.int .i64 sc)
        rw [hcl7]
        exact R_keep rfl h1 (Kd.R_ne h1 hcsn2 (by decide)) (i * 2 + 1) _)
       have RR8 : Hid (RowsR cl7 w.heap.size (p + 1) L (.slice (some ⟨gn, 0, none⟩) L cn) U (putS f p (Av, L, cv))) := Lib.hid (fun k hk => by
        obtain ⟨h1, h2, h3⟩ := RR7.out k hk
        refine ⟨h1, ?_, h3⟩
        rw [hcl7]
        exact R_keep rfl (R_keep rfl h2 (h3.1 gn rfl) (i * 2) _) (h3.1 gn rfl) (i * 2 + 1) _)
       have RN8 : Hid (Kd.R k87 87 cl7 w.heap.size (fun _ => True) (.slice (some ⟨gn, 0, none⟩) L cn) (tabT (overT (fun i => turnN (U i) (p + 1)) (fun i => turnN (U i) p) (i + 1)) L)) := Lib.hid (by rw [hcl7]; exact hp)
       have HB8 : Hid (Below w.heap.size w cl7) := Lib.hid (by rw [hcl7]; exact below_set (below_set HB7.out GN.out) GN.out)
       clear hp hcsn hcsn2
       go_upto_region 21 with (fail)
       rw [← hcl7]
       clear hcl7 n0 n1 nf0 nf1
       go_wp2
       go_roundw
       case rel => exact ⟨i + 1, rfl, by omega, RL8.out, RR8.out, RN8.out, HB8.out⟩
       case measure => simp [intOf]; omega
      ·have hlti' : decide ((i : Int) < (L : Int)) = false := decide_eq_false (by omega)
       obtain rfl : L = i := by omega
       have RN9 : Hid (Kd.R k87 87 wd w.heap.size (fun _ => True) (.slice An L cn) (tabT (fun i => turnN (U i) (p + 1)) L)) := Lib.hid (by have := RN.out; rwa [overT_all] at this)
       clear hlti hi
       go_wp2
       go_roundw
       case rel => exact ⟨p + 1, _, rfl, by omega, RL.out, RR.out, RN9.out, HB.out⟩
       case measure => simp [intOf]; omega
    ·have hltp' : decide ((p : Int) < (n : Int)) = false := decide_eq_false (by omega)
     obtain rfl : n = p := by omega
     clear hltp hp
     obtain ⟨-, hcn2, hCl⟩ := Kd.R_reads' RL.out
     rw [tabS_length] at hCl
     have HRT : Hid (Kd.C (Kd.slice 87 k87) wb Al n (rowsT U L n)) := Lib.hid (by
      refine ⟨by unfold rowsT; rw [List.length_map, List.length_range], by omega, fun hn0 => ?_⟩
      obtain ⟨ad, e, hc⟩ := hCl.2.2 hn0
      refine ⟨ad, e, fun k x hx => ?_⟩
      have hk : k < n := by have := (List.getElem?_eq_some_iff.1 hx).1; unfold rowsT at this; rw [List.length_map, List.length_range] at this; exact this
      have hxe : x = tabT (fun i => turnN (U i) k) L := by
       unfold rowsT at hx
       rw [List.getElem?_map, List.getElem?_range hk] at hx
       exact (Option.some.inj hx).symm
      subst hxe
      obtain ⟨c, hs, hkk, hcell⟩ := hc k (f k) (by rw [tabS_get? hk]; unfold uptoS; rw [if_pos hk])
      have hkk : c = [.slice (f k).1 (f k).2.1 (f k).2.2] := hkk
      obtain ⟨h1, h2, _⟩ := RR.out k hk
      obtain ⟨-, h4, h5⟩ := Kd.R_reads' h2
      refine ⟨c, hs, ⟨(f k).1, (f k).2.2, ?_, ?_, ?_⟩, hcell⟩
      ·rw [hkk, h1, tabT_length]
      ·rw [tabT_length]; exact h4
      ·rw [tabT_length] at h5 ⊢; exact h5)
     clear hCl
     go_wp2
     go_ret2
     exact ⟨_, _, _, _, rfl, .inr ⟨HGA.out, rfl, rfl, hcn2, HRT.out, f, by have e := RL.out; rwa [show tabS (uptoS f n) n = tabS f n from List.map_congr_left fun i hi => by unfold uptoS; rw [if_pos (List.mem_range.1 hi)]] at e, fun k hk => ⟨(RR.out k hk).1, (RR.out k hk).2.1, (RR.out k hk).2.2.2⟩⟩, HB.out⟩
theorem turns_calls {A0 : Option Addr} {L n c0 : Nat} {U : Nat → S87} (w : World) (hr0 : Kd.C k87 w A0 L (tabT U L)) (hc0 : L ≤ c0) (hL : L ≤ 16777216) (hn : n ≤ 64) :
  Calls Tryd.prog 33 #[.slice A0 L c0, .int .i64 n] w fun e w' => ∃ A m c err, e = .returned (.tuple #[.slice A m c, .int .i64 err]) ∧
   ((¬ (∀ i, i < L → uniT (U i)) ∧ A = none ∧ m = 0 ∧ c = 0 ∧ err = 30) ∨ ((∀ i, i < L → uniT (U i)) ∧ m = n ∧ err = 0 ∧ n ≤ c ∧ Kd.C (Kd.slice 87 k87) w' A n (rowsT U L n))) ∧ Below w.heap.size w w' := by
 refine (turns_own w hr0 hc0 hL hn).mono ?_
 rintro e w' ⟨A, m, c, err, rfl, h | ⟨h1, h2, h3, h4, h5, _⟩, hb⟩
 ·exact ⟨A, m, c, err, rfl, .inl h, hb⟩
 ·exact ⟨A, m, c, err, rfl, .inr ⟨h1, h2, h3, h4, h5⟩, hb⟩
theorem turns_arg {A0 : Option Addr} {L c0 : Nat} {n : Int} (w : World) (hn : n < 0 ∨ 64 < n) :
  Calls Tryd.prog 33 #[.slice A0 L c0, .int .i64 n] w fun e w' => e = .returned (.tuple #[.slice none 0 0, .int .i64 1]) ∧ Below w.heap.size w w' := by
 by_cases h : n < 0
 ·have d1 : decide (n < 0) = true := decide_eq_true h
  clear hn h
  go_enter Tryd.func33, Tryd.ntmps33
  go_wp2
  go_ret2
  exact ⟨rfl, Below.refl _ _⟩
 ·have d1 : decide (n < 0) = false := decide_eq_false h
  have d2 : decide (64 < n) = true := decide_eq_true (by omega)
  clear hn h
  go_enter Tryd.func33, Tryd.ntmps33
  go_wp2
  go_ret2
  exact ⟨rfl, Below.refl _ _⟩
end Go.Proofs.YtnioohhiphpplaaDoor.Wk
