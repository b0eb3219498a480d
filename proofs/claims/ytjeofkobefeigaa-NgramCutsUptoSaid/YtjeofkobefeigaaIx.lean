/- An index as it lies: its block, its own row of tokens, its map of own rows; what its rows hold is a function of the run. -/
import Derived.Test.YtjeofkobefeigaaAh
set_option linter.unusedVariables false
set_option linter.unusedSimpArgs false
namespace Go.Proofs.Ytjeofkobefeigaa.Wk
open Go.RowKit Go.Proofs.YtjeofkobefeigaaW.PrintWords Go.Proofs.YtjeofkobefeigaaW.PrintLast Go.Proofs.YtjeofkobefeigaaW.PrintMore Go.Proofs.Ytjeofkobefeigaa.Mp
open Go.ChangeMaps (setBlock)

/-- Two own rows in different blocks. -/
def Apart (u v : Value) : Prop := ∀ k, u.ownBlock = some k → some k ≠ v.ownBlock
theorem Apart.symm {u v : Value} (h : Apart u v) : Apart v u := fun k hk e => h k e.symm hk.symm
theorem Apart.after {u v v1 : Value} {W : World} (h : Apart v u) (hlt : ∀ k, u.ownBlock = some k → k < W.heap.size) (hat : v1.ownBlock = v.ownBlock ∨ ∃ b, v1.ownBlock = some b ∧ W.heap.size ≤ b) : Apart v1 u := by
  intro k hk e
  rcases hat with hat | ⟨b, hb, hle⟩
  · exact h k (hat ▸ hk) e
  · rw [hb] at hk
    injection hk with hk
    subst hk
    have := hlt b e.symm
    omega
/-- A run of one to four tokens. -/
def Gram (g : List Int) : Prop := 1 ≤ g.length ∧ g.length ≤ 4 ∧ ∀ x ∈ g, (Lit.int .i64 x).wf = true
def keyG (g : List Int) : Value := keyV g.length (nth g)
theorem nth_wf {g : List Int} (h : ∀ x ∈ g, (Lit.int .i64 x).wf = true) (j : Nat) : (Lit.int .i64 (nth g j)).wf = true := by
  unfold nth
  rw [List.getD_eq_getElem?_getD]
  cases e : g[j]? with
  | none => decide
  | some x => exact h x (List.mem_of_getElem? e)
theorem key_ok {g : List Int} (h : Gram g) : ∃ l, keyOf Try.prog 72 (keyG g) = some l :=
  keyOf_keyV (by
    obtain ⟨h1, h2, _⟩ := h
    rcases (show g.length = 1 ∨ g.length = 2 ∨ g.length = 3 ∨ g.length = 4 by omega) with e | e | e | e <;> (rw [e]; decide)) (nth_wf h.2.2)
theorem keyG_inj {g g' : List Int} (h : Gram g) (h' : Gram g') (e : keyG g = keyG g') : g = g' := by
  unfold keyG keyV at e
  simp only [Value.agg.injEq, Array.mk.injEq, List.cons.injEq, Value.int.injEq, true_and, and_true] at e
  obtain ⟨el, e0, e1, e2, e3⟩ := e
  have el : g.length = g'.length := by omega
  refine List.ext_getElem el fun j h1 h2 => ?_
  have hj : nth g j = nth g' j := by
    have := h.2.1
    rcases (show j = 0 ∨ j = 1 ∨ j = 2 ∨ j = 3 by omega) with rfl | rfl | rfl | rfl <;> assumption
  unfold nth at hj
  rwa [List.getD_eq_getElem?_getD, List.getD_eq_getElem?_getD, List.getElem?_eq_getElem h1, List.getElem?_eq_getElem h2] at hj
/-- The run of n tokens ahead of place p. -/
def gramAt (t : List Int) (p n : Nat) : List Int := (t.take p).drop (p - n)
theorem gramAt_length {t : List Int} {p n : Nat} (h : n ≤ p) (hp : p ≤ t.length) : (gramAt t p n).length = n := by
  unfold gramAt
  rw [List.length_drop, List.length_take]; omega
theorem gramAt_gram {t : List Int} {p n : Nat} (ht : ∀ x ∈ t, (Lit.int .i64 x).wf = true) (h1 : 1 ≤ n) (h4 : n ≤ 4) (h : n ≤ p) (hp : p ≤ t.length) : Gram (gramAt t p n) :=
  ⟨by rw [gramAt_length h hp]; exact h1, by rw [gramAt_length h hp]; exact h4, fun x hx => ht x (List.mem_of_mem_take (List.mem_of_mem_drop hx))⟩
theorem key_run {t : List Int} {p n : Nat} (h : n ≤ p) (hp : p ≤ t.length) : keyV n (runF t p n) = keyG (gramAt t p n) := by
  have hv : ∀ j, runF t p n j = nth (gramAt t p n) j := fun j => by
    unfold runF nth gramAt
    rw [List.getD_eq_getElem?_getD, List.getD_eq_getElem?_getD, List.getElem?_drop, List.getElem?_take]
    by_cases c : j < n
    · rw [if_pos c, if_pos (by omega)]
    · rw [if_neg c, if_neg (by omega)]; rfl
  unfold keyG keyV
  rw [gramAt_length h hp, hv 0, hv 1, hv 2, hv 3]
/-- The entries: each the own row of a run's places. -/
structure EndsOk (w : World) (F : Nat → Prop) (es : List MapEntry) (O : List Int → List Int) (tv : Value) : Prop where
  row : ∀ (j : Nat) (e : MapEntry), es[j]? = some e → ∃ g, Gram g ∧ e.key = keyG g ∧ Kd.R (Kd.int .i64) 3 w 0 F e.val (O g)
  none : ∀ g, Gram g → (∀ e ∈ es, e.key ≠ keyG g) → O g = []
  keys : (es.map (·.key)).Nodup
  apart : ∀ (i j : Nat) (e e' : MapEntry), i ≠ j → es[i]? = some e → es[j]? = some e' → Apart e.val e'.val
  text : ∀ e ∈ es, Apart tv e.val
theorem EndsOk.keysOk {w : World} {F : Nat → Prop} {es : List MapEntry} {O : List Int → List Int} {tv : Value} (h : EndsOk w F es O tv) : KeysOk es := fun e he => by
  obtain ⟨j, hj⟩ := List.mem_iff_getElem?.1 he
  obtain ⟨g, hg, hk, _⟩ := h.row j e hj
  rw [hk]
  exact key_ok hg
theorem EndsOk.below {w w1 : World} {F : Nat → Prop} {es : List MapEntry} {O : List Int → List Int} {tv : Value} (h : EndsOk w F es O tv) (hb : Below w.heap.size w w1) : EndsOk w1 F es O tv :=
  ⟨fun j e he => by obtain ⟨g, h1, h2, h3⟩ := h.row j e he; exact ⟨g, h1, h2, Kd.R_below h3 hb⟩, h.none, h.keys, h.apart, h.text⟩
theorem EndsOk.weaken {w : World} {F F' : Nat → Prop} {es : List MapEntry} {O : List Int → List Int} {tv : Value} (h : EndsOk w F es O tv) (hF : ∀ k, F k → F' k) : EndsOk w F' es O tv :=
  ⟨fun j e he => by obtain ⟨g, h1, h2, h3⟩ := h.row j e he; exact ⟨g, h1, h2, Kd.R_mono h3 hF⟩, h.none, h.keys, h.apart, h.text⟩
/-- An index: its block B, its map m, of runs of up to most tokens, over the text t. -/
structure Idx (w : World) (F : Nat → Prop) (B m : Nat) (most : Int) (t : List Int) (O : List Int → List Int) : Prop where
  ex : ∃ (tv : Value) (es : Array MapEntry) (clock : Nat), w.heap[B]? = some (.cells #[.int .i64 most, tv, .map (some m)] 68 (0, 0)) ∧ Kd.R (Kd.int .i64) 3 w 0 F tv t ∧
    w.heap[m]? = some (.map es clock) ∧ Stamped es.toList clock ∧ EndsOk w F es.toList O tv
  fB : F B
  fm : F m
theorem Idx.below {w w1 : World} {F : Nat → Prop} {B m : Nat} {most : Int} {t : List Int} {O : List Int → List Int} (h : Idx w F B m most t O) (hb : Below w.heap.size w w1) : Idx w1 F B m most t O := by
  obtain ⟨⟨tv, es, clock, h1, h2, h3, h4, h5⟩, fB, fm⟩ := h
  exact ⟨⟨tv, es, clock, blk_below h1 hb, Kd.R_below h2 hb, blk_below h3 hb, h4, h5.below hb⟩, fB, fm⟩
/-- Only the blocks of F may have turned. -/
structure Fr (F : Nat → Prop) (w w' : World) : Prop where
  os : w'.os = w.os
  tape : w'.tape = w.tape
  output : w'.output = w.output
  size : w.heap.size ≤ w'.heap.size
  block : ∀ k, k < w.heap.size → ¬ F k → w'.heap[k]? = w.heap[k]?
theorem Fr.refl (F : Nat → Prop) (w : World) : Fr F w w := ⟨rfl, rfl, rfl, Nat.le_refl _, fun _ _ _ => rfl⟩
theorem Fr.trans {F : Nat → Prop} {a b c : World} (h : Fr F a b) (k : Fr F b c) : Fr F a c :=
  ⟨k.os.trans h.os, k.tape.trans h.tape, k.output.trans h.output, Nat.le_trans h.size k.size, fun i hi hf => (k.block i (Nat.lt_of_lt_of_le hi h.size) hf).trans (h.block i hi hf)⟩
theorem Fr.of_below {F : Nat → Prop} {a b : World} (h : Below a.heap.size a b) : Fr F a b := ⟨h.os, h.tape, h.output, h.size, fun i hi _ => h.block i hi⟩
theorem Fr.of_grown {F : Nat → Prop} {a b : World} {row : Option Nat} (h : a.grownBy b row) (hF : ∀ k, row = some k → F k) : Fr F a b :=
  ⟨h.os, h.tape, h.output, h.size, fun i hi hf => h.block i hi (fun e => hf (hF i e.symm))⟩
theorem Fr.below {F : Nat → Prop} {a b : World} {B : Nat} (h : Fr F a b) (hF : ∀ k, F k → B ≤ k) (hB : B ≤ a.heap.size) : Below B a b :=
  ⟨h.os, h.tape, h.output, h.size, fun i hi => h.block i (Nat.lt_of_lt_of_le hi hB) (fun hf => by have := hF i hf; omega)⟩
end Go.Proofs.Ytjeofkobefeigaa.Wk
