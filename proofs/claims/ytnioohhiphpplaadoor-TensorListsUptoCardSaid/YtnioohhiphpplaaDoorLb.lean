/- Collections of lists; the book; what a call keeps. -/
import Derived.Test.YtnioohhiphpplaaDoorLa
set_option linter.unusedVariables false
set_option linter.unusedSimpArgs false
namespace Go.Proofs.YtnioohhiphpplaaDoor.Dp
open Go.RowKit Go.Proofs.YtnioohhiphpplaaDoor.Pplays Go.Proofs.YtnioohhiphpplaaDoorW.PrintWords Go.Proofs.YtnioohhiphpplaaDoorW.PrintLast Go.Proofs.YtnioohhiphpplaaDoorW.PrintMore Go.Proofs.YtnioohhiphpplaaDoor.M Go.Proofs.YtnioohhiphpplaaDoor.Wk Go.Lib
namespace Wk
abbrev Tr := Option Addr × Nat × Nat
def sl (f : Tr) : Value := .slice f.1 f.2.1 f.2.2
abbrev Row {α : Type} (kd : Kd α) (e : Nat) (w : World) (v : Value) (xs : List α) : Prop := Kd.R kd e w 0 (fun _ => True) v xs
section
variable {α : Type} {kd : Kd α} {e e' : Nat} {W W1 : World} {v : Value} {xs : List α} {row : Option Nat}
theorem Row.keep (hE : kd.E = []) (h : Row kd e W v xs) (hk : ∀ k, v.ownBlock = some k → W1.heap[k]? = W.heap[k]?) : Row kd e W1 v xs :=
 Kd.R_mono (Kd.R_step (Kd.R_tight hE h) fun k hk2 _ => hk k hk2.symm) (fun _ _ => trivial)
theorem Row.grown (hE : kd.E = []) (h : Row kd e W v xs) (hg : W.grownBy W1 row) (hne : ∀ k, v.ownBlock = some k → row ≠ some k) : Row kd e W1 v xs :=
 h.keep hE fun k hk => hg.block k (Kd.R_lt h k hk) (fun he => hne k hk he.symm)
theorem Row.below (h : Row kd e W v xs) (hb : Below W.heap.size W W1) : Row kd e W1 v xs := Kd.R_below h hb
theorem Row.typed (h : Row kd e W v xs) : ∀ k, v.ownBlock = some k → ∃ cells, W.heap[k]? = some (.cells cells e (0, 0)) := Kd.R_typed h
theorem Row.of {base : Nat} (h : Kd.R kd e W base (fun _ => True) v xs) : Row kd e W v xs := Kd.R_lower h (Nat.zero_le _)
end
theorem typed_ne {W : World} {k e t : Nat} {cells cells' : Array Value} (h : W.heap[k]? = some (.cells cells e (0, 0))) (h' : W.heap[k]? = some (.cells cells' t (0, 0))) : e = t := by
 rw [h] at h'
 injection h' with h'
 injection h'
structure Fr (w W : World) (S : Nat → Prop) : Prop where
 os : W.os = w.os
 tape : W.tape = w.tape
 output : W.output = w.output
 kept : Kept w W S
section
variable {w W W1 : World} {S S2 : Nat → Prop} {row : Option Nat}
theorem Fr.refl (w : World) (S : Nat → Prop) : Fr w w S := ⟨rfl, rfl, rfl, Kept.refl _ _⟩
theorem Fr.of_below (h : Below w.heap.size w W) (S : Nat → Prop) : Fr w W S := ⟨h.os, h.tape, h.output, Kept.of_below h S⟩
theorem Fr.below (h : Fr w W S) (hb : Below W.heap.size W W1) : Fr w W1 S := ⟨hb.os.trans h.os, hb.tape.trans h.tape, hb.output.trans h.output, h.kept.below hb⟩
theorem Fr.grown (h : Fr w W S) (hg : W.grownBy W1 row) (hr : ∀ k, row = some k → S k ∨ w.heap.size ≤ k) : Fr w W1 S := ⟨hg.os.trans h.os, hg.tape.trans h.tape, hg.output.trans h.output, Kept.of_grown hg h.kept hr⟩
theorem Fr.then_ (h : Fr w W S) (k : Fr W W1 S2) (hs : ∀ k, S2 k → S k ∨ w.heap.size ≤ k) : Fr w W1 S := ⟨k.os.trans h.os, k.tape.trans h.tape, k.output.trans h.output, h.kept.then_ k.kept hs⟩
theorem Fr.size (h : Fr w W S) : w.heap.size ≤ W.heap.size := h.kept.1
theorem Fr.to_below {B : Nat} (h : Fr w W S) (hB : B ≤ w.heap.size) (hS : ∀ k, S k → B ≤ k) : Below B w W := ⟨h.os, h.tape, h.output, h.size, fun k hk => h.kept.2 k (by omega) (fun hs => by have := hS k hs; omega)⟩
theorem grownBy_set (W : World) (p : Addr) (u : Value) : W.grownBy (W.setCell p u) (some p.block) := ⟨rfl, rfl, rfl, by simp [World.setCell], fun k _ hk => Below.heap_setCell W p u k (fun he => hk (by rw [he]))⟩
end
def Ap (W : World) (g : Value) (us : List Value) : Prop := ∀ u ∈ us, ∀ k, u.ownBlock = some k → k < W.heap.size ∧ g.ownBlock ≠ some k
section
variable {W W1 : World} {g g1 : Value} {us us' : List Value}
theorem Ap.step (h : Ap W g us) (hx : Ext W W1 g g1) (hs : W.heap.size ≤ W1.heap.size) : Ap W1 g1 us := fun u hu k hk => by
 obtain ⟨h1, h2⟩ := h u hu k hk
 refine ⟨by omega, ?_⟩
 rcases hx with ⟨g', n', c', rfl, rfl⟩ | ⟨_, b, hb, hle⟩
 ·exact h2
 ·rw [hb]
  intro he
  injection he with he
  omega
theorem Ap.size (h : Ap W g us) (hs : W.heap.size ≤ W1.heap.size) : Ap W1 g us := fun u hu k hk => ⟨by have := (h u hu k hk).1; omega, (h u hu k hk).2⟩
theorem Ap.sub (h : Ap W g us) (hs : ∀ u ∈ us', u ∈ us) : Ap W g us' := fun u hu => h u (hs u hu)
theorem Ap.new {α : Type} {kd : Kd α} {e : Nat} {xs : List α} (h : Kd.R kd e W1 W.heap.size (fun _ => True) g xs) (hs : W.heap.size ≤ W1.heap.size) (hu : ∀ u ∈ us, ∀ k, u.ownBlock = some k → k < W.heap.size) : Ap W1 g us := fun u hm k hk => by
 have h1 := hu u hm k hk
 exact ⟨by omega, fun he => by have := Kd.R_base h k he; omega⟩
theorem Ap.append (h : Ap W g us) (h' : Ap W g us') : Ap W g (us ++ us') := fun u hu => (List.mem_append.1 hu).elim (h u) (h' u)
theorem Ap.one {u : Value} (h1 : ∀ k, u.ownBlock = some k → k < W.heap.size ∧ g.ownBlock ≠ some k) : Ap W g [u] := fun v hv => by rw [List.mem_singleton.1 hv]; exact h1
end
structure Col {α : Type} (kd : Kd α) (eo ei : Nat) (w : World) (N : Value) (fs : List Tr) (xss : List (List α)) : Prop where
 out : Row slKd eo w N fs
 len : fs.length = xss.length
 row : ∀ (i : Nat) (f : Tr) (xs : List α), fs[i]? = some f → xss[i]? = some xs → Row kd ei w (sl f) xs
section
variable {α : Type} {kd : Kd α} {eo ei : Nat} {W W1 : World} {N N1 : Value} {fs : List Tr} {xss : List (List α)} {row : Option Nat}
theorem Col.at (h : Col kd eo ei W N fs xss) {f : Tr} (hf : f ∈ fs) : ∃ xs, Row kd ei W (sl f) xs := by
 obtain ⟨i, hi⟩ := List.getElem?_of_mem hf
 have : i < xss.length := by rw [← h.len]; exact (List.getElem?_eq_some_iff.1 hi).1
 exact ⟨_, h.row i f _ hi (List.getElem?_eq_getElem this)⟩
theorem Col.lt (h : Col kd eo ei W N fs xss) : ∀ u ∈ fs.map sl, ∀ k, u.ownBlock = some k → k < W.heap.size := fun u hu k hk => by
 obtain ⟨f, hf, rfl⟩ := List.mem_map.1 hu
 obtain ⟨xs, hx⟩ := h.at hf
 exact Kd.R_lt hx k hk
theorem Col.gen (hE : kd.E = []) (h : Col kd eo ei W N fs xss) (hg : W.grownBy W1 row) (hN : ∀ k, N.ownBlock = some k → row ≠ some k) (hr : ∀ u ∈ fs.map sl, ∀ k, u.ownBlock = some k → row ≠ some k) : Col kd eo ei W1 N fs xss :=
 ⟨h.out.grown rfl hg hN, h.len, fun i f xs h1 h2 => (h.row i f xs h1 h2).grown hE hg (hr _ (List.mem_map.2 ⟨f, List.mem_of_getElem? h1, rfl⟩))⟩
theorem Col.below (h : Col kd eo ei W N fs xss) (hb : Below W.heap.size W W1) : Col kd eo ei W1 N fs xss := ⟨h.out.below hb, h.len, fun i f xs h1 h2 => (h.row i f xs h1 h2).below hb⟩
theorem Col.other (hE : kd.E = []) (h : Col kd eo ei W N fs xss) (hg : W.grownBy W1 row) (ht : ∀ k, row = some k → ∃ cells t, W.heap[k]? = some (.cells cells t (0, 0)) ∧ t ≠ eo ∧ t ≠ ei) : Col kd eo ei W1 N fs xss :=
 h.gen hE hg (fun k hk he => by
  obtain ⟨c, t, h1, h2, _⟩ := ht k he
  obtain ⟨c', h'⟩ := h.out.typed k hk
  exact h2 (typed_ne h1 h')) (fun u hu k hk he => by
  obtain ⟨c, t, h1, _, h2⟩ := ht k he
  obtain ⟨f, hf, rfl⟩ := List.mem_map.1 hu
  obtain ⟨xs, hx⟩ := h.at hf
  obtain ⟨c', h'⟩ := hx.typed k hk
  exact h2 (typed_ne h1 h'))
theorem Col.apart (hE : kd.E = []) (h : Col kd eo ei W N fs xss) (hne : eo ≠ ei) {g : Value} (hg : W.grownBy W1 g.ownBlock) (ht : ∀ k, g.ownBlock = some k → ∃ cells, W.heap[k]? = some (.cells cells ei (0, 0))) (ha : Ap W g (fs.map sl)) : Col kd eo ei W1 N fs xss :=
 h.gen hE hg (fun k hk he => by
  obtain ⟨c, h1⟩ := ht k he
  obtain ⟨c', h'⟩ := h.out.typed k hk
  exact hne (typed_ne h' h1)) (fun u hu k hk => (ha u hu k hk).2)
theorem Col.beside (hE : kd.E = []) (h : Col kd eo ei W N fs xss) (hne : eo ≠ ei) {M : Value} (hg : W.grownBy W1 M.ownBlock) (ht : ∀ k, M.ownBlock = some k → ∃ cells, W.heap[k]? = some (.cells cells eo (0, 0))) (ha : ∀ k, N.ownBlock = some k → M.ownBlock ≠ some k) : Col kd eo ei W1 N fs xss :=
 h.gen hE hg ha (fun u hu k hk he => by
  obtain ⟨c, h1⟩ := ht k he
  obtain ⟨f, hf, rfl⟩ := List.mem_map.1 hu
  obtain ⟨xs, hx⟩ := h.at hf
  obtain ⟨c', h'⟩ := hx.typed k hk
  exact hne (typed_ne h1 h'))
theorem Col.snoc (hE : kd.E = []) (h : Col kd eo ei W N fs xss) (hne : eo ≠ ei) (hg : W.grownBy W1 N.ownBlock) {f : Tr} {xs : List α} (ho : Row slKd eo W1 N1 (fs ++ [f])) (hr : Row kd ei W (sl f) xs) : Col kd eo ei W1 N1 (fs ++ [f]) (xss ++ [xs]) := by
 have hk : ∀ {f : Tr} {xs : List α}, Row kd ei W (sl f) xs → Row kd ei W1 (sl f) xs := fun {f xs} hx => hx.grown hE hg fun k hk he => by
  obtain ⟨c, h1⟩ := h.out.typed k he
  obtain ⟨c', h'⟩ := hx.typed k hk
  exact hne (typed_ne h1 h')
 refine ⟨ho, by rw [List.length_append, List.length_append, h.len]; rfl, fun i f' xs' h1 h2 => ?_⟩
 rcases Nat.lt_or_ge i fs.length with hi | hi
 ·rw [List.getElem?_append_left hi] at h1
  rw [List.getElem?_append_left (by rw [← h.len]; exact hi)] at h2
  exact hk (h.row i f' xs' h1 h2)
 ·rw [List.getElem?_append_right hi] at h1
  rw [List.getElem?_append_right (by rw [← h.len]; exact hi), ← h.len] at h2
  have h0 : i - fs.length = 0 := by
   have := (List.getElem?_eq_some_iff.1 h1).1
   simp at this
   omega
  rw [h0] at h1 h2
  obtain rfl : f = f' := by simpa using h1
  obtain rfl : xs = xs' := by simpa using h2
  exact hk hr
theorem Col.last (hE : kd.E = []) {f : Tr} {xs : List α} (h : Col kd eo ei W N (fs ++ [f]) (xss ++ [xs])) (hl : fs.length = xss.length) (hne : eo ≠ ei) {g : Value} (hg : W.grownBy W1 g.ownBlock) (ht : ∀ k, g.ownBlock = some k → ∃ cells, W.heap[k]? = some (.cells cells ei (0, 0))) (ha : Ap W g (fs.map sl)) (hr : Row kd ei W1 (sl f) xs) : Col kd eo ei W1 N (fs ++ [f]) (xss ++ [xs]) := by
 refine ⟨h.out.grown rfl hg fun k hk he => by
  obtain ⟨c, h1⟩ := ht k he
  obtain ⟨c', h'⟩ := h.out.typed k hk
  exact hne (typed_ne h' h1), h.len, fun i f' xs' h1 h2 => ?_⟩
 have hrow := h.row i f' xs' h1 h2
 rcases Nat.lt_or_ge i fs.length with hi | hi
 ·rw [List.getElem?_append_left hi] at h1
  exact hrow.grown hE hg fun k hk => (ha _ (List.mem_map.2 ⟨f', List.mem_of_getElem? h1, rfl⟩) k hk).2
 ·rw [List.getElem?_append_right hi] at h1
  rw [List.getElem?_append_right (by rw [← hl]; exact hi), ← hl] at h2
  have h0 : i - fs.length = 0 := by
   have := (List.getElem?_eq_some_iff.1 h1).1
   simp at this
   omega
  rw [h0] at h1 h2
  obtain rfl : f = f' := by simpa using h1
  obtain rfl : xs = xs' := by simpa using h2
  exact hr
theorem Col.nil (kd : Kd α) (eo ei : Nat) (w : World) : Col kd eo ei w (.slice none 0 0) [] [] := ⟨Kd.R_nil _ _ _ _ _, rfl, fun i f xs h => by cases h⟩
theorem Col.reads (h : Col kd eo ei W N fs xss) : Rd (Kd.slice ei kd) W N xss := by
 obtain ⟨A, c, e1, h1, h2⟩ := Kd.R_reads h.out
 rw [h.len] at e1 h1 h2
 refine ⟨A, c, e1, h1, h.len ▸ rfl, h2.2.1, fun hn => ?_⟩
 obtain ⟨ad, ea, hc⟩ := h2.2.2 hn
 refine ⟨ad, ea, fun j xs hj => ?_⟩
 have hlt : j < fs.length := by rw [h.len]; exact (List.getElem?_eq_some_iff.1 hj).1
 obtain ⟨cs, hs, hk, hcell⟩ := hc j _ (List.getElem?_eq_getElem hlt)
 have hk : cs = [sl fs[j]] := hk
 obtain ⟨A2, c2, e2, h3, h4⟩ := Kd.R_reads (h.row j _ xs (List.getElem?_eq_getElem hlt) hj)
 exact ⟨cs, hs, ⟨A2, c2, by rw [hk, e2], h3, h4⟩, hcell⟩
end
end Wk
end Go.Proofs.YtnioohhiphpplaaDoor.Dp
