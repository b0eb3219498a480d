/- Lists that are marked, grown and looked at again: what stays of which. -/
import Derived.Test.YtnioohhiphpplaaDoorLj
set_option linter.unusedVariables false
set_option linter.unusedSimpArgs false
namespace Go.Proofs.YtnioohhiphpplaaDoor.Dp
open Go.RowKit Go.Proofs.YtnioohhiphpplaaDoor.Pplays Go.Proofs.YtnioohhiphpplaaDoorW.PrintWords Go.Proofs.YtnioohhiphpplaaDoorW.PrintLast Go.Proofs.YtnioohhiphpplaaDoorW.PrintMore Go.Proofs.YtnioohhiphpplaaDoor.M Go.Proofs.YtnioohhiphpplaaDoor.Wk Go.Lib
namespace Wk
section
variable {α : Type}
def tg (g : Nat → α) (n : Nat) : List α := (List.range n).map g
theorem tg_length (g : Nat → α) (n : Nat) : (tg g n).length = n := by simp [tg]
theorem tg_succ (g : Nat → α) (n : Nat) : tg g (n + 1) = tg g n ++ [g n] := by simp [tg, List.range_succ]
theorem tg_get? {g : Nat → α} {n i : Nat} (h : i < n) : (tg g n)[i]? = some (g i) := by simp [tg, List.getElem?_range h]
theorem tg_congr {f g : Nat → α} {n : Nat} (h : ∀ i, i < n → f i = g i) : tg f n = tg g n := List.map_congr_left fun i hi => h i (List.mem_range.1 hi)
theorem tg_set (g : Nat → α) (n j : Nat) (v : α) : (tg g n).set j v = tg (fun q => if q = j then v else g q) n := by
 refine List.ext_getElem? fun i => ?_
 rw [List.getElem?_set, tg_length]
 rcases Nat.lt_or_ge i n with h | h
 ·rw [tg_get? h, tg_get? h]
  by_cases hj : j = i
  ·subst hj; simp [h]
  ·rw [if_neg hj, if_neg (Ne.symm hj)]
 ·rw [List.getElem?_eq_none (by rw [tg_length]; exact h), List.getElem?_eq_none (by rw [tg_length]; exact h)]
  split
  ·split
   ·omega
   ·rfl
  ·rfl
theorem tg_of (xs : List α) (d : α) : tg (fun j => xs.getD j d) xs.length = xs := by
 refine List.ext_getElem? fun i => ?_
 rcases Nat.lt_or_ge i xs.length with h | h
 ·rw [tg_get? h, List.getD_eq_getElem?_getD, List.getElem?_eq_getElem h]; rfl
 ·rw [List.getElem?_eq_none (by rw [tg_length]; exact h), List.getElem?_eq_none h]
end
structure Mk {α : Type} (kd : Kd α) (eo ei : Nat) (W : World) (V : Value) (fs : List Tr) (G : Nat → Nat → α) : Prop where
 out : Row slKd eo W V fs
 row : ∀ (i : Nat) (f : Tr), fs[i]? = some f → Row kd ei W (sl f) (tg (G i) f.2.1)
def loG {α : Type} (F G : Nat → Nat → α) (i j i' j' : Nat) : α := if i' < i ∨ (i' = i ∧ j' < j) then F i' j' else G i' j'
def Sta (eo ei : Nat) (P : World → Prop) : Prop :=
 (∀ W W1 row, P W → World.grownBy W W1 row → (∀ k, row = some k → ∃ cells t, W.heap[k]? = some (.cells cells t (0, 0)) ∧ (t = eo ∨ t = ei)) → P W1) ∧ (∀ W W1, P W → Below W.heap.size W W1 → P W1)
section
variable {α : Type} {kd : Kd α} {eo ei : Nat} {W W1 w w1 : World} {V M M1 g v1 : Value} {fs fM : List Tr} {f gf : Tr} {F G G' H : Nat → Nat → α} {i j k base Bd : Nat} {P : World → Prop}
theorem Mk.below (h : Mk kd eo ei W V fs G) (hb : Below W.heap.size W W1) : Mk kd eo ei W1 V fs G := ⟨h.out.below hb, fun i f hf => (h.row i f hf).below hb⟩
theorem Mk.congr (h : Mk kd eo ei W V fs G) (hc : ∀ i f, fs[i]? = some f → ∀ j, j < f.2.1 → G i j = G' i j) : Mk kd eo ei W V fs G' := ⟨h.out, fun i f hf => by rw [← tg_congr (hc i f hf)]; exact h.row i f hf⟩
theorem Mk.put (hE : kd.E = []) (hne : eo ≠ ei) (h : Mk kd eo ei W V fs G) (ha : Apt fs) (hf : fs[i]? = some f) (hg : W.grownBy W1 (sl f).ownBlock) {v : α} (hr : Row kd ei W1 (sl f) ((tg (G i) f.2.1).set j v)) : Mk kd eo ei W1 V fs (fun i' j' => if i' = i ∧ j' = j then v else G i' j') := by
 refine ⟨h.out.grown rfl hg fun b hb he => ?_, fun i' u hu => ?_⟩
 ·obtain ⟨c, hc⟩ := h.out.typed b hb
  obtain ⟨c', hc'⟩ := (h.row i f hf).typed b he
  exact hne (typed_ne hc hc')
 ·by_cases hi : i' = i
  ·subst hi
   rw [hf] at hu
   cases hu
   rw [tg_set] at hr
   rw [show (fun j' => if i' = i' ∧ j' = j then v else G i' j') = (fun q => if q = j then v else G i' q) from funext fun q => by simp]
   exact hr
  ·rw [show (fun j' => if i' = i ∧ j' = j then v else G i' j') = G i' from funext fun q => by rw [if_neg (fun hh => hi hh.1)]]
   exact (h.row i' u hu).grown hE hg (fun b hb he => ha i' i u f hi hu hf b hb he)
theorem loG_step (F G : Nat → Nat → α) (i j : Nat) : (fun i' j' => if i' = i ∧ j' = j then F i j else loG F G i j i' j') = loG F G i (j + 1) := by
 funext i' j'
 unfold loG
 by_cases h : i' = i ∧ j' = j
 ·rw [if_pos h, if_pos (.inr ⟨h.1, by omega⟩), h.1, h.2]
 ·rw [if_neg h]
  by_cases h2 : i' < i ∨ (i' = i ∧ j' < j)
  ·rw [if_pos h2, if_pos (by omega)]
  ·rw [if_neg h2, if_neg (by omega)]
theorem Mk.next (h : Mk kd eo ei W V fs (loG F G i j)) (hf : fs[i]? = some f) (hj : f.2.1 ≤ j) : Mk kd eo ei W V fs (loG F G (i + 1) 0) := h.congr fun i' u hu j' hj' => by
 unfold loG
 by_cases hi : i' = i
 ·subst hi
  rw [hf] at hu
  cases hu
  rw [if_pos (by omega), if_pos (by omega)]
 ·by_cases h2 : i' < i ∨ (i' = i ∧ j' < j)
  ·rw [if_pos h2, if_pos (by omega)]
  ·rw [if_neg h2, if_neg (by omega)]
theorem Mk.done (h : Mk kd eo ei W V fs (loG F G i 0)) (hi : fs.length ≤ i) : Mk kd eo ei W V fs F := h.congr fun i' u hu j' hj' => by
 have := (List.getElem?_eq_some_iff.1 hu).1
 unfold loG
 rw [if_pos (by omega)]
theorem Cl.mk_ {xss : List (List α)} (d : α) (h : Cl kd eo ei W base Bd V fs xss) : Mk kd eo ei W V fs (fun i j => (xss.getD i []).getD j d) := ⟨h.col.out, fun i f hf => by
 have hi : i < xss.length := by rw [← h.col.len]; exact (List.getElem?_eq_some_iff.1 hf).1
 have hx : xss[i]? = some xss[i] := List.getElem?_eq_getElem hi
 have hr := h.col.row i f _ hf hx
 have hl := (Kd.R_reads' (show Kd.R kd ei W 0 (fun _ => True) (.slice f.1 f.2.1 f.2.2) xss[i] from hr)).1
 rw [hl, List.getD_eq_getElem?_getD, hx]
 simp only [Option.getD_some]
 rw [tg_of]
 exact hr⟩
theorem Cl.lens {xss : List (List α)} (h : Cl kd eo ei W base Bd V fs xss) : fs.length ≤ Bd ∧ ∀ f ∈ fs, f.2.1 ≤ 16777216 := ⟨by rw [h.col.len]; exact h.nl, fun f hf => by
 obtain ⟨i, hi⟩ := List.getElem?_of_mem hf
 have hi2 : i < xss.length := by rw [← h.col.len]; exact (List.getElem?_eq_some_iff.1 hi).1
 have hx : xss[i]? = some xss[i] := List.getElem?_eq_getElem hi2
 have hr := h.col.row i f _ hi hx
 have hl := (Kd.R_reads' (show Kd.R kd ei W 0 (fun _ => True) (.slice f.1 f.2.1 f.2.2) xss[i] from hr)).1
 rw [hl]
 exact h.rl _ (List.mem_of_getElem? hx)⟩
theorem Mk.cl (h : Mk kd eo ei W V fs F) (ha : Apt fs) (hl : fs.length ≤ Bd ∧ ∀ f ∈ fs, f.2.1 ≤ 16777216) (ho : ∀ k, V.ownBlock = some k → base ≤ k) (hi : ∀ f ∈ fs, ∀ k, (sl f).ownBlock = some k → base ≤ k) : Cl kd eo ei W base Bd V fs ((List.range fs.length).map fun i => tg (F i) (fs.getD i (none, 0, 0)).2.1) := by
 refine ⟨⟨h.out, by simp, fun i f xs h1 h2 => ?_⟩, ha, by simpa using hl.1, fun y hy => ?_, ho, hi⟩
 ·have hlt := (List.getElem?_eq_some_iff.1 h1).1
  rw [List.getElem?_map, List.getElem?_range hlt] at h2
  obtain rfl := Option.some.inj h2
  show Row kd ei W (sl f) (tg (F i) (fs.getD i (none, 0, 0)).2.1)
  rw [List.getD_eq_getElem?_getD, h1]
  exact h.row i f h1
 ·obtain ⟨i, hi, rfl⟩ := List.mem_map.1 hy
  have hlt := List.mem_range.1 hi
  rw [tg_length, List.getD_eq_getElem?_getD, List.getElem?_eq_getElem hlt]
  exact hl.2 _ (List.getElem_mem hlt)
theorem Row.outer (h : Row slKd eo W V fs) (hf : fs[i]? = some f) : ∃ g c, V = .slice (some ⟨g, 0, none⟩) fs.length c ∧ W.cell? ⟨g, i, none⟩ = some (.slice f.1 f.2.1 f.2.2) ∧ W.frozen? ⟨g, i, none⟩ = false := by
 have hi := (List.getElem?_eq_some_iff.1 hf).1
 obtain ⟨g, cap, hv, _, _, _⟩ := Kd.R_form h (by omega)
 rw [hv] at h
 obtain ⟨e0, e1⟩ := Kd.R_celln (none, 0, 0) h (i : Int) (by omega) (by omega)
 rw [Int.toNat_natCast] at e0 e1
 rw [show rdOf (none, 0, 0) fs (i : Int) = f by unfold rdOf; rw [Int.toNat_natCast, List.getD_eq_getElem?_getD, hf]; rfl] at e0
 exact ⟨g, cap, hv, e0, e1⟩
end
structure S2 {α : Type} (kd : Kd α) (eo ei : Nat) (P : World → Prop) (base : Nat) (w : World) (V M : Value) (fs fM : List Tr) (F H : Nat → Nat → α) (W : World) : Prop where
 mk_ : Mk kd eo ei W V fs F
 om : Row slKd eo W M fM
 rm : ∀ (k : Nat) (f : Tr), fM[k]? = some f → ∃ u, fs[k]? = some u ∧ f.2.1 = u.2.1 + 64 ∧ Row kd ei W (sl f) (tg (F k) u.2.1 ++ tg (H k) 64)
 ap : ∀ (k : Nat) (f : Tr) (k' : Nat) (u : Tr), fM[k]? = some f → fs[k']? = some u → k' ≠ k → ∀ b, (sl u).ownBlock = some b → (sl f).ownBlock ≠ some b
 vm : ∀ b, V.ownBlock = some b → M.ownBlock ≠ some b
 mb : ∀ b, M.ownBlock = some b → base ≤ b
 p : P W
 bel : Below base w W
structure S2g {α : Type} (kd : Kd α) (eo ei : Nat) (P : World → Prop) (base : Nat) (w : World) (V M : Value) (fs fM : List Tr) (F H : Nat → Nat → α) (i : Nat) (f : Tr) (k : Nat) (g : Value) (W : World) : Prop where
 st : S2 kd eo ei P base w V M fs fM F H W
 hf : fs[i]? = some f
 li : fM.length = i
 rg : Row kd ei W g (tg (F i) f.2.1 ++ tg (H i) k)
 pf : Pref g (sl f)
 ag : ∀ (k' : Nat) (u : Tr), fs[k']? = some u → k' ≠ i → ∀ b, (sl u).ownBlock = some b → b < W.heap.size ∧ g.ownBlock ≠ some b
 agM : ∀ u ∈ fM, ∀ b, (sl u).ownBlock = some b → b < W.heap.size ∧ g.ownBlock ≠ some b
 gb : ∀ b, g.ownBlock = some b → base ≤ b
section
variable {α : Type} {kd : Kd α} {eo ei : Nat} {W W1 w w1 : World} {V M M1 g v1 : Value} {fs fM : List Tr} {f gf : Tr} {F G G' H : Nat → Nat → α} {i j k base Bd : Nat} {P : World → Prop}
theorem S2.below (hP : Sta eo ei P) (h : S2 kd eo ei P base w V M fs fM F H W) (hb : Below W.heap.size W W1) (hB : base ≤ W.heap.size) : S2 kd eo ei P base w V M fs fM F H W1 :=
 ⟨h.mk_.below hb, h.om.below hb, fun k f hk => by
  obtain ⟨u, h1, h2, h3⟩ := h.rm k f hk
  exact ⟨u, h1, h2, h3.below hb⟩, h.ap, h.vm, h.mb, hP.2 _ _ h.p hb, h.bel.trans (hb.mono hB)⟩
theorem S2.begin (h : Mk kd eo ei W V fs F) (hp : P W) (hb : Below base w W) : S2 kd eo ei P base w V (.slice none 0 0) fs [] F H W :=
 ⟨h, Kd.R_nil _ _ _ _ _, fun k f hk => (by cases hk), fun k f k' u hk => (by cases hk), fun b _ he => (by cases he), fun b he => (by cases he), hp, hb⟩
theorem S2.start (h : S2 kd eo ei P base w V M fs fM F H W) (ha : Apt fs) (hf : fs[i]? = some f) (hi : fM.length = i) (hb : ∀ b, (sl f).ownBlock = some b → base ≤ b) : S2g kd eo ei P base w V M fs fM F H i f 0 (sl f) W := by
 refine ⟨h, hf, hi, by rw [show tg (H i) 0 = [] from rfl, List.append_nil]; exact h.mk_.row i f hf, Pref.refl, fun k' u hu hk b hb => ⟨Kd.R_lt (h.mk_.row k' u hu) b hb, fun he => ha k' i u f hk hu hf b hb he⟩, fun u hu b hb => ?_, hb⟩
 obtain ⟨q, hq⟩ := List.getElem?_of_mem hu
 obtain ⟨u2, h1, h2, h3⟩ := h.rm q u hq
 have hql := (List.getElem?_eq_some_iff.1 hq).1
 exact ⟨Kd.R_lt h3 b hb, fun he => h.ap q u i f hq hf (by omega) b he hb⟩
theorem S2g.step (hE : kd.E = []) (hne : eo ≠ ei) (hP : Sta eo ei P) (hB : base ≤ W.heap.size) (h : S2g kd eo ei P base w V M fs fM F H i f k g W) (hR : Row kd ei w1 v1 ((tg (F i) f.2.1 ++ tg (H i) k) ++ [H i k])) (hRo : Row kd ei w1 g (tg (F i) f.2.1 ++ tg (H i) k)) (hg : W.grownBy w1 g.ownBlock) (hx : Ext W w1 g v1) :
  S2g kd eo ei P base w V M fs fM F H i f (k + 1) v1 w1 := by
 obtain ⟨hl, hp⟩ := h.pf.step hE hx hg (by rw [tg_length, List.take_append_of_le_length (by rw [tg_length]; exact Nat.le_refl _), List.take_of_length_le (by rw [tg_length]; exact Nat.le_refl _)]) (h.st.mk_.row i f h.hf) hRo
 have hto : ∀ {v : Value} {zs : List Tr}, Row slKd eo W v zs → Row slKd eo w1 v zs := fun hv => hv.grown rfl hg fun b hb he => by
  obtain ⟨c, hc⟩ := hv.typed b hb
  obtain ⟨c', hc'⟩ := h.rg.typed b he
  exact hne (typed_ne hc hc')
 have ext : ∀ {b : Nat}, b < W.heap.size → g.ownBlock ≠ some b → v1.ownBlock ≠ some b := fun {b} h1 h2 he => by
  rcases hx.own with ho | ⟨q, hq1, hq2⟩
  ·exact h2 (ho ▸ he)
  ·rw [hq1] at he
   injection he with he
   omega
 refine ⟨⟨⟨hto h.st.mk_.out, fun i' u hu => ?_⟩, hto h.st.om, fun q u hq => ?_, h.st.ap, h.st.vm, h.st.mb, hP.1 _ _ _ h.st.p hg (fun b hb => ?_), h.st.bel.trans (base_grown hg h.gb hB)⟩, h.hf, h.li, by rw [tg_succ, ← List.append_assoc]; exact hR, hp, fun k' u hu hk b hb => ?_, fun u hu b hb => ?_, fun b hb => ?_⟩
 ·by_cases hi : i' = i
  ·subst hi
   rw [h.hf] at hu
   cases hu
   exact hl
  ·exact (h.st.mk_.row i' u hu).grown hE hg (fun b hb => (h.ag i' u hu hi b hb).2)
 ·obtain ⟨u2, h1, h2, h3⟩ := h.st.rm q u hq
  exact ⟨u2, h1, h2, h3.grown hE hg (fun b hb => (h.agM u (List.mem_of_getElem? hq) b hb).2)⟩
 ·obtain ⟨c, hc⟩ := h.rg.typed b hb
  exact ⟨c, ei, hc, .inr rfl⟩
 ·obtain ⟨h1, h2⟩ := h.ag k' u hu hk b hb
  exact ⟨Nat.lt_of_lt_of_le h1 hg.size, ext h1 h2⟩
 ·obtain ⟨h1, h2⟩ := h.agM u hu b hb
  exact ⟨Nat.lt_of_lt_of_le h1 hg.size, ext h1 h2⟩
 ·rcases hx.own with ho | ⟨q, hq1, hq2⟩
  ·exact h.gb b (ho ▸ hb)
  ·rw [hq1] at hb
   injection hb with hb
   omega
theorem S2g.push (hE : kd.E = []) (hne : eo ≠ ei) (hP : Sta eo ei P) (hB : base ≤ W.heap.size) (h : S2g kd eo ei P base w V M fs fM F H i f 64 (sl gf) W) (hl : gf.2.1 = f.2.1 + 64) (hR : Row slKd eo w1 M1 (fM ++ [gf])) (hg : W.grownBy w1 M.ownBlock) (hx : Ext W w1 M M1) : S2 kd eo ei P base w V M1 fs (fM ++ [gf]) F H w1 := by
 have hti : ∀ {v : Value} {zs : List α}, Row kd ei W v zs → Row kd ei w1 v zs := fun hv => hv.grown hE hg fun b hb he => by
  obtain ⟨c, hc⟩ := hv.typed b hb
  obtain ⟨c', hc'⟩ := h.st.om.typed b he
  exact hne (typed_ne hc' hc)
 have sp : ∀ {q : Nat} {u : Tr}, (fM ++ [gf])[q]? = some u → fM[q]? = some u ∨ (q = i ∧ u = gf) := fun {q u} hq => by
  rcases Nat.lt_trichotomy q fM.length with h1 | h1 | h1
  ·rw [List.getElem?_append_left h1] at hq
   exact .inl hq
  ·subst h1
   rw [List.getElem?_append_right (Nat.le_refl _), Nat.sub_self] at hq
   exact .inr ⟨h.li, (Option.some.inj hq).symm⟩
  ·rw [List.getElem?_eq_none (by rw [List.length_append, List.length_singleton]; omega)] at hq
   cases hq
 refine ⟨⟨h.st.mk_.out.grown rfl hg (fun b hb => h.st.vm b hb), fun i' u hu => hti (h.st.mk_.row i' u hu)⟩, hR, fun q u hq => ?_, fun q u k' u2 hq hu2 hk b hb => ?_, fun b hb he => ?_, fun b hb => ?_, hP.1 _ _ _ h.st.p hg (fun b hb => ?_), h.st.bel.trans (base_grown hg h.st.mb hB)⟩
 ·rcases sp hq with hq | ⟨rfl, rfl⟩
  ·obtain ⟨u2, h1, h2, h3⟩ := h.st.rm q u hq
   exact ⟨u2, h1, h2, hti h3⟩
  ·exact ⟨f, h.hf, hl, hti h.rg⟩
 ·rcases sp hq with hq | ⟨rfl, rfl⟩
  ·exact h.st.ap q u k' u2 hq hu2 hk b hb
  ·exact (h.ag k' u2 hu2 hk b hb).2
 ·rcases hx.own with ho | ⟨q, hq1, hq2⟩
  ·exact h.st.vm b hb (ho ▸ he)
  ·rw [hq1] at he
   injection he with he
   have := Kd.R_lt h.st.mk_.out b hb
   omega
 ·rcases hx.own with ho | ⟨q, hq1, hq2⟩
  ·exact h.st.mb b (ho ▸ hb)
  ·rw [hq1] at hb
   injection hb with hb
   omega
 ·obtain ⟨c, hc⟩ := h.st.om.typed b hb
  exact ⟨c, eo, hc, .inl rfl⟩
end
end Wk
end Go.Proofs.YtnioohhiphpplaaDoor.Dp
