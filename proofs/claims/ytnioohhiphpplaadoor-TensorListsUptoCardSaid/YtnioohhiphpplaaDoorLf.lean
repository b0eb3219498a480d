/- The walk of Book.turns. -/
import Derived.Test.YtnioohhiphpplaaDoorLe
import Derived.Test.YtnioohhiphpplaaDoorSq
set_option linter.unusedVariables false
set_option linter.unusedSimpArgs false
namespace Go.Proofs.YtnioohhiphpplaaDoor.Dp
open Go.RowKit Go.Proofs.YtnioohhiphpplaaDoor.Pplays Go.Proofs.YtnioohhiphpplaaDoorW.PrintWords Go.Proofs.YtnioohhiphpplaaDoorW.PrintLast Go.Proofs.YtnioohhiphpplaaDoorW.PrintMore Go.Proofs.YtnioohhiphpplaaDoor.M Go.Proofs.YtnioohhiphpplaaDoor.Wk Go.Lib
namespace Wk
section
variable {α : Type} {kd : Kd α} {eo ei : Nat} {W W1 : World} {N : Value} {fs : List Tr} {xss : List (List α)} {f : Tr} {xs : List α}
theorem Col.one (hE : kd.E = []) (h : Col kd eo ei W N fs xss) {pos : Nat} (hf : fs[pos]? = some f) (hx : xss[pos]? = some xs) (hne : eo ≠ ei) {g : Value} (hg : W.grownBy W1 g.ownBlock) (ht : ∀ k, g.ownBlock = some k → ∃ cells, W.heap[k]? = some (.cells cells ei (0, 0)))
  (ha : ∀ (i : Nat) (f' : Tr), fs[i]? = some f' → i ≠ pos → ∀ k, (sl f').ownBlock = some k → g.ownBlock ≠ some k) (hr : Row kd ei W1 (sl f) xs) : Col kd eo ei W1 N fs xss := by
 refine ⟨h.out.grown rfl hg fun k hk he => by
  obtain ⟨c, h1⟩ := ht k he
  obtain ⟨c', h'⟩ := h.out.typed k hk
  exact hne (typed_ne h' h1), h.len, fun i f' xs' h1 h2 => ?_⟩
 by_cases hi : i = pos
 ·subst hi
  rw [hf] at h1
  rw [hx] at h2
  cases h1
  cases h2
  exact hr
 ·exact (h.row i f' xs' h1 h2).grown hE hg (ha i f' h1 hi)
end
structure G3 {α : Type} (kd : Kd α) (eo ei : Nat) (w : World) (GB : Nat) (cs : Array Value) (S : Nat → Prop) (N M : Value) (fN fM : List Tr) (pos : Nat) (f : Tr) (xN xM : List (List α)) (y1 zg zm : List α) (g m : Value) (W : World) : Prop where
 blk : W.heap[GB]? = some (.cells cs 45 (0, 0))
 pr : Pr kd eo ei W N M fN fM xN xM
 hf : fN[pos]? = some f
 hx : xN[pos]? = some y1
 rg : Row kd ei W g (y1 ++ zg)
 rm : Row kd ei W m (y1 ++ zm)
 rl : Row kd ei W (sl f) y1
 pf : Pref g (sl f)
 ag : ∀ (i : Nat) (f' : Tr), fN[i]? = some f' → i ≠ pos → ∀ k, (sl f').ownBlock = some k → k < W.heap.size ∧ g.ownBlock ≠ some k
 agM : Ap W g (fM.map sl)
 am : Ap W m (fN.map sl ++ fM.map sl)
 gm : Ap W g [m]
 mg : Ap W m [g]
 fr : Fr w W S
 gs : ∀ k, g.ownBlock = some k → S k ∨ w.heap.size ≤ k
 ms : ∀ k, m.ownBlock = some k → S k ∨ w.heap.size ≤ k
section
variable {α : Type} {kd : Kd α} {eo ei GB pos : Nat} {w W w1 : World} {cs : Array Value} {S : Nat → Prop} {N M g m v1 : Value} {fN fM : List Tr} {f : Tr} {xN xM : List (List α)} {y1 zg zm : List α} {p : α}
theorem G3.stepG (hE : kd.E = []) (hne : eo ≠ ei) (hi : ei ≠ 45) (h : G3 kd eo ei w GB cs S N M fN fM pos f xN xM y1 zg zm g m W) (hR : Row kd ei w1 v1 ((y1 ++ zg) ++ [p])) (hRo : Row kd ei w1 g (y1 ++ zg)) (hg : W.grownBy w1 g.ownBlock) (hx : Ext W w1 g v1) :
  G3 kd eo ei w GB cs S N M fN fM pos f xN xM y1 (zg ++ [p]) zm v1 m w1 := by
 obtain ⟨hl, hp⟩ := h.pf.step hE hx hg (by rw [List.take_left]) h.rl hRo
 refine ⟨blk_g h.blk hg (out_ne h.rg h.blk hi), ⟨h.pr.cN.one hE h.hf h.hx hne hg h.rg.typed (fun i f' h1 h2 k hk => (h.ag i f' h1 h2 k hk).2) hl, h.pr.cM.apart hE hne hg h.rg.typed h.agM, h.pr.ap⟩, h.hf, h.hx, by rw [← List.append_assoc]; exact hR, h.rm.grown hE hg (fun k hk => (h.gm m (List.mem_singleton.2 rfl) k hk).2), hl, hp, fun i f' h1 h2 k hk => ?_, h.agM.step hx hg.size, h.am.size hg.size, h.gm.step hx hg.size, h.mg.back hx hg.size h.rm (Kd.R_lt hR), h.fr.grown hg h.gs, own_in h.gs hx h.fr.size, h.ms⟩
 obtain ⟨h3, h4⟩ := h.ag i f' h1 h2 k hk
 refine ⟨Nat.lt_of_lt_of_le h3 hg.size, fun he => ?_⟩
 rcases hx.own with ho | ⟨b, hb, hle⟩
 ·exact h4 (ho ▸ he)
 ·rw [hb] at he
  injection he with he
  omega
theorem G3.stepM (hE : kd.E = []) (hne : eo ≠ ei) (hi : ei ≠ 45) (h : G3 kd eo ei w GB cs S N M fN fM pos f xN xM y1 zg zm g m W) (hR : Row kd ei w1 v1 ((y1 ++ zm) ++ [p])) (hg : W.grownBy w1 m.ownBlock) (hx : Ext W w1 m v1) :
  G3 kd eo ei w GB cs S N M fN fM pos f xN xM y1 zg (zm ++ [p]) g v1 w1 := by
 have hl : Row kd ei w1 (sl f) y1 := h.rl.grown hE hg (fun k hk => (h.am (sl f) (List.mem_append_left _ (List.mem_map.2 ⟨f, List.mem_of_getElem? h.hf, rfl⟩)) k hk).2)
 exact ⟨blk_g h.blk hg (out_ne h.rm h.blk hi), h.pr.lists hE hne hg h.rm h.am, h.hf, h.hx, h.rg.grown hE hg (fun k hk => (h.mg g (List.mem_singleton.2 rfl) k hk).2), by rw [← List.append_assoc]; exact hR, hl, h.pf, fun i f' h1 h2 k hk => ⟨Nat.lt_of_lt_of_le (h.ag i f' h1 h2 k hk).1 hg.size, (h.ag i f' h1 h2 k hk).2⟩, h.agM.size hg.size, h.am.step hx hg.size, h.gm.back hx hg.size h.rg (Kd.R_lt hR), h.mg.step hx hg.size, h.fr.grown hg h.ms, h.gs, own_in h.ms hx h.fr.size⟩
end
def TuS (GB : Nat) (T U : Value) (n : Nat) (fr : Nat → Tr) (k : Nat) : Prop := k = GB ∨ T.ownBlock = some k ∨ U.ownBlock = some k ∨ ∃ j, j < n ∧ (sl (fr j)).ownBlock = some k
structure T1 (w : World) (GB : Nat) (N M Wv X T U lsv : Value) (S : Nat → Prop) (n : Nat) (fT : List Tr) (fr : Nat → Tr) (o : Nat → List S87) (xT : List (List S87)) (i : Nat) (L : Int) (fU : List Tr) (Y : List (List S87)) (W : World) : Prop where
 blk : W.heap[GB]? = some (.cells (bkc N M Wv X T U L) 45 (0, 0))
 ls : Row slKd 37 W lsv (tabS fr n)
 lsT : ∀ k, lsv.ownBlock = some k → T.ownBlock ≠ some k ∧ U.ownBlock ≠ some k
 pr : Pr k87 37 87 W T U (fT ++ tabS fr i) fU (xT ++ Y) (xT ++ Y)
 row : ∀ k, i ≤ k → k < n → Row k87 87 W (sl (fr k)) (o k)
 ap : ∀ k, k < n → Ap W (sl (fr k)) (fT.map sl ++ fU.map sl)
 frm : Fr w W S
theorem T1.below {w : World} {GB : Nat} {N M Wv X T U lsv : Value} {S : Nat → Prop} {n : Nat} {fT : List Tr} {fr : Nat → Tr} {o : Nat → List S87} {xT : List (List S87)} {i : Nat} {L : Int} {fU : List Tr} {Y : List (List S87)} {W W1 : World}
  (h : T1 w GB N M Wv X T U lsv S n fT fr o xT i L fU Y W) (hb : Below W.heap.size W W1) : T1 w GB N M Wv X T U lsv S n fT fr o xT i L fU Y W1 :=
 ⟨blk_below h.blk hb, h.ls.below hb, h.lsT, h.pr.below hb, fun k h1 h2 => (h.row k h1 h2).below hb, fun k hk => (h.ap k hk).size hb.size, h.frm.below hb⟩
theorem tabS_mem {fr : Nat → Tr} {n : Nat} {u : Value} (h : u ∈ (tabS fr n).map sl) : ∃ j, j < n ∧ u = sl (fr j) := by
 obtain ⟨f, hf, rfl⟩ := List.mem_map.1 h
 obtain ⟨j, hj, rfl⟩ := List.mem_map.1 hf
 exact ⟨j, List.mem_range.1 hj, rfl⟩
def oU (o : Nat → List S87) (i : Nat) (l : List S87) (j : Nat) : List S87 := if j = i then l else o j
theorem T1.setLast {w : World} {GB : Nat} {N M Wv X T U lsv : Value} {S : Nat → Prop} {n : Nat} {fT : List Tr} {fr : Nat → Tr} {o : Nat → List S87} {xT : List (List S87)} {i : Nat} {L : Int} {fU : List Tr} {Y : List (List S87)} {W : World}
  (h : T1 w GB N M Wv X T U lsv S n fT fr o xT i L fU Y W) (hS : S GB) (L' : Int) : T1 w GB N M Wv X T U lsv S n fT fr o xT i L' fU Y (W.setCell ⟨GB, 6, none⟩ (.int .i64 L')) := by
 have hg := grownBy_set W ⟨GB, 6, none⟩ (.int .i64 L')
 have hne : ∀ {α : Type} {kd : Kd α} {e : Nat} {v : Value} {xs : List α}, e ≠ 45 → Row kd e W v xs → ∀ k, v.ownBlock = some k → (some GB : Option Nat) ≠ some k := fun he hv k hk h1 => out_ne hv h.blk he (by rw [hk, h1])
 exact ⟨blk_put h.blk 6 _ rfl, h.ls.grown rfl hg (hne (by decide) h.ls), h.lsT, h.pr.other rfl hg (t := 45) (fun k hk => by cases hk; exact ⟨_, h.blk⟩) (by decide) (by decide), fun k h1 h2 => (h.row k h1 h2).grown rfl hg (hne (by decide) (h.row k h1 h2)), fun k hk => (h.ap k hk).size hg.size, h.frm.grown hg (fun k hk => by cases hk; exact .inl hS)⟩
theorem T1.ap2 {w : World} {GB : Nat} {N M Wv X T U lsv : Value} {S : Nat → Prop} {n : Nat} {fT : List Tr} {fr : Nat → Tr} {o : Nat → List S87} {xT : List (List S87)} {i : Nat} {L : Int} {fU : List Tr} {Y : List (List S87)} {W : World}
  (h : T1 w GB N M Wv X T U lsv S n fT fr o xT i L fU Y W) (hi : i < n) (hp : ∀ j k, j < n → k < n → j ≠ k → ∀ b, (sl (fr j)).ownBlock = some b → (sl (fr k)).ownBlock ≠ some b) : Ap W (sl (fr i)) ((fT ++ tabS fr i).map sl ++ fU.map sl) := fun u hu k hk => by
 have hlt := h.pr.size u hu k hk
 rw [List.map_append, List.append_assoc, List.mem_append, List.mem_append] at hu
 rcases hu with hu | hu | hu
 ·exact h.ap i hi u (List.mem_append_left _ hu) k hk
 ·obtain ⟨j, hj, rfl⟩ := tabS_mem hu
  exact ⟨hlt, hp j i (by omega) hi (by omega) k hk⟩
 ·exact h.ap i hi u (List.mem_append_right _ hu) k hk
theorem T1.put {w : World} {GB : Nat} {N M Wv X T U lsv : Value} {S : Nat → Prop} {n : Nat} {fT : List Tr} {fr : Nat → Tr} {o : Nat → List S87} {xT : List (List S87)} {i : Nat} {L : Int} {fU : List Tr} {Y : List (List S87)} {W W1 : World} {ys ys0 : List S87}
  (h : T1 w GB N M Wv X T U lsv S n fT fr (oU o i ys0) xT i L fU Y W) (hi : i < n) (hp : ∀ j k, j < n → k < n → j ≠ k → ∀ b, (sl (fr j)).ownBlock = some b → (sl (fr k)).ownBlock ≠ some b) (hS : ∀ k, (sl (fr i)).ownBlock = some k → S k) (hg : W.grownBy W1 (sl (fr i)).ownBlock) (hR : Row k87 87 W1 (sl (fr i)) ys) :
  T1 w GB N M Wv X T U lsv S n fT fr (oU o i ys) xT i L fU Y W1 := by
 have hr := h.row i (Nat.le_refl _) hi
 refine ⟨blk_g h.blk hg (out_ne hr h.blk (by decide)), h.ls.grown rfl hg fun k hk he => ?_, h.lsT, h.pr.lists rfl (by decide) hg hr (h.ap2 hi hp), fun k h1 h2 => ?_, fun k hk => (h.ap k hk).size hg.size, h.frm.grown hg fun k hk => .inl (hS k hk)⟩
 ·obtain ⟨c, hc⟩ := hr.typed k he
  obtain ⟨c', hc'⟩ := h.ls.typed k hk
  exact absurd (typed_ne hc hc') (by decide)
 ·by_cases hk : k = i
  ·subst hk
   unfold oU
   rw [if_pos rfl]
   exact hR
  ·have h3 := h.row k h1 h2
   unfold oU at h3 ⊢
   rw [if_neg hk] at h3 ⊢
   exact h3.grown rfl hg (fun b hb he => hp k i h2 hi hk b hb he)
theorem tabS_succ (fr : Nat → Tr) (n : Nat) : tabS fr (n + 1) = tabS fr n ++ [fr n] := by simp [tabS, List.range_succ]
structure T2 (w : World) (GB : Nat) (N M Wv X T U lsv : Value) (S : Nat → Prop) (n : Nat) (fT : List Tr) (fr : Nat → Tr) (xs : List (List S87)) (i : Nat) (L : Int) (G fU : List Tr) (W : World) : Prop where
 blk : W.heap[GB]? = some (.cells (bkc N M Wv X T U L) 45 (0, 0))
 ls : Row slKd 37 W lsv (tabS fr n)
 lsT : ∀ k, lsv.ownBlock = some k → T.ownBlock ≠ some k ∧ U.ownBlock ≠ some k
 pr : Pr k87 37 87 W T U (fT ++ tabS fr n ++ G) fU xs xs
 gl : G.length = i
 ap : ∀ k, k < n → Ap W (sl (fr k)) (fT.map sl ++ fU.map sl)
 gr : ∀ k, i ≤ k → k < n → Ap W (sl (fr k)) (G.map sl)
 frm : Fr w W S
section
variable {w : World} {GB : Nat} {N M Wv X T U lsv : Value} {S : Nat → Prop} {n : Nat} {fT : List Tr} {fr : Nat → Tr} {xs : List (List S87)} {i : Nat} {L : Int} {G fU : List Tr} {W W1 : World}
theorem T2.setLast (h : T2 w GB N M Wv X T U lsv S n fT fr xs i L G fU W) (hS : S GB) (L' : Int) : T2 w GB N M Wv X T U lsv S n fT fr xs i L' G fU (W.setCell ⟨GB, 6, none⟩ (.int .i64 L')) := by
 have hg := grownBy_set W ⟨GB, 6, none⟩ (.int .i64 L')
 exact ⟨blk_put h.blk 6 _ rfl, h.ls.grown rfl hg (fun k hk h1 => out_ne h.ls h.blk (by decide) (by rw [hk, h1])), h.lsT, h.pr.other rfl hg (t := 45) (fun k hk => by cases hk; exact ⟨_, h.blk⟩) (by decide) (by decide), h.gl, fun k hk => (h.ap k hk).size hg.size, fun k h1 h2 => (h.gr k h1 h2).size hg.size, h.frm.grown hg (fun k hk => by cases hk; exact .inl hS)⟩
theorem fN_at {k : Nat} (hk : k < n) : (fT ++ tabS fr n ++ G)[fT.length + k]? = some (fr k) := by
 rw [List.append_assoc, List.getElem?_append_right (Nat.le_add_right _ _), Nat.add_sub_cancel_left, List.getElem?_append_left (by rw [tabS_length]; exact hk), tabS_get? hk]
theorem fN_cases {j : Nat} {f : Tr} (h : (fT ++ tabS fr n ++ G)[j]? = some f) : f ∈ fT ∨ (∃ k, k < n ∧ j = fT.length + k ∧ f = fr k) ∨ f ∈ G := by
 rcases Nat.lt_or_ge j fT.length with h1 | h1
 ·rw [List.append_assoc, List.getElem?_append_left h1] at h
  exact .inl (List.mem_of_getElem? h)
 ·rw [List.append_assoc, List.getElem?_append_right h1] at h
  rcases Nat.lt_or_ge (j - fT.length) n with h2 | h2
  ·rw [List.getElem?_append_left (by rw [tabS_length]; exact h2), tabS_get? h2] at h
   exact .inr (.inl ⟨j - fT.length, h2, by omega, (Option.some.inj h).symm⟩)
  ·rw [List.getElem?_append_right (by rw [tabS_length]; exact h2)] at h
   exact .inr (.inr (List.mem_of_getElem? h))
theorem T2.start (h : T2 w GB N M Wv X T U lsv S n fT fr xs i L G fU W) (hi : i < n) (hp : ∀ j k, j < n → k < n → j ≠ k → ∀ b, (sl (fr j)).ownBlock = some b → (sl (fr k)).ownBlock ≠ some b) (hS : ∀ k, (sl (fr i)).ownBlock = some k → S k) (hb : Below W.heap.size W W1) {y1 : List S87} (hx : xs[fT.length + i]? = some y1) {m : Value} (hm : Kd.R k87 87 W1 W.heap.size (fun _ => True) m y1) :
  G3 k87 37 87 w GB (bkc N M Wv X T U L) S T U (fT ++ tabS fr n ++ G) fU (fT.length + i) (fr i) xs xs y1 [] [] (sl (fr i)) m W1 := by
 have hr : Row k87 87 W (sl (fr i)) y1 := h.pr.cN.row _ (fr i) y1 (fN_at hi) hx
 have ha : ∀ (j : Nat) (f' : Tr), (fT ++ tabS fr n ++ G)[j]? = some f' → j ≠ fT.length + i → ∀ k, (sl f').ownBlock = some k → k < W1.heap.size ∧ (sl (fr i)).ownBlock ≠ some k := fun j f' h1 h2 k hk => by
  have hlt := h.pr.cN.lt (sl f') (List.mem_map.2 ⟨f', List.mem_of_getElem? h1, rfl⟩) k hk
  refine ⟨Nat.lt_of_lt_of_le hlt hb.size, ?_⟩
  rcases fN_cases h1 with h3 | ⟨q, hq, hj, rfl⟩ | h3
  ·exact (h.ap i hi (sl f') (List.mem_append_left _ (List.mem_map.2 ⟨f', h3, rfl⟩)) k hk).2
  ·exact hp q i hq hi (by omega) k hk
  ·exact (h.gr i (Nat.le_refl _) hi (sl f') (List.mem_map.2 ⟨f', h3, rfl⟩) k hk).2
 refine ⟨blk_below h.blk hb, h.pr.below hb, fN_at hi, hx, by rw [List.append_nil]; exact hr.below hb, by rw [List.append_nil]; exact Row.of hm, hr.below hb, Pref.refl, ha, ((h.ap i hi).sub fun u hu => List.mem_append_right _ hu).size hb.size, Ap.new hm hb.size h.pr.size, ?_, ?_, h.frm.below hb, fun k hk => .inl (hS k hk), fun k hk => .inr ?_⟩
 ·exact Ap.one fun k hk => ⟨Kd.R_lt hm k hk, fun he => by have := Kd.R_lt hr k he; have := Kd.R_base hm k hk; omega⟩
 ·exact Ap.one fun k hk => ⟨Kd.R_lt (hr.below hb) k hk, fun he => by have := Kd.R_lt hr k hk; have := Kd.R_base hm k he; omega⟩
 ·have := Kd.R_base hm k hk
  have := h.frm.size
  omega
theorem G3.apart {pos : Nat} {y1 zg zm : List S87} {g m : Value} {cs : Array Value} {fN : List Tr} (h : G3 k87 37 87 w GB cs S T U fN fU pos (fr i) xs xs y1 zg zm g m W) {q : Nat} {f : Tr} (hq : fN[q]? = some f) : (q ≠ pos → Ap W (sl f) [g]) ∧ Ap W (sl f) [m] := by
 refine ⟨fun hne => Ap.one fun b hb => ⟨Kd.R_lt h.rg b hb, fun he => (h.ag q f hq hne b he).2 hb⟩, Ap.one fun b hb => ⟨Kd.R_lt h.rm b hb, fun he => (h.am (sl f) (List.mem_append_left _ (List.mem_map.2 ⟨f, List.mem_of_getElem? hq, rfl⟩)) b he).2 hb⟩⟩
end
theorem ls_grown {W W1 : World} {lsv g : Value} {zs : List Tr} {ys : List S87} (h : Row slKd 37 W lsv zs) (hr : Row k87 87 W g ys) (hg : W.grownBy W1 g.ownBlock) : Row slKd 37 W1 lsv zs := h.grown rfl hg fun k hk he => by
 obtain ⟨c, hc⟩ := hr.typed k he
 obtain ⟨c', hc'⟩ := h.typed k hk
 exact absurd (typed_ne hc hc') (by decide)
theorem wrap_add2 {a b : Nat} (h : a + b ≤ 2 ^ 62) : wrap64 ((a : Int) + (b : Int)) = ((a + b : Nat) : Int) := by
 unfold wrap64
 omega
set_option maxHeartbeats 4000000 in
set_option maxRecDepth 100000 in
theorem bturns_calls {GB n m c0 : Nat} {Al : Option Addr} {N M Wv X T U : Value} {fT fU : List Tr} {xT : List (List S87)} {last : Int} {fr : Nat → Tr} {o : Nat → List S87} (w : World)
  (hb : w.heap[GB]? = some (.cells (bkc N M Wv X T U last) 45 (0, 0))) (hP : Pr k87 37 87 w T U fT fU xT xT) (hls : Row slKd 37 w (.slice Al n c0) (tabS fr n)) (hlT : ∀ k, (Value.slice Al n c0).ownBlock = some k → T.ownBlock ≠ some k ∧ U.ownBlock ≠ some k)
  (hrow : ∀ k, k < n → Row k87 87 w (sl (fr k)) (o k) ∧ (o k).length = m ∧ Ap w (sl (fr k)) (fT.map sl ++ fU.map sl)) (hpair : ∀ j k, j < n → k < n → j ≠ k → ∀ b, (sl (fr j)).ownBlock = some b → (sl (fr k)).ownBlock ≠ some b)
  (hn : n ≤ 64) (hm : m ≤ 16777216) (h0 : 0 ≤ last) (h1 : last ≤ 1099511627776) (hx : xT.length ≤ 1099511627776) :
  Calls Tryd.prog 34 #[.pointer (some ⟨GB, 0, none⟩), .slice Al n c0] w fun e w' => e = .returned (.tuple #[]) ∧ ∃ T' U' fT' fU' Y L, w'.heap[GB]? = some (.cells (bkc N M Wv X T' U' L) 45 (0, 0)) ∧ last ≤ L ∧ L ≤ last + 128 ∧
   Pr k87 37 87 w' T' U' fT' fU' (xT ++ Y) (xT ++ Y) ∧ Y.length ≤ 128 ∧ (∀ y ∈ Y, y.length ≤ 16777280) ∧ (∀ k, T'.ownBlock = some k → T.ownBlock = some k ∨ w.heap.size ≤ k) ∧ (∀ k, U'.ownBlock = some k → U.ownBlock = some k ∨ w.heap.size ≤ k) ∧ Fr w w' (TuS GB T U n fr) := by
 have hu45 := Tryd.underlying45
 have hu87 := Tryd.underlying87
 obtain ⟨AT, cT, hTe⟩ := Kd.R_slice hP.cN.out
 obtain ⟨F, hF⟩ : ∃ F, fT.length = F := ⟨_, rfl⟩
 rw [hF] at hTe
 have hFx : F = xT.length := by rw [← hF]; exact hP.cN.len
 have c4 : w.cell? ⟨GB, 4, none⟩ = some (.slice AT F cT) := by rw [← hTe]; exact (blk_cell hb 4).trans rfl
 obtain ⟨lsv, hlsv⟩ : ∃ y, y = Value.slice Al n c0 := ⟨_, rfl⟩
 rw [← hlsv] at hls hlT
 have H1 : T1 w GB N M Wv X T U lsv (TuS GB T U n fr) n fT fr o xT 0 last fU [] w := ⟨hb, hls, hlT, by rw [show tabS fr 0 = [] from rfl, List.append_nil, List.append_nil]; exact hP, fun k _ hk => (hrow k hk).1, fun k hk => (hrow k hk).2.2, Fr.refl _ _⟩
 have HOL : Hid (∀ k, k < n → (o k).length = m) := Lib.hid (fun k hk => (hrow k hk).2.1)
 have HPAIR := Lib.hid hpair
 have HH := Lib.hid H1
 have HLS := Lib.hid hlsv
 have HFX := Lib.hid hFx
 have HFF := Lib.hid hF
 have HX := Lib.hid hx
 have HL0 := Lib.hid h0
 have HL1 := Lib.hid h1
 clear hb hP hls hlT hrow hpair h0 h1 hx hTe hF hFx H1 hlsv
 go_enter Tryd.func34, Tryd.ntmps34
 go_wp2
 clear c4
 go_loopw [5] (fun y wr => ∃ (i : Nat) (T1_ U1_ : Value) (fU1 : List Tr) (Y : List (List S87)), y = .int .i64 (i : Int) ∧ i ≤ n ∧ Y.length = i ∧ (∀ y ∈ Y, y.length = m) ∧ T1 w GB N M Wv X T1_ U1_ lsv (TuS GB T U n fr) n fT fr o xT i (last + i) fU1 Y wr ∧
  (∀ k, T1_.ownBlock = some k → T.ownBlock = some k ∨ w.heap.size ≤ k) ∧ (∀ k, U1_.ownBlock = some k → U.ownBlock = some k ∨ w.heap.size ≤ k)) (fun y _ => n - (intOf y).toNat)
 case atStart => exact ⟨0, T, U, fU, [], rfl, Nat.zero_le _, rfl, (fun y hy => absurd hy List.not_mem_nil), (by rw [show last + ((0 : Nat) : Int) = last by simp]; exact HH.out), (fun k hk => .inl hk), (fun k hk => .inl hk)⟩
 case round =>
  rename World => wa
  obtain ⟨i, Ti, Ui, fUi, Y, rfl, hi, hYl, hYm, hT1, hTo, hUo⟩ := hrel
  have HT1 := Lib.hid hT1
  have HTO := Lib.hid hTo
  have HUO := Lib.hid hUo
  have HYL := Lib.hid hYl
  have HYM := Lib.hid hYm
  clear hT1 hTo hUo hYl hYm HH
  by_cases hlt : i < n
  ·skip
   have d1 : decide ((i : Int) < (n : Int)) = true := decide_eq_true (by omega)
   have d2 : decide (i < n) = true := decide_eq_true hlt
   obtain ⟨L, hL⟩ : ∃ L, last + (i : Int) + 1 = L := ⟨_, rfl⟩
   have hw : wrap64 (last + (i : Int) + 1) = L := by have := HL0.out; have := HL1.out; unfold wrap64; omega
   have hLi : L = last + ((i + 1 : Nat) : Int) := by rw [← hL, Int.natCast_add]; omega
   have c6 : wa.cell? ⟨GB, 6, none⟩ = some (.int .i64 (last + (i : Int))) := (blk_cell HT1.out.blk 6).trans rfl
   have r6 := blk_frozen HT1.out.blk 6
   have HLI := Lib.hid hLi
   have HLT := Lib.hid hlt
   clear hL hLi hi hlt
   go_upto_block 2 with (fail)
   obtain ⟨w1, hw1⟩ : ∃ y, y = wa.setCell ⟨GB, 6, none⟩ (.int .i64 L) := ⟨_, rfl⟩
   have ht1 := HT1.out.setLast (.inl rfl) L
   rw [← hw1] at ht1 ⊢
   have HU1 := Lib.hid ht1
   clear hw1 c6 r6 hw ht1 HT1
   obtain ⟨gl, cap, hlv, _, _, _⟩ := Kd.R_form HU1.out.ls (by rw [tabS_length]; have := HLT.out; omega)
   rw [tabS_length] at hlv
   have hlv2 := HLS.out
   rw [hlv] at hlv2
   obtain ⟨rfl, -, rfl⟩ := Value.slice.inj hlv2
   clear hlv2
   obtain ⟨⟨Ai, mi, ci⟩, hfi⟩ : ∃ f, fr i = f := ⟨_, rfl⟩
   have hmi : mi = m := by
    have h := (Kd.R_reads' (show Kd.R k87 87 w1 0 (fun _ => True) (.slice Ai mi ci) (o i) by have := HU1.out.row i (Nat.le_refl _) HLT.out; rw [hfi] at this; exact this)).1
    rw [h]; exact HOL.out i HLT.out
   subst hmi
   have HFI := Lib.hid hfi
   have HLV := Lib.hid hlv
   clear hfi hlv
   have lcell : ∀ W : World, Row slKd 37 W lsv (tabS fr n) → W.cell? ⟨gl, i, none⟩ = some (.slice Ai mi ci) := fun W h => by
    rw [HLV.out] at h
    obtain ⟨h1, -⟩ := Kd.R_celln (none, 0, 0) h (i : Int) (by omega) (by have := HLT.out; omega)
    rw [Int.toNat_natCast, show rdOf (none, 0, 0) (tabS fr n) (i : Int) = (Ai, mi, ci) by unfold rdOf; rw [Int.toNat_natCast, List.getD_eq_getElem?_getD, tabS_get? HLT.out, HFI.out]; rfl] at h1
    exact h1
   have HLC := Lib.hid lcell
   clear lcell
   have qi0 : (0 : Int) ≤ (i : Int) := by omega
   have qin : (i : Int) < (n : Int) := by have := HLT.out; omega
   go_wp2
   go_loopw [6] (fun y wr => ∃ k : Nat, y = .int .i64 (k : Int) ∧ k ≤ mi ∧ T1 w GB N M Wv X Ti Ui lsv (TuS GB T U n fr) n fT fr (oU o i (tabT (overT (fun _ => ⟨L, 0⟩) (Ut (o i)) k) mi)) xT i L fUi Y wr) (fun y _ => mi - (intOf y).toNat)
   case atStart =>
    refine ⟨0, rfl, Nat.zero_le _, ?_⟩
    rw [overT_zero, show tabT (Ut (o i)) mi = o i by have h := Ut_tab (o i); rwa [HOL.out i HLT.out] at h, show oU o i (o i) = o from funext fun j => by unfold oU; split <;> simp_all]
    exact HU1.out
   case round =>
    clear HU1
    obtain ⟨k, rfl, hk, hT⟩ := hrel
    rename World => wb
    have cl := HLC.out wb hT.ls
    have c6 : wb.cell? ⟨GB, 6, none⟩ = some (.int .i64 L) := (blk_cell hT.blk 6).trans rfl
    have HT := Lib.hid hT
    clear hT
    by_cases hkm : k < mi
    ·have d3 : decide ((k : Int) < (mi : Int)) = true := decide_eq_true (by omega)
     have d4 : decide (k < mi) = true := decide_eq_true hkm
     have hRi := HT.out.row i (Nat.le_refl _) HLT.out
     rw [HFI.out, show oU o i (tabT (overT (fun _ => ⟨L, 0⟩) (Ut (o i)) k) mi) i = tabT (overT (fun _ => ⟨L, 0⟩) (Ut (o i)) k) mi by unfold oU; rw [if_pos rfl]] at hRi
     obtain ⟨g, cap, hv, _, _, _⟩ := Kd.R_form hRi (by rw [tabT_length]; omega)
     obtain ⟨rfl, -, rfl⟩ := Value.slice.inj hv
     have hRi2 : Kd.R k87 87 wb 0 (fun _ => True) (.slice (some ⟨g, 0, none⟩) mi ci) (tabT (overT (fun _ => (⟨L, 0⟩ : S87)) (Ut (o i)) k) mi) := hRi
     obtain ⟨n0, n1, nf0, nf1⟩ := R87_cells hRi2 hkm (x := Ut (o i) k) (by rw [tabT_get? hkm]; unfold overT; rw [if_neg (by omega)])
     have hp := R87_put hRi2 (i := k) (by rw [tabT_length]; exact hkm) ⟨L, 0⟩
     rw [overT_set (fun _ => (⟨L, 0⟩ : S87)) (Ut (o i)) hkm] at hp
     have HPU := Lib.hid hp
     have HKM := Lib.hid hkm
     have qk0 : (0 : Int) ≤ (k : Int) := by omega
     have qkm : (k : Int) < (mi : Int) := by omega
     obtain ⟨q0, hq0⟩ : ∃ q, (Ut (o i) k).f0 = q := ⟨_, rfl⟩
     obtain ⟨q1, hq1⟩ : ∃ q, (Ut (o i) k).f1 = q := ⟨_, rfl⟩
     rw [hq0] at n0
     rw [hq1] at n1
     clear hv hRi hRi2 hp hkm hk hq0 hq1
     go_upto_region 8 with (fail)
     refine start_ (n := 12) (S := fun w' => w'.cell? ⟨gl, i, none⟩ = some (.slice (some ⟨g, 0, none⟩) mi ci) ∧ w'.cell? ⟨GB, 6, none⟩ = some (.int .i64 L)) (ds := [11]) #[false, false, false, false, false, false, false, false, false, false, false, false] (by kernel_rfl) rfl rfl ⟨cl, c6⟩ (fun hHeld => ?_)
     refine pu_ 0 38 ?_
     refine pu_ 1 39 ?_
     refine pu_ 2 40 ?_
     refine pu_ 4 42 ?_
     refine pu_ 5 43 ?_
     refine pu_ 6 44 ?_
     refine pu_ 7 45 ?_
     refine tk_ 3 41 hHeld ?_
     refine tk_ 8 46 hHeld ?_
     refine pu_ 9 47 ?_
     refine pu_ 10 48 ?_
     refine ls_ 11 none (fun K hK => ?_)
     refine sk_ (hK.out _ _ ?_)
     clear hK K
     refine dn_ ?_
     go_wp2
     go_roundw
     case rel =>
      refine ⟨k + 1, by rw [Int.natCast_add]; rfl, HKM.out, T1.below (W := (wb.setCell ⟨g, k * 2, none⟩ (.int .i64 L)).setCell ⟨g, k * 2 + 1, none⟩ (.int .i64 0)) ?_ (below_drew (Below.refl _ _))⟩
      refine HT.out.put HLT.out HPAIR.out (fun b hb => .inr (.inr (.inr ⟨i, HLT.out, hb⟩))) ?_ ?_
      ·rw [HFI.out]; exact World.grownBy.trans (grownBy_set wb ⟨g, k * 2, none⟩ _) (grownBy_set _ ⟨g, k * 2 + 1, none⟩ _)
      ·rw [HFI.out]; exact HPU.out
     case measure => have := HKM.out; simp [intOf]; omega
    ·have d3 : decide ((k : Int) < (mi : Int)) = false := decide_eq_false (by omega)
     have d4 : decide (k < mi) = false := decide_eq_false hkm
     obtain rfl : mi = k := by omega
     clear hkm hk
     obtain ⟨y1, hy1⟩ : ∃ y, y = tabT (overT (fun _ => (⟨L, 0⟩ : S87)) (Ut (o i)) mi) mi := ⟨_, rfl⟩
     have hyi : mi = y1.length := by rw [hy1, tabT_length]
     rw [← hy1] at HT
     clear hy1
     subst hyi
     go_upto_region 9 with (fail)
     have HTD := Lib.hid (HT.out.below (below_drew (Below.refl wb.heap.size wb)))
     have HRD : Hid (Row k87 87 wb.drew (.slice Ai y1.length ci) y1) := Lib.hid (by have h := HTD.out.row i (Nat.le_refl _) HLT.out; rwa [HFI.out, show oU o i y1 i = y1 by unfold oU; rw [if_pos rfl]] at h)
     have c4 : wb.drew.cell? ⟨GB, 4, none⟩ = some Ti := (blk_cell HTD.out.blk 4).trans rfl
     have hfl : (fT ++ tabS fr i).length = F + i := by rw [List.length_append, HFF.out, tabS_length]
     have HFL := Lib.hid hfl
     clear hfl
     refine start_ (n := 14) (S := fun w' => w'.cell? ⟨GB, 4, none⟩ = some Ti ∧ w'.cell? ⟨gl, i, none⟩ = some (.slice Ai y1.length ci)) (ds := [13]) #[false, false, false, false, false, false, false, false, false, false, false, false, false, false] (by kernel_rfl) rfl rfl ⟨c4, cl⟩ (fun hHeld => ?_)
     refine pu_ 0 49 ?_
     refine pu_ 1 50 ?_
     refine pu_ 2 51 ?_
     refine pu_ 3 52 ?_
     refine pu_ 5 54 ?_
     refine pu_ 6 55 ?_
     refine pu_ 7 56 ?_
     refine tk_ 4 53 hHeld ?_
     refine tk_ 8 57 hHeld ?_
     refine on_ 9 (some 58) (fun K hK => ?_)
     refine value_ (w1 := ?_) (v := ?_) (by rfl) rfl ?_ ?_
     rotate_left 2
     ·go_simp
      constructor
      ·rfl
      ·rfl
     refine hK.out _ _ ⟨pw_cell_below (below_alloc (Below.refl wb.drew.heap.size wb.drew) _) c4, pw_cell_below (below_alloc (Below.refl wb.drew.heap.size wb.drew) _) cl⟩ (fun hHeld => ?_)
     clear hK K
     refine nm_ 58 ?_
     refine on_ 10 (some 59) (fun K hK => ?_)
     refine R_append2_step (P := Tryd.prog) (Kc := K) (d := slKd) rfl (W := wb.drew) 0 ?cw (.tmp 53) (.tmp 58) 43 37 (.slice none 0 0) 24 rfl Tryd.underlying43 tinfo37 rfl (by decide) (by omega) Ti (fT ++ tabS fr i) (Ai, y1.length, ci) [.slice Ai y1.length ci] rfl rfl rfl HTD.out.pr.cN.out (Nat.zero_le _) ?cl ?_
     case cw => rfl
     case cl => rw [HFL.out]; have := HX.out; have := HFX.out; have := HLT.out; omega
     intro v1 w1 hR hRo hg hx
     obtain ⟨A1, c1_, e1⟩ := Kd.R_slice hR
     rw [List.length_append, List.length_singleton, HFL.out] at e1
     subst e1
     have ho := out_N rfl (by decide) (by decide) (by decide) HTD.out.blk (j := 4) (cs' := bkc N M Wv X _ Ui L) rfl HTD.out.pr (f := (Ai, y1.length, ci)) HRD.out hg hx hR
     have HOW := Lib.hid ho.1
     have HPW := Lib.hid ho.2
     have HXX := Lib.hid hx
     have hl1 := HTD.out.ls.grown rfl hg (fun k hk => (HTD.out.lsT k hk).1)
     have HL1 := Lib.hid hl1
     clear hR hRo hg hx ho
     have cx1 : w1.cell? ⟨GB, 4, none⟩ = some Ti := (blk_cell HOW.out.mid 4).trans rfl
     have rx1 := blk_frozen HOW.out.mid 4
     have cx2 := HLC.out w1 hl1
     clear hl1
     refine hK.out _ _ ⟨cx1, cx2⟩ (fun hHeld => ?_)
     clear hK K
     refine nm_ 59 ?_
     refine pu_ 11 60 ?_
     refine pu_ 12 61 ?_
     refine ls_ 13 none (fun K hK => ?_)
     refine sk_ (hK.out _ _ ?_)
     clear hK K
     refine dn_ ?_
     go_upto_region 10 with (fail)
     obtain ⟨Tn, hTn⟩ : ∃ y, y = Value.slice A1 (F + i + 1) c1_ := ⟨_, rfl⟩
     obtain ⟨w2, hw2⟩ : ∃ y, y = w1.setCell ⟨GB, 4, none⟩ (.slice A1 (F + i + 1) c1_) := ⟨_, rfl⟩
     have hls2 := HL1.out.grown rfl (grownBy_set w1 ⟨GB, 4, none⟩ (.slice A1 (F + i + 1) c1_)) (fun k hk h1 => out_ne HL1.out HOW.out.mid (by decide) (by rw [hk, h1]))
     rw [← hw2] at hls2
     rw [← hw2, ← hTn] at HOW HPW
     rw [← hTn] at HXX
     rw [← hw2]
     have hlsT2 : ∀ k, lsv.ownBlock = some k → Tn.ownBlock ≠ some k := fun k hk he => by
      rcases HXX.out.own with ho | ⟨b, hb1, hb2⟩
      ·exact (HTD.out.lsT k hk).1 (ho ▸ he)
      ·rw [hb1] at he
       injection he with he
       have := Kd.R_lt HTD.out.ls k hk
       omega
     have HLS2 := Lib.hid (hls2.below (below_drew (Below.refl _ _)))
     have HLT2 := Lib.hid hlsT2
     have HOD := Lib.hid (own_in (S := fun k => T.ownBlock = some k) HTO.out HXX.out HTD.out.frm.size)
     have HF2 := Lib.hid ((HOW.out.fr HTD.out.frm (.inl rfl) (fun k hk => (HTO.out k hk).imp (fun h => .inr (.inl h)) id)).below (below_drew (Below.refl _ _)))
     have HR2 := Lib.hid ((HOW.out.rows HRD.out).below (below_drew (Below.refl _ _)))
     have HP2 := Lib.hid (HPW.out.below (below_drew (Below.refl _ _)))
     have HB2 : Hid (w2.drew.heap[GB]? = some (.cells (bkc N M Wv X Tn Ui L) 45 (0, 0))) := Lib.hid HOW.out.blk
     have HRK : Hid (∀ k, i + 1 ≤ k → k < n → Row k87 87 w2.drew (sl (fr k)) (o k)) := Lib.hid (fun k h1 h2 => by
      have h := HTD.out.row k (by omega) h2
      unfold oU at h
      rw [if_neg (by omega)] at h
      exact (HOW.out.rows h).below (below_drew (Below.refl _ _)))
     have HA2 : Hid (∀ k, k < n → Ap w2.drew (sl (fr k)) (fT.map sl ++ fUi.map sl)) := Lib.hid (fun k hk => (HTD.out.ap k hk).size HOW.out.size)
     have HLU2 : Hid (∀ k, lsv.ownBlock = some k → Ui.ownBlock ≠ some k) := Lib.hid (fun k hk => (HTD.out.lsT k hk).2)
     have HUL : Hid (fUi.length = F + i) := Lib.hid (by have h1 := HTD.out.pr.cM.len; rw [List.length_append, HYL.out, ← HFX.out] at h1; exact h1)
     clear hls2 hlsT2 hw2 hTn c4 cx1 cx2 rx1 cl c6 HT HTD HRD HOW HPW HXX HL1
     have c5 : w2.drew.cell? ⟨GB, 5, none⟩ = some Ui := (blk_cell HB2.out 5).trans rfl
     have cl := HLC.out w2.drew HLS2.out
     have HLR := Lib.hid (Kd.R_reads' HR2.out)
     refine start_ (n := 15) (S := fun w' => w'.cell? ⟨GB, 5, none⟩ = some Ui ∧ w'.cell? ⟨gl, i, none⟩ = some (.slice Ai y1.length ci)) (ds := [14]) #[false, false, false, false, false, false, false, false, false, false, false, false, false, false, false] (by kernel_rfl) rfl rfl ⟨c5, cl⟩ (fun hHeld => ?_)
     refine pu_ 0 62 ?_
     refine pu_ 1 63 ?_
     refine pu_ 2 64 ?_
     refine pu_ 3 65 ?_
     refine pu_ 5 67 ?_
     refine pu_ 6 68 ?_
     refine pu_ 7 69 ?_
     refine tk_ 4 66 hHeld ?_
     refine tk_ 8 70 hHeld ?_
     refine on_ 9 (some 71) (fun K hK => ?_)
     refine gs_ Tryd.func43 #[.slice Ai y1.length ci] ?_
     with_reducible refine (copyT_calls w2.drew HLR.out.2.2 HLR.out.2.1 hm).mono ?_
     rintro e w4 ⟨v4, rfl, hR4, hb4⟩
     refine ⟨_, rfl, ?_⟩
     obtain ⟨A4, c4, e4⟩ := Kd.R_slice hR4
     subst e4
     have HR4 := Lib.hid hR4
     have HB4 := Lib.hid hb4
     have c5x := pw_cell_below hb4 c5
     have clx := pw_cell_below hb4 cl
     clear hR4 hb4
     refine hK.out _ _ ⟨c5x, clx⟩ (fun hHeld => ?_)
     clear hK K
     refine nm_ 71 ?_
     refine on_ 10 (some 72) (fun K hK => ?_)
     refine value_ (w1 := ?_) (v := ?_) (by rfl) rfl ?_ ?_
     rotate_left 2
     ·go_simp
      constructor
      ·rfl
      ·rfl
     refine hK.out _ _ ⟨pw_cell_below (below_alloc (Below.refl w4.heap.size w4) _) c5x, pw_cell_below (below_alloc (Below.refl w4.heap.size w4) _) clx⟩ (fun hHeld => ?_)
     clear hK K
     refine nm_ 72 ?_
     refine on_ 11 (some 73) (fun K hK => ?_)
     refine R_append2_step (P := Tryd.prog) (Kc := K) (d := slKd) rfl (W := w4) 0 ?cw (.tmp 66) (.tmp 72) 43 37 (.slice none 0 0) 24 rfl Tryd.underlying43 tinfo37 rfl (by decide) (by omega) Ui fUi (A4, y1.length, c4) [.slice A4 y1.length c4] rfl rfl rfl (HP2.out.below HB4.out).cM.out (Nat.zero_le _) ?cl ?_
     case cw => rfl
     case cl => rw [HUL.out]; have := HX.out; have := HFX.out; have := HLT.out; omega
     intro v5 w5 hR hRo hg hx
     obtain ⟨A5, c5_, e5⟩ := Kd.R_slice hR
     rw [List.length_append, List.length_singleton] at e5
     subst e5
     have ho := out_M rfl (by decide) (by decide) (by decide) (blk_below HB2.out HB4.out) (j := 5) (cs' := bkc N M Wv X Tn _ L) rfl (HP2.out.below HB4.out) (f := (A4, y1.length, c4)) (Row.of HR4.out) hg hx hR
     have HOX := Lib.hid ho.1
     have HPX := Lib.hid ho.2
     have HXX := Lib.hid hx
     have hl1 := (HLS2.out.below HB4.out).grown rfl hg HLU2.out
     have HL1 := Lib.hid hl1
     clear hR hRo hg hx ho
     have c5y : w5.cell? ⟨GB, 5, none⟩ = some Ui := (blk_cell HOX.out.mid 5).trans rfl
     have r5y := blk_frozen HOX.out.mid 5
     have cly := HLC.out w5 hl1
     clear hl1
     refine hK.out _ _ ⟨c5y, cly⟩ (fun hHeld => ?_)
     clear hK K
     refine nm_ 73 ?_
     refine pu_ 12 74 ?_
     refine pu_ 13 75 ?_
     refine ls_ 14 none (fun K hK => ?_)
     refine sk_ (hK.out _ _ ?_)
     clear hK K
     refine dn_ ?_
     go_wp2
     obtain ⟨Un, hUn⟩ : ∃ y, y = Value.slice A5 (fUi.length + 1) c5_ := ⟨_, rfl⟩
     obtain ⟨w6, hw6⟩ : ∃ y, y = w5.setCell ⟨GB, 5, none⟩ (.slice A5 (fUi.length + 1) c5_) := ⟨_, rfl⟩
     have hls6 := HL1.out.grown rfl (grownBy_set w5 ⟨GB, 5, none⟩ (.slice A5 (fUi.length + 1) c5_)) (fun k hk h1 => out_ne HL1.out HOX.out.mid (by decide) (by rw [hk, h1]))
     rw [← hw6] at hls6
     rw [← hw6, ← hUn] at HOX HPX
     rw [← hUn] at HXX
     rw [← hw6]
     have hlsU6 : ∀ k, lsv.ownBlock = some k → Un.ownBlock ≠ some k := fun k hk he => by
      rcases HXX.out.own with ho | ⟨b, hb1, hb2⟩
      ·exact HLU2.out k hk (ho ▸ he)
      ·rw [hb1] at he
       injection he with he
       have := Kd.R_lt (HLS2.out.below HB4.out) k hk
       omega
     have h46 : w4.heap.size ≤ w6.heap.size := HOX.out.size
     have h26 : w2.drew.heap.size ≤ w6.heap.size := Nat.le_trans HB4.out.size h46
     have hap6 : ∀ k, k < n → Ap w6 (sl (fr k)) (fT.map sl ++ (fUi ++ [(A4, y1.length, c4)]).map sl) := fun k hk => by
      rw [List.map_append, ← List.append_assoc]
      refine ((HA2.out k hk).size h26).append (Ap.one fun b hb => ⟨Nat.lt_of_lt_of_le (Kd.R_lt HR4.out b hb) h46, fun he => ?_⟩)
      have h5 := Kd.R_base HR4.out b hb
      have h6 : b < w2.drew.heap.size := by
       rcases Nat.lt_or_ge k (i + 1) with hki | hki
       ·refine HP2.out.cN.lt (sl (fr k)) ?_ b he
        rw [List.append_assoc, ← HFI.out, ← tabS_succ, List.map_append]
        exact List.mem_append_right _ (List.mem_map.2 ⟨fr k, List.mem_map.2 ⟨k, List.mem_range.2 hki, rfl⟩, rfl⟩)
       ·exact Kd.R_lt (HRK.out k hki hk) b he
      omega
     go_roundw
     case rel =>
      refine ⟨i + 1, Tn, Un, fUi ++ [(A4, y1.length, c4)], Y ++ [y1], by rw [Int.natCast_add]; rfl, HLT.out, by rw [List.length_append, HYL.out]; rfl, fun y hy => ?_, ⟨by rw [← HLI.out]; exact HOX.out.blk, hls6, fun k hk => ⟨HLT2.out k hk, hlsU6 k hk⟩, ?_, fun k h1 h2 => HOX.out.rows ((HRK.out k h1 h2).below HB4.out), hap6, HOX.out.fr (HF2.out.below HB4.out) (.inl rfl) (fun k hk => (HUO.out k hk).imp (fun h => .inr (.inr (.inl h))) id)⟩, HOD.out, own_in (S := fun k => U.ownBlock = some k) HUO.out HXX.out (Nat.le_trans HF2.out.size HB4.out.size)⟩
      ·rcases List.mem_append.1 hy with hy | hy
       ·exact HYM.out y hy
       ·rw [List.mem_singleton.1 hy]
      ·have h := HPX.out
       rw [List.append_assoc, ← HFI.out, ← tabS_succ, List.append_assoc] at h
       exact h
     case measure => have := HLT.out; simp [intOf]; omega
  ·have d1 : decide ((i : Int) < (n : Int)) = false := decide_eq_false (by omega)
   have d2 : decide (i < n) = false := decide_eq_false hlt
   obtain rfl : i = n := by omega
   clear hlt hi
   have HT2 : Hid (T2 w GB N M Wv X Ti Ui lsv (TuS GB T U i fr) i fT fr (xT ++ (Y ++ [])) 0 (last + (i : Int)) [] fUi wa) := Lib.hid (by
    have h := HT1.out
    exact ⟨h.blk, h.ls, h.lsT, by rw [List.append_nil, List.append_nil]; exact h.pr, rfl, h.ap, fun k _ hk => (fun u hu => by cases hu), h.frm⟩)
   clear HT1
   go_upto_block 4 with (fail)
   go_wp2
   go_loopw [7] (fun y wr => ∃ (j : Nat) (Tj Uj : Value) (G fUj : List Tr) (Z : List (List S87)), y = .int .i64 (j : Int) ∧ j ≤ i ∧ Z.length = j ∧ (∀ z ∈ Z, z.length ≤ 16777280) ∧ T2 w GB N M Wv X Tj Uj lsv (TuS GB T U i fr) i fT fr (xT ++ (Y ++ Z)) j (last + (i : Int) + (j : Int)) G fUj wr ∧
    (∀ k, Tj.ownBlock = some k → T.ownBlock = some k ∨ w.heap.size ≤ k) ∧ (∀ k, Uj.ownBlock = some k → U.ownBlock = some k ∨ w.heap.size ≤ k)) (fun y _ => i - (intOf y).toNat)
   case atStart => exact ⟨0, Ti, Ui, [], fUi, [], rfl, Nat.zero_le _, rfl, (fun z hz => absurd hz List.not_mem_nil), (by rw [show last + (i : Int) + ((0 : Nat) : Int) = last + (i : Int) by simp]; exact HT2.out), HTO.out, HUO.out⟩
   case round =>
    rename World => wb
    clear HT2 HTO HUO
    obtain ⟨j, Tj, Uj, G, fUj, Z, rfl, hj, hZl, hZm, hT2, hTo, hUo⟩ := hrel
    have HT2 := Lib.hid hT2
    have HTO := Lib.hid hTo
    have HUO := Lib.hid hUo
    have HZL := Lib.hid hZl
    have HZM := Lib.hid hZm
    clear hT2 hTo hUo hZl hZm
    by_cases hlt : j < i
    ·have d3 : decide ((j : Int) < (i : Int)) = true := decide_eq_true (by omega)
     have d4 : decide (j < i) = true := decide_eq_true hlt
     obtain ⟨L, hL⟩ : ∃ L, last + (i : Int) + (j : Int) + 1 = L := ⟨_, rfl⟩
     have hw : wrap64 (last + (i : Int) + (j : Int) + 1) = L := by have := HL0.out; have := HL1.out; unfold wrap64; omega
     have hLi : L = last + (i : Int) + ((j + 1 : Nat) : Int) := by rw [← hL, Int.natCast_add]; omega
     have c6 : wb.cell? ⟨GB, 6, none⟩ = some (.int .i64 (last + (i : Int) + (j : Int))) := (blk_cell HT2.out.blk 6).trans rfl
     have r6 := blk_frozen HT2.out.blk 6
     have HLI := Lib.hid hLi
     have HLT := Lib.hid hlt
     clear hL hLi hj hlt
     go_upto_region 15 with (fail)
     obtain ⟨w1, hw1⟩ : ∃ y, y = wb.setCell ⟨GB, 6, none⟩ (.int .i64 L) := ⟨_, rfl⟩
     have ht1 := HT2.out.setLast (.inl rfl) L
     rw [← hw1] at ht1 ⊢
     have HU1 := Lib.hid ht1
     clear hw1 c6 r6 hw ht1 HT2
     obtain ⟨gl, cap, hlv, _, _, _⟩ := Kd.R_form HU1.out.ls (by rw [tabS_length]; have := HLT.out; omega)
     rw [tabS_length] at hlv
     have hlv2 := HLS.out
     rw [hlv] at hlv2
     obtain ⟨rfl, -, rfl⟩ := Value.slice.inj hlv2
     clear hlv2
     obtain ⟨⟨Ai, mi, ci⟩, hfi⟩ : ∃ f, fr j = f := ⟨_, rfl⟩
     have hyj : j < Y.length := by rw [HYL.out]; exact HLT.out
     obtain ⟨y1, hy1⟩ : ∃ y, Y[j]? = some y := ⟨_, List.getElem?_eq_getElem hyj⟩
     have hy1l : y1.length = m := HYM.out y1 (List.mem_of_getElem? hy1)
     have hxj : (xT ++ (Y ++ Z))[fT.length + j]? = some y1 := by rw [HFF.out, HFX.out, List.getElem?_append_right (Nat.le_add_right _ _), Nat.add_sub_cancel_left, List.getElem?_append_left hyj, hy1]
     have hrj : Row k87 87 w1 (.slice Ai mi ci) y1 := by
      have h := HU1.out.pr.cN.row _ (fr j) y1 (fN_at HLT.out) hxj
      rwa [hfi] at h
     obtain ⟨hmi, -, -⟩ := Kd.R_reads' hrj
     subst hmi
     have hxU : fUj.length = F + i + j := by
      have h := HU1.out.pr.cM.len
      rw [List.length_append, List.length_append, HYL.out, HZL.out, ← HFX.out] at h
      omega
     obtain ⟨⟨A4, n4, c4⟩, hf4⟩ : ∃ f, fUj[F + j]? = some f := ⟨_, List.getElem?_eq_getElem (by rw [hxU]; have := HLT.out; omega)⟩
     have hr4 : Row k87 87 w1 (.slice A4 n4 c4) y1 := HU1.out.pr.cM.row (F + j) (A4, n4, c4) y1 hf4 (by rw [← HFF.out]; exact hxj)
     obtain ⟨hn4, h42, h43⟩ := Kd.R_reads' hr4
     subst hn4
     obtain ⟨gU, cU, hUe, _, _, _⟩ := Kd.R_form HU1.out.pr.cM.out (by rw [hxU]; have := HLT.out; omega)
     rw [hxU] at hUe
     have hRU := HU1.out.pr.cM.out
     rw [hUe] at hRU
     obtain ⟨e0, -⟩ := Kd.R_celln (none, 0, 0) hRU ((F + j : Nat) : Int) (by omega) (by have := HLT.out; omega)
     rw [Int.toNat_natCast, show rdOf (none, 0, 0) fUj ((F + j : Nat) : Int) = (A4, y1.length, c4) by unfold rdOf; rw [Int.toNat_natCast, List.getD_eq_getElem?_getD, hf4]; rfl] at e0
     have e0' : w1.cell? ⟨gU, F + j, none⟩ = some (.slice A4 y1.length c4) := e0
     have cl : w1.cell? ⟨gl, j, none⟩ = some (.slice Ai y1.length ci) := by
      have h := HU1.out.ls
      rw [hlv] at h
      obtain ⟨h1, -⟩ := Kd.R_celln (none, 0, 0) h (j : Int) (by omega) (by have := HLT.out; omega)
      rw [Int.toNat_natCast, show rdOf (none, 0, 0) (tabS fr i) (j : Int) = (Ai, y1.length, ci) by unfold rdOf; rw [Int.toNat_natCast, List.getD_eq_getElem?_getD, tabS_get? HLT.out, hfi]; rfl] at h1
      exact h1
     have c5 : w1.cell? ⟨GB, 5, none⟩ = some (.slice (some ⟨gU, 0, none⟩) (F + i + j) cU) := by rw [← hUe]; exact (blk_cell HU1.out.blk 5).trans rfl
     have HFI := Lib.hid hfi
     have HXJ := Lib.hid hxj
     have H42 := Lib.hid h42
     have HC4 := Lib.hid h43
     have HY1 := Lib.hid hy1l
     have q1 : (F : Int) + (j : Int) < (F : Int) + (i : Int) + (j : Int) := by have := HLT.out; omega
     have q0 : (0 : Int) ≤ (F : Int) + (j : Int) := by omega
     have qj0 : (0 : Int) ≤ (j : Int) := by omega
     have qji : (j : Int) < (i : Int) := by have := HLT.out; omega
     have hm1 : y1.length ≤ 16777216 := by rw [hy1l]; exact hm
     clear hlv hfi hyj hy1 hy1l hxj hrj hxU hf4 hr4 h42 h43 hUe hRU e0
     have hwF : wrap64 ((F : Int) + (j : Int)) = ((F + j : Nat) : Int) := wrap_add2 (by have := HX.out; have := HFX.out; have := HLT.out; omega)
     have HI := Lib.hid (⟨q0, q1, qj0, qji, hwF⟩ : _ ∧ _ ∧ _ ∧ _ ∧ _)
     go_wp2_with fail
     clear q0 q1 qj0 qji hwF e0' c5 cl d3 d4 HI
     refine (copyT_calls w1 HC4.out H42.out hm1).mono ?_
     rintro e wc2 ⟨v4, rfl, hR4, hb4⟩
     obtain ⟨Am, cm, e4⟩ := Kd.R_slice hR4
     subst e4
     have hG0 := HU1.out.start HLT.out HPAIR.out (fun k hk => .inr (.inr (.inr ⟨j, HLT.out, hk⟩))) hb4 HXJ.out hR4
     have HG0 := Lib.hid hG0
     have HLS0 := Lib.hid (HU1.out.ls.below hb4)
     have HAP0 : Hid (∀ k, k < i → Ap wc2 (sl (fr k)) (fT.map sl ++ fUj.map sl)) := Lib.hid (fun k hk => (HU1.out.ap k hk).size hb4.size)
     have HGR0 : Hid (∀ k, j ≤ k → k < i → Ap wc2 (sl (fr k)) (G.map sl)) := Lib.hid (fun k h1 h2 => (HU1.out.gr k h1 h2).size hb4.size)
     have HGL := Lib.hid HU1.out.gl
     have HLST := Lib.hid HU1.out.lsT
     have HLN : Hid (fUj.length = F + i + j ∧ (fT ++ tabS fr i ++ G).length = F + i + j) := Lib.hid (by
      have h := HU1.out.pr.cM.len
      rw [List.length_append, List.length_append, HYL.out, HZL.out, ← HFX.out] at h
      refine ⟨by omega, ?_⟩
      rw [List.length_append, List.length_append, HFF.out, tabS_length, HGL.out])
     clear hG0 hR4 hb4 HU1 HC4 H42
     have hE87 : k87.E = [] := rfl
     go_wp2
     go_loopw [8, 9, 10] (fun g m y wr => ∃ k : Nat, y = .int .i64 (k : Int) ∧ k ≤ 64 ∧ G3 k87 37 87 w GB (bkc N M Wv X Tj Uj L) (TuS GB T U i fr) Tj Uj (fT ++ tabS fr i ++ G) fUj (fT.length + j) (fr j) (xT ++ (Y ++ Z)) (xT ++ (Y ++ Z)) y1 (tabT (fun _ => ⟨0, L⟩) k) (tabT (fun _ => ⟨0, L⟩) k) g m wr ∧ Row slKd 37 wr lsv (tabS fr i) ∧ wc2.heap.size ≤ wr.heap.size) (fun _ _ y _ => 64 - (intOf y).toNat)
     case atStart => exact ⟨0, rfl, by omega, by have h := HG0.out; rw [show sl (fr j) = .slice Ai y1.length ci by rw [HFI.out]; rfl] at h; exact h, HLS0.out, Nat.le_refl _⟩
     case round =>
      obtain ⟨k, rfl, hk, hG, hls, hsz⟩ := hrel
      obtain ⟨Ag, cg, eg⟩ := Kd.R_slice hG.rg
      obtain ⟨Aq, cq, em⟩ := Kd.R_slice hG.rm
      rw [List.length_append, tabT_length] at eg em
      rename World => wd
      subst eg em
      have c6 : wd.cell? ⟨GB, 6, none⟩ = some (.int .i64 L) := (blk_cell hG.blk 6).trans rfl
      have HG := Lib.hid hG
      have HLW := Lib.hid hls
      have HSZ := Lib.hid hsz
      clear hG hls hsz HG0 HLS0
      by_cases hlt : k < 64
      ·have d1 : decide ((k : Int) < 64) = true := decide_eq_true (by omega)
       have HKT := Lib.hid hlt
       clear hlt hk
       go_upto_region 21 with ((with_reducible refine gate_builtin (b := .append) (xs := #[.tmp 107, .tmp 113]) rfl ?_); at_builtin; refine R_append2 (d := k87) rfl 0 rfl (.tmp 107) (.tmp 113) 37 87 (.agg #[.int .i64 0, .int .i64 0]) 16 rfl Tryd.underlying37 tinfo87 rfl (by decide) (by omega) (.slice Ag (y1.length + k) cg) (y1 ++ tabT (fun _ => (⟨0, L⟩ : S87)) k) ⟨0, L⟩ [.int .i64 0, .int .i64 L] rfl rfl (k87_mkM _ _ _ ⟨0, L⟩) HG.out.rg (Nat.zero_le _) (by rw [List.length_append, tabT_length]; have := HKT.out; omega) ?_; intro v8 w8 hR hRo hg hx)
       have hG8 := HG.out.stepG rfl (by decide) (by decide) hR hRo hg hx
       have HL8 := Lib.hid (ls_grown HLW.out HG.out.rg hg)
       have HS8 := Lib.hid (Nat.le_trans HSZ.out hg.size)
       have c6 : w8.cell? ⟨GB, 6, none⟩ = some (.int .i64 L) := (blk_cell hG8.blk 6).trans rfl
       have HG8 := Lib.hid hG8
       clear hG8 hR hRo hg hx HG HLW
       go_wp2_with ((with_reducible refine gate_builtin (b := .append) (xs := #[.tmp 115, .tmp 121]) rfl ?_); at_builtin; refine R_append2 (d := k87) rfl 0 rfl (.tmp 115) (.tmp 121) 37 87 (.agg #[.int .i64 0, .int .i64 0]) 16 rfl Tryd.underlying37 tinfo87 rfl (by decide) (by omega) (.slice Aq (y1.length + k) cq) (y1 ++ tabT (fun _ => (⟨0, L⟩ : S87)) k) ⟨0, L⟩ [.int .i64 0, .int .i64 L] rfl rfl (k87_mkM _ _ _ ⟨0, L⟩) HG8.out.rm (Nat.zero_le _) (by rw [List.length_append, tabT_length]; have := HKT.out; omega) ?_; intro v9 w9 hR hRo hg hx)
       have hG9 := HG8.out.stepM rfl (by decide) (by decide) hR hg hx
       have HL9 := Lib.hid (ls_grown HL8.out HG8.out.rm hg)
       have HS9 := Lib.hid (Nat.le_trans HS8.out hg.size)
       rw [← tabT_succ (fun _ => (⟨0, L⟩ : S87)) k] at hG9
       rw [up1 (by have := HKT.out; omega)]
       go_roundw
       case rel => exact ⟨k + 1, rfl, HKT.out, hG9, HL9.out, HS9.out⟩
       case measure => have := HKT.out; simp [intOf]; omega
      ·have d1 : decide ((k : Int) < 64) = false := decide_eq_false (by omega)
       obtain rfl : k = 64 := by omega
       have c4 : wd.cell? ⟨GB, 4, none⟩ = some Tj := (blk_cell HG.out.blk 4).trans rfl
       clear hlt hk
       obtain ⟨y2, hy2⟩ : ∃ y, y = y1 ++ tabT (fun _ => (⟨0, L⟩ : S87)) 64 := ⟨_, rfl⟩
       have hyl : y2.length = y1.length + 64 := by rw [hy2, List.length_append, tabT_length]
       have HGR : Hid (Row k87 87 wd (.slice Ag y2.length cg) y2) := Lib.hid (by rw [hyl, hy2]; exact HG.out.rg)
       have HMR : Hid (Row k87 87 wd (.slice Aq y2.length cq) y2) := Lib.hid (by rw [hyl, hy2]; exact HG.out.rm)
       have HPR := Lib.hid HG.out.pr
       have HFR := Lib.hid HG.out.fr
       have HBK := Lib.hid HG.out.blk
       have HQA : Hid (∀ q, q < i → (q ≠ j → Ap wd (sl (fr q)) [.slice Ag y2.length cg]) ∧ Ap wd (sl (fr q)) [.slice Aq y2.length cq]) := Lib.hid (fun q hq => by
        obtain ⟨h1, h2⟩ := HG.out.apart (fN_at (fT := fT) (G := G) hq)
        rw [hyl]
        exact ⟨fun hne => h1 (by omega), h2⟩)
       have HY := Lib.hid hyl
       rw [← hyl]
       clear hy2 hyl HG c6
       have HLW2 : Hid (∀ k, lsv.ownBlock = some k → k < wd.heap.size) := Lib.hid (fun k hk => Kd.R_lt HLW.out k hk)
       go_upto_region 23 with ((with_reducible refine gate_builtin (b := .append) (xs := #[.tmp 127, .tmp 129]) rfl ?_); at_builtin; refine R_append2 (d := slKd) rfl 0 rfl (.tmp 127) (.tmp 129) 43 37 (.slice none 0 0) 24 rfl Tryd.underlying43 tinfo37 rfl (by decide) (by omega) Tj (fT ++ tabS fr i ++ G) (Ag, y2.length, cg) [.slice Ag y2.length cg] rfl rfl rfl HPR.out.cN.out (Nat.zero_le _) (by rw [HLN.out.2]; have := HX.out; have := HFX.out; have := HLT.out; omega) ?_; intro v1 w8 hR hRo hg hx; obtain ⟨A1, c1, e1⟩ := Kd.R_slice hR; rw [List.length_append, List.length_singleton, HLN.out.2] at e1; subst e1; have ho := out_N rfl (by decide) (by decide) (by decide) HBK.out (j := 4) (cs' := bkc N M Wv X _ Uj L) rfl HPR.out (f := (Ag, y2.length, cg)) HGR.out hg hx hR; have HOW := Lib.hid ho.1; have HPW := Lib.hid ho.2; have HXA := Lib.hid hx; have hl1 := HLW.out.grown rfl hg (fun k hk => (HLST.out k hk).1); have HL1 := Lib.hid hl1; clear hR hRo hg hx ho hl1 c4; have c4 : w8.cell? ⟨GB, 4, none⟩ = some Tj := (blk_cell HOW.out.mid 4).trans rfl; have r4 := blk_frozen HOW.out.mid 4)
       obtain ⟨Tn, hTn⟩ : ∃ y, y = Value.slice A1 (F + i + j + 1) c1 := ⟨_, rfl⟩
       obtain ⟨we, hwe⟩ : ∃ y, y = w8.setCell ⟨GB, 4, none⟩ (.slice A1 (F + i + j + 1) c1) := ⟨_, rfl⟩
       have hls2 := HL1.out.grown rfl (grownBy_set w8 ⟨GB, 4, none⟩ (.slice A1 (F + i + j + 1) c1)) (fun k hk h1 => out_ne HL1.out HOW.out.mid (by decide) (by rw [hk, h1]))
       rw [← hwe] at hls2
       rw [← hwe, ← hTn] at HOW HPW
       rw [← hTn] at HXA
       rw [← hwe]
       have hlsT2 : ∀ k, lsv.ownBlock = some k → Tn.ownBlock ≠ some k := fun k hk he => by
        rcases HXA.out.own with ho | ⟨b, hb1, hb2⟩
        ·exact (HLST.out k hk).1 (ho ▸ he)
        ·rw [hb1] at he
         injection he with he
         have := HLW2.out k hk
         omega
       have HLS2 := Lib.hid hls2
       have HLT2 := Lib.hid hlsT2
       have HMD := Lib.hid (HOW.out.rows HMR.out)
       have HOT := Lib.hid (own_in (S := fun k => T.ownBlock = some k) HTO.out HXA.out HFR.out.size)
       have HFD := Lib.hid (HOW.out.fr HFR.out (.inl rfl) (fun k hk => (HTO.out k hk).imp (fun h => .inr (.inl h)) id))
       have c5 : we.cell? ⟨GB, 5, none⟩ = some Uj := (blk_cell HOW.out.blk 5).trans rfl
       clear HMR HPR HBK hwe hTn c4 r4 hls2 hlsT2 HL1
       go_wp2_with ((with_reducible refine gate_builtin (b := .append) (xs := #[.tmp 137, .tmp 139]) rfl ?_); at_builtin; refine R_append2 (d := slKd) rfl 0 rfl (.tmp 137) (.tmp 139) 43 37 (.slice none 0 0) 24 rfl Tryd.underlying43 tinfo37 rfl (by decide) (by omega) Uj fUj (Aq, y2.length, cq) [.slice Aq y2.length cq] rfl rfl rfl HPW.out.cM.out (Nat.zero_le _) (by rw [HLN.out.1]; have := HX.out; have := HFX.out; have := HLT.out; omega) ?_; intro v1 w9 hR hRo hg hx; obtain ⟨A2, c2, e2⟩ := Kd.R_slice hR; rw [List.length_append, List.length_singleton, HLN.out.1] at e2; subst e2; have ho := out_M rfl (by decide) (by decide) (by decide) HOW.out.blk (j := 5) (cs' := bkc N M Wv X Tn _ L) rfl HPW.out (f := (Aq, y2.length, cq)) HMD.out hg hx hR; have HOY := Lib.hid ho.1; have HPY := Lib.hid ho.2; have HXB := Lib.hid hx; have hl1 := HLS2.out.grown rfl hg (fun k hk => (HLST.out k hk).2); have HL1 := Lib.hid hl1; clear hR hRo hg hx ho hl1 c5; have c5 : w9.cell? ⟨GB, 5, none⟩ = some Uj := (blk_cell HOY.out.mid 5).trans rfl; have r5 := blk_frozen HOY.out.mid 5)
       obtain ⟨Un, hUn⟩ : ∃ y, y = Value.slice A2 (F + i + j + 1) c2 := ⟨_, rfl⟩
       obtain ⟨wf, hwf⟩ : ∃ y, y = w9.setCell ⟨GB, 5, none⟩ (.slice A2 (F + i + j + 1) c2) := ⟨_, rfl⟩
       have hls6 := HL1.out.grown rfl (grownBy_set w9 ⟨GB, 5, none⟩ (.slice A2 (F + i + j + 1) c2)) (fun k hk h1 => out_ne HL1.out HOY.out.mid (by decide) (by rw [hk, h1]))
       rw [← hwf] at hls6
       rw [← hwf, ← hUn] at HOY HPY
       rw [← hUn] at HXB
       rw [← hwf]
       have hlsU6 : ∀ k, lsv.ownBlock = some k → Un.ownBlock ≠ some k := fun k hk he => by
        rcases HXB.out.own with ho | ⟨b, hb1, hb2⟩
        ·exact (HLST.out k hk).2 (ho ▸ he)
        ·rw [hb1] at he
         injection he with he
         have := HLW2.out k hk
         have : wd.heap.size ≤ we.heap.size := HOW.out.size
         omega
       have hde : wd.heap.size ≤ wf.heap.size := Nat.le_trans HOW.out.size HOY.out.size
       have hce : wc2.heap.size ≤ wf.heap.size := Nat.le_trans HSZ.out hde
       clear hwf hUn c5 r5 HLW
       have hw1 : wrap64 ((j : Int) + 1) = ((j + 1 : Nat) : Int) := up1 (by have := HLT.out; omega)
       try rw [hw1]
       go_roundw
       case rel =>
        refine ⟨j + 1, Tn, Un, G ++ [(Ag, y2.length, cg)], fUj ++ [(Aq, y2.length, cq)], Z ++ [y2], rfl, HLT.out, by rw [List.length_append, HZL.out]; rfl, fun z hz => ?_, ⟨by rw [← HLI.out]; exact HOY.out.blk, hls6, fun k hk => ⟨HLT2.out k hk, hlsU6 k hk⟩, ?_, by rw [List.length_append, HGL.out]; rfl, fun k hk => ?_, fun k h1 h2 => ?_, HOY.out.fr HFD.out (.inl rfl) (fun k hk => (HUO.out k hk).imp (fun h => .inr (.inr (.inl h))) id)⟩, HOT.out, own_in (S := fun k => U.ownBlock = some k) HUO.out HXB.out (Nat.le_trans HFR.out.size HOW.out.size)⟩
        ·rcases List.mem_append.1 hz with hz | hz
         ·exact HZM.out z hz
         ·rw [List.mem_singleton.1 hz]
          have := HY.out
          omega
        ·have h := HPY.out
         rw [List.append_assoc xT, List.append_assoc Y, List.append_assoc (fT ++ tabS fr i)] at h
         exact h
        ·rw [List.map_append, ← List.append_assoc]
         exact ((HAP0.out k hk).size hce).append ((HQA.out k hk).2.size hde)
        ·rw [List.map_append]
         exact ((HGR0.out k (by omega) h2).size hce).append (((HQA.out k h2).1 (by omega)).size hde)
       case measure => have := HLT.out; simp [intOf]; omega
    ·have d3 : decide ((j : Int) < (i : Int)) = false := decide_eq_false (by omega)
     have d4 : decide (j < i) = false := decide_eq_false hlt
     obtain rfl : j = i := by omega
     go_wp2
     go_end0
     refine ⟨rfl, Tj, Uj, _, _, Y ++ Z, last + (j : Int) + (j : Int), HT2.out.blk, by omega, by omega, HT2.out.pr, ?_, fun y hy => ?_, HTO.out, HUO.out, HT2.out.frm⟩
     ·rw [List.length_append, HYL.out, HZL.out]
      omega
     ·rcases List.mem_append.1 hy with hy | hy
      ·rw [HYM.out y hy]
       omega
      ·exact HZM.out y hy
end Wk
end Go.Proofs.YtnioohhiphpplaaDoor.Dp
