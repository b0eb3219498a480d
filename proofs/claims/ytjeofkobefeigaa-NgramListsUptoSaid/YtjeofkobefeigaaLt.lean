/- A loop over an index' iterator whose rounds change the index: what has been gone through tells of the text as it was. -/
import Derived.Test.YtjeofkobefeigaaAg
import Derived.RangeFuncWrites
set_option linter.unusedVariables false
set_option linter.unusedSimpArgs false
namespace Go.Proofs.Ytjeofkobefeigaa.Wk
open Go.RowKit Go.Shelf Go.Proofs.YtjeofkobefeigaaW.PrintWords Go.Proofs.YtjeofkobefeigaaW.PrintLast Go.Proofs.YtjeofkobefeigaaW.PrintMore Go.Proofs.Ytjeofkobefeigaa.Mp
attribute [local go_sem] Oper.semAt_some

/-- The blocks of an index, as the world has them. -/
def FootOf (W : World) (B m k : Nat) : Prop :=
  k = B ∨ k = m ∨ (∃ (mo tv : Value), W.heap[B]? = some (.cells #[mo, tv, .map (some m)] 68 (0, 0)) ∧ tv.ownBlock = some k) ∨ (∃ (es : Array MapEntry) (clock : Nat), W.heap[m]? = some (.map es clock) ∧ ∃ e ∈ es.toList, e.val.ownBlock = some k)
theorem Idx.toFoot {w : World} {F : Nat → Prop} {B m : Nat} {most : Int} {t : List Int} {O : List Int → List Int} (h : Idx w F B m most t O) : Idx w (FootOf w B m) B m most t O := by
  obtain ⟨⟨tv, es, clock, h1, h2, h3, h4, h5⟩, fB, fm⟩ := h
  refine ⟨⟨tv, es, clock, h1, Kd.R_reok rfl h2 (fun k hk => .inr (.inr (.inl ⟨_, _, h1, hk⟩))), h3, h4, ⟨fun j e he => ?_, h5.none, h5.keys, h5.apart, h5.text⟩⟩, .inl rfl, .inr (.inl rfl)⟩
  obtain ⟨g, a1, a2, a3⟩ := h5.row j e he
  exact ⟨g, a1, a2, Kd.R_reok rfl a3 (fun k hk => .inr (.inr (.inr ⟨es, clock, h3, e, List.mem_iff_getElem?.2 ⟨j, he⟩, hk⟩)))⟩
/-- Each such block lies in F, and is the index' own, its map, or holds cells. -/
theorem Idx.footOf {w : World} {F : Nat → Prop} {B m : Nat} {most : Int} {t : List Int} {O : List Int → List Int} (h : Idx w F B m most t O) {k : Nat} (hk : FootOf w B m k) : F k ∧ k < w.heap.size ∧ (k = m ∨ ∃ (cs : Array Value) (tt : TypeId) (fr : Nat × Nat), w.heap[k]? = some (.cells cs tt fr)) := by
  obtain ⟨⟨tv, es, clock, h1, h2, h3, h4, h5⟩, fB, fm⟩ := h
  rcases hk with rfl | rfl | ⟨mo, tv', e1, e2⟩ | ⟨es', clock', e1, e, e2, e3⟩
  · exact ⟨fB, blk_lt h1, .inr ⟨_, _, _, h1⟩⟩
  · exact ⟨fm, blk_lt h3, .inl rfl⟩
  · rw [h1] at e1
    injection e1 with e1
    injection e1 with e1
    have : tv = tv' := by simpa using (show _ ∧ tv = tv' by simpa using e1).2
    subst this
    obtain ⟨_, cs, fr, hc⟩ := R_cells h2 k e2
    exact ⟨h2.1 k e2, blk_lt hc, .inr ⟨_, _, _, hc⟩⟩
  · rw [h3] at e1
    injection e1 with e1
    injection e1 with e1
    have : es = es' := e1
    subst this
    obtain ⟨j, hj⟩ := List.mem_iff_getElem?.1 e2
    obtain ⟨g, _, _, hR⟩ := h5.row j e hj
    obtain ⟨_, cs, fr, hc⟩ := R_cells hR k e3
    exact ⟨hR.1 k e3, blk_lt hc, .inr ⟨_, _, _, hc⟩⟩
theorem FootOf.same {w w' : World} {B m k : Nat} (hB : w'.heap[B]? = w.heap[B]?) (hm : w'.heap[m]? = w.heap[m]?) (h : FootOf w' B m k) : FootOf w B m k := by
  rcases h with h | h | ⟨mo, tv, e1, e2⟩ | ⟨es, c, e1, e2⟩
  · exact .inl h
  · exact .inr (.inl h)
  · exact .inr (.inr (.inl ⟨mo, tv, hB ▸ e1, e2⟩))
  · exact .inr (.inr (.inr ⟨es, c, hm ▸ e1, e2⟩))
/-- A block of cells that a round leaves as it is. -/
def SafeL (Bx B m k : Nat) (W : World) : Prop := (∃ (cs : Array Value) (t : TypeId) (fr : Nat × Nat), W.heap[k]? = some (.cells cs t fr)) ∧ k ≠ Bx ∧ (∃ v, W.heap[Bx]? = some (.cells #[v] 22 (0, 0)) ∧ v.ownBlock ≠ some k) ∧ ¬ FootOf W B m k
def KpL (Bx B m : Nat) (W W' : World) : Prop := ∀ k, SafeL Bx B m k W → W'.heap[k]? = W.heap[k]? ∧ SafeL Bx B m k W'
theorem KpL.trans {Bx B m : Nat} {X Y Z : World} (h : KpL Bx B m X Y) (k : KpL Bx B m Y Z) : KpL Bx B m X Z := fun i hi => ⟨(k i (h i hi).2).1.trans (h i hi).1, (k i (h i hi).2).2⟩
theorem KpL.putObj {Bx B m N : Nat} (hB : B < N) (hm : m < N) (W : World) (l : Nat) (o o' : Obj) (hl : N ≤ l) (h : W.heap[l]? = some o) (hc : o.isCells = false) : KpL Bx B m W (W.putObj l o') := fun k ⟨⟨cs, t, fr, h1⟩, h2, ⟨v, h3, h4⟩, h5⟩ => by
  have hcell : ∀ {i : Nat} {cs : Array Value} {t : TypeId} {fr : Nat × Nat}, W.heap[i]? = some (.cells cs t fr) → (W.putObj l o').heap[i]? = W.heap[i]? := fun {i _ _ _} hi => World.putObj_heap_other (fun e => by subst e; rw [h] at hi; cases hi; cases hc)
  exact ⟨hcell h1, ⟨cs, t, fr, (hcell h1).trans h1⟩, h2, ⟨v, (hcell h3).trans h3, h4⟩, fun hf => h5 (hf.same (World.putObj_heap_other (by omega)) (World.putObj_heap_other (by omega)))⟩
/-- Within the loop: the box Bx holds what has come, the index (B, m) holds the text t; all else of W0's is as it was. -/
structure LtI (W0 : World) (Bx B m most : Nat) (t pre : List Int) (W : World) : Prop where
  box : ∃ v, W.heap[Bx]? = some (.cells #[v] 22 (0, 0)) ∧ Kd.R (Kd.int .i64) 3 W W0.heap.size (fun _ => True) v pre ∧ ∀ k, v.ownBlock = some k → ¬ FootOf W B m k
  idx : Idx W (FootOf W B m) B m most t (ocM most t)
  foot : ∀ k, FootOf W B m k → FootOf W0 B m k ∨ W0.heap.size ≤ k
  fr : Fr (fun k => k = Bx ∨ FootOf W0 B m k ∨ W0.heap.size ≤ k) W0 W
theorem LtI.own {W0 : World} {Bx B m most : Nat} {t : List Int} (hB : B < W0.heap.size) (hm : m < W0.heap.size) : OwnFrom W0.heap.size (LtI W0 Bx B m most t) := fun pre A A' row ⟨⟨v, h1, h2, h3⟩, h4, h5, h6⟩ hg hr => by
  have hcell : ∀ {i : Nat} {cs : Array Value} {t : TypeId} {fr : Nat × Nat}, A.heap[i]? = some (.cells cs t fr) → A'.heap[i]? = A.heap[i]? := fun hi => cells_kept hg (fun r e => (hr r e).2) hi
  have hlow : ∀ i, i < W0.heap.size → A'.heap[i]? = A.heap[i]? := fun i hi => hg.block i (Nat.lt_of_lt_of_le hi h6.size) (fun e => by have := (hr i e.symm).1; omega)
  have hf : ∀ {k}, FootOf A' B m k → FootOf A B m k := fun h => h.same (hlow B hB) (hlow m hm)
  have hI : Idx A' (FootOf A B m) B m most t (ocM most t) := h4.fr (Fr.of_grown hg (fun k e => e)) (fun k hk hlt e => by
    have e : row = some k := e
    obtain ⟨hk1, o, ho, hoc⟩ := hr k e
    rcases (h4.footOf hk).2.2 with rfl | ⟨cs, tt, fr, hc⟩
    · omega
    · rw [hc] at ho; cases ho; cases hoc)
  exact ⟨⟨v, (hcell h1).trans h1, R_same h2 (fun k hk => by obtain ⟨_, cs, fr, hc⟩ := R_cells h2 k hk; exact hcell hc), fun k hk hfo => h3 k hk (hf hfo)⟩, hI.toFoot, fun k hk => h5 k (hf hk), h6.trans (Fr.of_grown hg (fun k e => .inr (.inr (hr k e).1)))⟩
theorem LtI.start {W0 : World} {Bx B m most : Nat} {t : List Int} {F : Nat → Prop} (h : W0.heap[Bx]? = some (.cells #[.slice none 0 0] 22 (0, 0))) (hI : Idx W0 F B m most t (ocM most t)) : LtI W0 Bx B m most t [] W0 :=
  ⟨⟨_, h, Kd.R_nil _ _ _ _ _, fun k hk => by cases hk⟩, hI.toFoot, fun _ hk => .inl hk, Fr.refl _ _⟩
theorem LtI.kept {W0 W : World} {Bx B m most : Nat} {t pre : List Int} (h : LtI W0 Bx B m most t pre W) {k : Nat} (hk : k < W0.heap.size) (hx : k ≠ Bx) (hf : ¬ FootOf W0 B m k) : W.heap[k]? = W0.heap[k]? :=
  h.fr.block k hk (fun e => e.elim hx (fun e => e.elim hf (fun e => by omega)))
/-- One more in the box. -/
theorem LtI.put {W0 W w1 : World} {Bx B m most : Nat} {v v1 : Value} {t pre : List Int} {x : Int} (hB : B < W0.heap.size) (hm : m < W0.heap.size) (hlt : Bx < W0.heap.size) (hnf : ¬ FootOf W0 B m Bx) (h : LtI W0 Bx B m most t pre W) (hv : W.heap[Bx]? = some (.cells #[v] 22 (0, 0))) (hR : Kd.R (Kd.int .i64) 3 W W0.heap.size (fun _ => True) v pre) (hvf : ∀ k, v.ownBlock = some k → ¬ FootOf W B m k)
    (ho : Kd.R (Kd.int .i64) 3 w1 W0.heap.size (fun _ => True) v1 (pre ++ [x])) (hg : W.grownBy w1 v.ownBlock) (hat : v1.ownBlock = v.ownBlock ∨ ∃ b, v1.ownBlock = some b ∧ W.heap.size ≤ b) (hk : KeepsOthers W w1) :
    w1.cell? ⟨Bx, 0, none⟩ = some v ∧ w1.frozen? ⟨Bx, 0, none⟩ = false ∧
      (KeepsOthers W (w1.setCell ⟨Bx, 0, none⟩ v1) ∧ KpL Bx B m W (w1.setCell ⟨Bx, 0, none⟩ v1) ∧ LtI W0 Bx B m most t (pre ++ [x]) (w1.setCell ⟨Bx, 0, none⟩ v1) ∧ W.heap.size ≤ (w1.setCell ⟨Bx, 0, none⟩ v1).heap.size) := by
  have hn := R_nebox hR hv (by decide)
  have hv1 : w1.heap[Bx]? = some (.cells #[v] 22 (0, 0)) := blk_grown hv hg (fun e => hn e.symm)
  have hset : (w1.setCell ⟨Bx, 0, none⟩ v1).heap[Bx]? = some (.cells #[v1] 22 (0, 0)) := blk_put hv1 0 v1 rfl
  have hn1 := R_nebox ho hv1 (by decide)
  have hbxf : ¬ FootOf W B m Bx := fun e => (h.foot Bx e).elim (fun e => hnf e) (fun e => by omega)
  have hfr1 : Fr (fun k => k = Bx ∨ v.ownBlock = some k) W (w1.setCell ⟨Bx, 0, none⟩ v1) := Fr.set (Fr.of_grown hg (fun k hk => .inr hk)) (.inl rfl) 0 v1
  have hsz := h.fr.size
  have hB' : (w1.setCell ⟨Bx, 0, none⟩ v1).heap[B]? = W.heap[B]? := hfr1.block B (by omega) (fun e => (e).elim (fun e => hbxf (.inl e.symm)) (fun e => hvf B e (.inl rfl)))
  have hm' : (w1.setCell ⟨Bx, 0, none⟩ v1).heap[m]? = W.heap[m]? := hfr1.block m (by omega) (fun e => (e).elim (fun e => hbxf (.inr (.inl e.symm))) (fun e => hvf m e (.inr (.inl rfl))))
  have hff : ∀ {k}, FootOf (w1.setCell ⟨Bx, 0, none⟩ v1) B m k → FootOf W B m k := fun hk => hk.same hB' hm'
  have hI1 : Idx (w1.setCell ⟨Bx, 0, none⟩ v1) (FootOf W B m) B m most t (ocM most t) := h.idx.fr hfr1 (fun k hk _ e => by
    rcases e with rfl | e
    · exact hbxf hk
    · exact hvf k e hk)
  refine ⟨(blk_cell hv1 0).trans rfl, blk_frozen hv1 0, hk.trans (KeepsOthers.setCell _ _ _), fun k hs => ?_, ⟨⟨v1, hset, R_same ho (fun k hk2 => Below.heap_setCell w1 ⟨Bx, 0, none⟩ v1 k (fun e => hn1 (by rw [hk2]; exact congrArg some e))), fun k hk2 hfo => ?_⟩, hI1.toFoot, fun k hk => h.foot k (hff hk), ?_⟩, hfr1.size⟩
  · obtain ⟨⟨cs, t, fr, h1⟩, h2, ⟨v', h4, h5⟩, h6⟩ := hs
    rw [hv] at h4
    injection h4 with h4
    injection h4 with h4
    have hvv : v = v' := by simpa using h4
    subst hvv
    have hsame : (w1.setCell ⟨Bx, 0, none⟩ v1).heap[k]? = W.heap[k]? := hfr1.block k (blk_lt h1) (fun e => (e).elim (fun e => h2 e) (fun e => h5 e))
    refine ⟨hsame, ⟨cs, t, fr, hsame.trans h1⟩, h2, ⟨v1, hset, fun e => ?_⟩, fun e => h6 (hff e)⟩
    rcases hat with hat | ⟨b, hb1, hb2⟩
    · exact h5 (hat ▸ e)
    · rw [hb1] at e
      injection e with e
      have := blk_lt h1
      omega
  · rcases hat with hat | ⟨b, hb1, hb2⟩
    · exact hvf k (hat ▸ hk2) (hff hfo)
    · rw [hb1] at hk2
      injection hk2 with hk2
      have := (h.idx.footOf (hff hfo)).2.1
      omega
  · refine h.fr.trans (hfr1.mono (fun k e => ?_))
    rcases e with e | e
    · exact .inl e
    · exact .inr (.inr (R_cells hR k e).1)
/-- The index has been changed. -/
theorem LtI.turn {W0 W1 W3 : World} {Bx B m most : Nat} {t t' pre : List Int} (hm : m < W0.heap.size) (hlt : Bx < W0.heap.size) (hnf : ¬ FootOf W0 B m Bx) (h : LtI W0 Bx B m most t pre W1) (hI3 : Idx W3 (fun k => FootOf W1 B m k ∨ W1.heap.size ≤ k) B m most t' (ocM most t')) (hf : Fr (fun k => FootOf W1 B m k ∨ W1.heap.size ≤ k) W1 W3) :
    KeepsFrom W0.heap.size W1 W3 ∧ KpL Bx B m W1 W3 ∧ LtI W0 Bx B m most t' pre W3 := by
  have hsz := h.fr.size
  have hbxf : ¬ FootOf W1 B m Bx := fun e => (h.foot Bx e).elim (fun e => hnf e) (fun e => by omega)
  have hff : ∀ {k}, FootOf W3 B m k → FootOf W1 B m k ∨ W1.heap.size ≤ k := fun hk => (hI3.footOf hk).1
  obtain ⟨v, hv, hR, hvf⟩ := h.box
  have hbx : W3.heap[Bx]? = W1.heap[Bx]? := hf.block Bx (by omega) (fun e => (e).elim (fun e => hbxf e) (fun e => by omega))
  refine ⟨⟨hf.size, fun k o hk ho hc => (hf.block k (blk_lt ho) (fun e => ?_)).trans ho⟩, fun k hs => ?_, ⟨⟨v, hbx.trans hv, R_same hR (fun k hk => hf.block k (Kd.R_lt hR k hk) (fun e => ?_)), fun k hk hfo => ?_⟩, hI3.toFoot, fun k hk => ?_, h.fr.trans (hf.mono (fun k e => ?_))⟩⟩
  · rcases e with e | e
    · rcases (h.idx.footOf e).2.2 with rfl | ⟨cs, tt, fr, hcc⟩
      · omega
      · rw [hcc] at ho; cases ho; cases hc
    · have := blk_lt ho; omega
  · obtain ⟨⟨cs, t, fr, h1⟩, h2, ⟨v', h4, h5⟩, h6⟩ := hs
    have hsame : W3.heap[k]? = W1.heap[k]? := hf.block k (blk_lt h1) (fun e => (e).elim (fun e => h6 e) (fun e => by have := blk_lt h1; omega))
    exact ⟨hsame, ⟨cs, t, fr, hsame.trans h1⟩, h2, ⟨v', hbx.trans h4, h5⟩, fun e => (hff e).elim (fun e => h6 e) (fun e => by have := blk_lt h1; omega)⟩
  · rcases e with e | e
    · exact hvf k hk e
    · have := Kd.R_lt hR k hk; omega
  · rcases hff hfo with e | e
    · exact hvf k hk e
    · have := Kd.R_lt hR k hk; omega
  · rcases hff hk with e | e
    · exact h.foot k e
    · exact .inr (by omega)
  · rcases e with e | e
    · exact .inr (h.foot k e)
    · exact .inr (.inr (by omega))
/-- The law of such a loop. -/
theorem loop_law2 {n : Nat} (hn : 1 ≤ n - 1) {g : Operand} {ps : Array Tmp} {assign body : Code} {Q : Exit → Act → World → Prop} {a : Act} {W0 : World} {Bx Bp B m most : Nat} {F : Nat → Prop} {p : Value} {pl t0 : List Int} (hps : ps.size = 1) (hg : a.eval g = .func (.func 38) #[] #[.pointer (some ⟨Bp, 0, none⟩)])
    (hBp : W0.heap[Bp]? = some (.cells #[p] 25 (0, 0))) (hp : ∃ q, p = .pointer q) (hBx : W0.heap[Bx]? = some (.cells #[.slice none 0 0] 22 (0, 0))) (hIx : Idx W0 F B m most t0 (ocM most t0))
    (hin : ∀ W, Below W0.heap.size W0 W → Calls Try.prog 39 #[p] W fun e w' => ∃ v, e = .returned v ∧ Kd.R (Kd.int .i64) 3 w' W.heap.size (fun _ => True) v pl ∧ Below W.heap.size W w') (Ci : List Int → Prop) (hC0 : Ci t0) (a₁ : Int → Act)
    (hassign : ∀ (l : Nat) (x : Int) (W : World) (K : Act → World → Prop), K (a₁ x) W → assign.wpIn (Fence.wide.inRound l) (n - 1 - 1) Try.prog (Exit.then K (fun _ _ _ => False)) { tmps := (ps.zip (#[Value.int .i64 x])).foldl (fun t (p, v) => t.setIfInBounds p v) a.tmps, defers := [] } W)
    (hbody : ∀ (l : Nat) (pre : List Int) (x : Int) (W : World) (t : List Int), Ci t → LtI W0 Bx B m most t pre W → pre.length < pl.length → body.wpIn (Fence.wide.inRound l) (n - 1 - 1) Try.prog (ownPostG W0.heap.size (KpL Bx B m) (fun pre W => ∃ t, Ci t ∧ LtI W0 Bx B m most t pre W) (fun _ _ _ => False) (pre ++ [x]) W) (a₁ x) W)
    (hdone : ∀ (D : Nat) (W : World) (t : List Int), W0.heap.size ≤ D → Ci t → LtI W0 Bx B m most t pl.reverse W → W.heap[D]? = some (.deferred (some [])) → Q .normal { a with defers := { target := .collected D, args := #[] } :: a.defers } W) :
    (Code.rangeFunc g ps assign body).wpIn Fence.wide n Try.prog Q a W0 := by
  have hB : B < W0.heap.size := (hIx.toFoot.footOf (.inl rfl)).2.1
  have hm : m < W0.heap.size := (hIx.toFoot.footOf (.inr (.inl rfl))).2.1
  have hseq : SeqStopsK Fence.wide (n - 1) Try.prog 38 #[.pointer (some ⟨Bp, 0, none⟩)] (fun x : Int => #[Value.int .i64 x]) (KpL Bx B m) (fun ys => ys = pl.reverse) (fun pre => pre <+: pl.reverse) pl.length W0 :=
    fun l J Jx W hW hJ hJx hY h0 => places1_in (n - 1) hn l Bp p pl _ (SafeL Bx B m) J Jx (fun k W1 W' hs hk => hk k hs) (fun pre x W1 hj hl _ => hY pre x W1 hj hl) W
      (fun W2 k cs fr hb hk hc => ⟨⟨cs, 3, fr, hc⟩, by have := hW.size; have := blk_lt hBx; omega, ⟨.slice none 0 0, blk_below (blk_below hBx hW) hb, fun e => by cases e⟩, fun hf => by
        have h1 : ∀ i, i < W0.heap.size → W2.heap[i]? = W0.heap[i]? := fun i hi => (hb.block i (Nat.lt_of_lt_of_le hi hW.size)).trans (hW.block i hi)
        have := (hIx.footOf (hf.same (h1 B hB) (h1 m hm))).2.1
        have := hW.size
        omega⟩)
      ((blk_cell (blk_below hBp hW) 0).trans rfl) hp (hin W hW) hJ h0
  exact wpIn_rangeFunc_ownG rfl (by omega) (gf := 38) (lb := #[.pointer (some ⟨Bp, 0, none⟩)]) hg trivial (enters_of Try.func38 (by kernel_rfl) rfl)
    hseq (fun h k => h.trans k) (fun W l o o' hl h hc _ => KpL.putObj hB hm W l o o' hl h hc) (Below.refl _ _) (fun _ => by rw [hps]; rfl)
    (fun pre W => ∃ t, Ci t ∧ LtI W0 Bx B m most t pre W) (fun _ _ _ => False) (fun s A A' row h hg hr => by obtain ⟨t, h1, h2⟩ := h; exact ⟨t, h1, LtI.own hB hm s A A' row h2 hg hr⟩) (fun c s A A' row h hg hr => h) ⟨t0, hC0, LtI.start hBx hIx⟩ a₁ hassign
    (fun l pre x W h hl => by obtain ⟨t, h1, h2⟩ := h; exact hbody l pre x W t h1 h2 hl)
    (fun D ys W hD he hI hK => by subst he; obtain ⟨t, h1, h2⟩ := hI; exact hdone D W t hD h1 h2 hK) (fun D c pre W hD hpre hI hK => hI.elim)
theorem Star.obj {B : Nat} {o : Obj} {Q : Asr} {w : World} {F : Nat → Prop} (h : Star (ObjA B o) Q w F) : w.heap[B]? = some o := by
  obtain ⟨Fp, Fq, h1, _⟩ := h
  exact h1.2
/-- An index, an empty box and the rest, ahead of such a loop. -/
theorem LtI.open {base : Nat} {W0 : World} {Bx M : Nat} {q : Addr} {t0 : List Int} {Q : Asr} (h : Stt base W0 (Star (SlotA (.pointer (some q)) (some (M, t0))) (Star (ObjA Bx (.cells #[.slice none 0 0] 22)) Q))) :
    ∃ (B m : Nat) (F Fq : Nat → Prop), q = ⟨B, 0, none⟩ ∧ Idx W0 F B m M t0 (ocM M t0) ∧ 1 ≤ M ∧ M ≤ 4 ∧ Wf t0 ∧ W0.heap[Bx]? = some (.cells #[.slice none 0 0] 22 (0, 0)) ∧ ¬ FootOf W0 B m Bx ∧ (∀ k, FootOf W0 B m k → base ≤ k) ∧ base ≤ Bx ∧
      Q W0 Fq ∧ (∀ k, Fq k → ¬ FootOf W0 B m k ∧ k ≠ Bx ∧ base ≤ k ∧ k < W0.heap.size) := by
  obtain ⟨F, ⟨Fp, Fq, ⟨B, m, e, hI, h1, h4, hw⟩, ⟨Fb, Fr', hb, hq, i3, i4⟩, h3, h5⟩, h6⟩ := h
  injection e with e
  injection e with e
  have hFp : ∀ {k}, FootOf W0 B m k → Fp k := fun hk => (hI.footOf hk).1
  exact ⟨B, m, Fp, Fr', e, hI, h1, h4, hw, hb.2, fun hk => h3 _ (hFp hk) (i4 _ (.inl hb.1)), fun k hk => (h6 k (h5 k (.inl (hFp hk)))).1, (h6 Bx (h5 Bx (.inr (i4 _ (.inl hb.1))))).1, hq,
    fun k hk => ⟨fun hf => h3 k (hFp hf) (i4 k (.inr hk)), fun e => i3 Bx hb.1 (e ▸ hk), (h6 k (h5 k (.inr (i4 k (.inr hk))))).1, (h6 k (h5 k (.inr (i4 k (.inr hk))))).2⟩⟩
theorem LtI.rest {W0 W : World} {Bx B m M base : Nat} {t pre : List Int} {Q : Asr} {Fq : Nat → Prop} (h : LtI W0 Bx B m M t pre W) (hQ : Asr.Ok Q) (hq : Q W0 Fq) (hne : ∀ k, Fq k → ¬ FootOf W0 B m k ∧ k ≠ Bx ∧ base ≤ k ∧ k < W0.heap.size) : Q W Fq :=
  hQ.fr hq h.fr (fun k hk hlt e => by
    obtain ⟨a, b, c, d⟩ := hne k hk
    rcases e with e | e | e
    · exact b e
    · exact a e
    · omega)
theorem LtI.below {W0 W : World} {Bx B m M base : Nat} {t pre : List Int} (h : LtI W0 Bx B m M t pre W) (hf : ∀ k, FootOf W0 B m k → base ≤ k) (hx : base ≤ Bx) (hb : base ≤ W0.heap.size) : Below base W0 W :=
  h.fr.below (fun k e => by
    rcases e with e | e | e
    · omega
    · exact hf k e
    · omega) hb
/-- A round's Cut, a round's Append. -/
theorem LtI.cut {W0 W : World} {Bx B m M : Nat} {t pre : List Int} {n : Int} (hm : m < W0.heap.size) (hlt : Bx < W0.heap.size) (hnf : ¬ FootOf W0 B m Bx) (h1 : 1 ≤ M) (h4 : M ≤ 4) (h : LtI W0 Bx B m M t pre W) (ht : Wf t) :
    Calls Try.prog 26 #[.pointer (some ⟨B, 0, none⟩), .int .i64 n] W fun e w' => e = .returned (.tuple #[]) ∧ KeepsFrom W0.heap.size W w' ∧ KpL Bx B m W w' ∧ LtI W0 Bx B m M (t.take n.toNat) pre w' :=
  (cut_calls (F := fun k => FootOf W B m k ∨ W.heap.size ≤ k) W (fun _ hk => .inr hk) (h.idx.reF (fun k hk _ => .inl hk)) h1 h4 ht).mono (by
    rintro e w' ⟨he, hI, hf⟩
    exact ⟨he, h.turn hm hlt hnf hI hf⟩)
theorem LtI.app {W0 W : World} {Bx B m M base : Nat} {t pre ts : List Int} {A : Option Addr} {c : Nat} (hm : m < W0.heap.size) (hlt : Bx < W0.heap.size) (hnf : ¬ FootOf W0 B m Bx) (h1 : 1 ≤ M) (h4 : M ≤ 4) (h : LtI W0 Bx B m M t pre W) (ht : Wf t)
    (hts : Wf ts) (hC : Kd.C (Kd.int .i64) W A ts.length ts) (hc : ts.length ≤ c) (hA : ts ≠ [] → ∀ ad, A = some ad → ad.block < base) (hf : ∀ k, FootOf W0 B m k → base ≤ k) (hb : base ≤ W0.heap.size) (hl : (t.length + ts.length) * 8 ≤ 140737488355328) :
    Calls Try.prog 19 #[.pointer (some ⟨B, 0, none⟩), .slice A ts.length c] W fun e w' => e = .returned (.tuple #[]) ∧ KeepsFrom W0.heap.size W w' ∧ KpL Bx B m W w' ∧ LtI W0 Bx B m M (t ++ ts) pre w' :=
  (append_calls (F := fun k => FootOf W B m k ∨ W.heap.size ≤ k) W (fun _ hk => .inr hk) (h.idx.reF (fun k hk _ => .inl hk)) h1 h4 ht hts hC hc (fun hn ad e hk => by
    have := hA hn ad e
    have := h.fr.size
    rcases hk with hk | hk
    · rcases h.foot _ hk with hk | hk
      · have := hf _ hk; omega
      · omega
    · omega) hl).mono (by
    rintro e w' ⟨he, hI, hf⟩
    exact ⟨he, h.turn hm hlt hnf hI hf⟩)
end Go.Proofs.Ytjeofkobefeigaa.Wk
