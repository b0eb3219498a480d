/- The walk of augurlaw13's places: what an index' iterator gives, gone through to the end or left early. -/
import Derived.Test.YtjeofkobefeigaaIt
import Derived.RangeFuncBox
import Derived.RangeFuncFrom
import Derived.Maps.AppendAt
import Derived.Maps.OwnIn
set_option linter.unusedVariables false
set_option linter.unusedSimpArgs false
namespace Go.Proofs.Ytjeofkobefeigaa.Wk
open Go.RowKit Go.Shelf Go.Proofs.YtjeofkobefeigaaW.PrintWords Go.Proofs.YtjeofkobefeigaaW.PrintLast Go.Proofs.YtjeofkobefeigaaW.PrintMore Go.Proofs.Ytjeofkobefeigaa.Mp
open Go.ChangeMaps (setBlock)
attribute [local go_sem] Oper.semAt_some

/-- A block of cells that a round leaves alone: not the boxes of Ex, not the list's box Bx nor the list's row. -/
def SafeB (Ex : Nat → Prop) (Bx : Nat) (tt : TypeId) (k : Nat) (W : World) : Prop := (∃ (cs : Array Value) (t : TypeId) (fr : Nat × Nat), W.heap[k]? = some (.cells cs t fr)) ∧ ¬ Ex k ∧ k ≠ Bx ∧ ∃ v, W.heap[Bx]? = some (.cells #[v] tt (0, 0)) ∧ v.ownBlock ≠ some k
def KpB (Ex : Nat → Prop) (Bx : Nat) (tt : TypeId) (W1 W' : World) : Prop := ∀ k, SafeB Ex Bx tt k W1 → W'.heap[k]? = W1.heap[k]? ∧ SafeB Ex Bx tt k W'
theorem KpB.refl {Ex : Nat → Prop} {Bx : Nat} {tt : TypeId} (W : World) : KpB Ex Bx tt W W := fun _ h => ⟨rfl, h⟩
theorem KpB.trans {Ex : Nat → Prop} {Bx : Nat} {tt : TypeId} {A B C : World} (h : KpB Ex Bx tt A B) (k : KpB Ex Bx tt B C) : KpB Ex Bx tt A C := fun i hi => ⟨(k i (h i hi).2).1.trans (h i hi).1, (k i (h i hi).2).2⟩
theorem SafeB.of_same {Ex : Nat → Prop} {Bx : Nat} {tt : TypeId} {k : Nat} {W W' : World} (h : SafeB Ex Bx tt k W) (hs : ∀ i : Nat, (∃ (cs : Array Value) (t : TypeId) (fr : Nat × Nat), W.heap[i]? = some (.cells cs t fr)) → W'.heap[i]? = W.heap[i]?) : W'.heap[k]? = W.heap[k]? ∧ SafeB Ex Bx tt k W' := by
  obtain ⟨h1, h2, h3, v, h4, h5⟩ := h
  refine ⟨hs k h1, ?_, h2, h3, v, (hs Bx ⟨_, _, _, h4⟩).trans h4, h5⟩
  obtain ⟨cs, t, fr, hk⟩ := h1
  exact ⟨cs, t, fr, (hs k ⟨_, _, _, hk⟩).trans hk⟩
theorem cells_kept {W W' : World} {row : Option Nat} (hg : W.grownBy W' row) (hr : ∀ r, row = some r → ∃ o : Obj, W.heap[r]? = some o ∧ o.isCells = false) {k : Nat} {cs : Array Value} {t : TypeId} {fr : Nat × Nat} (h : W.heap[k]? = some (.cells cs t fr)) : W'.heap[k]? = W.heap[k]? := by
  refine hg.block k (blk_lt h) (fun e => ?_)
  obtain ⟨o, ho, hc⟩ := hr k e.symm
  rw [h] at ho
  injection ho with ho
  subst ho
  exact Bool.noConfusion hc
theorem KpB.grown {Ex : Nat → Prop} {Bx : Nat} {tt : TypeId} {W W' : World} {row : Option Nat} (hg : W.grownBy W' row) (hr : ∀ r, row = some r → ∃ o : Obj, W.heap[r]? = some o ∧ o.isCells = false) : KpB Ex Bx tt W W' := fun k hk => hk.of_same (fun i ⟨_, _, _, hi⟩ => cells_kept hg hr hi)
theorem KpB.putObj {Ex : Nat → Prop} {Bx : Nat} {tt : TypeId} (W : World) (l : Nat) (o o' : Obj) (h : W.heap[l]? = some o) (hc : o.isCells = false) : KpB Ex Bx tt W (W.putObj l o') := KpB.grown (grownBy_putObj' W l o') (fun r e => by cases e; exact ⟨o, h, hc⟩)
theorem eqnil (k : Nat) (b : Array Value) (W : World) : (binOp .eql 60 (.func (.func k) #[] b) .nilFunc).run Try.prog W = .ok (.bool false) W := by
  have key : (Op.equalIn (9999 + 1) 60 (.func (.func k) #[] b) .nilFunc).run Try.prog W = .ok false W := by
    rw [Op.equalIn]
    simp [run_underlying Try.underlying60, Result.andThen]
  have key2 : (Op.equalIn Op.maxDepth 60 (.func (.func k) #[] b) .nilFunc).run Try.prog W = .ok false W := key
  simp [binOp, Op.equal, key2, Result.andThen]
theorem KeepsOthers.of_row {W w1 : World} {row : Option Nat} (hg : W.grownBy w1 row) (hr : ∀ r, row = some r → ∃ (cs : Array Value) (t : TypeId) (fr : Nat × Nat), W.heap[r]? = some (.cells cs t fr)) : KeepsOthers W w1 :=
  ⟨hg.size, fun k o hk hc => (hg.block k (Array.getElem?_eq_some_iff.1 hk).1 (fun e => by
    obtain ⟨cs, t, fr, h⟩ := hr k e.symm
    rw [hk] at h
    injection h with h
    subst h
    exact Bool.noConfusion hc)).trans hk⟩
/-- An own list of numbers that is appended to, within a fence. -/
theorem appIn {F : Fence} {nF : Nat} {ops : Array Oper} {rest : List Oper} {o : Oper} {a : Act} {Q : Exit → Act → World → Prop} {W : World} {base : Nat} (hg : o.guard = none) (s x : Operand)
    (ho : o.op = .call { callee := .builtin .append, args := #[s, x], argTypes := #[22, 22] }) (v : Value) (xs : List Int) (p : Int) (hs : a.eval s = v) (hx : a.eval x = .slice (some ⟨W.heap.size, 0, none⟩) 1 1)
    (HO : Kd.R (Kd.int .i64) 3 W base (fun _ => True) v xs) (hb : base ≤ W.heap.size) (hl : (xs.length + 1) * 8 ≤ 140737488355328)
    (h : ∀ v1 w1, Kd.R (Kd.int .i64) 3 w1 base (fun _ => True) v1 (xs ++ [p]) → W.grownBy w1 v.ownBlock → (v1.ownBlock = v.ownBlock ∨ ∃ b, v1.ownBlock = some b ∧ W.heap.size ≤ b) → KeepsOthers W w1 → wpListIn F nF Try.prog ops Q rest (a.put o.dst v1) w1) :
    wpListIn F nF Try.prog ops Q (o :: rest) a (W.alloc (.cells #[.int .i64 p] 3 (0, 0))) := by
  obtain ⟨i0, hi, hz0, hz1, hz2⟩ := info_parts info3
  have hrow := Kd.own_of_R (Kd.R_below HO (below_alloc (Below.refl _ _) (.cells #[.int .i64 p] 3 (0, 0))))
  refine wpListIn_append_own_at _ hg s x 22 ho base 3 i0 (.int .i64 0) 1 8 Try.underlying22 hi hz0 hz1 hz2 rfl (by decide) v xs.length _ hs hrow ⟨W.heap.size, 0, none⟩ 1 1 [.int .i64 p] hx rfl (cell_one_new _ _ _) (by simp [Value.oneCell']) (Nat.le_trans (show _ ≤ 17592186044416 by omega) (by decide)) hl (by simp; omega) ?_
  intro v' w' hown hgrow _ hat
  have hg2 : W.grownBy w' v.ownBlock := ⟨hgrow.os, hgrow.tape, hgrow.output, by have := hgrow.size; simp at this; omega, fun k hk hn => (hgrow.block k (by simp; omega) hn).trans (Below.heap_alloc W _ k hk)⟩
  refine h v' w' (Kd.R_of_own (by rw [encs_append, List.length_append]; exact hown) (fun _ _ => trivial)) hg2 ?_ (KeepsOthers.of_row hg2 (fun r hr => by obtain ⟨_, cs, fr, hc⟩ := R_cells HO r hr; exact ⟨cs, _, fr, hc⟩))
  rcases hat with hat | hat
  · exact .inl hat
  · exact .inr ⟨_, hat, by simp⟩
/-- The first so many, if the number is above 0. -/
def firstL (l : List Int) (most : Int) : List Int := if 0 < most then l.take most.toNat else l
theorem own_I14 (w : World) (Bx Bm : Nat) : Own (fun (pre : List Int) W => ∃ v, W.heap[Bx]? = some (.cells #[v] 22 (0, 0)) ∧ Kd.R (Kd.int .i64) 3 W w.heap.size (fun _ => True) v pre ∧ v.ownBlock ≠ some Bm) := fun s A B row ⟨v, h1, h2, h3⟩ hg hr =>
  ⟨v, (cells_kept hg hr h1).trans h1, R_same h2 (fun k hk => by obtain ⟨_, cs, fr, hc⟩ := R_cells h2 k hk; exact cells_kept hg hr hc), h3⟩
theorem R_nebox {w : World} {base : Nat} {F : Nat → Prop} {v : Value} {xs : List Int} (h : Kd.R (Kd.int .i64) 3 w base F v xs) {B : Nat} {cs : Array Value} {tt : TypeId} (hB : w.heap[B]? = some (.cells cs tt (0, 0))) (ht : tt ≠ 3) : v.ownBlock ≠ some B := fun e => by
  obtain ⟨_, cs', fr, hc⟩ := R_cells h B e
  rw [hB] at hc
  injection hc with hc
  injection hc with _ h2
  exact ht h2
/-- The list's box and row behind one append. -/
theorem row_step {w W w1 : World} {Bx Bm : Nat} {most : Int} {v v1 : Value} {xs ys : List Int} (hv : W.heap[Bx]? = some (.cells #[v] 22 (0, 0))) (hR : Kd.R (Kd.int .i64) 3 W w.heap.size (fun _ => True) v xs)
    (h3 : W.heap[Bm]? = some (.cells #[.int .i64 most] 3 (0, 0))) (hB : Below w.heap.size w W) (ho : Kd.R (Kd.int .i64) 3 w1 w.heap.size (fun _ => True) v1 ys) (hg : W.grownBy w1 v.ownBlock)
    (hat : v1.ownBlock = v.ownBlock ∨ ∃ b, v1.ownBlock = some b ∧ W.heap.size ≤ b) (hk : KeepsOthers W w1) (hm : v.ownBlock ≠ some Bm) (hx : w.heap.size ≤ Bx) :
    v.ownBlock ≠ some Bx ∧ v.ownBlock ≠ some Bm ∧ KeepsOthers W (w1.setCell ⟨Bx, 0, none⟩ v1) ∧ KpB (fun _ => False) Bx 22 W (w1.setCell ⟨Bx, 0, none⟩ v1) ∧ (w1.setCell ⟨Bx, 0, none⟩ v1).heap[Bx]? = some (.cells #[v1] 22 (0, 0)) ∧
      Kd.R (Kd.int .i64) 3 (w1.setCell ⟨Bx, 0, none⟩ v1) w.heap.size (fun _ => True) v1 ys ∧ (Bm ≠ Bx → (w1.setCell ⟨Bx, 0, none⟩ v1).heap[Bm]? = some (.cells #[.int .i64 most] 3 (0, 0))) ∧ Below w.heap.size w (w1.setCell ⟨Bx, 0, none⟩ v1) := by
  have hn := R_nebox hR hv (by decide)
  have hv1 : w1.heap[Bx]? = some (.cells #[v] 22 (0, 0)) := blk_grown hv hg (fun e => hn e.symm)
  have hm1 : w1.heap[Bm]? = some (.cells #[.int .i64 most] 3 (0, 0)) := blk_grown h3 hg (fun e => hm e.symm)
  have hset : (w1.setCell ⟨Bx, 0, none⟩ v1).heap[Bx]? = some (.cells #[v1] 22 (0, 0)) := blk_put hv1 0 v1 rfl
  have hn1 := R_nebox ho hv1 (by decide)
  have hB1 : Below w.heap.size w w1 := hB.trans ⟨hg.os, hg.tape, hg.output, hg.size, fun i hi => hg.block i (Nat.lt_of_lt_of_le hi hB.size) (fun e => by have := (R_cells hR i e.symm).1; omega)⟩
  refine ⟨hn, hm, hk.trans (KeepsOthers.setCell _ _ _), fun k hs => ?_, hset, R_same ho (fun k hk2 => Below.heap_setCell w1 ⟨Bx, 0, none⟩ v1 k (fun e => hn1 (by rw [hk2]; exact congrArg some e))), fun hne => (Below.heap_setCell w1 ⟨Bx, 0, none⟩ v1 Bm hne).trans hm1, below_set hB1 hx⟩
  obtain ⟨⟨cs, t, fr, h1⟩, h2, h3', v', h4, h5⟩ := hs
  rw [hv] at h4
  injection h4 with h4
  injection h4 with h4
  have hvv : v = v' := by simpa using h4
  subst hvv
  have hsame : (w1.setCell ⟨Bx, 0, none⟩ v1).heap[k]? = W.heap[k]? := (Below.heap_setCell w1 ⟨Bx, 0, none⟩ v1 k h3').trans (hg.block k (blk_lt h1) (fun e => h5 e.symm))
  refine ⟨hsame, ⟨cs, t, fr, hsame.trans h1⟩, h2, h3', v1, hset, fun e => ?_⟩
  rcases hat with hat | ⟨b, hb1, hb2⟩
  · exact h5 (hat ▸ e)
  · rw [hb1] at e
    injection e with e
    have := blk_lt h1
    omega
set_option maxRecDepth 100000 in
set_option maxHeartbeats 4000000 in
theorem lawplaces_calls {most : Int} {pl : List Int} (w : World) (q : Option Addr) (hin : ∀ W, Below w.heap.size w W → Calls Try.prog 39 #[.pointer q] W fun e w' => ∃ v, e = .returned v ∧ Kd.R (Kd.int .i64) 3 w' W.heap.size (fun _ => True) v pl ∧ Below W.heap.size W w') (hl : pl.length * 8 ≤ 140737488355328) :
    Calls Try.prog 14 #[.pointer q, .int .i64 most] w fun e w' => ∃ v, e = .returned v ∧ Kd.R (Kd.int .i64) 3 w' w.heap.size (fun _ => True) v (firstL pl.reverse most) ∧ Below w.heap.size w w' := by
  refine (callsIn_wide (n := 5)).1 ?_
  refine callsIn_of_wp_marks Try.func14 rfl trivial ?_ rfl
  simp only [Try.ntmps14, List.size_toArray, List.length_cons, List.length_nil, Nat.reduceAdd, Nat.reduceSub, Array.replicate_succ, Array.replicate_zero, List.push_toArray, List.append_toArray, List.nil_append, List.cons_append]
  have hnil := eqnil 38 #[.pointer (some ⟨w.heap.size + 1 + 1, 0, none⟩)]
  gi_wp2_with (refine ⟨trivial, ?_⟩; gi_at_call 35; refine (places_fn _ (.pointer q) ⟨q, rfl⟩ _).mono ?_; rintro e w' ⟨rfl, rfl⟩)
  obtain ⟨W0, hW0⟩ : ∃ W0, ((w.alloc (.cells #[.int .i64 most] 3)).alloc (.cells #[.slice none 0 0] 22)).alloc (.cells #[.pointer q] 25) = W0 := ⟨_, rfl⟩
  have b0 : W0.heap[w.heap.size]? = some (.cells #[.int .i64 most] 3 (0, 0)) := by rw [← hW0]; exact blk_alloc (blk_alloc (blk_new w _) _) _
  have b1 : W0.heap[w.heap.size + 1]? = some (.cells #[.slice none 0 0] 22 (0, 0)) := by
    rw [← hW0]
    have := blk_new (w.alloc (.cells #[.int .i64 most] 3)) (.cells #[.slice none 0 0] 22)
    rw [World.size_alloc] at this
    exact blk_alloc this _
  have b2 : W0.heap[w.heap.size + 1 + 1]? = some (.cells #[.pointer q] 25 (0, 0)) := by
    rw [← hW0]
    have := blk_new ((w.alloc (.cells #[.int .i64 most] 3)).alloc (.cells #[.slice none 0 0] 22)) (.cells #[.pointer q] 25)
    rw [World.size_alloc, World.size_alloc] at this
    exact this
  have hB0 : Below w.heap.size w W0 := by rw [← hW0]; exact below_alloc (below_alloc (below_alloc (Below.refl _ _) _) _) _
  have hsz : W0.heap.size = w.heap.size + 1 + 1 + 1 := by rw [← hW0, World.size_alloc, World.size_alloc, World.size_alloc]
  rw [hW0]
  have hseq : SeqStopsK Fence.wide (5 - 1) Try.prog 38 #[.pointer (some ⟨w.heap.size + 1 + 1, 0, none⟩)] (fun x : Int => #[Value.int .i64 x]) (KpB (fun _ => False) (w.heap.size + 1) 22) (fun ys => ys = pl.reverse) (fun pre => pre <+: pl.reverse) pl.length W0 :=
    fun l J Jx W hW hJ hJx hY h0 => places1_in (5 - 1) (by omega) l (w.heap.size + 1 + 1) (.pointer q) pl _ (SafeB (fun _ => False) (w.heap.size + 1) 22) J Jx (fun k W1 W' hs hk => hk k hs) (fun pre x W1 hj hl _ => hY pre x W1 hj hl) W
      (fun W2 k cs fr hb hk hc => ⟨⟨cs, 3, fr, hc⟩, fun h => h, by have := hW.size; omega, .slice none 0 0, blk_below (blk_below b1 hW) hb, fun e => by cases e⟩)
      ((blk_cell (blk_below b2 hW) 0).trans rfl) ⟨q, rfl⟩ (hin W (hB0.trans (hW.mono hB0.size))) hJ h0
  clear hin hW0
  refine wpIn_rangeFunc_ownF rfl (by omega) (gf := 38) (lb := #[.pointer (some ⟨w.heap.size + 1 + 1, 0, none⟩)]) rfl trivial (enters_of Try.func38 (by kernel_rfl) rfl)
    hseq (fun h k => h.trans k) (fun W l o o' _ h hc _ => KpB.putObj W l o o' h hc) (Below.refl _ _) (fun _ => rfl)
    (fun pre W => ((∃ v, W.heap[w.heap.size + 1]? = some (.cells #[v] 22 (0, 0)) ∧ Kd.R (Kd.int .i64) 3 W w.heap.size (fun _ => True) v pre ∧ v.ownBlock ≠ some w.heap.size) ∧ W.heap[w.heap.size]? = some (.cells #[.int .i64 most] 3 (0, 0)) ∧ (0 < most → (pre.length : Int) < most)) ∧ Below w.heap.size w W)
    (fun c pre W => (c = .exit 0 ∧ 0 < most ∧ (pre.length : Int) = most ∧ ∃ v, W.heap[w.heap.size + 1]? = some (.cells #[v] 22 (0, 0)) ∧ Kd.R (Kd.int .i64) 3 W w.heap.size (fun _ => True) v pre ∧ v.ownBlock ≠ some w.heap.size) ∧ Below w.heap.size w W)
    (OwnFrom.and (Own.from (fun s A B row hs hg hr => ⟨own_I14 w (w.heap.size + 1) w.heap.size s A B row hs.1 hg hr, (cells_kept hg hr hs.2.1).trans hs.2.1, hs.2.2⟩) _) (ownFrom_below (Nat.le_refl _) (by omega)))
    (fun c => OwnFrom.and (Own.from (fun s A B row hs hg hr => ⟨hs.1, hs.2.1, hs.2.2.1, own_I14 w (w.heap.size + 1) w.heap.size s A B row hs.2.2.2 hg hr⟩) _) (ownFrom_below (Nat.le_refl _) (by omega)))
    ⟨⟨⟨.slice none 0 0, b1, Kd.R_nil _ _ _ _ _, fun e => by cases e⟩, b0, fun h => by simpa using h⟩, hB0⟩
    (fun x => { tmps := #[.pointer q, .int .i64 most, undef, .pointer (some ⟨w.heap.size, 0, none⟩), .slice none 0 0, .pointer (some ⟨w.heap.size + 1, 0, none⟩), .func (.func 38) #[] #[.pointer (some ⟨w.heap.size + 1 + 1, 0, none⟩)], .int .i64 x, .pointer q, .func (.func 38) #[] #[.pointer (some ⟨w.heap.size + 1 + 1, 0, none⟩)], .func (.func 38) #[] #[.pointer (some ⟨w.heap.size + 1 + 1, 0, none⟩)], .bool false, undef, .func (.func 38) #[] #[.pointer (some ⟨w.heap.size + 1 + 1, 0, none⟩)], .int .i64 x, undef, undef, undef, undef, undef, undef, undef, undef, undef], defers := [] }) ?assign ?body ?done ?stop
  case assign =>
    intro l x W K hK
    gi_wp2
    exact hK
  case body =>
    rintro l pre x W ⟨⟨⟨v, hv, hR, hnm⟩, h3, hlt⟩, hB⟩ hlen
    have kv : W.cell? ⟨w.heap.size + 1, 0, none⟩ = some v := (blk_cell hv 0).trans rfl
    have HV := Lib.hid hv
    have HR := Lib.hid hR
    have H3 := Lib.hid h3
    have HB := Lib.hid hB
    have HLT := Lib.hid hlt
    have HNM : Hid (v.ownBlock ≠ some w.heap.size) := Lib.hid hnm
    clear hv hR h3 hB hlt hnm hseq b0 b1 b2 hB0
    have STEP : Hid (∀ v1 w1, Kd.R (Kd.int .i64) 3 w1 w.heap.size (fun _ => True) v1 (pre ++ [x]) → W.grownBy w1 v.ownBlock → (v1.ownBlock = v.ownBlock ∨ ∃ b, v1.ownBlock = some b ∧ W.heap.size ≤ b) → KeepsOthers W w1 →
        ∃ A1 c1, v1 = .slice A1 (pre.length + 1) c1 ∧ w1.cell? ⟨w.heap.size + 1, 0, none⟩ = some v ∧ w1.frozen? ⟨w.heap.size + 1, 0, none⟩ = false ∧ w1.cell? ⟨w.heap.size, 0, none⟩ = some (.int .i64 most) ∧
          KeepsOthers W (w1.setCell ⟨w.heap.size + 1, 0, none⟩ v1) ∧ KpB (fun _ => False) (w.heap.size + 1) 22 W (w1.setCell ⟨w.heap.size + 1, 0, none⟩ v1) ∧ (w1.setCell ⟨w.heap.size + 1, 0, none⟩ v1).heap[w.heap.size + 1]? = some (.cells #[v1] 22 (0, 0)) ∧
          Kd.R (Kd.int .i64) 3 (w1.setCell ⟨w.heap.size + 1, 0, none⟩ v1) w.heap.size (fun _ => True) v1 (pre ++ [x]) ∧ (w1.setCell ⟨w.heap.size + 1, 0, none⟩ v1).heap[w.heap.size]? = some (.cells #[.int .i64 most] 3 (0, 0)) ∧ Below w.heap.size w (w1.setCell ⟨w.heap.size + 1, 0, none⟩ v1) ∧ v1.ownBlock ≠ some w.heap.size) := Lib.hid (fun v1 w1 ho hg hat hk => by
      obtain ⟨s1, s2, s3, s4, s5, s6, s7, s8⟩ := row_step HV.out HR.out H3.out HB.out ho hg hat hk HNM.out (by omega)
      obtain ⟨A1, c1, e1, hc1, hC1⟩ := Kd.R_reads ho
      rw [List.length_append, List.length_singleton] at e1
      refine ⟨A1, c1, e1, (blk_cell (blk_grown HV.out hg (fun e => s1 e.symm)) 0).trans rfl, blk_frozen (blk_grown HV.out hg (fun e => s1 e.symm)) 0, (blk_cell (blk_grown H3.out hg (fun e => s2 e.symm)) 0).trans rfl, s3, s4, s5, s6, s7 (by omega), s8, fun e => ?_⟩
      rcases hat with hat | ⟨b, hb1, hb2⟩
      · exact s2 (hat ▸ e)
      · rw [hb1] at e
        injection e with e
        have := blk_lt H3.out
        omega)
    gi_wp2_with (gi_at_builtin; refine appIn (W := W) (base := w.heap.size) rfl (.tmp 15) (.tmp 17) rfl v pre x rfl rfl HR.out HB.out.size (by omega) ?_; intro v1 w1 ho hg hat hk; obtain ⟨A1, c1, rfl, kv1, kf1, km1, hst⟩ := STEP.out v1 w1 ho hg hat hk; have HST := Lib.hid hst; clear ho hg hat hk hst)
    · rename_i hx
      have hx : (pre.length : Int) + 1 = most := eq_of_beq hx
      obtain ⟨s1, s2, s3, s4, s5, s6, s7⟩ := HST.out
      exact ⟨s1, ⟨rfl, by omega, by rw [List.length_append, List.length_singleton]; omega, _, s3, s4, s7⟩, s6⟩
    · rename_i hx
      have hx : (pre.length : Int) + 1 ≠ most := fun e => by rw [e, beq_self_eq_true] at hx; cases hx
      obtain ⟨s1, s2, s3, s4, s5, s6, s7⟩ := HST.out
      exact ⟨s1, s2, ⟨⟨_, s3, s4, s7⟩, s5, fun h0 => by rw [List.length_append, List.length_singleton]; have := HLT.out h0; omega⟩, s6⟩
  case done =>
    rintro D ys W hD rfl ⟨⟨⟨v, hv, hR, hnm⟩, h3, hlt⟩, hB⟩ hK
    have kv : W.cell? ⟨w.heap.size + 1, 0, none⟩ = some v := (blk_cell hv 0).trans rfl
    have HR := Lib.hid hR
    have HV := Lib.hid hv
    have HLT := Lib.hid hlt
    have HK := Lib.hid hK
    have HB := Lib.hid hB
    clear hv hR hnm h3 hlt hK hB
    gi_wp2
    refine ⟨by simp, .inl ⟨_, _, rfl, run_takeDeferred HK.out, ?_⟩⟩
    refine ⟨_, results_tmp rfl _ _ _, v, rfl, ?_, HB.out.trans (belowK_b (w := w) (Nat.le_refl _) W D _ _ (by omega) HK.out rfl rfl)⟩
    have hr : firstL pl.reverse most = pl.reverse := by
      unfold firstL
      split
      · rename_i h0
        exact List.take_of_length_le (by have := HLT.out h0; omega)
      · rfl
    rw [hr]
    exact R_same HR.out (fun k hk => by obtain ⟨_, cs, fr, hc⟩ := R_cells HR.out k hk; exact cells_kept (grownBy_putObj' W D _) (fun r e => by cases e; exact ⟨_, HK.out, rfl⟩) hc)
  case stop =>
    rintro D c pre W hD hpre ⟨⟨rfl, h0, hlen, v, hv, hR, hnm⟩, hB⟩ hK
    have kv : W.cell? ⟨w.heap.size + 1, 0, none⟩ = some v := (blk_cell hv 0).trans rfl
    have HR := Lib.hid hR
    have HK := Lib.hid hK
    have HB := Lib.hid hB
    have HPRE := Lib.hid hpre
    clear hv hR hnm hK hB hpre
    gi_wp2
    refine ⟨by simp, .inl ⟨_, _, rfl, run_takeDeferred HK.out, ?_⟩⟩
    refine ⟨_, results_tmp rfl _ _ _, v, rfl, ?_, HB.out.trans (belowK_b (w := w) (Nat.le_refl _) W D _ _ (by omega) HK.out rfl rfl)⟩
    have hr : firstL pl.reverse most = pre := by
      unfold firstL
      rw [if_pos h0, ← hlen, Int.toNat_natCast]
      exact (List.prefix_iff_eq_take.1 HPRE.out).symm
    rw [hr]
    exact R_same HR.out (fun k hk => by obtain ⟨_, cs, fr, hc⟩ := R_cells HR.out k hk; exact cells_kept (grownBy_putObj' W D _) (fun r e => by cases e; exact ⟨_, HK.out, rfl⟩) hc)
end Go.Proofs.Ytjeofkobefeigaa.Wk
