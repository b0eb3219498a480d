/- Ngram's iterator, New, Len, Cut; what Propose answers, plainly. -/
import Derived.Test.YtjeofkobefeigaaYa
import Derived.RangeFuncNested
import Derived.RangeFuncBound
import Derived.RangeFuncCalls
import Derived.RangeFuncLeaves
import Derived.Shelf.Abstract
import Derived.Shelf.RegionOpen
import Derived.WalkKit
import Derived.OwnWalkIn
import Derived.TacticsInMore
import Derived.LoopNIn
import Derived.LoopIn
import Derived.RangeFuncBox
import Derived.RangeFuncFrom
import Derived.Maps.AppendAt
import Derived.Maps.OwnIn
import Derived.OrdersIn
import Derived.Deep.RegionHeld3
import Derived.Test.YtjeofkobefeigaaPEqRawx2
set_option linter.unusedVariables false
set_option linter.unusedSimpArgs false
/- The iterator that ngram's Places gives: its contract, whatever its rounds may write. -/
namespace Go.Proofs.Ytjeofkobefeigaa.Wk
open Go.RowKit Go.Shelf Go.Proofs.YtjeofkobefeigaaW.PrintWords Go.Proofs.YtjeofkobefeigaaW.PrintLast Go.Proofs.YtjeofkobefeigaaW.PrintMore Go.Proofs.Ytjeofkobefeigaa.Mp
open Go.ChangeMaps (setBlock)
attribute [local go_sem] Oper.semAt_some

theorem R_same {w w1 : World} {base : Nat} {F : Nat → Prop} {v : Value} {xs : List Int} (h : Kd.R (Kd.int .i64) 3 w base F v xs) (hs : ∀ k, v.ownBlock = some k → w1.heap[k]? = w.heap[k]?) : Kd.R (Kd.int .i64) 3 w1 base F v xs := by
  obtain ⟨h0, inner, hown, hr⟩ := h
  refine ⟨h0, inner, ⟨hown.1, ?_⟩, hr⟩
  rcases hown.2 with h1 | ⟨g, cap, cur, rfl, h2, hc, h3⟩
  · exact .inl h1
  · exact .inr ⟨g, cap, cur, rfl, h2, (hs g rfl).trans hc, h3⟩
theorem R_cells {w : World} {base : Nat} {F : Nat → Prop} {v : Value} {xs : List Int} (h : Kd.R (Kd.int .i64) 3 w base F v xs) : ∀ k, v.ownBlock = some k → base ≤ k ∧ ∃ cs fr, w.heap[k]? = some (.cells cs 3 fr) := fun k hk => by
  obtain ⟨h0, inner, hown, hr⟩ := h
  rcases hown.2 with ⟨rfl, _⟩ | ⟨g, cap, cur, rfl, h2, hc, h3⟩
  · cases hk
  · injection hk with hk
    subst hk
    exact ⟨h2, _, _, hc⟩
theorem grown_of_below {W W2 : World} (h : Below W.heap.size W W2) : W.grownBy W2 none := ⟨h.os, h.tape, h.output, h.size, fun i hi _ => h.block i hi⟩
theorem rev_take {l : List Int} {k : Nat} (h : k < l.length) : l.reverse.take (k + 1) = l.reverse.take k ++ [nth l (l.length - 1 - k)] := by
  rw [take_step (by rw [List.length_reverse]; exact h)]
  congr 2
  unfold nth
  rw [List.getD_eq_getElem?_getD, List.getD_eq_getElem?_getD, List.getElem?_reverse h]
set_option maxRecDepth 100000 in
set_option maxHeartbeats 4000000 in
theorem places1_in (n : Nat) (hn : 1 ≤ n) (l Bn : Nat) (p : Value) (pl : List Int) (Kp : World → World → Prop) (Safe : Nat → World → Prop) (J Jx : List Int → World → Prop)
    (hS1 : ∀ k W1 W', Safe k W1 → Kp W1 W' → W'.heap[k]? = W1.heap[k]? ∧ Safe k W')
    (hY : ∀ pre x W, J pre W → pre.length < pl.length → x ∈ pl → YieldAt Fence.wide (n - 1) Try.prog l #[.int .i64 x] W fun e W' =>
      (e = .returned (.bool true) ∧ J (pre ++ [x]) W' ∧ Kp W W') ∨ (e = .returned (.bool false) ∧ Jx (pre ++ [x]) W'))
    (W : World) (hS0 : ∀ W2 k cs fr, Below W.heap.size W W2 → W.heap.size ≤ k → W2.heap[k]? = some (.cells cs 3 fr) → Safe k W2)
    (hBn : W.cell? ⟨Bn, 0, none⟩ = some p) (hp : ∃ q, p = .pointer q) (hin : Calls Try.prog 39 #[p] W fun e w' => ∃ v, e = .returned v ∧ Kd.R (Kd.int .i64) 3 w' W.heap.size (fun _ => True) v pl ∧ Below W.heap.size W w')
    (hJ : AbidesFrom W.heap.size J) (h0 : J [] W) :
    CallsIn Fence.wide n Try.prog 38 #[.func (.yield l) #[] #[], .pointer (some ⟨Bn, 0, none⟩)] W fun e W' => (∃ v, e = .returned v) ∧
      ((∃ ys, ys = pl.reverse ∧ J ys W') ∨ (∃ pre, pre <+: pl.reverse ∧ Jx pre W')) := by
  obtain ⟨q, rfl⟩ := hp
  refine callsIn_of_wp Try.func38 rfl trivial ?_ rfl
  simp only [Try.ntmps38, List.size_toArray, List.length_cons, List.length_nil, Nat.reduceAdd, Nat.reduceSub, Array.replicate_succ, Array.replicate_zero, List.push_toArray, List.append_toArray, List.nil_append, List.cons_append]
  gi_wp2_with (refine ⟨trivial, ?_⟩; gi_at_call 39; refine (callsIn_wide.2 hin).mono ?_; rintro e w2 ⟨v, rfl, hR, hb⟩; obtain ⟨Al, cl, ev, hcl, hCl⟩ := Kd.R_reads hR; subst ev)
  have hmax := Kd.C_max hCl
  have HW : Hid (wrap64 ((pl.length : Int) - 1) = (pl.length : Int) - 1) := Lib.hid (IntWalk.wrap64_in _ (by omega))
  have hJ2 : J [] w2 := hJ _ _ _ none h0 (grown_of_below hb) (fun r e => by cases e)
  have hsafe : ∀ k, (Value.slice Al pl.length cl).ownBlock = some k → Safe k w2 := fun k hk => by
    obtain ⟨h1, cs, fr, h2⟩ := R_cells hR k hk
    exact hS0 w2 k cs fr hb h1 h2
  obtain ⟨L, hL⟩ : ∃ L, pl.length = L := ⟨_, rfl⟩
  rw [hL] at hcl HW hmax hsafe hR ⊢
  have HL := Lib.hid hL
  have HMAX := Lib.hid hmax
  have HR := Lib.hid hR
  have HS := Lib.hid hsafe
  have HJ2 := Lib.hid hJ2
  have HS1 := Lib.hid hS1
  clear hCl hmax hL hR hsafe hJ2 hS0 hin hb h0 hS1 hJ hBn
  rw [HW.out]
  gi_loopw [4] (fun x wr => ∃ k : Nat, k ≤ L ∧ x = .int .i64 ((L : Int) - 1 - k) ∧ J (pl.reverse.take k) wr ∧ Kd.R (Kd.int .i64) 3 wr W.heap.size (fun _ => True) (.slice Al L cl) pl ∧ ∀ b, (Value.slice Al L cl).ownBlock = some b → Safe b wr)
    (fun x _ => (intOf x + 1).toNat)
  case atStart => exact ⟨0, Nat.zero_le _, by simp, HJ2.out, HR.out, HS.out⟩
  case round =>
    obtain ⟨k, hk, rfl, hJs, hRw, hSw⟩ := hrel
    by_cases hlt : k < L
    · have hd : decide ((0 : Int) ≤ (L : Int) - 1 - (k : Int)) = true := decide_eq_true (by omega)
      obtain ⟨i, hi⟩ : ∃ i : Nat, (i : Int) = (L : Int) - 1 - (k : Int) := ⟨L - 1 - k, by omega⟩
      have HI := Lib.hid hi
      rw [← hi]
      have hC := (Kd.R_reads' hRw).2.2
      obtain ⟨ad, e1, k0⟩ := Kd.at_int hC (i : Int) (by omega) (by rw [HL.out]; omega)
      subst e1
      rw [Int.toNat_natCast] at k0
      obtain ⟨y, hy0⟩ : ∃ y, rd pl (i : Int) = y := ⟨_, rfl⟩
      rw [hy0] at k0
      have hstep : pl.reverse.take (k + 1) = pl.reverse.take k ++ [y] := by
        rw [rev_take (by rw [HL.out]; exact hlt), ← hy0, rd_nth, HL.out, show L - 1 - k = i by omega]
      obtain ⟨fn, tmps, assign, body, hy, hRd⟩ := hY _ y wr hJs (by rw [List.length_take, List.length_reverse, HL.out]; omega) (by
        rw [← hy0, rd_nth]
        unfold nth
        rw [List.getD_eq_getElem?_getD, List.getElem?_eq_getElem (by rw [HL.out]; omega)]
        exact List.getElem_mem _)
      have q1 : (0 : Int) ≤ (i : Int) := by omega
      have q2 : (i : Int) < (L : Int) := by omega
      have q3 : i < L := by omega
      have hw1 : wrap64 ((i : Int) - 1) = (i : Int) - 1 := IntWalk.wrap64_in _ (by have := HMAX.out; omega)
      have HRw := Lib.hid hRw
      have HSw := Lib.hid hSw
      have HST := Lib.hid hstep
      clear hRw hSw hstep hi hC hy0 hd hJs
      gi_wp2
      refine hRd.mono ?_
      rintro e W3 (⟨rfl, hJ3, hk3⟩ | ⟨rfl, hJx3⟩)
      · have hR3 : Kd.R (Kd.int .i64) 3 W3 W.heap.size (fun _ => True) (.slice (some ad) L cl) pl := R_same HRw.out (fun b hb => (HS1.out b wr W3 (HSw.out b hb) hk3).1)
        have HR3 := Lib.hid hR3
        have HS3 := Lib.hid (fun b hb => (HS1.out b wr W3 (HSw.out b hb) hk3).2)
        have HJ3 : Hid (J (pl.reverse.take (k + 1)) W3) := Lib.hid (by rw [HST.out]; exact hJ3)
        clear hR3 hJ3 hk3
        gi_wp2
        go_roundw
        case rel => exact ⟨k + 1, by omega, by rw [hw1, HI.out]; congr 1; omega, HJ3.out, HR3.out, HS3.out⟩
        case measure => rw [hw1]; simp [intOf] <;> omega
      · gi_wp2
        refine bodyPost_ret (results_none rfl _ _ _) rfl ?_
        exact ⟨⟨_, rfl⟩, .inr ⟨_, by rw [← HST.out]; exact List.take_prefix _ _, hJx3⟩⟩
    · have hd : decide ((0 : Int) ≤ (L : Int) - 1 - (k : Int)) = false := decide_eq_false (by omega)
      have HJs : Hid (J pl.reverse wr) := Lib.hid (by rw [← List.take_of_length_le (l := pl.reverse) (i := k) (by rw [List.length_reverse, HL.out]; omega)]; exact hJs)
      gi_wp2
      go_end0
      exact ⟨⟨_, rfl⟩, .inl ⟨_, rfl, HJs.out⟩⟩
/-- A place of a text of L tokens. -/
abbrev Pl (L : Nat) : Type := { x : Int // ∃ p : Nat, x = p ∧ p ≤ L }
theorem places_pl {L n : Nat} {l Bn : Nat} (hn : 1 ≤ n) {p : Value} {pl : List Int} {Kp : World → World → Prop} (Safe : Nat → World → Prop) {J Jx : List (Pl L) → World → Prop} (hpl : ∀ x ∈ pl, ∃ p : Nat, x = p ∧ p ≤ L)
    (hS1 : ∀ k W1 W', Safe k W1 → Kp W1 W' → W'.heap[k]? = W1.heap[k]? ∧ Safe k W')
    (hY : ∀ (pre : List (Pl L)) (x : Pl L) W, J pre W → pre.length < pl.length → YieldAt Fence.wide (n - 1) Try.prog l #[.int .i64 x.1] W fun e W' =>
      (e = .returned (.bool true) ∧ J (pre ++ [x]) W' ∧ Kp W W') ∨ (e = .returned (.bool false) ∧ Jx (pre ++ [x]) W'))
    {W : World} (hS0 : ∀ W2 k cs fr, Below W.heap.size W W2 → W.heap.size ≤ k → W2.heap[k]? = some (.cells cs 3 fr) → Safe k W2)
    (hBn : W.cell? ⟨Bn, 0, none⟩ = some p) (hp : ∃ q, p = .pointer q) (hin : Calls Try.prog 39 #[p] W fun e w' => ∃ v, e = .returned v ∧ Kd.R (Kd.int .i64) 3 w' W.heap.size (fun _ => True) v pl ∧ Below W.heap.size W w')
    (hJ : AbidesFrom W.heap.size J) (h0 : J [] W) :
    CallsIn Fence.wide n Try.prog 38 #[.func (.yield l) #[] #[], .pointer (some ⟨Bn, 0, none⟩)] W fun e W' => (∃ v, e = .returned v) ∧
      ((∃ ys : List (Pl L), ys.map (·.1) = pl.reverse ∧ J ys W') ∨ (∃ pre : List (Pl L), pre.map (·.1) <+: pl.reverse ∧ Jx pre W')) := by
  refine (places1_in n hn l Bn p pl Kp Safe (fun pre W => ∃ pre' : List (Pl L), pre'.map (·.1) = pre ∧ J pre' W) (fun pre W => ∃ pre' : List (Pl L), pre'.map (·.1) = pre ∧ Jx pre' W) hS1 ?_ W hS0 hBn hp hin ?_ ⟨[], rfl, h0⟩).mono ?_
  · rintro pre x W1 ⟨pre', rfl, hj⟩ hlen hx
    refine (hY pre' ⟨x, hpl x hx⟩ W1 hj (by simpa using hlen)).mono ?_
    rintro e W2 (⟨h1, h2, h3⟩ | ⟨h1, h2⟩)
    · exact .inl ⟨h1, ⟨_, by simp, h2⟩, h3⟩
    · exact .inr ⟨h1, ⟨_, by simp, h2⟩⟩
  · rintro s A B row ⟨pre', h1, h2⟩ hg hr
    exact ⟨pre', h1, hJ pre' A B row h2 hg hr⟩
  · rintro e W' ⟨h1, ⟨ys, rfl, ys', h2, h3⟩ | ⟨pre, h2, pre', rfl, h3⟩⟩
    · exact ⟨h1, .inl ⟨ys', h2, h3⟩⟩
    · exact ⟨h1, .inr ⟨pre', h2, h3⟩⟩
/-- x.Places(): the receiver lies in a block of its own; the function value holds that block. -/
theorem places_fn (n : Nat) (p : Value) (hp : ∃ q, p = .pointer q) (w : World) :
    CallsIn Fence.wide n Try.prog 35 #[p] w fun e w' => e = .returned (.func (.func 38) #[] #[.pointer (some ⟨w.heap.size, 0, none⟩)]) ∧ w' = w.alloc (.cells #[p] 25) := by
  obtain ⟨q, rfl⟩ := hp
  refine callsIn_of_wp Try.func35 rfl trivial ?_ rfl
  simp only [Try.ntmps35, List.size_toArray, List.length_cons, List.length_nil, Nat.reduceAdd, Nat.reduceSub, Array.replicate_succ, Array.replicate_zero, List.push_toArray, List.append_toArray, List.nil_append, List.cons_append]
  gi_wp2
  go_ret
  exact ⟨rfl, rfl⟩
end Go.Proofs.Ytjeofkobefeigaa.Wk
/- The walk of augurlaw13's places: what an index' iterator gives, gone through to the end or left early. -/
namespace Go.Proofs.Ytjeofkobefeigaa.Wk
open Go.RowKit Go.Shelf Go.Proofs.YtjeofkobefeigaaW.PrintWords Go.Proofs.YtjeofkobefeigaaW.PrintLast Go.Proofs.YtjeofkobefeigaaW.PrintMore Go.Proofs.Ytjeofkobefeigaa.Mp
open Go.ChangeMaps (setBlock)
attribute [local go_sem] Oper.semAt_some

/-- A block of cells that a round leaves alone: not the boxes of Ex, not the list's box Bx nor the list's row. -/
def SafeB (Ex : Nat → Prop) (Bx : Nat) (tt : TypeId) (k : Nat) (W : World) : Prop := (∃ (cs : Array Value) (t : TypeId) (fr : Nat × Nat), W.heap[k]? = some (.cells cs t fr)) ∧ ¬ Ex k ∧ k ≠ Bx ∧ ∃ v, W.heap[Bx]? = some (.cells #[v] tt (0, 0)) ∧ v.ownBlock ≠ some k
def KpB (Ex : Nat → Prop) (Bx : Nat) (tt : TypeId) (W1 W' : World) : Prop := ∀ k, SafeB Ex Bx tt k W1 → W'.heap[k]? = W1.heap[k]? ∧ SafeB Ex Bx tt k W'
theorem KpB.refl {Ex : Nat → Prop} {Bx : Nat} {tt : TypeId} (W : World) : KpB Ex Bx tt W W := fun _ h => ⟨rfl, h⟩
theorem KpB.trans {Ex : Nat → Prop} {Bx : Nat} {tt : TypeId} {A B C : World} (h : KpB Ex Bx tt A B) (k : KpB Ex Bx tt B C) : KpB Ex Bx tt A C := fun i hi => ⟨(k i (h i hi).2).1.trans (h i hi).1, (k i (h i hi).2).2⟩
theorem SafeB.of_same {Ex : Nat → Prop} {Bx : Nat} {tt : TypeId} {k : Nat} {W W' : World} (h : SafeB Ex Bx tt k W) (hs : ∀ i : Nat, (∃ (cs : Array Value) (t : TypeId) (fr : Nat × Nat), W.heap[i]? = some (.cells cs t fr)) → W'.heap[i]? = W.heap[i]?) : W'.heap[k]? = W.heap[k]? ∧ SafeB Ex Bx tt k W' := by
  obtain ⟨h1, h2, h3, v, h4, h5⟩ := h
  refine ⟨hs k h1, ?_, h2, h3, v, (hs Bx ⟨_, _, _, h4⟩).trans h4, h5⟩
  obtain ⟨cs, t, fr, hk⟩ := h1
  exact ⟨cs, t, fr, (hs k ⟨_, _, _, hk⟩).trans hk⟩
theorem cells_kept {W W' : World} {row : Option Nat} (hg : W.grownBy W' row) (hr : ∀ r, row = some r → ∃ o : Obj, W.heap[r]? = some o ∧ o.isCells = false) {k : Nat} {cs : Array Value} {t : TypeId} {fr : Nat × Nat} (h : W.heap[k]? = some (.cells cs t fr)) : W'.heap[k]? = W.heap[k]? := by
  refine hg.block k (blk_lt h) (fun e => ?_)
  obtain ⟨o, ho, hc⟩ := hr k e.symm
  rw [h] at ho
  injection ho with ho
  subst ho
  exact Bool.noConfusion hc
theorem KpB.grown {Ex : Nat → Prop} {Bx : Nat} {tt : TypeId} {W W' : World} {row : Option Nat} (hg : W.grownBy W' row) (hr : ∀ r, row = some r → ∃ o : Obj, W.heap[r]? = some o ∧ o.isCells = false) : KpB Ex Bx tt W W' := fun k hk => hk.of_same (fun i ⟨_, _, _, hi⟩ => cells_kept hg hr hi)
theorem KpB.putObj {Ex : Nat → Prop} {Bx : Nat} {tt : TypeId} (W : World) (l : Nat) (o o' : Obj) (h : W.heap[l]? = some o) (hc : o.isCells = false) : KpB Ex Bx tt W (W.putObj l o') := KpB.grown (grownBy_putObj' W l o') (fun r e => by cases e; exact ⟨o, h, hc⟩)
theorem eqnil (k : Nat) (b : Array Value) (W : World) : (binOp .eql 60 (.func (.func k) #[] b) .nilFunc).run Try.prog W = .ok (.bool false) W := by
  have key : (Op.equalIn (9999 + 1) 60 (.func (.func k) #[] b) .nilFunc).run Try.prog W = .ok false W := by
    rw [Op.equalIn]
    simp [run_underlying Try.underlying60, Result.andThen]
  have key2 : (Op.equalIn Op.maxDepth 60 (.func (.func k) #[] b) .nilFunc).run Try.prog W = .ok false W := key
  simp [binOp, Op.equal, key2, Result.andThen]
theorem KeepsOthers.of_row {W w1 : World} {row : Option Nat} (hg : W.grownBy w1 row) (hr : ∀ r, row = some r → ∃ (cs : Array Value) (t : TypeId) (fr : Nat × Nat), W.heap[r]? = some (.cells cs t fr)) : KeepsOthers W w1 :=
  ⟨hg.size, fun k o hk hc => (hg.block k (Array.getElem?_eq_some_iff.1 hk).1 (fun e => by
    obtain ⟨cs, t, fr, h⟩ := hr k e.symm
    rw [hk] at h
    injection h with h
    subst h
    exact Bool.noConfusion hc)).trans hk⟩
/-- An own list of numbers that is appended to, within a fence. -/
theorem appIn {F : Fence} {nF : Nat} {ops : Array Oper} {rest : List Oper} {o : Oper} {a : Act} {Q : Exit → Act → World → Prop} {W : World} {base : Nat} (hg : o.guard = none) (s x : Operand)
    (ho : o.op = .call { callee := .builtin .append, args := #[s, x], argTypes := #[22, 22] }) (v : Value) (xs : List Int) (p : Int) (hs : a.eval s = v) (hx : a.eval x = .slice (some ⟨W.heap.size, 0, none⟩) 1 1)
    (HO : Kd.R (Kd.int .i64) 3 W base (fun _ => True) v xs) (hb : base ≤ W.heap.size) (hl : (xs.length + 1) * 8 ≤ 140737488355328)
    (h : ∀ v1 w1, Kd.R (Kd.int .i64) 3 w1 base (fun _ => True) v1 (xs ++ [p]) → W.grownBy w1 v.ownBlock → (v1.ownBlock = v.ownBlock ∨ ∃ b, v1.ownBlock = some b ∧ W.heap.size ≤ b) → KeepsOthers W w1 → wpListIn F nF Try.prog ops Q rest (a.put o.dst v1) w1) :
    wpListIn F nF Try.prog ops Q (o :: rest) a (W.alloc (.cells #[.int .i64 p] 3 (0, 0))) := by
  obtain ⟨i0, hi, hz0, hz1, hz2⟩ := info_parts info3
  have hrow := Kd.own_of_R (Kd.R_below HO (below_alloc (Below.refl _ _) (.cells #[.int .i64 p] 3 (0, 0))))
  refine wpListIn_append_own_at _ hg s x 22 ho base 3 i0 (.int .i64 0) 1 8 Try.underlying22 hi hz0 hz1 hz2 rfl (by decide) v xs.length _ hs hrow ⟨W.heap.size, 0, none⟩ 1 1 [.int .i64 p] hx rfl (cell_one_new _ _ _) (by simp [Value.oneCell']) (Nat.le_trans (show _ ≤ 17592186044416 by omega) (by decide)) hl (by simp; omega) ?_
  intro v' w' hown hgrow _ hat
  have hg2 : W.grownBy w' v.ownBlock := ⟨hgrow.os, hgrow.tape, hgrow.output, by have := hgrow.size; simp at this; omega, fun k hk hn => (hgrow.block k (by simp; omega) hn).trans (Below.heap_alloc W _ k hk)⟩
  refine h v' w' (Kd.R_of_own (by rw [encs_append, List.length_append]; exact hown) (fun _ _ => trivial)) hg2 ?_ (KeepsOthers.of_row hg2 (fun r hr => by obtain ⟨_, cs, fr, hc⟩ := R_cells HO r hr; exact ⟨cs, _, fr, hc⟩))
  rcases hat with hat | hat
  · exact .inl hat
  · exact .inr ⟨_, hat, by simp⟩
/-- The first so many, if the number is above 0. -/
def firstL (l : List Int) (most : Int) : List Int := if 0 < most then l.take most.toNat else l
theorem own_I14 (w : World) (Bx Bm : Nat) : Own (fun (pre : List Int) W => ∃ v, W.heap[Bx]? = some (.cells #[v] 22 (0, 0)) ∧ Kd.R (Kd.int .i64) 3 W w.heap.size (fun _ => True) v pre ∧ v.ownBlock ≠ some Bm) := fun s A B row ⟨v, h1, h2, h3⟩ hg hr =>
  ⟨v, (cells_kept hg hr h1).trans h1, R_same h2 (fun k hk => by obtain ⟨_, cs, fr, hc⟩ := R_cells h2 k hk; exact cells_kept hg hr hc), h3⟩
theorem R_nebox {w : World} {base : Nat} {F : Nat → Prop} {v : Value} {xs : List Int} (h : Kd.R (Kd.int .i64) 3 w base F v xs) {B : Nat} {cs : Array Value} {tt : TypeId} (hB : w.heap[B]? = some (.cells cs tt (0, 0))) (ht : tt ≠ 3) : v.ownBlock ≠ some B := fun e => by
  obtain ⟨_, cs', fr, hc⟩ := R_cells h B e
  rw [hB] at hc
  injection hc with hc
  injection hc with _ h2
  exact ht h2
/-- The list's box and row behind one append. -/
theorem row_step {w W w1 : World} {Bx Bm : Nat} {most : Int} {v v1 : Value} {xs ys : List Int} (hv : W.heap[Bx]? = some (.cells #[v] 22 (0, 0))) (hR : Kd.R (Kd.int .i64) 3 W w.heap.size (fun _ => True) v xs)
    (h3 : W.heap[Bm]? = some (.cells #[.int .i64 most] 3 (0, 0))) (hB : Below w.heap.size w W) (ho : Kd.R (Kd.int .i64) 3 w1 w.heap.size (fun _ => True) v1 ys) (hg : W.grownBy w1 v.ownBlock)
    (hat : v1.ownBlock = v.ownBlock ∨ ∃ b, v1.ownBlock = some b ∧ W.heap.size ≤ b) (hk : KeepsOthers W w1) (hm : v.ownBlock ≠ some Bm) (hx : w.heap.size ≤ Bx) :
    v.ownBlock ≠ some Bx ∧ v.ownBlock ≠ some Bm ∧ KeepsOthers W (w1.setCell ⟨Bx, 0, none⟩ v1) ∧ KpB (fun _ => False) Bx 22 W (w1.setCell ⟨Bx, 0, none⟩ v1) ∧ (w1.setCell ⟨Bx, 0, none⟩ v1).heap[Bx]? = some (.cells #[v1] 22 (0, 0)) ∧
      Kd.R (Kd.int .i64) 3 (w1.setCell ⟨Bx, 0, none⟩ v1) w.heap.size (fun _ => True) v1 ys ∧ (Bm ≠ Bx → (w1.setCell ⟨Bx, 0, none⟩ v1).heap[Bm]? = some (.cells #[.int .i64 most] 3 (0, 0))) ∧ Below w.heap.size w (w1.setCell ⟨Bx, 0, none⟩ v1) := by
  have hn := R_nebox hR hv (by decide)
  have hv1 : w1.heap[Bx]? = some (.cells #[v] 22 (0, 0)) := blk_grown hv hg (fun e => hn e.symm)
  have hm1 : w1.heap[Bm]? = some (.cells #[.int .i64 most] 3 (0, 0)) := blk_grown h3 hg (fun e => hm e.symm)
  have hset : (w1.setCell ⟨Bx, 0, none⟩ v1).heap[Bx]? = some (.cells #[v1] 22 (0, 0)) := blk_put hv1 0 v1 rfl
  have hn1 := R_nebox ho hv1 (by decide)
  have hB1 : Below w.heap.size w w1 := hB.trans ⟨hg.os, hg.tape, hg.output, hg.size, fun i hi => hg.block i (Nat.lt_of_lt_of_le hi hB.size) (fun e => by have := (R_cells hR i e.symm).1; omega)⟩
  refine ⟨hn, hm, hk.trans (KeepsOthers.setCell _ _ _), fun k hs => ?_, hset, R_same ho (fun k hk2 => Below.heap_setCell w1 ⟨Bx, 0, none⟩ v1 k (fun e => hn1 (by rw [hk2]; exact congrArg some e))), fun hne => (Below.heap_setCell w1 ⟨Bx, 0, none⟩ v1 Bm hne).trans hm1, below_set hB1 hx⟩
  obtain ⟨⟨cs, t, fr, h1⟩, h2, h3', v', h4, h5⟩ := hs
  rw [hv] at h4
  injection h4 with h4
  injection h4 with h4
  have hvv : v = v' := by simpa using h4
  subst hvv
  have hsame : (w1.setCell ⟨Bx, 0, none⟩ v1).heap[k]? = W.heap[k]? := (Below.heap_setCell w1 ⟨Bx, 0, none⟩ v1 k h3').trans (hg.block k (blk_lt h1) (fun e => h5 e.symm))
  refine ⟨hsame, ⟨cs, t, fr, hsame.trans h1⟩, h2, h3', v1, hset, fun e => ?_⟩
  rcases hat with hat | ⟨b, hb1, hb2⟩
  · exact h5 (hat ▸ e)
  · rw [hb1] at e
    injection e with e
    have := blk_lt h1
    omega
set_option maxRecDepth 100000 in
set_option maxHeartbeats 4000000 in
theorem lawplaces_calls {most : Int} {pl : List Int} (w : World) (q : Option Addr) (hin : ∀ W, Below w.heap.size w W → Calls Try.prog 39 #[.pointer q] W fun e w' => ∃ v, e = .returned v ∧ Kd.R (Kd.int .i64) 3 w' W.heap.size (fun _ => True) v pl ∧ Below W.heap.size W w') (hl : pl.length * 8 ≤ 140737488355328) :
    Calls Try.prog 14 #[.pointer q, .int .i64 most] w fun e w' => ∃ v, e = .returned v ∧ Kd.R (Kd.int .i64) 3 w' w.heap.size (fun _ => True) v (firstL pl.reverse most) ∧ Below w.heap.size w w' := by
  refine (callsIn_wide (n := 5)).1 ?_
  refine callsIn_of_wp_marks Try.func14 rfl trivial ?_ rfl
  simp only [Try.ntmps14, List.size_toArray, List.length_cons, List.length_nil, Nat.reduceAdd, Nat.reduceSub, Array.replicate_succ, Array.replicate_zero, List.push_toArray, List.append_toArray, List.nil_append, List.cons_append]
  have hnil := eqnil 38 #[.pointer (some ⟨w.heap.size + 1 + 1, 0, none⟩)]
  gi_wp2_with (refine ⟨trivial, ?_⟩; gi_at_call 35; refine (places_fn _ (.pointer q) ⟨q, rfl⟩ _).mono ?_; rintro e w' ⟨rfl, rfl⟩)
  obtain ⟨W0, hW0⟩ : ∃ W0, ((w.alloc (.cells #[.int .i64 most] 3)).alloc (.cells #[.slice none 0 0] 22)).alloc (.cells #[.pointer q] 25) = W0 := ⟨_, rfl⟩
  have b0 : W0.heap[w.heap.size]? = some (.cells #[.int .i64 most] 3 (0, 0)) := by rw [← hW0]; exact blk_alloc (blk_alloc (blk_new w _) _) _
  have b1 : W0.heap[w.heap.size + 1]? = some (.cells #[.slice none 0 0] 22 (0, 0)) := by
    rw [← hW0]
    have := blk_new (w.alloc (.cells #[.int .i64 most] 3)) (.cells #[.slice none 0 0] 22)
    rw [World.size_alloc] at this
    exact blk_alloc this _
  have b2 : W0.heap[w.heap.size + 1 + 1]? = some (.cells #[.pointer q] 25 (0, 0)) := by
    rw [← hW0]
    have := blk_new ((w.alloc (.cells #[.int .i64 most] 3)).alloc (.cells #[.slice none 0 0] 22)) (.cells #[.pointer q] 25)
    rw [World.size_alloc, World.size_alloc] at this
    exact this
  have hB0 : Below w.heap.size w W0 := by rw [← hW0]; exact below_alloc (below_alloc (below_alloc (Below.refl _ _) _) _) _
  have hsz : W0.heap.size = w.heap.size + 1 + 1 + 1 := by rw [← hW0, World.size_alloc, World.size_alloc, World.size_alloc]
  rw [hW0]
  have hseq : SeqStopsK Fence.wide (5 - 1) Try.prog 38 #[.pointer (some ⟨w.heap.size + 1 + 1, 0, none⟩)] (fun x : Int => #[Value.int .i64 x]) (KpB (fun _ => False) (w.heap.size + 1) 22) (fun ys => ys = pl.reverse) (fun pre => pre <+: pl.reverse) pl.length W0 :=
    fun l J Jx W hW hJ hJx hY h0 => places1_in (5 - 1) (by omega) l (w.heap.size + 1 + 1) (.pointer q) pl _ (SafeB (fun _ => False) (w.heap.size + 1) 22) J Jx (fun k W1 W' hs hk => hk k hs) (fun pre x W1 hj hl _ => hY pre x W1 hj hl) W
      (fun W2 k cs fr hb hk hc => ⟨⟨cs, 3, fr, hc⟩, fun h => h, by have := hW.size; omega, .slice none 0 0, blk_below (blk_below b1 hW) hb, fun e => by cases e⟩)
      ((blk_cell (blk_below b2 hW) 0).trans rfl) ⟨q, rfl⟩ (hin W (hB0.trans (hW.mono hB0.size))) hJ h0
  clear hin hW0
  refine wpIn_rangeFunc_ownF rfl (by omega) (gf := 38) (lb := #[.pointer (some ⟨w.heap.size + 1 + 1, 0, none⟩)]) rfl trivial (enters_of Try.func38 (by kernel_rfl) rfl)
    hseq (fun h k => h.trans k) (fun W l o o' _ h hc _ => KpB.putObj W l o o' h hc) (Below.refl _ _) (fun _ => rfl)
    (fun pre W => ((∃ v, W.heap[w.heap.size + 1]? = some (.cells #[v] 22 (0, 0)) ∧ Kd.R (Kd.int .i64) 3 W w.heap.size (fun _ => True) v pre ∧ v.ownBlock ≠ some w.heap.size) ∧ W.heap[w.heap.size]? = some (.cells #[.int .i64 most] 3 (0, 0)) ∧ (0 < most → (pre.length : Int) < most)) ∧ Below w.heap.size w W)
    (fun c pre W => (c = .exit 0 ∧ 0 < most ∧ (pre.length : Int) = most ∧ ∃ v, W.heap[w.heap.size + 1]? = some (.cells #[v] 22 (0, 0)) ∧ Kd.R (Kd.int .i64) 3 W w.heap.size (fun _ => True) v pre ∧ v.ownBlock ≠ some w.heap.size) ∧ Below w.heap.size w W)
    (OwnFrom.and (Own.from (fun s A B row hs hg hr => ⟨own_I14 w (w.heap.size + 1) w.heap.size s A B row hs.1 hg hr, (cells_kept hg hr hs.2.1).trans hs.2.1, hs.2.2⟩) _) (ownFrom_below (Nat.le_refl _) (by omega)))
    (fun c => OwnFrom.and (Own.from (fun s A B row hs hg hr => ⟨hs.1, hs.2.1, hs.2.2.1, own_I14 w (w.heap.size + 1) w.heap.size s A B row hs.2.2.2 hg hr⟩) _) (ownFrom_below (Nat.le_refl _) (by omega)))
    ⟨⟨⟨.slice none 0 0, b1, Kd.R_nil _ _ _ _ _, fun e => by cases e⟩, b0, fun h => by simpa using h⟩, hB0⟩
    (fun x => { tmps := #[.pointer q, .int .i64 most, undef, .pointer (some ⟨w.heap.size, 0, none⟩), .slice none 0 0, .pointer (some ⟨w.heap.size + 1, 0, none⟩), .func (.func 38) #[] #[.pointer (some ⟨w.heap.size + 1 + 1, 0, none⟩)], .int .i64 x, .pointer q, .func (.func 38) #[] #[.pointer (some ⟨w.heap.size + 1 + 1, 0, none⟩)], .func (.func 38) #[] #[.pointer (some ⟨w.heap.size + 1 + 1, 0, none⟩)], .bool false, undef, .func (.func 38) #[] #[.pointer (some ⟨w.heap.size + 1 + 1, 0, none⟩)], .int .i64 x, undef, undef, undef, undef, undef, undef, undef, undef, undef], defers := [] }) ?assign ?body ?done ?stop
  case assign =>
    intro l x W K hK
    gi_wp2
    exact hK
  case body =>
    rintro l pre x W ⟨⟨⟨v, hv, hR, hnm⟩, h3, hlt⟩, hB⟩ hlen
    have kv : W.cell? ⟨w.heap.size + 1, 0, none⟩ = some v := (blk_cell hv 0).trans rfl
    have HV := Lib.hid hv
    have HR := Lib.hid hR
    have H3 := Lib.hid h3
    have HB := Lib.hid hB
    have HLT := Lib.hid hlt
    have HNM : Hid (v.ownBlock ≠ some w.heap.size) := Lib.hid hnm
    clear hv hR h3 hB hlt hnm hseq b0 b1 b2 hB0
    have STEP : Hid (∀ v1 w1, Kd.R (Kd.int .i64) 3 w1 w.heap.size (fun _ => True) v1 (pre ++ [x]) → W.grownBy w1 v.ownBlock → (v1.ownBlock = v.ownBlock ∨ ∃ b, v1.ownBlock = some b ∧ W.heap.size ≤ b) → KeepsOthers W w1 →
        ∃ A1 c1, v1 = .slice A1 (pre.length + 1) c1 ∧ w1.cell? ⟨w.heap.size + 1, 0, none⟩ = some v ∧ w1.frozen? ⟨w.heap.size + 1, 0, none⟩ = false ∧ w1.cell? ⟨w.heap.size, 0, none⟩ = some (.int .i64 most) ∧
          KeepsOthers W (w1.setCell ⟨w.heap.size + 1, 0, none⟩ v1) ∧ KpB (fun _ => False) (w.heap.size + 1) 22 W (w1.setCell ⟨w.heap.size + 1, 0, none⟩ v1) ∧ (w1.setCell ⟨w.heap.size + 1, 0, none⟩ v1).heap[w.heap.size + 1]? = some (.cells #[v1] 22 (0, 0)) ∧
          Kd.R (Kd.int .i64) 3 (w1.setCell ⟨w.heap.size + 1, 0, none⟩ v1) w.heap.size (fun _ => True) v1 (pre ++ [x]) ∧ (w1.setCell ⟨w.heap.size + 1, 0, none⟩ v1).heap[w.heap.size]? = some (.cells #[.int .i64 most] 3 (0, 0)) ∧ Below w.heap.size w (w1.setCell ⟨w.heap.size + 1, 0, none⟩ v1) ∧ v1.ownBlock ≠ some w.heap.size) := Lib.hid (fun v1 w1 ho hg hat hk => by
      obtain ⟨s1, s2, s3, s4, s5, s6, s7, s8⟩ := row_step HV.out HR.out H3.out HB.out ho hg hat hk HNM.out (by omega)
      obtain ⟨A1, c1, e1, hc1, hC1⟩ := Kd.R_reads ho
      rw [List.length_append, List.length_singleton] at e1
      refine ⟨A1, c1, e1, (blk_cell (blk_grown HV.out hg (fun e => s1 e.symm)) 0).trans rfl, blk_frozen (blk_grown HV.out hg (fun e => s1 e.symm)) 0, (blk_cell (blk_grown H3.out hg (fun e => s2 e.symm)) 0).trans rfl, s3, s4, s5, s6, s7 (by omega), s8, fun e => ?_⟩
      rcases hat with hat | ⟨b, hb1, hb2⟩
      · exact s2 (hat ▸ e)
      · rw [hb1] at e
        injection e with e
        have := blk_lt H3.out
        omega)
    gi_wp2_with (gi_at_builtin; refine appIn (W := W) (base := w.heap.size) rfl (.tmp 15) (.tmp 17) rfl v pre x rfl rfl HR.out HB.out.size (by omega) ?_; intro v1 w1 ho hg hat hk; obtain ⟨A1, c1, rfl, kv1, kf1, km1, hst⟩ := STEP.out v1 w1 ho hg hat hk; have HST := Lib.hid hst; clear ho hg hat hk hst)
    · rename_i hx
      have hx : (pre.length : Int) + 1 = most := eq_of_beq hx
      obtain ⟨s1, s2, s3, s4, s5, s6, s7⟩ := HST.out
      exact ⟨s1, ⟨rfl, by omega, by rw [List.length_append, List.length_singleton]; omega, _, s3, s4, s7⟩, s6⟩
    · rename_i hx
      have hx : (pre.length : Int) + 1 ≠ most := fun e => by rw [e, beq_self_eq_true] at hx; cases hx
      obtain ⟨s1, s2, s3, s4, s5, s6, s7⟩ := HST.out
      exact ⟨s1, s2, ⟨⟨_, s3, s4, s7⟩, s5, fun h0 => by rw [List.length_append, List.length_singleton]; have := HLT.out h0; omega⟩, s6⟩
  case done =>
    rintro D ys W hD rfl ⟨⟨⟨v, hv, hR, hnm⟩, h3, hlt⟩, hB⟩ hK
    have kv : W.cell? ⟨w.heap.size + 1, 0, none⟩ = some v := (blk_cell hv 0).trans rfl
    have HR := Lib.hid hR
    have HV := Lib.hid hv
    have HLT := Lib.hid hlt
    have HK := Lib.hid hK
    have HB := Lib.hid hB
    clear hv hR hnm h3 hlt hK hB
    gi_wp2
    refine ⟨by simp, .inl ⟨_, _, rfl, run_takeDeferred HK.out, ?_⟩⟩
    refine ⟨_, results_tmp rfl _ _ _, v, rfl, ?_, HB.out.trans (belowK_b (w := w) (Nat.le_refl _) W D _ _ (by omega) HK.out rfl rfl)⟩
    have hr : firstL pl.reverse most = pl.reverse := by
      unfold firstL
      split
      · rename_i h0
        exact List.take_of_length_le (by have := HLT.out h0; omega)
      · rfl
    rw [hr]
    exact R_same HR.out (fun k hk => by obtain ⟨_, cs, fr, hc⟩ := R_cells HR.out k hk; exact cells_kept (grownBy_putObj' W D _) (fun r e => by cases e; exact ⟨_, HK.out, rfl⟩) hc)
  case stop =>
    rintro D c pre W hD hpre ⟨⟨rfl, h0, hlen, v, hv, hR, hnm⟩, hB⟩ hK
    have kv : W.cell? ⟨w.heap.size + 1, 0, none⟩ = some v := (blk_cell hv 0).trans rfl
    have HR := Lib.hid hR
    have HK := Lib.hid hK
    have HB := Lib.hid hB
    have HPRE := Lib.hid hpre
    clear hv hR hnm hK hB hpre
    gi_wp2
    refine ⟨by simp, .inl ⟨_, _, rfl, run_takeDeferred HK.out, ?_⟩⟩
    refine ⟨_, results_tmp rfl _ _ _, v, rfl, ?_, HB.out.trans (belowK_b (w := w) (Nat.le_refl _) W D _ _ (by omega) HK.out rfl rfl)⟩
    have hr : firstL pl.reverse most = pre := by
      unfold firstL
      rw [if_pos h0, ← hlen, Int.toNat_natCast]
      exact (List.prefix_iff_eq_take.1 HPRE.out).symm
    rw [hr]
    exact R_same HR.out (fun k hk => by obtain ⟨_, cs, fr, hc⟩ := R_cells HR.out k hk; exact cells_kept (grownBy_putObj' W D _) (fun r e => by cases e; exact ⟨_, HK.out, rfl⟩) hc)
end Go.Proofs.Ytjeofkobefeigaa.Wk
/- A region that draws its order, in a round of a range over a function: as anywhere. -/
namespace Go.Proofs.Ytjeofkobefeigaa.Wk
open Go.RowKit

/-- No 'defer' statement is among these operations. -/
def noDefer (ops : Array Oper) : Bool := ops.toList.all fun o => match o.op with | .defer _ => false | _ => true
theorem noDefer_spec {ops : Array Oper} (h : noDefer ops = true) {i : Nat} {o : Oper} (ho : ops[i]? = some o) : ∀ c, o.op ≠ .defer c := fun c hc => by
  have := List.all_eq_true.1 h o (Array.mem_toList_iff.2 (Array.mem_of_getElem? ho))
  rw [hc] at this
  exact Bool.noConfusion this
theorem op_round {P : Program} {o : Oper} {a : Act} {w : World} {K : Act → World → Prop} {Q : Exit → Act → World → Prop} {l n : Nat} (hd : ∀ c, o.op ≠ .defer c) (h : Oper.wp P o a w K Q) : Oper.wpIn (Fence.wide.inRound l) n P o a w K Q := by
  refine ⟨fun _ _ => trivial, ?_⟩
  rw [Oper.semAt_plain _ _ _ hd]
  unfold Oper.wp at h
  generalize (execOp a.eval o).run P w = r at h ⊢
  cases r with
  | ok x w' =>
    cases x with
    | value v => exact h
    | skip => exact h
    | defer d => exact h
    | enter f args => exact ⟨fun e => by simp [Fence.wide] at e, CallsIn.inRound l (callsIn_wide.2 h)⟩
    | row r args => exact ⟨fun e => by simp [Fence.wide] at e, fun c cs _ => by
        obtain ⟨v, w2, h1, h2⟩ := h c cs
        exact ⟨v, w2, h1, stepsIn_wide.2 h2⟩⟩
    | _ => exact absurd h (fun e => e)
  | halt x w' =>
    cases x <;> first | exact h | exact absurd h (fun e => e)
theorem any_round {P : Program} {ops : Array Oper} {Q : Exit → Act → World → Prop} {md : Region.Mode} {l n : Nat} (hd : noDefer ops = true) (hQ : ¬ LetsOut Q) : ∀ (fuel : Nat) (listed : Array Bool) (a : Act) (w : World), wpAny P md ops Q fuel listed a w → wpAnyIn (Fence.wide.inRound l) n P md ops Q fuel listed a w
  | 0, _, _, _, h => h
  | fuel + 1, listed, a, w, h => ⟨h.1, fun i hi => by
    have h2 := h.2 i hi
    unfold wpOp at h2
    unfold wpOpIn
    cases ho : ops[i]? with
    | none =>
      simp only [ho] at h2
      exact any_round hd hQ fuel _ a w h2
    | some o =>
      simp only [ho] at h2
      show if Region.wanted o (yielded ops a.tmps) = true then _ else _
      split
      · rename_i hw
        rw [if_pos hw] at h2
        rcases h2 with h2 | ⟨_, h2⟩
        · exact op_round (noDefer_spec hd ho) (Oper.wp_mono (fun a w h => any_round hd hQ fuel _ a w h) h2)
        · exact absurd h2 hQ
      · rename_i hw
        rw [if_neg hw] at h2
        exact ⟨fun _ _ => trivial, any_round hd hQ fuel _ _ w h2⟩⟩
/-- A region that draws its order, in a round: whatever is held to be true of the world till the writing begins. -/
theorem region_round {P : Program} {ops : Array Oper} {Q : Exit → Act → World → Prop} {l n id : Nat} {a : Act} {w : World} (S : World → Prop) (hm : P.follows .mixedOrders = true) (hd : noDefer ops = true) (hQ : ¬ LetsOut Q) (hS : S w.drew)
    (h : S w.drew → wpAnyH P .any ops Q S ops.size (Array.replicate ops.size false) a w.drew) : (Code.region id ops true).wpIn (Fence.wide.inRound l) n P Q a w :=
  wpIn_region_any hm (any_round hd hQ _ _ _ _ (wpAny_of_held _ _ _ _ (h hS)))
end Go.Proofs.Ytjeofkobefeigaa.Wk
/- What Propose answers, plainly; own rows of nodes; a region that draws its order in a round, walked by hand. -/
namespace Go.Proofs.Ytjeofkobefeigaa.Wk
open Go.RowKit Go.Shelf Go.Proofs.YtjeofkobefeigaaW.PrintWords Go.Proofs.YtjeofkobefeigaaW.PrintLast Go.Proofs.YtjeofkobefeigaaW.PrintMore Go.Proofs.Ytjeofkobefeigaa.Mp Go.Proofs.Ytjeofkobefeigaa.PEqRaw
open Go.ChangeMaps (setBlock)
attribute [local go_sem] Oper.semAt_some

/-- One chain: the tokens behind place p, at most so many. -/
def chainN (t : List Int) (p : Nat) (out : List S35) (k : Nat) : List S35 := out ++ (List.range k).map fun j => ⟨if j = 0 then -1 else (out.length : Int) + j - 1, nth t (p + j)⟩
/-- How deep a chain goes. -/
def deepN (t : List Int) (deep : Int) (p n : Nat) : Nat := min (min deep.toNat (t.length - p)) (96 - n)
def chain (t : List Int) (deep : Int) (out : List S35) (p : Int) : List S35 := chainN t p.toNat out (deepN t deep p.toNat out.length)
def proposeL (t : List Int) (deep : Int) (pl : List Int) : List S35 := pl.foldl (chain t deep) []
theorem proposeL_snoc (t : List Int) (deep : Int) (pl : List Int) (p : Int) : proposeL t deep (pl ++ [p]) = chain t deep (proposeL t deep pl) p := by
  unfold proposeL; rw [List.foldl_append]; rfl
theorem chainN_length (t : List Int) (p : Nat) (out : List S35) (k : Nat) : (chainN t p out k).length = out.length + k := by
  unfold chainN; rw [List.length_append, List.length_map, List.length_range]
theorem chainN_zero (t : List Int) (p : Nat) (out : List S35) : chainN t p out 0 = out := by unfold chainN; simp
theorem chainN_succ (t : List Int) (p : Nat) (out : List S35) (k : Nat) : chainN t p out (k + 1) = chainN t p out k ++ [⟨if k = 0 then -1 else (out.length : Int) + k - 1, nth t (p + k)⟩] := by
  unfold chainN; rw [List.range_succ, List.map_append, List.append_assoc]; rfl
theorem chain_le {t : List Int} {deep : Int} {out : List S35} {p : Int} (h : out.length ≤ 96) : (chain t deep out p).length ≤ 96 := by
  unfold chain deepN; rw [chainN_length]; omega
theorem proposeL_le (t : List Int) (deep : Int) : ∀ (pl : List Int), (proposeL t deep pl).length ≤ 96 := by
  unfold proposeL
  suffices h : ∀ (pl : List Int) (out : List S35), out.length ≤ 96 → (pl.foldl (chain t deep) out).length ≤ 96 from fun pl => h pl [] (by simp)
  intro pl
  induction pl with
  | nil => exact fun out h => h
  | cons p pl ih => exact fun out h => ih _ (chain_le h)

theorem info35 : (Try.prog.info? 35).map (fun i => (i.zero, i.size, i.bytes)) = some (some (.agg #[.int .i64 0, .int .i64 0]), k35.sz, 16) := by kernel_rfl
theorem R35_same {w w1 : World} {base : Nat} {F : Nat → Prop} {v : Value} {xs : List S35} (h : k35.R 35 w base F v xs) (hs : ∀ k, v.ownBlock = some k → w1.heap[k]? = w.heap[k]?) : k35.R 35 w1 base F v xs := by
  obtain ⟨h0, inner, hown, hr⟩ := h
  refine ⟨h0, inner, ⟨hown.1, ?_⟩, hr⟩
  rcases hown.2 with h1 | ⟨g, cap, cur, rfl, h2, hc, h3⟩
  · exact .inl h1
  · exact .inr ⟨g, cap, cur, rfl, h2, (hs g rfl).trans hc, h3⟩
theorem R35_cells {w : World} {base : Nat} {F : Nat → Prop} {v : Value} {xs : List S35} (h : k35.R 35 w base F v xs) : ∀ k, v.ownBlock = some k → base ≤ k ∧ ∃ cs fr, w.heap[k]? = some (.cells cs 35 fr) := fun k hk => by
  obtain ⟨h0, inner, hown, hr⟩ := h
  rcases hown.2 with ⟨rfl, _⟩ | ⟨g, cap, cur, rfl, h2, hc, h3⟩
  · cases hk
  · injection hk with hk
    subst hk
    exact ⟨h2, _, _, hc⟩
theorem R35_nebox {w : World} {base : Nat} {F : Nat → Prop} {v : Value} {xs : List S35} (h : k35.R 35 w base F v xs) {B : Nat} {cs : Array Value} {tt : TypeId} {fr : Nat × Nat} (hB : w.heap[B]? = some (.cells cs tt fr)) (ht : tt ≠ 35) : v.ownBlock ≠ some B := fun e => by
  obtain ⟨_, cs', fr', hc⟩ := R35_cells h B e
  rw [hB] at hc
  injection hc with hc
  injection hc with _ h2
  exact ht h2
/-- A region that draws its order, in a round, walked by hand. -/
theorem startIn_ {P : Program} {ops : Array Oper} {Q : Exit → Act → World → Prop} {S : World → Prop} {ds : List Nat} {id n l0 n0 : Nat} {a : Act} {w : World} (l : Array Bool) (hm : P.follows .mixedOrders = true) (hn : ops.size = n) (hl : Array.replicate n false = l) (hd : noDefer ops = true) (hQ : ¬ LetsOut Q) (hS : S w.drew)
    (h : S w.drew → wpAnyLast P .any ops Q S ds n l a w.drew) : (Code.region id ops true).wpIn (Fence.wide.inRound l0) n0 P Q a w := by
  subst hn
  subst hl
  exact wpIn_region_any hm (any_round hd hQ _ _ _ _ (wpAny_of_last _ _ _ _ (h hS)))
end Go.Proofs.Ytjeofkobefeigaa.Wk
/- The walks of ngram's New and Len. -/
namespace Go.Proofs.Ytjeofkobefeigaa.Wk
open Go.RowKit Go.Proofs.YtjeofkobefeigaaW.PrintWords Go.Proofs.YtjeofkobefeigaaW.PrintLast Go.Proofs.YtjeofkobefeigaaW.PrintMore Go.Proofs.Ytjeofkobefeigaa.Mp
open Go.ChangeMaps (setBlock)
attribute [local go_sem] max2_int min2_int max_two min_two

set_option maxHeartbeats 2000000 in
theorem new_bad {n : Int} (w : World) (h : n < 1 ∨ 4 < n) : Calls Try.prog 21 #[.int .i64 n] w fun e w' => e = .returned (.tuple #[.pointer none, .int .i64 1]) ∧ w' = w := by
  by_cases c : n < 1
  · have c' : decide (n < 1) = true := decide_eq_true c
    go_enter Try.func21, Try.ntmps21
    go_wp2
    go_ret2
    exact ⟨rfl, rfl⟩
  · have c' : decide (n < 1) = false := decide_eq_false c
    have d' : decide (4 < n) = true := decide_eq_true (by omega)
    go_enter Try.func21, Try.ntmps21
    go_wp2
    go_ret2
    exact ⟨rfl, rfl⟩
set_option maxHeartbeats 2000000 in
theorem new_calls {n : Nat} {F : Nat → Prop} (w : World) (h1 : 1 ≤ n) (h4 : n ≤ 4) (hF : ∀ k, w.heap.size ≤ k → F k) : Calls Try.prog 21 #[.int .i64 n] w fun e w' => ∃ B m, e = .returned (.tuple #[.pointer (some ⟨B, 0, none⟩), .int .i64 0]) ∧ w.heap.size ≤ B ∧ Idx w' F B m n [] (ocM n []) ∧ Below w.heap.size w w' := by
  have HF := Lib.hid hF
  clear hF
  have c' : decide ((n : Int) < 1) = false := decide_eq_false (by omega)
  have d' : decide (4 < (n : Int)) = false := decide_eq_false (by omega)
  have hmk : (Instr.makeMap 66 none).run Try.prog w = .ok (.map (some w.heap.size)) (w.alloc (.map #[] 0)) := by
    simp [Instr.makeMap, run_underlying Try.underlying66, Result.andThen]
  go_enter Try.func21, Try.ntmps21
  go_wp2
  go_ret2
  have b1 := blk_new w (.map #[] 0)
  have b2 := blk_new (w.alloc (.map #[] 0)) (.cells #[.int .i64 n, .slice none 0 0, .map (some w.heap.size)] 68)
  rw [show (w.alloc (.map #[] 0)).heap.size = w.heap.size + 1 from Array.size_push _] at b2
  have hb : Below w.heap.size w ((w.alloc (.map #[] 0)).alloc (.cells #[.int .i64 n, .slice none 0 0, .map (some w.heap.size)] 68)) := below_alloc (below_alloc (Below.refl _ _) _) _
  refine ⟨w.heap.size + 1, w.heap.size, rfl, by omega, ⟨⟨.slice none 0 0, #[], 0, b2, R_nilA, blk_alloc b1 _, ⟨fun x (hx : x ∈ ([] : List MapEntry)) => absurd hx (by simp), List.nodup_nil⟩, ⟨fun j e (he : ([] : List MapEntry)[j]? = some e) => absurd he (by simp), fun g hg _ => ?_, List.nodup_nil, fun i j e e' _ (he : ([] : List MapEntry)[i]? = some e) => absurd he (by simp), fun e (he : e ∈ ([] : List MapEntry)) => absurd he (by simp)⟩⟩, HF.out _ (by omega), HF.out _ (Nat.le_refl _)⟩, hb⟩
  unfold ocM
  split
  · have := occ_length1 hg (t := [])
    exact List.eq_nil_of_length_eq_zero (by simpa using this)
  · rfl
theorem len_none (w : World) : Calls Try.prog 17 #[.pointer none] w fun e w' => e = .returned (.int .i64 0) ∧ w' = w := by
  go_enter Try.func17, Try.ntmps17
  go_wp2
  go_ret
  exact ⟨rfl, rfl⟩
theorem len_calls {F : Nat → Prop} {B m : Nat} {most : Int} {t : List Int} {O : List Int → List Int} (w : World) (hI : Idx w F B m most t O) : Calls Try.prog 17 #[.pointer (some ⟨B, 0, none⟩)] w fun e w' => e = .returned (.int .i64 t.length) ∧ w' = w := by
  obtain ⟨tv, es, clock, hE⟩ := hI.open
  obtain ⟨At, ct, eAt, hct, hCt⟩ := Kd.R_reads hE.text
  subst eAt
  have k1 : w.cell? ⟨B, 1, none⟩ = some (.slice At t.length ct) := (blk_cell hE.box 1).trans rfl
  clear hE hI hct hCt
  go_enter Try.func17, Try.ntmps17
  go_wp2
  go_ret
  exact ⟨rfl, rfl⟩
end Go.Proofs.Ytjeofkobefeigaa.Wk
/- The walk of ngram's Cut. -/
namespace Go.Proofs.Ytjeofkobefeigaa.Mp
open Go.ChangeShapes Go.WideShapes Go.MapKept Go.ChangeMaps Go.WideMaps
open Go.WideElems (findIdx_born findIdx_arr modify_last set_self)
/-- 'm[k] = v' where k is a key. -/
theorem upd_old {w : World} {b : Nat} {es : Array MapEntry} {clock : Nat} (hb : w.heap[b]? = some (.map es clock)) (hk : KeysOk es.toList) {key : Value} (hkey : ∃ l, keyOf Try.prog 72 key = some l) (hyes : ∃ e ∈ es.toList, e.key = key) :
    ∃ (j : Nat) (e0 : MapEntry), es.toList[j]? = some e0 ∧ e0.key = key ∧ ∀ val, (Instr.mapUpdate 66 (.map (some b)) key val).run Try.prog w = .ok () (setBlock w b (.map (es.modify j (fun e => { e with val := val })) clock)) := by
  obtain ⟨kl, hkey⟩ := hkey
  rcases keyLaw.find w hkey es.toList hk with ⟨_, h2⟩ | ⟨j, e0, h1, h2, h3⟩
  · obtain ⟨e, he, h⟩ := hyes
    exact absurd h (h2 e he)
  · have hj : es[j]? = some e0 := by simpa using h2
    refine ⟨j, e0, h2, h3, fun val => ?_⟩
    have hmod : es.modify j (fun e => { e with val := val }) = es.modify j (fun e' => { e' with key := key, val := val }) := by
      apply Array.ext'
      rw [Array.toList_modify, Array.toList_modify, modify_eq_set _ _ _ _ h2, modify_eq_set _ _ _ _ h2, ← h3]
    rw [hmod]
    simp [Instr.mapUpdate, run_underlying Try.underlying66, MapKept.run_getObj_map hb, keyLaw.check w false hkey, h1, hj, h3, keyLaw.stays w hkey, MapKept.run_setObj_map _ hb, Result.andThen, setBlock]
end Go.Proofs.Ytjeofkobefeigaa.Mp
namespace Go.Proofs.Ytjeofkobefeigaa.Wk
open Go.RowKit Go.Proofs.YtjeofkobefeigaaW.PrintWords Go.Proofs.YtjeofkobefeigaaW.PrintLast Go.Proofs.YtjeofkobefeigaaW.PrintMore Go.Proofs.Ytjeofkobefeigaa.Mp
open Go.ChangeMaps (setBlock)
attribute [local go_sem] max2_int min2_int max_two min_two

/-- .. while a token is cut off, behind the runs of less than n tokens. -/
def ocC (most n : Nat) (t : List Int) (x : Int) (g : List Int) : List Int := if g.length ≤ most then (if g.length < n then occ t g else occ (t ++ [x]) g) else []
theorem ocC_one (most : Nat) (t : List Int) (x : Int) {g : List Int} (hg : Gram g) : ocM most (t ++ [x]) g = ocC most 1 t x g := by
  unfold ocC ocM
  have := hg.1
  rw [if_neg (show ¬ g.length < 1 by omega)]
theorem ocC_at {most n : Nat} {t : List Int} {x : Int} (hm : n ≤ most) (hp : n ≤ t.length + 1) : ocC most n t x (gramAt (t ++ [x]) (t.length + 1) n) = occ t (gramAt (t ++ [x]) (t.length + 1) n) ++ [((t.length + 1 : Nat) : Int)] := by
  have hl : (gramAt (t ++ [x]) (t.length + 1) n).length = n := gramAt_length hp (by simp)
  unfold ocC
  rw [hl, if_pos hm, if_neg (Nat.lt_irrefl n), occ_snoc, if_pos]
  unfold at?
  rw [hl]
  simp [hp]
theorem ocC_step {most n : Nat} {t : List Int} {x : Int} (hm : n ≤ most) (hp : n ≤ t.length + 1) (g : List Int) :
    updO (ocC most n t x) (gramAt (t ++ [x]) (t.length + 1) n) (occ t (gramAt (t ++ [x]) (t.length + 1) n)) g = ocC most (n + 1) t x g := by
  have hl : (gramAt (t ++ [x]) (t.length + 1) n).length = n := gramAt_length hp (by simp)
  unfold updO
  by_cases c : g = gramAt (t ++ [x]) (t.length + 1) n
  · subst c
    rw [if_pos rfl]
    unfold ocC
    rw [hl, if_pos hm, if_pos (show n < n + 1 by omega)]
  · rw [if_neg c]
    unfold ocC
    by_cases c1 : g.length ≤ most
    · rw [if_pos c1, if_pos c1]
      by_cases c2 : g.length < n
      · rw [if_pos c2, if_pos (by omega)]
      · rw [if_neg c2]
        by_cases c3 : g.length < n + 1
        · rw [if_pos c3, occ_snoc, if_neg, List.append_nil]
          have e : g.length = n := by omega
          unfold at?
          rw [e]
          simp
          exact fun _ h => c h.symm
        · rw [if_neg c3]
    · rw [if_neg c1, if_neg c1]
theorem ocC_last {most n : Nat} {t : List Int} {x : Int} (h : most < n ∨ t.length + 1 < n) (g : List Int) : ocC most n t x g = ocM most t g := by
  unfold ocC ocM
  by_cases c1 : g.length ≤ most
  · rw [if_pos c1, if_pos c1]
    by_cases c2 : g.length < n
    · rw [if_pos c2]
    · rw [if_neg c2, occ_snoc, if_neg, List.append_nil]
      unfold at?
      have : ¬ g.length ≤ t.length + 1 := by omega
      simp [this]
  · rw [if_neg c1, if_neg c1]
theorem grown_refl (w : World) (row : Option Nat) : w.grownBy w row := ⟨rfl, rfl, rfl, Nat.le_refl _, fun _ _ _ => rfl⟩
/-- A run's row with its last place taken away. -/
theorem IdxE.cut_step {w : World} {F : Nat → Prop} {B m : Nat} {most : Int} {t : List Int} {O : List Int → List Int} {tv : Value} {es : Array MapEntry} {clock : Nat} (h : IdxE w F B m most t O tv es clock) {g : List Int} (hg : Gram g) {l : List Int} {x : Int} (hO : O g = l ++ [x]) :
    ∃ (A : Addr) (c : Nat) (es2 : Array MapEntry), l.length + 1 ≤ c ∧ (Instr.lookup 66 (.map (some m)) (keyG g) false).run Try.prog w = .ok (.slice (some A) (l.length + 1) c) w ∧
      (Instr.mapUpdate 66 (.map (some m)) (keyG g) (.slice (some A) l.length c)).run Try.prog w = .ok () (setBlock w m (.map es2 clock)) ∧ IdxE (setBlock w m (.map es2 clock)) F B m most t (updO O g l) tv es2 clock ∧ Fr F w (setBlock w m (.map es2 clock)) ∧ l.length + 1 ≤ maxLen := by
  have hyes : ∃ e ∈ es.toList, e.key = keyG g := by
    refine Classical.byContradiction fun hno => ?_
    have := h.ends.none g hg (fun e he hk => hno ⟨e, he, hk⟩)
    rw [hO] at this
    simp at this
  obtain ⟨v0, hlook, hR⟩ := h.look hg
  obtain ⟨j, e0, he, hk, hupd⟩ := upd_old h.map h.ends.keysOk (key_ok hg) hyes
  have hv : v0 = e0.val := by
    rcases Mp.look h.map h.ends.keysOk (key_ok hg) with ⟨h1, _⟩ | ⟨j', e0', h1, h2, h3⟩
    · obtain ⟨e, he1, he2⟩ := hyes
      exact absurd he2 (h1 e he1)
    · have hjj : j' = j := by
        obtain ⟨hil, hi2⟩ := List.getElem?_eq_some_iff.1 h1
        obtain ⟨hjl, hj2⟩ := List.getElem?_eq_some_iff.1 he
        have hp := List.pairwise_iff_getElem.1 h.ends.keys
        have e2 : es.toList[j'].key = es.toList[j].key := by rw [hi2, hj2, h2, hk]
        rcases Nat.lt_trichotomy j' j with c | c | c
        · have := hp j' j (by simpa using hil) (by simpa using hjl) c
          simp only [List.getElem_map] at this
          exact absurd e2 this
        · exact c
        · have := hp j j' (by simpa using hjl) (by simpa using hil) c
          simp only [List.getElem_map] at this
          exact absurd e2.symm this
      subst hjj
      rw [he] at h1
      obtain rfl := Option.some.inj h1
      have := hlook w rfl
      rw [h3] at this
      injection this with this
      exact this.symm
  subst hv
  rw [hO] at hR
  obtain ⟨A, c, ev, hc, hC⟩ := Kd.R_reads hR
  rw [List.length_append, List.length_singleton] at ev hc
  have hmax := Kd.C_max hC
  rw [List.length_append, List.length_singleton] at hmax
  obtain ⟨ad, eA, _⟩ := Kd.at_int hC (0 : Int) (by omega) (by rw [List.length_append, List.length_singleton]; omega)
  subst eA
  have hR1 := Kd.R_take (m := l.length) (by rw [ev] at hR; exact hR) (by rw [List.length_append]; omega)
  rw [List.take_left' rfl] at hR1
  have hown : (Value.slice (some ad) l.length c).ownBlock = e0.val.ownBlock := by rw [ev]; rfl
  have hends := h.ends.old he hg hk hR1 (grown_refl w _) (.inl hown) (Kd.R_lt h.text)
  refine ⟨ad, c, es.modify j (fun e => { e with val := .slice (some ad) l.length c }), hc, by rw [← ev]; exact hlook w rfl, hupd _, ⟨(setBlock_other h.ne).trans h.box, R_setBlock h.text h.map _, setBlock_at (blk_lt h.map), ?_, ?_, h.fB, h.fm⟩, (Fr.refl F w).setBlock h.fm _, hmax⟩
  · obtain ⟨s1, s2⟩ := h.stamp
    have hb : (es.modify j (fun e => { e with val := .slice (some ad) l.length c })).toList.map (·.born) = es.toList.map (·.born) := by
      rw [Array.toList_modify]
      refine List.ext_getElem? fun i => ?_
      rw [List.getElem?_map, List.getElem?_map, List.getElem?_modify]
      by_cases c : j = i
      · subst c; simp [he]
      · simp [c]
    refine ⟨fun x hx => ?_, by rw [hb]; exact s2⟩
    have : x.born ∈ (es.modify j (fun e => { e with val := .slice (some ad) l.length c })).toList.map (·.born) := List.mem_map.2 ⟨x, hx, rfl⟩
    rw [hb] at this
    obtain ⟨y, hy, e⟩ := List.mem_map.1 this
    rw [← e]; exact s1 y hy
  · rw [Array.toList_modify]
    exact hends.setBlock h.map _
theorem wrap_up {n m : Nat} (h : n ≤ m + 1) (h4 : m ≤ 4) : wrap64 ((n : Int) + 1) = ((n + 1 : Nat) : Int) := by rw [IntWalk.wrap64_in _ (by omega)]; omega
theorem meas_up {m n : Nat} (h : n ≤ m) : m + 1 - (intOf (.int .i64 ((n + 1 : Nat) : Int))).toNat < m + 1 - (intOf (.int .i64 (n : Int))).toNat := by simp only [intOf]; omega
theorem meas_down {P L : Nat} (h : L + 1 = P) : (intOf (.int .i64 (L : Int))).toNat < (intOf (.int .i64 (P : Int))).toNat := by simp only [intOf]; omega
def C1Rel (w : World) (F : Nat → Prop) (B m most : Nat) (t : List Int) (c : Nat) (x : Value) (wr : World) : Prop :=
  ∃ P : Nat, x = .int .i64 P ∧ min c t.length ≤ P ∧ P ≤ t.length ∧ Idx wr F B m most (t.take P) (ocM most (t.take P)) ∧ Fr F w wr
def C2Rel (w : World) (F : Nat → Prop) (B m most : Nat) (t : List Int) (y : Int) (x : Value) (wr : World) : Prop :=
  ∃ n : Nat, x = .int .i64 n ∧ 1 ≤ n ∧ n ≤ most + 1 ∧ n ≤ t.length + 2 ∧ Idx wr F B m most (t ++ [y]) (ocC most n t y) ∧ Fr F w wr
set_option maxHeartbeats 4000000 in
set_option maxRecDepth 100000 in
theorem cut_calls {F : Nat → Prop} {B m most : Nat} {t : List Int} {n : Int} (w : World) (hF : ∀ k, w.heap.size ≤ k → F k) (hI : Idx w F B m most t (ocM most t)) (h1 : 1 ≤ most) (h4 : most ≤ 4)
    (ht : ∀ x ∈ t, (Lit.int .i64 x).wf = true) :
    Calls Try.prog 26 #[.pointer (some ⟨B, 0, none⟩), .int .i64 n] w fun e w' => e = .returned (.tuple #[]) ∧ Idx w' F B m most (t.take n.toNat) (ocM most (t.take n.toNat)) ∧ Fr F w w' := by
  obtain ⟨tv, es, clock, hE⟩ := hI.open
  obtain ⟨At, ct, eAt, hct, hCt⟩ := Kd.R_reads hE.text
  subst eAt
  have k1 : w.cell? ⟨B, 1, none⟩ = some (.slice At t.length ct) := (blk_cell hE.box 1).trans rfl
  have hmax := Kd.C_max hCt
  have HF := Lib.hid hF
  have HI := Lib.hid hI
  have HT := Lib.hid ht
  have HMAX := Lib.hid hmax
  clear hF hI ht hE hct hCt hmax
  obtain ⟨c, hc⟩ : ∃ c, n.toNat = c := ⟨_, rfl⟩
  rw [hc]
  have HC := Lib.hid hc
  clear hc
  go_enter Try.func26, Try.ntmps26
  go_wp2_with fail
  clear k1
  go_loopw [4] (fun x wr => C1Rel w F B m most t c x wr) (fun x _ => (intOf x).toNat)
  case atStart => exact ⟨t.length, rfl, Nat.min_le_right _ _, Nat.le_refl _, by rw [List.take_length]; exact HI.out, Fr.refl F w⟩
  case round =>
    obtain ⟨P, rfl, hP1, hP2, hI, hf⟩ := hrel
    have HFR := Lib.hid hf
    have HI1 := Lib.hid hI
    have HP1 := Lib.hid hP1
    have HP2 := Lib.hid hP2
    clear hI hf hP1 hP2 HI
    rename World => wa
    go_upto_region 2 with (fail)
    go_cut [17] (fun s17 wx => wa = wx ∧ s17 = .bool (decide (c < P)))
    case first =>
      have HC1 := HC.out
      by_cases hn : n < 0
      all_goals
        go_wp2_with fail
        all_goals go_meet
        all_goals refine ⟨rfl, ?_⟩
        all_goals (congr 1; first | rfl | (apply decide_eq_decide.2; omega) | (simp; omega))
    case rest =>
    obtain ⟨rfl, rfl⟩ := hcut
    by_cases hlt : c < P
    · rw [decide_eq_true hlt]
      obtain ⟨tt, htt⟩ : ∃ tt, t.take (P - 1) = tt := ⟨_, rfl⟩
      obtain ⟨y, hy⟩ : ∃ y, nth t (P - 1) = y := ⟨_, rfl⟩
      have hl : tt.length + 1 = P := by rw [← htt, List.length_take]; have := HP2.out; omega
      have hT : t.take P = tt ++ [y] := by rw [← htt, ← hy, ← take_step (by have := HP2.out; omega), show P - 1 + 1 = P by omega]
      have HI2 : Hid (Idx wa F B m most (tt ++ [y]) (ocM most (tt ++ [y]))) := Lib.hid (hT ▸ HI1.out)
      have HTT := Lib.hid htt
      have HPL := Lib.hid hl
      have HLT := Lib.hid hlt
      have HWF : Hid (∀ x ∈ tt ++ [y], (Lit.int .i64 x).wf = true) := Lib.hid (fun x hx => by
        rw [← hT] at hx
        exact HT.out x (List.mem_of_mem_take hx))
      have HPM : Hid (P ≤ 9223372036854775807) := Lib.hid (Nat.le_trans HP2.out HMAX.out)
      clear htt hy hl hT HI1 hlt
      go_wp2_with fail
      go_loopw [5] (fun x wr => C2Rel w F B m most tt y x wr) (fun x _ => most + 1 - (intOf x).toNat)
      case atStart => exact ⟨1, rfl, Nat.le_refl _, by omega, by omega, by obtain ⟨_, _, _, hE⟩ := HI2.out.open; exact (hE.congr (fun g hg => ocC_one most tt y hg)).shut, HFR.out⟩
      case round =>
        obtain ⟨n2, rfl, hn1, hn2, hn3, hI, hf⟩ := hrel
        have HI3 := Lib.hid hI
        have HFR3 := Lib.hid hf
        have HN1 := Lib.hid hn1
        have HN2 := Lib.hid hn2
        have HN3 := Lib.hid hn3
        clear hI hf HI2 HFR hn1 hn2 hn3
        rename World => wc
        obtain ⟨tv3, es3, clock3, hE⟩ := HI3.out.open
        have HE3 := Lib.hid hE
        have km : wc.cell? ⟨B, 0, none⟩ = some (.int .i64 (most : Int)) := (blk_cell hE.box 0).trans rfl
        clear hE HI3
        go_upto_region 5 with (fail)
        go_cut [27] (fun s27 wx => wc = wx ∧ s27 = .bool (decide (n2 ≤ most ∧ n2 ≤ P)))
        case first =>
          go_wp2_with fail
          all_goals go_meet
          all_goals refine ⟨rfl, ?_⟩
          all_goals (congr 1; apply decide_eq_decide.2; omega)
        case rest =>
        obtain ⟨rfl, rfl⟩ := hcut
        obtain ⟨At3, ct3, eAt, hct, hCt⟩ := Kd.R_reads HE3.out.text
        subst eAt
        by_cases hle : n2 ≤ most ∧ n2 ≤ P
        · rw [decide_eq_true hle]
          go_wp2_with fail
          refine (ahead_at wc HE3.out.box hCt hct (p := P) HN1.out (Nat.le_trans hle.1 h4) hle.2 (by rw [List.length_append, List.length_singleton, HPL.out]; exact Nat.le_refl _) rfl rfl).mono ?_
          rintro e wd ⟨r0, r1, r2, r3, rfl, hkey, hb⟩
          have HKEY := Lib.hid hkey
          have HEd := Lib.hid (HE3.out.below hb)
          have HFRd := Lib.hid (HFR3.out.trans (Fr.of_below hb))
          clear hkey hb HE3 HFR3 hct hCt km
          go_upto_region 8 with (fail)
          obtain ⟨we, hwe⟩ : ∃ x, x = wd.alloc (.cells #[.int .i64 n2, .int .i64 r0, .int .i64 r1, .int .i64 r2, .int .i64 r3] 72) := ⟨_, rfl⟩
          rw [← hwe]
          obtain ⟨gb, hgb⟩ : ∃ g, g = wd.heap.size := ⟨_, rfl⟩
          rw [← hgb]
          have bb : we.heap[gb]? = some (.cells #[.int .i64 n2, .int .i64 r0, .int .i64 r1, .int .i64 r2, .int .i64 r3] 72 (0, 0)) := by rw [hwe, hgb]; exact blk_new _ _
          have hEe : IdxE we F B m most (tt ++ [y]) (ocC most n2 tt y) (.slice At3 (tt ++ [y]).length ct3) es3 clock3 := by rw [hwe]; exact HEd.out.below (below_alloc (Below.refl _ _) _)
          have hfe : Fr F w we := by rw [hwe]; exact HFRd.out.trans (Fr.of_below (below_alloc (Below.refl _ _) _))
          have HFe := Lib.hid hfe
          have hp : n2 ≤ tt.length + 1 := by rw [HPL.out]; exact hle.2
          have hg : Gram (gramAt (tt ++ [y]) (tt.length + 1) n2) := gramAt_gram (HWF.out) HN1.out (Nat.le_trans hle.1 h4) hp (by rw [List.length_append, List.length_singleton]; exact Nat.le_refl _)
          obtain ⟨A0, c0, es4, hc0, hlook, hupd, hE4, hF4, hL4⟩ := (hEe.below (below_drew (Below.refl we.heap.size we))).cut_step hg (ocC_at hle.1 hp)
          rw [HPL.out] at hlook hupd
          rw [← HKEY.out] at hlook hupd
          obtain ⟨L0, hL0⟩ : ∃ L0, (occ tt (gramAt (tt ++ [y]) (tt.length + 1) n2)).length = L0 := ⟨_, rfl⟩
          rw [HPL.out] at hL0
          rw [hL0] at hlook hupd
          rw [HPL.out, hL0] at hc0 hL4
          have HE4 : Hid (IdxE (setBlock we.drew m (.map es4 clock3)) F B m most (tt ++ [y]) (ocC most (n2 + 1) tt y) (.slice At3 (tt ++ [y]).length ct3) es4 clock3) := Lib.hid (hE4.congr (fun g _ => ocC_step hle.1 hp g))
          have HF4 := Lib.hid ((hfe.trans (Fr.of_below (below_drew (Below.refl we.heap.size we)))).trans hF4)
          obtain ⟨L, hL⟩ : ∃ L, L0 + 1 = L := ⟨_, rfl⟩
          rw [hL] at hlook hc0 hL4
          have hLm : L ≤ 9223372036854775807 := hL4
          have hw1 : wrap64 ((L : Int) - 1) = (L0 : Int) := by rw [IntWalk.wrap64_in _ (by omega)]; omega
          have hw2 : IntKind.i64.wrap ((L : Int) - 1) = (L0 : Int) := by rw [IntWalk.i64_in _ (by omega)]; omega
          obtain ⟨i0, hi0, _, hsz, _⟩ := info_parts info3
          have hcut := cut_to (P := Try.prog) 22 3 .i64 Try.underlying22 hi0 (some A0) L c0 (L0 : Int) (by omega) (by omega) hc0
          rw [Int.toNat_natCast] at hcut
          have k0 : we.cell? ⟨gb, 0, none⟩ = some (.int .i64 n2) := (blk_cell bb 0).trans rfl
          have k1 : we.cell? ⟨gb, 1, none⟩ = some (.int .i64 r0) := (blk_cell bb 1).trans rfl
          have k2 : we.cell? ⟨gb, 2, none⟩ = some (.int .i64 r1) := (blk_cell bb 2).trans rfl
          have k3 : we.cell? ⟨gb, 3, none⟩ = some (.int .i64 r2) := (blk_cell bb 3).trans rfl
          have k4 : we.cell? ⟨gb, 4, none⟩ = some (.int .i64 r3) := (blk_cell bb 4).trans rfl
          have km : we.cell? ⟨B, 2, none⟩ = some (.map (some m)) := (blk_cell hEe.box 2).trans rfl
          have HLE := Lib.hid hle
          clear hwe hgb bb hEe hfe hp hg hE4 hF4 hL0 hL hL4 hi0 hsz HEd HFRd HKEY hle hLm hc0
          go_still_tail 20, (by kernel_rfl)
          change wpList _ _ _ _ _ we.drew
          go_wp2_with fail
          have hw3 := wrap_up HN2.out h4
          clear hw1 hw2 hcut hlook hupd
          exact ⟨⟨n2 + 1, by rw [hw3], by omega, Nat.succ_le_succ HLE.out.1, by have h1 := HLE.out.2; have h2 := HPL.out; omega, HE4.out.shut, HF4.out⟩, by rw [hw3]; exact meas_up HLE.out.1⟩
        · rw [decide_eq_false hle]
          have hE' := HE3.out.congr (fun g _ => ocC_last (by have := HPL.out; omega) g)
          have hlen : (tt ++ [y]).length = P := by rw [List.length_append, List.length_singleton, HPL.out]
          obtain ⟨ad, e1, _⟩ := Kd.at_int hCt (0 : Int) (by omega) (by rw [List.length_append, List.length_singleton]; omega)
          subst e1
          have hR := Kd.R_take (m := tt.length) HE3.out.text (by rw [List.length_append]; omega)
          rw [List.take_left' rfl] at hR
          obtain ⟨hT1, hT2⟩ := hE'.text_step hR (grown_refl wc _) (.inl rfl)
          have hR1 : Hid (Idx (wc.setCell ⟨B, 1, none⟩ (.slice (some ad) tt.length ct3)) F B m most tt (ocM most tt)) := Lib.hid hT1.shut
          have hF1 : Hid (Fr F w (wc.setCell ⟨B, 1, none⟩ (.slice (some ad) tt.length ct3))) := Lib.hid (HFR3.out.trans hT2)
          obtain ⟨L0, hL0⟩ : ∃ L0, tt.length = L0 := ⟨_, rfl⟩
          rw [hL0] at hR1 hF1
          have hPL := HPL.out
          rw [hL0] at hPL
          have HL0 := Lib.hid hL0
          have HPL2 := Lib.hid hPL
          have hw1 : wrap64 ((P : Int) - 1) = (L0 : Int) := by rw [IntWalk.wrap64_in _ (by have := HPM.out; omega)]; omega
          have hw2 : IntKind.i64.wrap ((P : Int) - 1) = (L0 : Int) := by rw [IntWalk.i64_in _ (by have := HPM.out; omega)]; omega
          obtain ⟨i0, hi0, _, hsz, _⟩ := info_parts info3
          rw [hlen] at hct
          have hcut := cut_to (P := Try.prog) 22 3 .i64 Try.underlying22 hi0 (some ad) P ct3 (L0 : Int) (by omega) (by omega) hct
          rw [Int.toNat_natCast] at hcut
          have kt : wc.cell? ⟨B, 1, none⟩ = some (.slice (some ad) P ct3) := by rw [← hlen]; exact (blk_cell HE3.out.box 1).trans rfl
          have kf := blk_frozen HE3.out.box 1
          clear hi0 hsz hct hCt hlen hE' hR hT1 hT2 hL0 hPL km hle HE3
          go_wp2_with fail
          refine ⟨⟨L0, by first | rfl | rw [hw1], by have := HLT.out; have := HPL2.out; omega, by have := HP2.out; have := HPL2.out; omega, ?_, hF1.out⟩, meas_down HPL2.out⟩
          have htk : t.take L0 = tt := by rw [← HTT.out, show L0 = P - 1 by have := HPL2.out; omega]
          rw [htk]
          exact hR1.out
    · rw [decide_eq_false hlt]
      have hP : P = min c t.length := by have := HP1.out; have := HP2.out; omega
      have HEND : Hid (Idx wa F B m most (t.take c) (ocM most (t.take c))) := Lib.hid (by
        have := HI1.out
        rw [hP, ← List.take_eq_take_min] at this
        exact this)
      clear hP HI1
      go_wp2_with fail
      go_end0
      exact ⟨rfl, HEND.out, HFR.out⟩
end Go.Proofs.Ytjeofkobefeigaa.Wk
