/- The iterator that ngram's Places gives: its contract, whatever its rounds may write. -/
import Derived.Test.YtjeofkobefeigaaPc
import Derived.RangeFuncNested
import Derived.RangeFuncBound
import Derived.RangeFuncCalls
import Derived.RangeFuncLeaves
import Derived.Shelf.Abstract
import Derived.Shelf.RegionOpen
import Derived.WalkKit
import Derived.OwnWalkIn
import Derived.TacticsInMore
import Derived.LoopNIn
import Derived.LoopIn
set_option linter.unusedVariables false
set_option linter.unusedSimpArgs false
namespace Go.Proofs.Ytjeofkobefeigaa.Wk
open Go.RowKit Go.Shelf Go.Proofs.YtjeofkobefeigaaW.PrintWords Go.Proofs.YtjeofkobefeigaaW.PrintLast Go.Proofs.YtjeofkobefeigaaW.PrintMore Go.Proofs.Ytjeofkobefeigaa.Mp
open Go.ChangeMaps (setBlock)
attribute [local go_sem] Oper.semAt_some

theorem R_same {w w1 : World} {base : Nat} {F : Nat → Prop} {v : Value} {xs : List Int} (h : Kd.R (Kd.int .i64) 3 w base F v xs) (hs : ∀ k, v.ownBlock = some k → w1.heap[k]? = w.heap[k]?) : Kd.R (Kd.int .i64) 3 w1 base F v xs := by
  obtain ⟨h0, inner, hown, hr⟩ := h
  refine ⟨h0, inner, ⟨hown.1, ?_⟩, hr⟩
  rcases hown.2 with h1 | ⟨g, cap, cur, rfl, h2, hc, h3⟩
  · exact .inl h1
  · exact .inr ⟨g, cap, cur, rfl, h2, (hs g rfl).trans hc, h3⟩
theorem R_cells {w : World} {base : Nat} {F : Nat → Prop} {v : Value} {xs : List Int} (h : Kd.R (Kd.int .i64) 3 w base F v xs) : ∀ k, v.ownBlock = some k → base ≤ k ∧ ∃ cs fr, w.heap[k]? = some (.cells cs 3 fr) := fun k hk => by
  obtain ⟨h0, inner, hown, hr⟩ := h
  rcases hown.2 with ⟨rfl, _⟩ | ⟨g, cap, cur, rfl, h2, hc, h3⟩
  · cases hk
  · injection hk with hk
    subst hk
    exact ⟨h2, _, _, hc⟩
theorem grown_of_below {W W2 : World} (h : Below W.heap.size W W2) : W.grownBy W2 none := ⟨h.os, h.tape, h.output, h.size, fun i hi _ => h.block i hi⟩
theorem rev_take {l : List Int} {k : Nat} (h : k < l.length) : l.reverse.take (k + 1) = l.reverse.take k ++ [nth l (l.length - 1 - k)] := by
  rw [take_step (by rw [List.length_reverse]; exact h)]
  congr 2
  unfold nth
  rw [List.getD_eq_getElem?_getD, List.getD_eq_getElem?_getD, List.getElem?_reverse h]
set_option maxRecDepth 100000 in
set_option maxHeartbeats 4000000 in
theorem places1_in (n : Nat) (hn : 1 ≤ n) (l Bn : Nat) (p : Value) (pl : List Int) (Kp : World → World → Prop) (Safe : Nat → World → Prop) (J Jx : List Int → World → Prop)
    (hS1 : ∀ k W1 W', Safe k W1 → Kp W1 W' → W'.heap[k]? = W1.heap[k]? ∧ Safe k W')
    (hY : ∀ pre x W, J pre W → pre.length < pl.length → x ∈ pl → YieldAt Fence.wide (n - 1) Try.prog l #[.int .i64 x] W fun e W' =>
      (e = .returned (.bool true) ∧ J (pre ++ [x]) W' ∧ Kp W W') ∨ (e = .returned (.bool false) ∧ Jx (pre ++ [x]) W'))
    (W : World) (hS0 : ∀ W2 k cs fr, Below W.heap.size W W2 → W.heap.size ≤ k → W2.heap[k]? = some (.cells cs 3 fr) → Safe k W2)
    (hBn : W.cell? ⟨Bn, 0, none⟩ = some p) (hp : ∃ q, p = .pointer q) (hin : Calls Try.prog 39 #[p] W fun e w' => ∃ v, e = .returned v ∧ Kd.R (Kd.int .i64) 3 w' W.heap.size (fun _ => True) v pl ∧ Below W.heap.size W w')
    (hJ : AbidesFrom W.heap.size J) (h0 : J [] W) :
    CallsIn Fence.wide n Try.prog 38 #[.func (.yield l) #[] #[], .pointer (some ⟨Bn, 0, none⟩)] W fun e W' => (∃ v, e = .returned v) ∧
      ((∃ ys, ys = pl.reverse ∧ J ys W') ∨ (∃ pre, pre <+: pl.reverse ∧ Jx pre W')) := by
  obtain ⟨q, rfl⟩ := hp
  refine callsIn_of_wp Try.func38 rfl trivial ?_ rfl
  simp only [Try.ntmps38, List.size_toArray, List.length_cons, List.length_nil, Nat.reduceAdd, Nat.reduceSub, Array.replicate_succ, Array.replicate_zero, List.push_toArray, List.append_toArray, List.nil_append, List.cons_append]
  gi_wp2_with (refine ⟨trivial, ?_⟩; gi_at_call 39; refine (callsIn_wide.2 hin).mono ?_; rintro e w2 ⟨v, rfl, hR, hb⟩; obtain ⟨Al, cl, ev, hcl, hCl⟩ := Kd.R_reads hR; subst ev)
  have hmax := Kd.C_max hCl
  have HW : Hid (wrap64 ((pl.length : Int) - 1) = (pl.length : Int) - 1) := Lib.hid (IntWalk.wrap64_in _ (by omega))
  have hJ2 : J [] w2 := hJ _ _ _ none h0 (grown_of_below hb) (fun r e => by cases e)
  have hsafe : ∀ k, (Value.slice Al pl.length cl).ownBlock = some k → Safe k w2 := fun k hk => by
    obtain ⟨h1, cs, fr, h2⟩ := R_cells hR k hk
    exact hS0 w2 k cs fr hb h1 h2
  obtain ⟨L, hL⟩ : ∃ L, pl.length = L := ⟨_, rfl⟩
  rw [hL] at hcl HW hmax hsafe hR ⊢
  have HL := Lib.hid hL
  have HMAX := Lib.hid hmax
  have HR := Lib.hid hR
  have HS := Lib.hid hsafe
  have HJ2 := Lib.hid hJ2
  have HS1 := Lib.hid hS1
  clear hCl hmax hL hR hsafe hJ2 hS0 hin hb h0 hS1 hJ hBn
  rw [HW.out]
  gi_loopw [4] (fun x wr => ∃ k : Nat, k ≤ L ∧ x = .int .i64 ((L : Int) - 1 - k) ∧ J (pl.reverse.take k) wr ∧ Kd.R (Kd.int .i64) 3 wr W.heap.size (fun _ => True) (.slice Al L cl) pl ∧ ∀ b, (Value.slice Al L cl).ownBlock = some b → Safe b wr)
    (fun x _ => (intOf x + 1).toNat)
  case atStart => exact ⟨0, Nat.zero_le _, by simp, HJ2.out, HR.out, HS.out⟩
  case round =>
    obtain ⟨k, hk, rfl, hJs, hRw, hSw⟩ := hrel
    by_cases hlt : k < L
    · have hd : decide ((0 : Int) ≤ (L : Int) - 1 - (k : Int)) = true := decide_eq_true (by omega)
      obtain ⟨i, hi⟩ : ∃ i : Nat, (i : Int) = (L : Int) - 1 - (k : Int) := ⟨L - 1 - k, by omega⟩
      have HI := Lib.hid hi
      rw [← hi]
      have hC := (Kd.R_reads' hRw).2.2
      obtain ⟨ad, e1, k0⟩ := Kd.at_int hC (i : Int) (by omega) (by rw [HL.out]; omega)
      subst e1
      rw [Int.toNat_natCast] at k0
      obtain ⟨y, hy0⟩ : ∃ y, rd pl (i : Int) = y := ⟨_, rfl⟩
      rw [hy0] at k0
      have hstep : pl.reverse.take (k + 1) = pl.reverse.take k ++ [y] := by
        rw [rev_take (by rw [HL.out]; exact hlt), ← hy0, rd_nth, HL.out, show L - 1 - k = i by omega]
      obtain ⟨fn, tmps, assign, body, hy, hRd⟩ := hY _ y wr hJs (by rw [List.length_take, List.length_reverse, HL.out]; omega) (by
        rw [← hy0, rd_nth]
        unfold nth
        rw [List.getD_eq_getElem?_getD, List.getElem?_eq_getElem (by rw [HL.out]; omega)]
        exact List.getElem_mem _)
      have q1 : (0 : Int) ≤ (i : Int) := by omega
      have q2 : (i : Int) < (L : Int) := by omega
      have q3 : i < L := by omega
      have hw1 : wrap64 ((i : Int) - 1) = (i : Int) - 1 := IntWalk.wrap64_in _ (by have := HMAX.out; omega)
      have HRw := Lib.hid hRw
      have HSw := Lib.hid hSw
      have HST := Lib.hid hstep
      clear hRw hSw hstep hi hC hy0 hd hJs
      gi_wp2
      refine hRd.mono ?_
      rintro e W3 (⟨rfl, hJ3, hk3⟩ | ⟨rfl, hJx3⟩)
      · have hR3 : Kd.R (Kd.int .i64) 3 W3 W.heap.size (fun _ => True) (.slice (some ad) L cl) pl := R_same HRw.out (fun b hb => (HS1.out b wr W3 (HSw.out b hb) hk3).1)
        have HR3 := Lib.hid hR3
        have HS3 := Lib.hid (fun b hb => (HS1.out b wr W3 (HSw.out b hb) hk3).2)
        have HJ3 : Hid (J (pl.reverse.take (k + 1)) W3) := Lib.hid (by rw [HST.out]; exact hJ3)
        clear hR3 hJ3 hk3
        gi_wp2
        go_roundw
        case rel => exact ⟨k + 1, by omega, by rw [hw1, HI.out]; congr 1; omega, HJ3.out, HR3.out, HS3.out⟩
        case measure => rw [hw1]; simp [intOf] <;> omega
      · gi_wp2
        refine bodyPost_ret (results_none rfl _ _ _) rfl ?_
        exact ⟨⟨_, rfl⟩, .inr ⟨_, by rw [← HST.out]; exact List.take_prefix _ _, hJx3⟩⟩
    · have hd : decide ((0 : Int) ≤ (L : Int) - 1 - (k : Int)) = false := decide_eq_false (by omega)
      have HJs : Hid (J pl.reverse wr) := Lib.hid (by rw [← List.take_of_length_le (l := pl.reverse) (i := k) (by rw [List.length_reverse, HL.out]; omega)]; exact hJs)
      gi_wp2
      go_end0
      exact ⟨⟨_, rfl⟩, .inl ⟨_, rfl, HJs.out⟩⟩
/-- A place of a text of L tokens. -/
abbrev Pl (L : Nat) : Type := { x : Int // ∃ p : Nat, x = p ∧ p ≤ L }
theorem places_pl {L n : Nat} {l Bn : Nat} (hn : 1 ≤ n) {p : Value} {pl : List Int} {Kp : World → World → Prop} (Safe : Nat → World → Prop) {J Jx : List (Pl L) → World → Prop} (hpl : ∀ x ∈ pl, ∃ p : Nat, x = p ∧ p ≤ L)
    (hS1 : ∀ k W1 W', Safe k W1 → Kp W1 W' → W'.heap[k]? = W1.heap[k]? ∧ Safe k W')
    (hY : ∀ (pre : List (Pl L)) (x : Pl L) W, J pre W → pre.length < pl.length → YieldAt Fence.wide (n - 1) Try.prog l #[.int .i64 x.1] W fun e W' =>
      (e = .returned (.bool true) ∧ J (pre ++ [x]) W' ∧ Kp W W') ∨ (e = .returned (.bool false) ∧ Jx (pre ++ [x]) W'))
    {W : World} (hS0 : ∀ W2 k cs fr, Below W.heap.size W W2 → W.heap.size ≤ k → W2.heap[k]? = some (.cells cs 3 fr) → Safe k W2)
    (hBn : W.cell? ⟨Bn, 0, none⟩ = some p) (hp : ∃ q, p = .pointer q) (hin : Calls Try.prog 39 #[p] W fun e w' => ∃ v, e = .returned v ∧ Kd.R (Kd.int .i64) 3 w' W.heap.size (fun _ => True) v pl ∧ Below W.heap.size W w')
    (hJ : AbidesFrom W.heap.size J) (h0 : J [] W) :
    CallsIn Fence.wide n Try.prog 38 #[.func (.yield l) #[] #[], .pointer (some ⟨Bn, 0, none⟩)] W fun e W' => (∃ v, e = .returned v) ∧
      ((∃ ys : List (Pl L), ys.map (·.1) = pl.reverse ∧ J ys W') ∨ (∃ pre : List (Pl L), pre.map (·.1) <+: pl.reverse ∧ Jx pre W')) := by
  refine (places1_in n hn l Bn p pl Kp Safe (fun pre W => ∃ pre' : List (Pl L), pre'.map (·.1) = pre ∧ J pre' W) (fun pre W => ∃ pre' : List (Pl L), pre'.map (·.1) = pre ∧ Jx pre' W) hS1 ?_ W hS0 hBn hp hin ?_ ⟨[], rfl, h0⟩).mono ?_
  · rintro pre x W1 ⟨pre', rfl, hj⟩ hlen hx
    refine (hY pre' ⟨x, hpl x hx⟩ W1 hj (by simpa using hlen)).mono ?_
    rintro e W2 (⟨h1, h2, h3⟩ | ⟨h1, h2⟩)
    · exact .inl ⟨h1, ⟨_, by simp, h2⟩, h3⟩
    · exact .inr ⟨h1, ⟨_, by simp, h2⟩⟩
  · rintro s A B row ⟨pre', h1, h2⟩ hg hr
    exact ⟨pre', h1, hJ pre' A B row h2 hg hr⟩
  · rintro e W' ⟨h1, ⟨ys, rfl, ys', h2, h3⟩ | ⟨pre, h2, pre', rfl, h3⟩⟩
    · exact ⟨h1, .inl ⟨ys', h2, h3⟩⟩
    · exact ⟨h1, .inr ⟨pre', h2, h3⟩⟩
/-- x.Places(): the receiver lies in a block of its own; the function value holds that block. -/
theorem places_fn (n : Nat) (p : Value) (hp : ∃ q, p = .pointer q) (w : World) :
    CallsIn Fence.wide n Try.prog 35 #[p] w fun e w' => e = .returned (.func (.func 38) #[] #[.pointer (some ⟨w.heap.size, 0, none⟩)]) ∧ w' = w.alloc (.cells #[p] 25) := by
  obtain ⟨q, rfl⟩ := hp
  refine callsIn_of_wp Try.func35 rfl trivial ?_ rfl
  simp only [Try.ntmps35, List.size_toArray, List.length_cons, List.length_nil, Nat.reduceAdd, Nat.reduceSub, Array.replicate_succ, Array.replicate_zero, List.push_toArray, List.append_toArray, List.nil_append, List.cons_append]
  gi_wp2
  go_ret
  exact ⟨rfl, rfl⟩
end Go.Proofs.Ytjeofkobefeigaa.Wk
