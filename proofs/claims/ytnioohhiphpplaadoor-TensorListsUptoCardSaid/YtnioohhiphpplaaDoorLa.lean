/- Lists that grow over lists: what an append leaves of the elder list; what a call keeps. -/
import Derived.Test.YtnioohhiphpplaaDoorDz
import Derived.Deep.DeepAppendRoom
import Derived.ArgAppend
import Derived.Lib.SmallJoins
set_option linter.unusedVariables false
set_option linter.unusedSimpArgs false
namespace Go.Proofs.YtnioohhiphpplaaDoor.Dp
open Go.RowKit Go.Proofs.YtnioohhiphpplaaDoor.Pplays Go.Proofs.YtnioohhiphpplaaDoorW.PrintWords Go.Proofs.YtnioohhiphpplaaDoorW.PrintLast Go.Proofs.YtnioohhiphpplaaDoorW.PrintMore Go.Proofs.YtnioohhiphpplaaDoor.M Go.Proofs.YtnioohhiphpplaaDoor.Wk Go.Lib
namespace Wk
def Ext (W w1 : World) (v v1 : Value) : Prop :=
 (∃ g n c, v = .slice (some ⟨g, 0, none⟩) n c ∧ v1 = .slice (some ⟨g, 0, none⟩) (n + 1) c) ∨ (W.grownBy w1 none ∧ ∃ b, v1.ownBlock = some b ∧ W.heap.size ≤ b)
section
variable {P : Program} {ops : Array Oper} {rest : List Oper} {o : Oper} {a : Act} {Q : Exit → Act → World → Prop} {α : Type}
theorem run_append2 {d : Kd α} (hE : d.E = []) {W : World} (base : Nat) (t ty e : TypeId) (z : Value) (bytes : Nat)
  (ht : P.underlying t = some (.slice e)) (hinfo : (P.info? e).map (fun i => (i.zero, i.size, i.bytes)) = some (some z, d.sz, bytes)) (hz : z.cells.size = d.sz) (hs0 : 0 < d.sz) (hb0 : 0 < bytes)
  (v : Value) (xs : List α) (p : α) (cs : List Value) (hp : d.M W base (fun _ => False) p cs)
  (HO : d.R e W base (fun _ => True) v xs) (hbase : base ≤ W.heap.size) (hl : (xs.length + 1) * bytes ≤ 140737488355328) :
  ∃ v1 w1, (Builtin.append_ #[t, t] ty #[v, .slice (some ⟨W.heap.size, 0, none⟩) 1 1]).run P (W.alloc (.cells cs.toArray e)) = .ok v1 w1 ∧ d.R e w1 base (fun _ => True) v1 (xs ++ [p]) ∧ d.R e w1 base (fun _ => True) v xs ∧ W.grownBy w1 v.ownBlock ∧ Ext W w1 v v1 := by
 have HO2 := HO
 obtain ⟨h0, inner, hown, hr⟩ := HO
 obtain ⟨i0, hi, hzz⟩ := Option.map_eq_some_iff.1 hinfo
 simp only [Prod.mk.injEq] at hzz
 obtain ⟨hz0, hz1, hz2⟩ := hzz
 have hlen : xs.length + 1 ≤ 140737488355328 := Nat.le_trans (Nat.le_mul_of_pos_right _ hb0) hl
 have hys : cs.length = d.sz := d.K_len (d.K_of_M hp)
 have hone := d.K_one (d.K_of_M hp)
 have hcs : ∀ (j : Nat) (u : Value), cs[j]? = some u → (W.alloc (.cells cs.toArray e)).cell? ((⟨W.heap.size, 0, none⟩ : Addr).add j) = some u := by
  simpa using World.news_of_block (cs := cs.toArray) (t := e) (fr := (0, 0)) (heap_alloc_new W (.cells cs.toArray e))
 have hown' := hown.alloc (.cells cs.toArray e)
 have hga : W.grownBy (W.alloc (.cells cs.toArray e)) v.ownBlock := World.grownBy_alloc W _ _
 have hsz : W.heap.size ≤ (W.alloc (.cells cs.toArray e)).heap.size := by simp
 have fin : ∀ v1 w1, w1.ownsRow (W.alloc (.cells cs.toArray e)).heap.size e d.sz v1 (xs.length + 1) (inner ++ cs) → (W.alloc (.cells cs.toArray e)).grownBy w1 none → d.R e w1 base (fun _ => True) v1 (xs ++ [p]) ∧ d.R e w1 base (fun _ => True) v xs ∧ W.grownBy w1 v.ownBlock ∧ Ext W w1 v v1 := by
  intro v1 w1 hown1 hg1
  obtain ⟨b, hb1, hb2⟩ : ∃ b, v1.ownBlock = some b ∧ W.heap.size ≤ b := by
   rcases hown1.2 with ⟨_, h2⟩ | ⟨g', _, _, rfl, hbg, _⟩
   ·omega
   ·exact ⟨g', rfl, by omega⟩
  have hgn : W.grownBy w1 none := World.grownBy.trans (World.grownBy_alloc W _ _) hg1
  have hgv : W.grownBy w1 v.ownBlock := ⟨hgn.os, hgn.tape, hgn.output, hgn.size, fun k hk _ => hgn.block k hk (by simp)⟩
  exact ⟨Kd.R_appended h0 hr hp (fun _ hk => hk.elim) (fun _ _ => trivial) (Go.Joins.ownsRow_le hown1 (by omega)) hgv (.inr ⟨b, hb1, hb2⟩), Kd.R_step HO2 fun k _ hk => hgn.block k hk (by simp), hgv, .inr ⟨hgn, b, hb1, hb2⟩⟩
 rcases hown'.2 with ⟨rfl, hn⟩ | ⟨g, cap, cur, rfl, hbg, hg, hnc, hcm, hcsz, htake⟩
 ·obtain rfl : xs = [] := List.eq_nil_of_length_eq_zero hn
  obtain rfl : inner = [] := List.eq_nil_of_length_eq_zero (by have := hown.1; simpa using this)
  obtain ⟨v1, w1, hrun, r1, r2, _⟩ := run_append_own (P := P) (W.alloc (.cells cs.toArray e)) (W.alloc (.cells cs.toArray e)).heap.size t ty e i0 z d.sz bytes ht hi hz0 hz1 hz2 hz hs0 (.slice none 0 0) 0 [] (World.ownsRow_nil _ _ e d.sz) ⟨W.heap.size, 0, none⟩ 1 1 cs (by rw [hys]; simp) hcs hone (by simp only [maxLen]; omega) (by simpa using hl) (Nat.le_refl _)
  exact ⟨v1, w1, hrun, fin v1 w1 (by simpa using r1) r2⟩
 ·by_cases hroom : xs.length + 1 ≤ cap
  ·obtain ⟨w1, hrun, hown1, hg1⟩ := run_append_own_spare (P := P) (W.alloc (.cells cs.toArray e)) base t ty e i0 d.sz ht hi hz1 g xs.length cap inner hown' ⟨W.heap.size, 0, none⟩ 1 1 cs (by rw [hys]; simp) hcs hone hroom
   have hgv : W.grownBy w1 (Value.slice (some ⟨g, 0, none⟩) xs.length cap).ownBlock := World.grownBy.trans hga hg1
   have hR := Kd.R_appended h0 hr hp (fun _ hk => hk.elim) (fun _ _ => trivial) hown1 hgv (.inl rfl)
   have hT := Kd.R_take hR (m := xs.length) (by rw [List.length_append]; omega)
   rw [List.take_left] at hT
   exact ⟨_, w1, hrun, hR, hT, hgv, .inl ⟨g, xs.length, cap, rfl, rfl⟩⟩
  ·obtain ⟨v1, w1, hrun, r1, r2⟩ := run_append_arg_grows (P := P) (W.alloc (.cells cs.toArray e)) t ty e i0 z d.sz bytes ht hi hz0 hz1 hz2 hz hs0 ⟨g, 0, none⟩ xs.length cap inner hown.1 (fun j u hj => by
    rw [show (⟨g, 0, none⟩ : Addr).add j = ⟨g, j, none⟩ from by rw [Go.WideShapes.add_plain, Nat.zero_add]]
    refine (blk_cell hg j).trans ?_
    rw [← htake, List.getElem?_take] at hj
    split at hj
    ·simpa using hj
    ·cases hj) ⟨W.heap.size, 0, none⟩ 1 1 cs (by rw [hys]; simp) hcs (by omega) (by simp only [maxLen]; omega) hl
   exact ⟨v1, w1, hrun, fin v1 w1 r1 r2⟩
theorem R_append2 {d : Kd α} (hE : d.E = []) {W : World} (base : Nat) (hgd : o.guard = none) (s x : Operand) (t e : TypeId) (z : Value) (bytes : Nat)
  (ho : o.op = .call { callee := .builtin .append, args := #[s, x], argTypes := #[t, t] })
  (ht : P.underlying t = some (.slice e)) (hinfo : (P.info? e).map (fun i => (i.zero, i.size, i.bytes)) = some (some z, d.sz, bytes)) (hz : z.cells.size = d.sz) (hs0 : 0 < d.sz) (hb0 : 0 < bytes)
  (v : Value) (xs : List α) (p : α) (cs : List Value) (hs : a.eval s = v) (hx : a.eval x = .slice (some ⟨W.heap.size, 0, none⟩) 1 1) (hp : d.M W base (fun _ => False) p cs)
  (HO : d.R e W base (fun _ => True) v xs) (hbase : base ≤ W.heap.size) (hl : (xs.length + 1) * bytes ≤ 140737488355328)
  (h : ∀ v1 w1, d.R e w1 base (fun _ => True) v1 (xs ++ [p]) → d.R e w1 base (fun _ => True) v xs → W.grownBy w1 v.ownBlock → Ext W w1 v v1 → wpList P ops Q rest (a.put o.dst v1) w1) :
  wpList P ops Q (o :: rest) a (W.alloc (.cells cs.toArray e)) := by
 obtain ⟨v1, w1, hrun, h1, h2, h3, h4⟩ := run_append2 (P := P) hE base t o.type e z bytes ht hinfo hz hs0 hb0 v xs p cs hp HO hbase hl
 refine wpList_plain hgd fun K hK => ?_
 unfold Oper.wp execOp
 simp only [ho, resolve, invoke, builtin, Sem.run_bind, Sem.run_pure, Result.andThen_ok, List.map_toArray, List.map_cons, List.map_nil, hs, hx, hrun]
 exact hK _ _ (h v1 w1 h1 h2 h3 h4)
theorem R_append2_step {Kc : Act → World → Prop} {d : Kd α} (hE : d.E = []) {W : World} (base : Nat) (hw : Region.wanted o (yielded ops a.tmps) = true) (s x : Operand) (t e : TypeId) (z : Value) (bytes : Nat)
  (ho : o.op = .call { callee := .builtin .append, args := #[s, x], argTypes := #[t, t] })
  (ht : P.underlying t = some (.slice e)) (hinfo : (P.info? e).map (fun i => (i.zero, i.size, i.bytes)) = some (some z, d.sz, bytes)) (hz : z.cells.size = d.sz) (hs0 : 0 < d.sz) (hb0 : 0 < bytes)
  (v : Value) (xs : List α) (p : α) (cs : List Value) (hs : a.eval s = v) (hx : a.eval x = .slice (some ⟨W.heap.size, 0, none⟩) 1 1) (hp : d.M W base (fun _ => False) p cs)
  (HO : d.R e W base (fun _ => True) v xs) (hbase : base ≤ W.heap.size) (hl : (xs.length + 1) * bytes ≤ 140737488355328)
  (h : ∀ v1 w1, d.R e w1 base (fun _ => True) v1 (xs ++ [p]) → d.R e w1 base (fun _ => True) v xs → W.grownBy w1 v.ownBlock → Ext W w1 v v1 → Kc (a.put o.dst v1) w1) :
  if Region.wanted o (yielded ops a.tmps) = true then Oper.wp P o a (W.alloc (.cells cs.toArray e)) Kc Q else Kc (a.put o.dst undef) (W.alloc (.cells cs.toArray e)) := by
 obtain ⟨v1, w1, hrun, h1, h2, h3, h4⟩ := run_append2 (P := P) hE base t o.type e z bytes ht hinfo hz hs0 hb0 v xs p cs hp HO hbase hl
 rw [if_pos hw]
 unfold Oper.wp execOp
 simp only [ho, resolve, invoke, builtin, Sem.run_bind, Sem.run_pure, Result.andThen_ok, List.map_toArray, List.map_cons, List.map_nil, hs, hx, hrun]
 exact h v1 w1 h1 h2 h3 h4
end
def Pref (g v : Value) : Prop := (∃ A n m c, g = .slice A n c ∧ v = .slice A m c ∧ m ≤ n) ∨ ∀ k, v.ownBlock = some k → g.ownBlock ≠ some k
theorem Pref.refl {A : Option Addr} {n c : Nat} : Pref (.slice A n c) (.slice A n c) := .inl ⟨A, n, n, c, rfl, rfl, Nat.le_refl _⟩
theorem Pref.step {α : Type} {kd : Kd α} (hE : kd.E = []) {e base : Nat} {W w1 : World} {g g1 v : Value} {zs xs : List α} (h : Pref g v) (hx : Ext W w1 g g1) (hg : W.grownBy w1 g.ownBlock) (hxz : zs.take xs.length = xs) (hv : kd.R e W base (fun _ => True) v xs) (hz : kd.R e w1 base (fun _ => True) g zs) :
  kd.R e w1 base (fun _ => True) v xs ∧ Pref g1 v := by
 rcases h with ⟨A, n, m, c, rfl, rfl, hm⟩ | hap
 ·obtain ⟨hn, _, _⟩ := Kd.R_reads' hz
  have hm2 : m ≤ zs.length := by omega
  obtain ⟨hm3, _, _⟩ := Kd.R_reads' hv
  have h1 := Kd.R_take hz hm2
  rw [hm3, hxz, ← hm3] at h1
  refine ⟨h1, ?_⟩
  rcases hx with ⟨g', n', c', hA, rfl⟩ | ⟨_, b, hb, hle⟩
  ·cases hA
   exact .inl ⟨_, n + 1, m, c, rfl, rfl, by omega⟩
  ·refine .inr fun k hk => ?_
   rw [hb]
   intro he
   injection he with he
   have := Kd.R_lt hv k hk
   omega
 ·have h1 : kd.R e w1 base (fun _ => True) v xs := by
   have ht := Kd.R_tight hE hv
   exact Kd.R_mono (Kd.R_step ht fun k hk hlt => hg.block k hlt (fun he => hap k hk.symm he.symm)) (fun _ _ => trivial)
  refine ⟨h1, .inr fun k hk => ?_⟩
  rcases hx with ⟨g', n', c', rfl, rfl⟩ | ⟨_, b, hb, hle⟩
  ·exact hap k hk
  ·rw [hb]
   intro he
   injection he with he
   have := Kd.R_lt hv k hk
   omega
end Wk
end Go.Proofs.YtnioohhiphpplaaDoor.Dp
