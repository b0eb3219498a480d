/- The walk of sign; two collections beside each other. -/
import Derived.Test.YtnioohhiphpplaaDoorLb
set_option linter.unusedVariables false
set_option linter.unusedSimpArgs false
namespace Go.Proofs.YtnioohhiphpplaaDoor.Dp
open Go.RowKit Go.Proofs.YtnioohhiphpplaaDoor.Pplays Go.Proofs.YtnioohhiphpplaaDoorW.PrintWords Go.Proofs.YtnioohhiphpplaaDoorW.PrintLast Go.Proofs.YtnioohhiphpplaaDoorW.PrintMore Go.Proofs.YtnioohhiphpplaaDoor.M Go.Proofs.YtnioohhiphpplaaDoor.Wk Go.Lib
namespace Wk
def sgq (n : Int) : Nat → Int
 | 0 => n
 | k + 1 => wrap64 (Int.tdiv (sgq n k) 128)
def sg (n : Int) (i : Nat) : Int := IntKind.i8.wrap (Int.tmod (sgq n (i % 3)) 128)
theorem sign_calls (n : Int) (i : Nat) (hi : (i : Int) ≤ 281474976710656) (w : World) : Calls Tryd.prog 64 #[.int .i64 n, .int .i64 (i : Int)] w fun e w' => e = .returned (.int .i8 (sg n i)) ∧ w' = w := by
 have h3 : Int.tmod (i : Int) 3 = ((i % 3 : Nat) : Int) := rfl
 obtain ⟨m, hm⟩ : ∃ m, i % 3 = m := ⟨_, rfl⟩
 have hm3 : m < 3 := by omega
 rw [hm] at h3
 have HSG : Hid (sg n i = IntKind.i8.wrap (Int.tmod (sgq n m) 128)) := Lib.hid (by unfold sg; rw [hm])
 clear hm
 go_enter Tryd.func64, Tryd.ntmps64
 go_wp2
 go_loopw [0, 5] (fun x y wr => ∃ k : Nat, x = .int .i64 (sgq n k) ∧ y = .int .i64 (k : Int) ∧ k ≤ m ∧ wr = w) (fun _ y _ => m - (intOf y).toNat)
 case atStart => exact ⟨0, rfl, rfl, Nat.zero_le _, rfl⟩
 case round =>
  obtain ⟨k, rfl, rfl, hk, rfl⟩ := hrel
  by_cases hlt : k < m
  ·have d1 : decide ((k : Int) < (m : Int)) = true := decide_eq_true (by omega)
   have d2 : decide (k < m) = true := decide_eq_true hlt
   go_wp2
   go_roundw
   case rel => exact ⟨k + 1, rfl, by rw [Int.natCast_add]; rfl, hlt, trivial⟩
   case measure => simp [intOf]; omega
  ·have d1 : decide ((k : Int) < (m : Int)) = false := decide_eq_false (by omega)
   have d2 : decide (k < m) = false := decide_eq_false hlt
   obtain rfl : k = m := by omega
   go_wp2
   go_ret
   exact ⟨by rw [HSG.out]; rfl, rfl⟩
structure Pr {α : Type} (kd : Kd α) (eo ei : Nat) (w : World) (N M : Value) (fN fM : List Tr) (xN xM : List (List α)) : Prop where
 cN : Col kd eo ei w N fN xN
 cM : Col kd eo ei w M fM xM
 ap : ∀ k, N.ownBlock = some k → M.ownBlock ≠ some k
section
variable {α : Type} {kd : Kd α} {eo ei : Nat} {W W1 : World} {N M N1 M1 g : Value} {fN fM : List Tr} {xN xM : List (List α)} {row : Option Nat} {f : Tr} {xs : List α}
theorem Pr.below (h : Pr kd eo ei W N M fN fM xN xM) (hb : Below W.heap.size W W1) : Pr kd eo ei W1 N M fN fM xN xM := ⟨h.cN.below hb, h.cM.below hb, h.ap⟩
theorem Pr.other (hE : kd.E = []) (h : Pr kd eo ei W N M fN fM xN xM) (hg : W.grownBy W1 row) {t : Nat} (ht : ∀ k, row = some k → ∃ cells, W.heap[k]? = some (.cells cells t (0, 0))) (h1 : t ≠ eo) (h2 : t ≠ ei) : Pr kd eo ei W1 N M fN fM xN xM :=
 ⟨h.cN.other hE hg fun k hk => by obtain ⟨c, hc⟩ := ht k hk; exact ⟨c, t, hc, h1, h2⟩, h.cM.other hE hg fun k hk => by obtain ⟨c, hc⟩ := ht k hk; exact ⟨c, t, hc, h1, h2⟩, h.ap⟩
theorem Pr.lists (hE : kd.E = []) (h : Pr kd eo ei W N M fN fM xN xM) (hne : eo ≠ ei) (hg : W.grownBy W1 g.ownBlock) (hr : Row kd ei W g xs) (ha : Ap W g (fN.map sl ++ fM.map sl)) : Pr kd eo ei W1 N M fN fM xN xM :=
 ⟨h.cN.apart hE hne hg hr.typed (ha.sub fun _ hu => List.mem_append_left _ hu), h.cM.apart hE hne hg hr.typed (ha.sub fun _ hu => List.mem_append_right _ hu), h.ap⟩
theorem Ext.own {W W1 : World} {v v1 : Value} (h : Ext W W1 v v1) : v1.ownBlock = v.ownBlock ∨ ∃ b, v1.ownBlock = some b ∧ W.heap.size ≤ b := by
 rcases h with ⟨g, n, c, rfl, rfl⟩ | ⟨_, h⟩
 ·exact .inl rfl
 ·exact .inr h
theorem Pr.appN (hE : kd.E = []) (h : Pr kd eo ei W N M fN fM xN xM) (hne : eo ≠ ei) (hg : W.grownBy W1 N.ownBlock) (hx : Ext W W1 N N1) (ho : Row slKd eo W1 N1 (fN ++ [f])) (hr : Row kd ei W (sl f) xs) : Pr kd eo ei W1 N1 M (fN ++ [f]) fM (xN ++ [xs]) xM :=
 ⟨h.cN.snoc hE hne hg ho hr, h.cM.beside hE hne hg h.cN.out.typed fun k hk he => h.ap k he hk, fun k hk => by
  rcases hx.own with he | ⟨b, hb, hle⟩
  ·rw [he] at hk; exact h.ap k hk
  ·intro hm
   rw [hb] at hk
   injection hk with hk
   have := Kd.R_lt h.cM.out k hm
   omega⟩
theorem Pr.appM (hE : kd.E = []) (h : Pr kd eo ei W N M fN fM xN xM) (hne : eo ≠ ei) (hg : W.grownBy W1 M.ownBlock) (hx : Ext W W1 M M1) (ho : Row slKd eo W1 M1 (fM ++ [f])) (hr : Row kd ei W (sl f) xs) : Pr kd eo ei W1 N M1 fN (fM ++ [f]) xN (xM ++ [xs]) :=
 ⟨h.cN.beside hE hne hg h.cM.out.typed h.ap, h.cM.snoc hE hne hg ho hr, fun k hk => by
  rcases hx.own with he | ⟨b, hb, hle⟩
  ·rw [he]; exact h.ap k hk
  ·rw [hb]
   intro hm
   injection hm with hm
   have := Kd.R_lt h.cN.out k hk
   omega⟩
theorem Pr.lastN (hE : kd.E = []) (h : Pr kd eo ei W N M (fN ++ [f]) fM (xN ++ [xs]) xM) (hl : fN.length = xN.length) (hne : eo ≠ ei) {zs : List α} (hg : W.grownBy W1 g.ownBlock) (hz : Row kd ei W g zs) (ha : Ap W g (fN.map sl ++ fM.map sl)) (hr : Row kd ei W1 (sl f) xs) : Pr kd eo ei W1 N M (fN ++ [f]) fM (xN ++ [xs]) xM :=
 ⟨h.cN.last hE hl hne hg hz.typed (ha.sub fun _ hu => List.mem_append_left _ hu) hr, h.cM.apart hE hne hg hz.typed (ha.sub fun _ hu => List.mem_append_right _ hu), h.ap⟩
end
end Wk
end Go.Proofs.YtnioohhiphpplaaDoor.Dp
