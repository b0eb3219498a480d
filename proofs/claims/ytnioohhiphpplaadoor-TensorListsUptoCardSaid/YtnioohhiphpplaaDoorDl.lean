/- For each call: the program's answer and the document's are the same. -/
import Derived.Test.YtnioohhiphpplaaDoorDj
set_option linter.unusedVariables false
set_option linter.unusedSimpArgs false
namespace Go.Proofs.YtnioohhiphpplaaDoor.Dp
open Go.RowKit Go.Proofs.YtnioohhiphpplaaDoor.Pplays Go.Proofs.YtnioohhiphpplaaDoorW.PrintWords Go.Proofs.YtnioohhiphpplaaDoorW.PrintLast Go.Proofs.YtnioohhiphpplaaDoorW.PrintMore Go.Proofs.YtnioohhiphpplaaDoor.M Go.Proofs.YtnioohhiphpplaaDoor.Wk Go.Lib
namespace Wk
def Ans {α : Type} (kd : Kd α) (f : Nat) (args : Array Value) (w : World) (xs : List α) (err : Int) : Prop :=
 Calls Tryd.prog f args w fun e w' => ∃ v0, e = .returned (.tuple #[v0, .int .i64 err]) ∧ Rd kd w' v0 xs ∧ Below w.heap.size w w'
section
variable {α : Type} {kd : Kd α} {f e : Nat} {args : Array Value} {w : World} {xs : List α} {err : Int}
theorem Ans.of_R (h : Calls Tryd.prog f args w fun e2 w' => ∃ v0 : Value, e2 = .returned (.tuple #[v0, .int .i64 err]) ∧ Kd.R kd e w' w.heap.size (fun _ => True) v0 xs ∧ Below w.heap.size w w') : Ans kd f args w xs err :=
 h.mono fun _ _ ⟨v0, h1, h2, h3⟩ => ⟨v0, h1, Kd.R_reads h2, h3⟩
theorem Ans.of_nil (h : Calls Tryd.prog f args w fun e2 w' => e2 = .returned (.tuple #[.slice none 0 0, .int .i64 err]) ∧ Below w.heap.size w w') : Ans kd f args w [] err :=
 h.mono fun _ w' ⟨h1, h3⟩ => ⟨_, h1, Kd.R_reads (Kd.R_nil kd 0 w' 0 (fun _ => True)), h3⟩
end
section
variable {A0 A1 : Option Addr} {c0 c1 : Nat} {w : World}
theorem mv_prog {rows cols : Int} {D v : List Int} (hr0 : Kd.C (Kd.int .i8) w A0 D.length D) (hc0 : D.length ≤ c0) (hr1 : Kd.C (Kd.int .i8) w A1 v.length v) (hc1 : v.length ≤ c1) (hD : Small D) (hV : Small v) (hn : D.length ≤ 16777216) :
  Ans (Kd.int .i64) 22 #[.agg #[.int .i64 rows, .int .i64 cols, .slice A0 D.length c0], .slice A1 v.length c1] w (mvV rows cols D v).1 (mvV rows cols D v).2 := by
 unfold mvV
 by_cases h : checkV rows cols D = 0 ∧ (v.length : Int) = cols
 ·rw [if_pos h]
  obtain ⟨m0, m1, m2⟩ := check_zero h.1
  have : rows.toNat ≤ D.length := by rw [← m2]; exact Nat.le_mul_of_pos_right _ (by omega)
  exact Ans.of_R (mv_calls w hr0 hc0 hr1 hc1 h.1 h.2 hD hV (by omega) (by omega))
 ·rw [if_neg h]
  exact Ans.of_nil (mv_bad w hr0 hc0 (by omega) h)
theorem mv_ref {rows cols : Int} {D v : List Int} (hr0 : Kd.C (Kd.int .i8) w A0 D.length D) (hc0 : D.length ≤ c0) (hr1 : Kd.C (Kd.int .i8) w A1 v.length v) (hc1 : v.length ≤ c1) (hD : Small D) (hV : Small v) (hn : D.length ≤ 16777216) :
  Ans (Kd.int .i64) 54 #[.agg #[.int .i64 rows, .int .i64 cols, .slice A0 D.length c0], .slice A1 v.length c1] w (mvV rows cols D v).1 (mvV rows cols D v).2 :=
 Ans.of_R (augurref03_MatVec.calls (D.length * 3 + 81) rows cols A0 c0 D A1 c1 v _ _ w hr0 hc0 hr1 hc1 (by rw [refmv_is hD hV (by omega) (by omega)]))
theorem mv_length {rows cols : Int} {D v : List Int} (hn : D.length ≤ 16777216) : (mvV rows cols D v).1.length ≤ 16777216 := by
 unfold mvV
 split
 ·rename_i h
  obtain ⟨m0, m1, m2⟩ := check_zero h.1
  have : rows.toNat ≤ D.length := by rw [← m2]; exact Nat.le_mul_of_pos_right _ (by omega)
  rw [tb_length]; omega
 ·exact Nat.zero_le _
theorem narrow_prog {x : List Int} {s : Int} (hr0 : Kd.C (Kd.int .i64) w A0 x.length x) (hc0 : x.length ≤ c0) (hx : ∀ i, rng (nth x i)) (hn : x.length ≤ 16777216) : Ans (Kd.int .i8) 29 #[.slice A0 x.length c0, .int .i64 s] w (narrowV x s).1 (narrowV x s).2 :=
 Ans.of_R (tensor_Narrow.calls (x.length + 71) A0 c0 x s _ _ w hr0 hc0 (by rw [narrow_is hx (by omega) (by omega)]))
theorem narrow_ref {x : List Int} {s : Int} (hr0 : Kd.C (Kd.int .i64) w A0 x.length x) (hc0 : x.length ≤ c0) (hx : ∀ i, rng (nth x i)) (hn : x.length ≤ 16777216) : Ans (Kd.int .i8) 55 #[.slice A0 x.length c0, .int .i64 s] w (narrowV x s).1 (narrowV x s).2 :=
 Ans.of_R (augurref03_Narrow.calls (x.length + 71) A0 c0 x s _ _ w hr0 hc0 (by rw [refnarrow_is hx (by omega) (by omega)]))
theorem narrow_length {x : List Int} {s : Int} (hn : x.length ≤ 16777216) : (narrowV x s).1.length ≤ 16777216 := by
 unfold narrowV; split
 ·exact Nat.zero_le _
 ·rw [tb_length]; exact hn
theorem norm_prog {x g : List Int} (hr0 : Kd.C (Kd.int .i64) w A0 x.length x) (hc0 : x.length ≤ c0) (hr1 : Kd.C (Kd.int .i8) w A1 g.length g) (hc1 : g.length ≤ c1) (hg : Small g) (hn : x.length ≤ 16777216) :
  Ans (Kd.int .i8) 31 #[.slice A0 x.length c0, .slice A1 g.length c1] w (normV x g).1 (normV x g).2 := by
 unfold normV
 by_cases h : x.length = 0 ∨ x.length ≠ g.length
 ·rw [if_pos h]
  exact Ans.of_nil ((norm_bad w h).mono fun _ _ ⟨h1, d, h2⟩ => ⟨h1, by rw [h2]; exact (Drawn0.mk ⟨d, rfl⟩ : Drawn0 w _).below⟩)
 ·rw [if_neg h]
  obtain ⟨h1, h2⟩ := not_or.1 h
  have h2 : g.length = x.length := (Decidable.not_not.1 h2).symm
  rw [h2] at hc1 hr1 ⊢
  exact Ans.of_R (norm_calls w rfl h2 hr0 hc0 (by rw [h2]; exact hr1) hc1 (by omega) (by omega) hg)
theorem norm_ref {x g : List Int} (hr0 : Kd.C (Kd.int .i64) w A0 x.length x) (hc0 : x.length ≤ c0) (hr1 : Kd.C (Kd.int .i8) w A1 g.length g) (hc1 : g.length ≤ c1) (hg : Small g) (hn : x.length ≤ 16777216) :
  Ans (Kd.int .i8) 56 #[.slice A0 x.length c0, .slice A1 g.length c1] w (normV x g).1 (normV x g).2 :=
 Ans.of_R (augurref03_Norm.calls (2 * x.length + 81) A0 c0 x A1 c1 g _ _ w hr0 hc0 hr1 hc1 (by rw [refnorm_is hg (by omega) (by omega)]))
theorem norm_length {x g : List Int} (hn : x.length ≤ 16777216) : (normV x g).1.length ≤ 16777216 := by
 unfold normV; split
 ·exact Nat.zero_le _
 ·rw [tb_length]; exact hn
theorem soft_prog {x : List Int} (ht : Terms w) (hr0 : Kd.C (Kd.int .i64) w A0 x.length x) (hc0 : x.length ≤ c0) (hn : x.length ≤ 16777216) : Ans (Kd.int .i64) 6 #[.slice A0 x.length c0] w (softV x).1 (softV x).2 :=
 Ans.of_R (softmax_calls w ht hr0 hc0 (by omega))
theorem soft_ref {x : List Int} (hr0 : Kd.C (Kd.int .i64) w A0 x.length x) (hc0 : x.length ≤ c0) (hn : x.length ≤ 16777216) : Ans (Kd.int .i64) 59 #[.slice A0 x.length c0] w (softV x).1 (softV x).2 :=
 Ans.of_R (augurref03_Softmax.calls (2 * x.length + 91) A0 c0 x _ _ w hr0 hc0 (by rw [refsoft_is (by omega) (by omega)]))
theorem rot_prog {v : List Int} {ts : List S87} (hr0 : Kd.C (Kd.int .i8) w A0 v.length v) (hc0 : v.length ≤ c0) (hr1 : Kd.C k87 w A1 ts.length ts) (hc1 : ts.length ≤ c1) (hv : Small v) (hn : v.length ≤ 16777216) (hm : ts.length ≤ 16777216) :
  Ans (Kd.int .i8) 35 #[.slice A0 v.length c0, .slice A1 ts.length c1] w (rotV v ts).1 (rotV v ts).2 :=
 Ans.of_R (tensor_Rotate.calls (ts.length + 3) A0 c0 v A1 c1 ts _ _ w hr0 hc0 hr1 hc1 (by rw [rotate_is hv (by omega) (by omega) (by omega)]))
theorem rot_ref {v : List Int} {ts : List S87} (hr0 : Kd.C (Kd.int .i8) w A0 v.length v) (hc0 : v.length ≤ c0) (hr1 : Kd.C k87 w A1 ts.length ts) (hc1 : ts.length ≤ c1) (hv : Small v) (hn : v.length ≤ 16777216) (hm : ts.length ≤ 16777216) :
  Ans (Kd.int .i8) 62 #[.slice A0 v.length c0, .slice A1 ts.length c1] w (rotV v ts).1 (rotV v ts).2 :=
 Ans.of_R (refrotate_calls w rfl rfl hr0 hc0 hr1 hc1 (by omega) (by omega) hv)
theorem rot_length {v : List Int} {ts : List S87} (hn : v.length ≤ 16777216) : (rotV v ts).1.length ≤ 16777216 := by
 unfold rotV; split
 ·rw [tb_length]; exact hn
 ·exact Nat.zero_le _
end
theorem blend_two {x : List Int} {vs : List (List Int)} (hn : x.length ≤ 16777216) (hm : vs.length ≤ 16777216) (hr : ∀ v ∈ vs, v.length ≤ 16777216) (hs : ∀ v ∈ vs, Small v) : ∃ xs err, xs.length ≤ 16777216 ∧
  (∀ (w : World) (A0 A1 : Option Addr) (c0 c1 : Nat), Kd.C (Kd.int .i64) w A0 x.length x → x.length ≤ c0 → Kd.C (Kd.slice 57 (Kd.int .i8)) w A1 vs.length vs → vs.length ≤ c1 → Ans (Kd.int .i8) 32 #[.slice A0 x.length c0, .slice A1 vs.length c1] w xs err ∧ Ans (Kd.int .i8) 60 #[.slice A0 x.length c0, .slice A1 vs.length c1] w xs err) := by
 have hL : (vrow vs 0).length ≤ 16777216 := by
  cases vs with
  | nil => exact Nat.zero_le _
  | cons v l => exact hr v (List.mem_cons_self ..)
 by_cases hb : BlBad x vs
 ·refine ⟨[], 30, Nat.zero_le _, fun w A0 A1 c0 c1 h0 h1 h2 h3 => ⟨?_, Ans.of_R (augurref03_Blend.calls (x.length + 3) A0 c0 x A1 c1 vs _ _ w h0 h1 h2 h3 (refblend_bad (by omega) hb (by omega)))⟩⟩
  refine Ans.of_nil ((blend_calls w rfl rfl h0 h1 h2 h3 (by omega) (by omega) hs).mono ?_)
  rintro e w' ⟨v0, err, rfl, ⟨_, rfl, rfl⟩ | ⟨h, _⟩, h4⟩
  ·exact ⟨rfl, h4⟩
  ·exact absurd hb h
 ·refine ⟨tb (blW x vs (sW x x.length)) (vrow vs 0).length, 0, by rw [tb_length]; exact hL, fun w A0 A1 c0 c1 h0 h1 h2 h3 => ⟨?_, Ans.of_R (augurref03_Blend.calls ((vrow vs 0).length * (x.length + 2) + x.length + 4) A0 c0 x A1 c1 vs _ _ w h0 h1 h2 h3 (refblend_good (by omega) hb hs (by omega) (by omega)))⟩⟩
  refine Ans.of_R (e := 57) ((blend_calls w rfl rfl h0 h1 h2 h3 (by omega) (by omega) hs).mono ?_)
  rintro e w' ⟨v0, err, rfl, ⟨h, _, _⟩ | ⟨_, rfl, h⟩, h4⟩
  ·exact absurd h hb
  ·exact ⟨_, rfl, h, h4⟩
theorem turns_two {us : List S87} (n : Int) (hn : us.length ≤ 16777216) : ∃ xs err, xs.length ≤ 16777216 ∧ (∀ r ∈ xs, r.length ≤ 16777216) ∧
  (∀ (w : World) (A0 : Option Addr) (c0 : Nat), Kd.C k87 w A0 us.length us → us.length ≤ c0 → Ans (Kd.slice 87 k87) 33 #[.slice A0 us.length c0, .int .i64 n] w xs err ∧ Ans (Kd.slice 87 k87) 61 #[.slice A0 us.length c0, .int .i64 n] w xs err) := by
 have of_S : ∀ {w : World} {args : Array Value} {xs : List (List S87)} {err : Int}, (Calls Tryd.prog 61 args w fun e2 w' => ∃ v0 : Value, e2 = .returned (.tuple #[v0, .int .i64 err]) ∧ Kd.S (Kd.slice 87 k87) 37 w' w.heap.size (fun _ => True) v0 xs ∧ Below w.heap.size w w') → Ans (Kd.slice 87 k87) 61 args w xs err :=
  fun h => h.mono fun _ _ ⟨v0, h1, h2, h3⟩ => ⟨v0, h1, Kd.S_reads h2, h3⟩
 by_cases ha : n < 0 ∨ 64 < n
 ·exact ⟨[], 1, Nat.zero_le _, fun r hr => absurd hr (List.not_mem_nil), fun w A0 c0 h0 h1 => ⟨Ans.of_nil (turns_arg w ha), of_S (augurref03_Turns.calls 1 A0 c0 us n _ _ w h0 h1 (refturns_arg ha 0))⟩⟩
 obtain ⟨m, rfl⟩ : ∃ m : Nat, n = m := ⟨n.toNat, by omega⟩
 have hm : m ≤ 64 := by omega
 by_cases hg : ∀ i, i < us.length → uniT (Ut us i)
 ·refine ⟨rowsT (Ut us) us.length m, 0, by rw [rowsT_length]; omega, fun r hr => ?_, fun w A0 c0 h0 h1 => ⟨?_, of_S (augurref03_Turns.calls _ A0 c0 us m _ _ w h0 h1 (refturns_good hm hn hg))⟩⟩
  ·unfold rowsT at hr
   obtain ⟨p, _, rfl⟩ := List.mem_map.1 hr
   rw [tabT_length]; exact hn
  ·refine (turns_calls (U := Ut us) w (by rw [Ut_tab]; exact h0) h1 hn hm).mono ?_
   rintro e w' ⟨A, k, c, err, rfl, ⟨h, _⟩ | ⟨_, rfl, rfl, h2, h3⟩, h4⟩
   ·exact absurd hg h
   ·exact ⟨_, rfl, ⟨A, c, by rw [rowsT_length], by rw [rowsT_length]; exact h2, by rw [rowsT_length]; exact h3⟩, h4⟩
 ·refine ⟨[], 30, Nat.zero_le _, fun r hr => absurd hr (List.not_mem_nil), fun w A0 c0 h0 h1 => ⟨?_, of_S (augurref03_Turns.calls (us.length + 3) A0 c0 us m _ _ w h0 h1 (refturns_bad hm hn hg (by omega)))⟩⟩
  refine Ans.of_nil ((turns_calls (U := Ut us) w (by rw [Ut_tab]; exact h0) h1 hn hm).mono ?_)
  rintro e w' ⟨A, k, c, err, rfl, ⟨_, rfl, rfl, rfl, rfl⟩ | ⟨h, _⟩, h4⟩
  ·exact ⟨rfl, h4⟩
  ·exact absurd h hg
end Wk
end Go.Proofs.YtnioohhiphpplaaDoor.Dp
