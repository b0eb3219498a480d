/- Lists of one's own, kept apart from the rest: written over, grown, held by two names. -/
import Derived.Test.YtjeofkobefeigaaAg
import Derived.Test.YtjeofkobefeigaaRq
import Derived.ArgAppend
set_option linter.unusedVariables false
set_option linter.unusedSimpArgs false
namespace Go.Proofs.Ytjeofkobefeigaa.Wk
open Go.RowKit Go.Shelf Go.Proofs.YtjeofkobefeigaaW.PrintWords Go.Proofs.YtjeofkobefeigaaW.PrintLast Go.Proofs.YtjeofkobefeigaaW.PrintMore Go.Proofs.Ytjeofkobefeigaa.Mp Go.Proofs.Ytjeofkobefeigaa.PEqRaw
attribute [local go_sem] Oper.semAt_some

theorem turn_core {base : Nat} {w w' : World} {P' Q : Asr} {F Fp Fq : Nat → Prop} (hQ : Asr.Ok Q) (hP' : Asr.Ok P') (h2 : Q w Fq) (h3 : ∀ k, Fp k → ¬ Fq k) (h4 : ∀ k, Fp k ∨ Fq k → F k) (h5 : ∀ k, F k → base ≤ k ∧ k < w.heap.size) (hbase : base ≤ w.heap.size)
    (hp' : P' w' (fun k => Fp k ∨ w.heap.size ≤ k)) (hf : Fr (fun k => Fp k ∨ w.heap.size ≤ k) w w') : Stt base w' (Star P' Q) ∧ Below base w w' := by
  have hsz := hf.size
  refine ⟨⟨fun k => (Fp k ∨ Fq k) ∨ (w.heap.size ≤ k ∧ k < w'.heap.size), ⟨fun k => Fp k ∨ (w.heap.size ≤ k ∧ k < w'.heap.size), Fq, hP'.re hp' (fun k a b => a.imp id (fun c => ⟨c, b⟩)), hQ.fr h2 hf (fun k hk hlt hg => ?_), ?_, ?_⟩, ?_⟩, hf.below (fun k hk => ?_) hbase⟩
  · rcases hg with hg | hg
    · exact h3 k hg hk
    · omega
  · rintro k (a | a) b
    · exact h3 k a b
    · have := (h5 k (h4 k (.inr b))).2; omega
  · rintro k ((a | a) | a)
    · exact .inl (.inl a)
    · exact .inr a
    · exact .inl (.inr a)
  · rintro k ((a | a) | a)
    · have := h5 k (h4 k (.inl a)); exact ⟨this.1, by omega⟩
    · have := h5 k (h4 k (.inr a)); exact ⟨this.1, by omega⟩
    · exact ⟨by omega, a.2⟩
  · rcases hk with hk | hk
    · exact (h5 k (h4 k (.inl hk))).1
    · omega
/-- What is done to the one by a step leaves the other. -/
theorem Stt.turn {base : Nat} {w w' : World} {P P' Q : Asr} (hQ : Asr.Ok Q) (hP' : Asr.Ok P') (h : Stt base w (Star P Q)) (hbase : base ≤ w.heap.size)
    (hstep : ∀ Fp : Nat → Prop, P w Fp → (∀ k, Fp k → k < w.heap.size) → P' w' (fun k => Fp k ∨ w.heap.size ≤ k) ∧ Fr (fun k => Fp k ∨ w.heap.size ≤ k) w w') : Stt base w' (Star P' Q) ∧ Below base w w' := by
  obtain ⟨F, ⟨Fp, Fq, h1, h2, h3, h4⟩, h5⟩ := h
  obtain ⟨hp', hf⟩ := hstep Fp h1 (fun k hk => (h5 k (h4 k (.inl hk))).2)
  exact turn_core hQ hP' h2 h3 h4 h5 hbase hp' hf
/-- An own list whose elements hold no memory. -/
def ListA {α : Type} (d : Kd α) (e : Nat) (v : Value) (xs : List α) : Asr := fun w F => Kd.R d e w 0 F v xs
theorem ListA.ok {α : Type} {d : Kd α} (hE : d.E = []) (e : Nat) (v : Value) (xs : List α) : Asr.Ok (ListA d e v xs) :=
  ⟨fun {w w' F G} h hf hne => Kd.R_reok hE (Kd.R_step (Kd.R_tight hE h) (fun k hk hlt => hf.block k hlt (hne k (h.1 k hk.symm) hlt))) (fun k hk => h.1 k hk), fun {w F F'} h hF => Kd.R_reok hE h (fun k hk => hF k (h.1 k hk) (Kd.R_lt h k hk))⟩
theorem Stt.list {α : Type} {d : Kd α} {e : Nat} (hE : d.E = []) {base : Nat} {w : World} {v : Value} {xs : List α} {Q : Asr} (h : Stt base w (Star (ListA d e v xs) Q)) : Kd.R d e w 0 (fun _ => True) v xs := by
  obtain ⟨F, ⟨Fp, Fq, h1, _⟩, _⟩ := h
  exact Kd.R_mono h1 (fun _ _ => trivial)
theorem ListA.new {α : Type} {d : Kd α} {e : Nat} (hE : d.E = []) {w w1 : World} {v : Value} {xs : List α} (h : Kd.R d e w1 w.heap.size (fun _ => True) v xs) : ListA d e v xs w1 (fun k => w.heap.size ≤ k) := Kd.R_reok hE (Kd.R_lower h (Nat.zero_le _)) (fun k hk => Kd.R_base h k hk)
theorem Stt.listC {α : Type} {d : Kd α} {e : Nat} {base : Nat} {w : World} {A : Option Addr} {n c : Nat} {xs : List α} {Q : Asr} (h : Stt base w (Star (ListA d e (.slice A n c) xs) Q)) : xs.length ≤ c ∧ Kd.C d w A xs.length xs := by
  obtain ⟨F, ⟨Fp, Fq, h1, _⟩, _⟩ := h
  obtain ⟨A', c', ev, hc', hC⟩ := Kd.R_reads h1
  injection ev with e1 e2 e3
  subst e1; subst e3
  exact ⟨hc', hC⟩
/-- It has been written into, or has grown. -/
theorem Stt.lgrow {α : Type} {d : Kd α} {e : Nat} (hE : d.E = []) {base : Nat} {w w1 : World} {v v1 : Value} {xs xs1 : List α} {Q : Asr} (hQ : Asr.Ok Q) (h : Stt base w (Star (ListA d e v xs) Q)) (hbase : base ≤ w.heap.size)
    (hR : Kd.R d e w1 0 (fun _ => True) v1 xs1) (hg : w.grownBy w1 v.ownBlock) (hat : v1.ownBlock = v.ownBlock ∨ ∃ b, v1.ownBlock = some b ∧ w.heap.size ≤ b) : Stt base w1 (Star (ListA d e v1 xs1) Q) ∧ Below base w w1 :=
  h.turn hQ (ListA.ok hE _ _ _) hbase fun Fp hp _ => ⟨Kd.R_reok hE hR (fun k hk => by
    rcases hat with hat | ⟨b, hb, hle⟩
    · exact .inl (hp.1 k (hat ▸ hk))
    · rw [hb] at hk; cases hk; exact .inr hle), Fr.of_grown hg (fun k hk => .inl (hp.1 k hk))⟩
theorem eqraw_l0' (a : List S35) (hl : a.length ≤ 9223372036854775807) : ∀ (d k i : Nat), i + d = a.length → d < k → augurref00_EqRaw.l0 k a a (i : Int) = some true := by
  intro d
  induction d with
  | zero =>
    intro k i hi hk
    obtain ⟨k, rfl⟩ : ∃ m, k = m + 1 := ⟨k - 1, by omega⟩
    simp only [augurref00_EqRaw.l0]
    rw [if_neg (by omega)]
  | succ d ih =>
    intro k i hi hk
    obtain ⟨k, rfl⟩ : ∃ m, k = m + 1 := ⟨k - 1, by omega⟩
    simp only [augurref00_EqRaw.l0]
    rw [if_pos (by omega), if_pos (by omega), if_pos (by omega), if_neg (by simp), IntWalk.wrap64_in _ (by omega), show ((i : Int) + 1) = ((i + 1 : Nat) : Int) by omega]
    exact ih k (i + 1) (by omega) (by omega)
/-- Two equal lists of nodes. -/
theorem eqraw_sameG {w : World} {A0 A1 : Option Addr} {c0 c1 : Nat} {a : List S35} (h0 : Kd.C k35 w A0 a.length a) (hc0 : a.length ≤ c0) (h1 : Kd.C k35 w A1 a.length a) (hc1 : a.length ≤ c1) :
    Calls Try.prog 32 #[.slice A0 a.length c0, .slice A1 a.length c1] w fun e w' => e = .returned (.bool true) ∧ Drawn0 w w' :=
  augurref00_EqRaw.calls _ A0 c0 a A1 c1 a true w h0 hc0 h1 hc1 (by
    unfold augurref00_EqRaw.f
    rw [if_pos rfl]
    have := eqraw_l0' a (Kd.C_max h0) a.length (a.length + 1) 0 (by omega) (by omega)
    simpa using this)
/-- What is done to an index by a call that is handed a list of the same state. -/
theorem append_in {base : Nat} {w : World} {p : Value} {st : Option (Nat × List Int)} {Q : Asr} {A : Option Addr} {c : Nat} {ts : List Int} (hQ : Asr.Ok Q) (h : Stt base w (Star (SlotA p st) (Star (IntsA (.slice A ts.length c) ts) Q))) (hbase : base ≤ w.heap.size)
    (hts : Wf ts) (hl : ((stText st).length + ts.length) * 8 ≤ 140737488355328) :
    Calls Try.prog 19 #[p, .slice A ts.length c] w fun e w' => e = .returned (.tuple #[]) ∧ Stt base w' (Star (SlotA p (stApp ts st)) (Star (IntsA (.slice A ts.length c) ts) Q)) ∧ Below base w w' := by
  obtain ⟨F, ⟨Fp, Fq, h1, h2, h3, h4⟩, h5⟩ := h
  obtain ⟨Fi, Fr', i1, i2, i3, i4⟩ := h2
  obtain ⟨A', c', ev, hc', hC⟩ := Kd.R_reads i1
  injection ev with e1 e2 e3
  subst e1; subst e3
  refine (append_slot (F := fun k => Fp k ∨ w.heap.size ≤ k) (Slot.reF h1 (fun k hk _ => .inl hk)) (fun k hk => .inr hk) hts hC hc' (fun hn ad e hf => ?_) hl).mono ?_
  · subst e
    have hi := i1.1 ad.block rfl
    rcases hf with hf | hf
    · exact h3 _ hf (i4 _ (.inl hi))
    · have := Kd.R_lt i1 ad.block rfl; omega
  rintro e w' ⟨he, hS, hf⟩
  exact ⟨he, turn_core (Star.ok (IntsA.ok _ _) hQ) (SlotA.ok _ _) (Q := Star (IntsA (.slice A ts.length c) ts) Q) ⟨Fi, Fr', i1, i2, i3, i4⟩ h3 h4 h5 hbase hS hf⟩
/-- A list, and another name's, which may still lie over it. -/
def WideA (vin : Value) (ins : List Int) (v : Value) (xs : List Int) : Asr := fun w F => Kd.R (Kd.int .i64) 3 w 0 F vin ins ∧ Kd.R (Kd.int .i64) 3 w 0 F v xs ∧
  ((∃ A c m, vin = .slice A ins.length c ∧ v = .slice A m c ∧ xs.take ins.length = ins ∧ ins.length ≤ m) ∨ ∀ k, v.ownBlock = some k → vin.ownBlock ≠ some k)
theorem WideA.ok (vin : Value) (ins : List Int) (v : Value) (xs : List Int) : Asr.Ok (WideA vin ins v xs) :=
  ⟨fun ⟨h1, h2, h3⟩ hf hne => ⟨(IntsA.ok _ _).fr h1 hf hne, (IntsA.ok _ _).fr h2 hf hne, h3⟩, fun ⟨h1, h2, h3⟩ hF => ⟨(IntsA.ok _ _).re h1 hF, (IntsA.ok _ _).re h2 hF, h3⟩⟩
theorem WideA.start {w : World} {F : Nat → Prop} {v : Value} {xs : List Int} (h : IntsA v xs w F) : WideA v xs v xs w F := by
  obtain ⟨A, c, rfl, hc, hC⟩ := Kd.R_reads h
  exact ⟨h, h, .inl ⟨A, c, _, rfl, rfl, List.take_length, Nat.le_refl _⟩⟩
theorem Stt.wide {base : Nat} {w : World} {vin v : Value} {ins xs : List Int} {Q : Asr} (h : Stt base w (Star (WideA vin ins v xs) Q)) : Kd.R (Kd.int .i64) 3 w 0 (fun _ => True) v xs := by
  obtain ⟨F, ⟨Fp, Fq, h1, _⟩, _⟩ := h
  exact Kd.R_mono h1.2.1 (fun _ _ => trivial)
theorem Stt.wgrow {base : Nat} {w w1 : World} {vin v v1 : Value} {ins xs : List Int} {p : Int} {Q : Asr} (hQ : Asr.Ok Q) (h : Stt base w (Star (WideA vin ins v xs) Q)) (hbase : base ≤ w.heap.size)
    (hR : Kd.R (Kd.int .i64) 3 w1 0 (fun _ => True) v1 (xs ++ [p])) (hg : w.grownBy w1 v.ownBlock) (hat : (∃ (ad : Addr) (c : Nat), v = .slice (some ad) xs.length c ∧ v1 = .slice (some ad) (xs.length + 1) c) ∨ (w.grownBy w1 none ∧ ∀ k, v1.ownBlock = some k → w.heap.size ≤ k)) :
    Stt base w1 (Star (WideA vin ins v1 (xs ++ [p])) Q) ∧ Below base w w1 :=
  h.turn hQ (WideA.ok _ _ _ _) hbase fun Fp hp hlt => by
    obtain ⟨h1, h2, h3⟩ := hp
    have hfr : Fr (fun k => Fp k ∨ w.heap.size ≤ k) w w1 := Fr.of_grown hg (fun k hk => .inl (h2.1 k hk))
    rcases hat with ⟨ad, c, rfl, rfl⟩ | ⟨hn, hk⟩
    · refine ⟨⟨?_, Kd.R_reok rfl hR (fun k hk => .inl (h2.1 k (by exact hk))), ?_⟩, hfr⟩
      · rcases h3 with ⟨A', c', m, rfl, e, ht, hm⟩ | h3
        · injection e with e1 e2 e3
          subst e1; subst e3; subst e2
          have hl : ins.length ≤ (xs ++ [p]).length := by rw [List.length_append]; omega
          have hT := Kd.R_take hR hl
          rw [List.take_append_of_le_length hm, ht] at hT
          exact Kd.R_reok rfl hT (fun k hk => .inl (h1.1 k hk))
        · exact Kd.R_mono (Kd.R_grown1 h1 rfl hg (fun e => h3 ad.block rfl e.symm)) (fun k hk => .inl hk)
      · rcases h3 with ⟨A', c', m, rfl, e, ht, hm⟩ | h3
        · injection e with e1 e2 e3
          subst e1; subst e3; subst e2
          exact .inl ⟨_, _, _, rfl, rfl, by rw [List.take_append_of_le_length hm]; exact ht, by omega⟩
        · exact .inr (fun k hk => h3 k (by exact hk))
    · refine ⟨⟨Kd.R_mono (Kd.R_grown h1 hn (fun k _ e => by cases e)) (fun k hk => .inl hk), Kd.R_reok rfl hR (fun k hk' => .inr (hk k hk')), .inr (fun k hk' e => ?_)⟩, hfr⟩
      have := Kd.R_lt h1 k e
      have := hk k hk'
      omega
/-- One number more, plainly: written into the room behind, or into a new row. -/
theorem appWide {ops : Array Oper} {rest : List Oper} {o : Oper} {a : Act} {Q : Exit → Act → World → Prop} {W : World} (hgd : o.guard = none) (s x : Operand)
    (ho : o.op = .call { callee := .builtin .append, args := #[s, x], argTypes := #[22, 22] }) (v : Value) (xs : List Int) (p : Int) (hs : a.eval s = v) (hx : a.eval x = .slice (some ⟨W.heap.size, 0, none⟩) 1 1)
    (HO : Kd.R (Kd.int .i64) 3 W 0 (fun _ => True) v xs) (hl : (xs.length + 1) * 8 ≤ 140737488355328)
    (h : ∀ v1 w1, Kd.R (Kd.int .i64) 3 w1 0 (fun _ => True) v1 (xs ++ [p]) → W.grownBy w1 v.ownBlock → ((∃ (ad : Addr) (c : Nat), v = .slice (some ad) xs.length c ∧ v1 = .slice (some ad) (xs.length + 1) c) ∨ (W.grownBy w1 none ∧ ∀ k, v1.ownBlock = some k → W.heap.size ≤ k)) → wpList Try.prog ops Q rest (a.put o.dst v1) w1) :
    wpList Try.prog ops Q (o :: rest) a (W.alloc (.cells #[.int .i64 p] 3 (0, 0))) := by
  obtain ⟨i0, hi, hz0, hz1, hz2⟩ := info_parts info3
  have hrow0 := Kd.own_of_R HO
  have hrow := Kd.own_of_R (Kd.R_below HO (below_alloc (Below.refl _ _) (.cells #[.int .i64 p] 3 (0, 0))))
  have hg1 : ∀ {w' : World} {row : Option Nat}, (W.alloc (.cells #[.int .i64 p] 3 (0, 0))).grownBy w' row → W.grownBy w' row := fun hgrow => ⟨hgrow.os, hgrow.tape, hgrow.output, by have := hgrow.size; simp at this; omega, fun k hk hn => (hgrow.block k (by simp; omega) hn).trans (Below.heap_alloc W _ k hk)⟩
  have hR : ∀ {w' : World} {v' : Value} {b : Nat}, w'.ownsRow b 3 1 v' (xs.length + 1) (encs (fun x => Value.int .i64 x) xs ++ [.int .i64 p]) → Kd.R (Kd.int .i64) 3 w' 0 (fun _ => True) v' (xs ++ [p]) := fun hown => Kd.R_of_own (by rw [encs_append, List.length_append]; exact own_weaken hown (Nat.zero_le _)) (fun _ _ => trivial)
  have hmax : xs.length + 1 ≤ maxLen := Nat.le_trans (show _ ≤ 17592186044416 by omega) (by decide)
  rcases hrow.2 with ⟨hv, hn⟩ | ⟨g, cap, cur, hv, hb, hh, hnc, hcm, hcs, hct⟩
  · subst hv
    refine wpList_append_grows _ hgd s x 22 ho 3 i0 (.int .i64 0) 1 8 Try.underlying22 hi hz0 hz1 hz2 rfl (by decide) none xs.length 0 _ (by rw [hs, hn]) (fun _ => ⟨hn, rfl⟩) hrow.1 (fun b e => by cases e) ⟨W.heap.size, 0, none⟩ 1 1 [.int .i64 p] hx rfl (cell_one_new _ _ _) (by simp [Value.oneCell']) (by omega) hmax hl ?_
    intro v' w' h1 h2
    refine h v' w' (hR h1) (hg1 h2) (.inr ⟨hg1 h2, fun k hk => ?_⟩)
    have := own_base h1 k hk
    simp at this
    omega
  · subst hv
    by_cases hr : xs.length + 1 ≤ cap
    · refine wpList_append_fits _ hgd s x 22 ho 0 3 i0 1 Try.underlying22 hi hz1 g xs.length cap _ hs hrow ⟨W.heap.size, 0, none⟩ 1 1 [.int .i64 p] hx rfl (cell_one_new _ _ _) (by simp [Value.oneCell']) hr ?_
      intro w' h1 h2
      exact h _ w' (hR h1) (hg1 h2) (.inl ⟨_, _, rfl, rfl⟩)
    · have hreads := Kd.own_of_R HO
      refine wpList_append_grows _ hgd s x 22 ho 3 i0 (.int .i64 0) 1 8 Try.underlying22 hi hz0 hz1 hz2 rfl (by decide) (some ⟨g, 0, none⟩) xs.length cap _ hs (fun e => by cases e) hrow.1 (fun b e j u hj => ?_) ⟨W.heap.size, 0, none⟩ 1 1 [.int .i64 p] hx rfl (cell_one_new _ _ _) (by simp [Value.oneCell']) (by omega) hmax hl ?_
      · cases e
        rw [Addr.add_lit, cell_of_row _ g _ cur 3 (0, 0) hh]
        rw [← hct, List.getElem?_take] at hj
        split at hj
        · rw [Nat.zero_add, ← Array.getElem?_toList]; exact hj
        · cases hj
      · intro v' w' h1 h2
        have h3 := hg1 h2
        refine h v' w' (hR h1) ⟨h3.os, h3.tape, h3.output, h3.size, fun k hk _ => h3.block k hk (fun e => by cases e)⟩ (.inr ⟨h3, fun k hk => ?_⟩)
        have := own_base h1 k hk
        simp at this
        omega
end Go.Proofs.Ytjeofkobefeigaa.Wk
