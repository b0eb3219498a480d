/- Several things in memory, each with blocks of its own: what is done to one leaves the others. -/
import Derived.Test.YtjeofkobefeigaaBg
set_option linter.unusedVariables false
set_option linter.unusedSimpArgs false
namespace Go.Proofs.Ytjeofkobefeigaa.Wk
open Go.RowKit Go.Shelf Go.Proofs.YtjeofkobefeigaaW.PrintWords Go.Proofs.YtjeofkobefeigaaW.PrintLast Go.Proofs.YtjeofkobefeigaaW.PrintMore Go.Proofs.Ytjeofkobefeigaa.Mp Go.Proofs.Ytjeofkobefeigaa.PEqRaw

/-- What is said of a world and of the blocks that it is said about. -/
abbrev Asr : Type := World → (Nat → Prop) → Prop
structure Asr.Ok (P : Asr) : Prop where
  fr : ∀ {w w' : World} {F G : Nat → Prop}, P w F → Fr G w w' → (∀ k, F k → k < w.heap.size → ¬ G k) → P w' F
  re : ∀ {w : World} {F F' : Nat → Prop}, P w F → (∀ k, F k → k < w.heap.size → F' k) → P w F'
def Emp : Asr := fun _ _ => True
theorem Emp.ok : Asr.Ok Emp := ⟨fun _ _ _ => trivial, fun _ _ => trivial⟩
def Star (P Q : Asr) : Asr := fun w F => ∃ Fp Fq : Nat → Prop, P w Fp ∧ Q w Fq ∧ (∀ k, Fp k → ¬ Fq k) ∧ (∀ k, Fp k ∨ Fq k → F k)
theorem Star.ok {P Q : Asr} (hP : Asr.Ok P) (hQ : Asr.Ok Q) : Asr.Ok (Star P Q) :=
  ⟨fun ⟨Fp, Fq, h1, h2, h3, h4⟩ hf hne => ⟨Fp, Fq, hP.fr h1 hf (fun k hk => hne k (h4 k (.inl hk))), hQ.fr h2 hf (fun k hk => hne k (h4 k (.inr hk))), h3, h4⟩,
   fun {w F F'} ⟨Fp, Fq, h1, h2, h3, h4⟩ hF => ⟨fun k => Fp k ∧ k < w.heap.size, fun k => Fq k ∧ k < w.heap.size, hP.re h1 (fun k a b => ⟨a, b⟩), hQ.re h2 (fun k a b => ⟨a, b⟩), fun k a b => h3 k a.1 b.1, fun k hk => by
      rcases hk with hk | hk
      · exact hF k (h4 k (.inl hk.1)) hk.2
      · exact hF k (h4 k (.inr hk.1)) hk.2⟩⟩
theorem Star.comm {P Q : Asr} {w : World} {F : Nat → Prop} (h : Star P Q w F) : Star Q P w F := by
  obtain ⟨Fp, Fq, h1, h2, h3, h4⟩ := h
  exact ⟨Fq, Fp, h2, h1, fun k a b => h3 k b a, fun k hk => h4 k hk.symm⟩
theorem Star.assoc {P Q R : Asr} {w : World} {F : Nat → Prop} (h : Star (Star P Q) R w F) : Star P (Star Q R) w F := by
  obtain ⟨Fpq, Fr, ⟨Fp, Fq, h1, h2, h3, h4⟩, h5, h6, h7⟩ := h
  refine ⟨Fp, fun k => Fq k ∨ Fr k, h1, ⟨Fq, Fr, h2, h5, fun k a b => h6 k (h4 k (.inr a)) b, fun k h => h⟩, fun k a b => ?_, fun k h => ?_⟩
  · rcases b with b | b
    · exact h3 k a b
    · exact h6 k (h4 k (.inl a)) b
  · rcases h with h | h | h
    · exact h7 k (.inl (h4 k (.inl h)))
    · exact h7 k (.inl (h4 k (.inr h)))
    · exact h7 k (.inr h)
theorem Star.assoc' {P Q R : Asr} {w : World} {F : Nat → Prop} (h : Star P (Star Q R) w F) : Star (Star P Q) R w F := by
  obtain ⟨Fp, Fqr, h1, ⟨Fq, Fr, h2, h3, h4, h5⟩, h6, h7⟩ := h
  refine ⟨fun k => Fp k ∨ Fq k, Fr, ⟨Fp, Fq, h1, h2, fun k a b => h6 k a (h5 k (.inl b)), fun k h => h⟩, h3, fun k a b => ?_, fun k h => ?_⟩
  · rcases a with a | a
    · exact h6 k a (h5 k (.inr b))
    · exact h4 k a b
  · rcases h with (h | h) | h
    · exact h7 k (.inl h)
    · exact h7 k (.inr (h5 k (.inl h)))
    · exact h7 k (.inr (h5 k (.inr h)))
/-- The second and the first change places. -/
theorem Star.swap {P Q R : Asr} {w : World} {F : Nat → Prop} (h : Star P (Star Q R) w F) : Star Q (Star P R) w F := by
  obtain ⟨Fpq, Fr, h1, h2, h3, h4⟩ := h.assoc'
  exact Star.assoc ⟨Fpq, Fr, h1.comm, h2, h3, h4⟩
/-- All of it lies in blocks from base on. -/
def Stt (base : Nat) (w : World) (P : Asr) : Prop := ∃ F, P w F ∧ ∀ k, F k → base ≤ k ∧ k < w.heap.size
theorem Stt.imp {base : Nat} {w : World} {P Q : Asr} (h : Stt base w P) (hPQ : ∀ F, P w F → Q w F) : Stt base w Q := by
  obtain ⟨F, h1, h2⟩ := h
  exact ⟨F, hPQ F h1, h2⟩
theorem fr_below {w w' : World} (hb : Below w.heap.size w w') : Fr (fun k => w.heap.size ≤ k) w w' := ⟨hb.os, hb.tape, hb.output, hb.size, fun i hi _ => hb.block i hi⟩
theorem Stt.below {base : Nat} {w w' : World} {P : Asr} (hP : Asr.Ok P) (h : Stt base w P) (hb : Below w.heap.size w w') : Stt base w' P := by
  obtain ⟨F, h1, h2⟩ := h
  exact ⟨F, hP.fr h1 (fr_below hb) (fun k _ hk hg => by omega), fun k hk => ⟨(h2 k hk).1, Nat.lt_of_lt_of_le (h2 k hk).2 hb.size⟩⟩
theorem Stt.emp {base : Nat} {w : World} : Stt base w Emp := ⟨fun _ => False, trivial, fun _ h => h.elim⟩
/-- Something new beside what is there. -/
theorem Stt.add {base : Nat} {w w1 w2 : World} {P Q : Asr} (hP : Asr.Ok P) (hQ : Asr.Ok Q) (h : Stt base w Q) (hb : Below w.heap.size w w1) (hbase : base ≤ w.heap.size) (hb2 : Below w1.heap.size w1 w2) (hp : P w2 (fun k => w1.heap.size ≤ k)) : Stt base w2 (Star P Q) := by
  obtain ⟨F, h1, h2⟩ := h.below hQ (hb.trans (hb2.mono hb.size))
  obtain ⟨F0, h3, h4⟩ := h
  refine ⟨fun k => (w1.heap.size ≤ k ∧ k < w2.heap.size) ∨ F0 k, ⟨fun k => w1.heap.size ≤ k ∧ k < w2.heap.size, F0, hP.re hp (fun k a b => ⟨a, b⟩), hQ.fr h3 (fr_below (hb.trans (hb2.mono hb.size))) (fun k _ hk hg => by omega), fun k a b => ?_, fun k h => h⟩, fun k hk => ?_⟩
  · have := (h4 k b).2
    have := hb.size
    omega
  · rcases hk with hk | hk
    · exact ⟨Nat.le_trans (Nat.le_trans hbase hb.size) hk.1, hk.2⟩
    · have := h4 k hk
      exact ⟨this.1, Nat.lt_of_lt_of_le this.2 (Nat.le_trans hb.size hb2.size)⟩
/-- What is done to the one leaves the other. -/
theorem Stt.frame {base : Nat} {w w1 : World} {P P' Q : Asr} {f : FuncId} {args : Array Value} {Post : Ending → Prop} (hP : Asr.Ok P) (hP' : Asr.Ok P') (hQ : Asr.Ok Q) (h : Stt base w (Star P Q)) (hb : Below w.heap.size w w1) (hbase : base ≤ w.heap.size)
    (hop : ∀ F : Nat → Prop, P w1 F → (∀ k, w1.heap.size ≤ k → F k) → (∀ k, F k → (base ≤ k ∧ k < w.heap.size) ∨ w1.heap.size ≤ k) → Calls Try.prog f args w1 fun e w' => Post e ∧ P' w' F ∧ Fr F w1 w') :
    Calls Try.prog f args w1 fun e w' => Post e ∧ Stt base w' (Star P' Q) ∧ Below base w1 w' := by
  obtain ⟨F, ⟨Fp, Fq, h1, h2, h3, h4⟩, h5⟩ := h
  have hp1 := hP.fr h1 (fr_below hb) (fun k _ hk hg => by omega)
  have hq1 := hQ.fr h2 (fr_below hb) (fun k _ hk hg => by omega)
  have hsz := hb.size
  refine (hop (fun k => (Fp k ∧ k < w.heap.size) ∨ w1.heap.size ≤ k) (hP.re hp1 (fun k a b => .inl ⟨a, (h5 k (h4 k (.inl a))).2⟩)) (fun k hk => .inr hk) (fun k hk => hk.imp (fun a => ⟨(h5 k (h4 k (.inl a.1))).1, a.2⟩) id)).mono ?_
  rintro e w' ⟨he, hp', hf⟩
  refine ⟨he, ⟨fun k => ((Fp k ∨ Fq k) ∧ k < w.heap.size) ∨ (w1.heap.size ≤ k ∧ k < w'.heap.size), ⟨fun k => (Fp k ∧ k < w.heap.size) ∨ (w1.heap.size ≤ k ∧ k < w'.heap.size), fun k => Fq k ∧ k < w.heap.size, hP'.re hp' (fun k a b => a.imp id (fun c => ⟨c, b⟩)), ?_, ?_, ?_⟩, ?_⟩, hf.below (fun k hk => ?_) (by omega)⟩
  · refine hQ.fr (hQ.re hq1 (F' := fun k => Fq k ∧ k < w.heap.size) (fun k a b => ⟨a, (h5 k (h4 k (.inr a))).2⟩)) hf (fun k hk _ hg => ?_)
    rcases hg with hg | hg
    · exact h3 k hg.1 hk.1
    · omega
  · rintro k (a | a) b
    · exact h3 k a.1 b.1
    · omega
  · rintro k ((a | a) | a)
    · exact .inl ⟨.inl a.1, a.2⟩
    · exact .inr a
    · exact .inl ⟨.inr a.1, a.2⟩
  · rintro k (⟨a | a, b⟩ | a)
    · have := hf.size; exact ⟨(h5 k (h4 k (.inl a))).1, by omega⟩
    · have := hf.size; exact ⟨(h5 k (h4 k (.inr a))).1, by omega⟩
    · exact ⟨by omega, a.2⟩
  · rcases hk with hk | hk
    · exact (h5 k (h4 k (.inl hk.1))).1
    · omega
/-- An index or none. -/
def SlotA (p : Value) (st : Option (Nat × List Int)) : Asr := fun w F => Slot w F p st
theorem SlotA.ok (p : Value) (st : Option (Nat × List Int)) : Asr.Ok (SlotA p st) := ⟨fun h hf hne => Slot.fr h hf hne, fun h hF => Slot.reF h hF⟩
/-- An own list of numbers. -/
def IntsA (v : Value) (xs : List Int) : Asr := fun w F => Kd.R (Kd.int .i64) 3 w 0 F v xs
theorem IntsA.ok (v : Value) (xs : List Int) : Asr.Ok (IntsA v xs) := ⟨fun {w w' F G} h hf hne => R_fr h hf (fun k hk => hne k (h.1 k hk) (Kd.R_lt h k hk)), fun h hF => R_reF h hF⟩
/-- Does a block lie ahead of base, or was it made since w? -/
def Away (base : Nat) (w w1 : World) (A : Option Addr) : Prop := ∀ ad, A = some ad → (ad.block < base ∨ w.heap.size ≤ ad.block) ∧ ad.block < w1.heap.size
theorem append_fr {base : Nat} {w w1 : World} {p : Value} {st : Option (Nat × List Int)} {Q : Asr} {A : Option Addr} {c : Nat} {ts : List Int} (hQ : Asr.Ok Q) (h : Stt base w (Star (SlotA p st) Q)) (hb : Below w.heap.size w w1) (hbase : base ≤ w.heap.size)
    (hts : Wf ts) (hC : Kd.C (Kd.int .i64) w1 A ts.length ts) (hc : ts.length ≤ c) (hA : ts ≠ [] → Away base w w1 A) (hl : ((stText st).length + ts.length) * 8 ≤ 140737488355328) :
    Calls Try.prog 19 #[p, .slice A ts.length c] w1 fun e w' => e = .returned (.tuple #[]) ∧ Stt base w' (Star (SlotA p (stApp ts st)) Q) ∧ Below base w1 w' :=
  Stt.frame (SlotA.ok _ _) (SlotA.ok _ _) hQ h hb hbase fun F hp h1 h2 => append_slot hp h1 hts hC hc (fun hn ad e hf => by
    obtain ⟨a, b⟩ := hA hn ad e
    rcases h2 _ hf with h2 | h2 <;> omega) hl
theorem cut_fr {base : Nat} {w w1 : World} {p : Value} {st : Option (Nat × List Int)} {Q : Asr} {n : Int} (hQ : Asr.Ok Q) (h : Stt base w (Star (SlotA p st) Q)) (hb : Below w.heap.size w w1) (hbase : base ≤ w.heap.size) :
    Calls Try.prog 26 #[p, .int .i64 n] w1 fun e w' => e = .returned (.tuple #[]) ∧ Stt base w' (Star (SlotA p (stCut n st)) Q) ∧ Below base w1 w' :=
  Stt.frame (SlotA.ok _ _) (SlotA.ok _ _) hQ h hb hbase fun F hp h1 _ => cut_slot hp h1
theorem Stt.slot {base : Nat} {w : World} {p : Value} {st : Option (Nat × List Int)} {Q : Asr} (h : Stt base w (Star (SlotA p st) Q)) : ∃ F, Slot w F p st := by
  obtain ⟨F, ⟨Fp, Fq, h1, _⟩, _⟩ := h
  exact ⟨Fp, h1⟩
end Go.Proofs.Ytjeofkobefeigaa.Wk
