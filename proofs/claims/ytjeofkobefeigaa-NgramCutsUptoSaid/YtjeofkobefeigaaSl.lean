/- An index or none, as a law holds it: what each of its methods does to it. -/
import Derived.Test.YtjeofkobefeigaaCu
import Derived.Test.YtjeofkobefeigaaPr
import Derived.Test.YtjeofkobefeigaaNw
set_option linter.unusedVariables false
set_option linter.unusedSimpArgs false
namespace Go.Proofs.Ytjeofkobefeigaa.Wk
open Go.RowKit Go.Shelf Go.Proofs.YtjeofkobefeigaaW.PrintWords Go.Proofs.YtjeofkobefeigaaW.PrintLast Go.Proofs.YtjeofkobefeigaaW.PrintMore Go.Proofs.Ytjeofkobefeigaa.Mp Go.Proofs.Ytjeofkobefeigaa.PEqRaw
open Go.ChangeMaps (setBlock)

theorem Idx.fr {w w1 : World} {F G : Nat → Prop} {B m : Nat} {most : Int} {t : List Int} {O : List Int → List Int} (h : Idx w F B m most t O) (hf : Fr G w w1) (hne : ∀ k, F k → k < w.heap.size → ¬ G k) : Idx w1 F B m most t O := by
  obtain ⟨⟨tv, es, clock, h1, h2, h3, h4, h5⟩, fB, fm⟩ := h
  refine ⟨⟨tv, es, clock, (hf.block B (blk_lt h1) (hne B fB (blk_lt h1))).trans h1, R_fr h2 hf (fun k hk => hne k (h2.1 k hk) (Kd.R_lt h2 k hk)), (hf.block m (blk_lt h3) (hne m fm (blk_lt h3))).trans h3, h4, h5.fr hf (fun e he k hk => ?_)⟩, fB, fm⟩
  obtain ⟨j, hj⟩ := List.mem_iff_getElem?.1 he
  obtain ⟨g, _, _, hR⟩ := h5.row j e hj
  exact hne k (hR.1 k hk) (Kd.R_lt hR k hk)
theorem R_reF {w : World} {F F' : Nat → Prop} {v : Value} {xs : List Int} (h : Kd.R (Kd.int .i64) 3 w 0 F v xs) (hok : ∀ k, F k → k < w.heap.size → F' k) : Kd.R (Kd.int .i64) 3 w 0 F' v xs :=
  Kd.R_reok rfl h (fun k hk => hok k (h.1 k hk) (Kd.R_lt h k hk))
theorem Idx.reF {w : World} {F F' : Nat → Prop} {B m : Nat} {most : Int} {t : List Int} {O : List Int → List Int} (h : Idx w F B m most t O) (hF : ∀ k, F k → k < w.heap.size → F' k) : Idx w F' B m most t O := by
  obtain ⟨⟨tv, es, clock, h1, h2, h3, h4, h5⟩, fB, fm⟩ := h
  exact ⟨⟨tv, es, clock, h1, R_reF h2 hF, h3, h4, ⟨fun j e he => by obtain ⟨g, a1, a2, a3⟩ := h5.row j e he; exact ⟨g, a1, a2, R_reF a3 hF⟩, h5.none, h5.keys, h5.apart, h5.text⟩⟩, hF B fB (blk_lt h1), hF m fm (blk_lt h3)⟩
/-- Numbers of 64 bits. -/
def Wf (t : List Int) : Prop := ∀ x ∈ t, (Lit.int .i64 x).wf = true
theorem Wf.app {a b : List Int} (h : Wf a) (k : Wf b) : Wf (a ++ b) := fun x hx => (List.mem_append.1 hx).elim (h x) (k x)
theorem Wf.take {a : List Int} (h : Wf a) (n : Nat) : Wf (a.take n) := fun x hx => h x (List.mem_of_mem_take hx)
/-- What a law holds: no index, or an index of runs of up to so many tokens over a text. -/
def Slot (w : World) (F : Nat → Prop) (p : Value) : Option (Nat × List Int) → Prop
  | none => p = .pointer none
  | some (most, t) => ∃ B m, p = .pointer (some ⟨B, 0, none⟩) ∧ Idx w F B m most t (ocM most t) ∧ 1 ≤ most ∧ most ≤ 4 ∧ Wf t
def stText : Option (Nat × List Int) → List Int
  | none => []
  | some (_, t) => t
def stPl : Option (Nat × List Int) → List Int
  | none => []
  | some (most, t) => placesL most t
def stPr (st : Option (Nat × List Int)) (ways deep : Int) : List S35 := proposeL (stText st) deep ((stPl st).reverse.take ways.toNat)
theorem Slot.fr {w w1 : World} {F G : Nat → Prop} {p : Value} {st : Option (Nat × List Int)} (h : Slot w F p st) (hf : Fr G w w1) (hne : ∀ k, F k → k < w.heap.size → ¬ G k) : Slot w1 F p st := by
  cases st with
  | none => exact h
  | some s => obtain ⟨B, m, h1, h2, h3⟩ := h; exact ⟨B, m, h1, h2.fr hf hne, h3⟩
theorem Slot.below {w w1 : World} {F : Nat → Prop} {p : Value} {st : Option (Nat × List Int)} (h : Slot w F p st) (hb : Below w.heap.size w w1) : Slot w1 F p st := by
  cases st with
  | none => exact h
  | some s => obtain ⟨B, m, h1, h2, h3⟩ := h; exact ⟨B, m, h1, h2.below hb, h3⟩
theorem Slot.reF {w : World} {F F' : Nat → Prop} {p : Value} {st : Option (Nat × List Int)} (h : Slot w F p st) (hF : ∀ k, F k → k < w.heap.size → F' k) : Slot w F' p st := by
  cases st with
  | none => exact h
  | some s => obtain ⟨B, m, h1, h2, h3⟩ := h; exact ⟨B, m, h1, h2.reF hF, h3⟩
theorem Slot.ptr {w : World} {F : Nat → Prop} {p : Value} {st : Option (Nat × List Int)} (h : Slot w F p st) : ∃ q, p = .pointer q := by
  cases st with
  | none => exact ⟨_, h⟩
  | some s => obtain ⟨B, m, h1, _⟩ := h; exact ⟨_, h1⟩
theorem placesN_mem {t : List Int} : ∀ {n : Nat} {x : Int}, x ∈ placesN t n → ∃ p : Nat, x = p ∧ p ≤ t.length
  | 0, x, h => by simp [placesN] at h
  | n + 1, x, h => by
    unfold placesN at h
    split at h
    · obtain ⟨q, h1, _, h3, _⟩ := occ_mem (List.mem_of_mem_take h)
      exact ⟨q, h1, h3⟩
    · exact placesN_mem h
theorem placesN_length {t : List Int} : ∀ {n : Nat}, (placesN t n).length ≤ t.length
  | 0 => by simp [placesN]
  | n + 1 => by
    unfold placesN
    split
    · rw [List.length_take]
      have := occ_length t (gramAt t t.length (n + 1))
      omega
    · exact placesN_length
theorem stPl_mem {st : Option (Nat × List Int)} {x : Int} (h : x ∈ stPl st) : ∃ p : Nat, x = p ∧ p ≤ (stText st).length := by
  cases st with
  | none => simp [stPl] at h
  | some s => exact placesN_mem h
theorem stPl_length (st : Option (Nat × List Int)) : (stPl st).length ≤ (stText st).length := by
  cases st with
  | none => simp [stPl]
  | some s => exact placesN_length
theorem inner_slot {w : World} {F : Nat → Prop} {q : Option Addr} {st : Option (Nat × List Int)} (h : Slot w F (.pointer q) st) (hl : (stText st).length * 8 ≤ 140737488355328) :
    Calls Try.prog 39 #[.pointer q] w fun e w' => ∃ v, e = .returned v ∧ Kd.R (Kd.int .i64) 3 w' w.heap.size (fun _ => True) v (stPl st) ∧ Below w.heap.size w w' := by
  cases st with
  | none =>
    injection (show Value.pointer q = .pointer none from h) with h
    subst h
    refine (inner_none w).mono ?_
    rintro e w' ⟨rfl, rfl⟩
    exact ⟨_, rfl, Kd.R_nil _ _ _ _ _, Below.refl _ _⟩
  | some s =>
    obtain ⟨B, m, h1, h2, h3, h4, h5⟩ := h
    injection h1 with h1
    subst h1
    exact inner_calls w h2 h4 h5 hl
/-- augurlaw13's places, on whatever a law holds. -/
theorem places_slot {w : World} {F : Nat → Prop} {p : Value} {st : Option (Nat × List Int)} {most : Int} (h : Slot w F p st) (hl : (stText st).length * 8 ≤ 140737488355328) :
    Calls Try.prog 14 #[p, .int .i64 most] w fun e w' => ∃ v, e = .returned v ∧ Kd.R (Kd.int .i64) 3 w' w.heap.size (fun _ => True) v (firstL (stPl st).reverse most) ∧ Below w.heap.size w w' := by
  obtain ⟨q, rfl⟩ := h.ptr
  exact lawplaces_calls w q (fun W hb => inner_slot (h.below hb) hl) (by have := stPl_length st; omega)
theorem propose_slot {w : World} {F : Nat → Prop} {p : Value} {st : Option (Nat × List Int)} {ways deep : Int} (h : Slot w F p st) (hl : (stText st).length * 8 ≤ 140737488355328) (hw : ways ≤ 9223372036854775807) :
    Calls Try.prog 18 #[p, .int .i64 ways, .int .i64 deep] w fun e w' => ∃ v, e = .returned v ∧ k35.R 35 w' w.heap.size (fun _ => True) v (stPr st ways deep) ∧ Below w.heap.size w w' := by
  obtain ⟨q, rfl⟩ := h.ptr
  refine propose_calls w q (fun W hb => inner_slot (h.below hb) hl) (fun x hx => stPl_mem hx) ?_ hw (by omega)
  intro hne
  cases st with
  | none => exact absurd rfl hne
  | some s =>
    obtain ⟨B, m, h1, h2, h3, h4, h5⟩ := h
    injection h1 with h1
    obtain ⟨tv, es, clock, hE⟩ := h2.open
    obtain ⟨At, ct, eAt, hct, hCt⟩ := Kd.R_reads hE.text
    subst eAt
    exact ⟨B, m, _, At, ct, h1, hE.box, hCt, hct⟩
theorem len_slot {w : World} {F : Nat → Prop} {p : Value} {st : Option (Nat × List Int)} (h : Slot w F p st) : Calls Try.prog 17 #[p] w fun e w' => e = .returned (.int .i64 (stText st).length) ∧ w = w' := by
  cases st with
  | none =>
    obtain rfl : p = .pointer none := h
    exact (len_none w).mono fun e w' h => ⟨h.1, h.2.symm⟩
  | some s =>
    obtain ⟨B, m, rfl, h2, _⟩ := h
    exact (len_calls w h2).mono fun e w' h => ⟨h.1, h.2.symm⟩
theorem append_none (w : World) (v : Value) : Calls Try.prog 19 #[.pointer none, v] w fun e w' => e = .returned (.tuple #[]) ∧ w' = w := by
  go_enter Try.func19, Try.ntmps19
  go_wp2
  exact bodyPost_ret (results_none rfl _ _ _) rfl ⟨rfl, rfl⟩
theorem cut_none (w : World) (v : Value) : Calls Try.prog 26 #[.pointer none, v] w fun e w' => e = .returned (.tuple #[]) ∧ w' = w := by
  go_enter Try.func26, Try.ntmps26
  go_wp2
  exact bodyPost_ret (results_none rfl _ _ _) rfl ⟨rfl, rfl⟩
def stApp (ts : List Int) : Option (Nat × List Int) → Option (Nat × List Int)
  | none => none
  | some (most, t) => some (most, t ++ ts)
def stCut (n : Int) : Option (Nat × List Int) → Option (Nat × List Int)
  | none => none
  | some (most, t) => some (most, t.take n.toNat)
theorem append_slot {w : World} {F : Nat → Prop} {p : Value} {st : Option (Nat × List Int)} {A : Option Addr} {c : Nat} {ts : List Int} (h : Slot w F p st) (hF : ∀ k, w.heap.size ≤ k → F k) (hts : Wf ts) (hC : Kd.C (Kd.int .i64) w A ts.length ts) (hc : ts.length ≤ c) (hA : ts ≠ [] → ∀ ad, A = some ad → ¬ F ad.block)
    (hl : ((stText st).length + ts.length) * 8 ≤ 140737488355328) :
    Calls Try.prog 19 #[p, .slice A ts.length c] w fun e w' => e = .returned (.tuple #[]) ∧ Slot w' F p (stApp ts st) ∧ Fr F w w' := by
  cases st with
  | none =>
    obtain rfl : p = .pointer none := h
    refine (append_none w _).mono ?_
    rintro e w' ⟨rfl, rfl⟩
    exact ⟨rfl, rfl, Fr.refl _ _⟩
  | some s =>
    obtain ⟨B, m, rfl, h2, h3, h4, h5⟩ := h
    exact (append_calls w hF h2 h3 h4 h5 hts hC hc hA hl).mono fun e w' h => ⟨h.1, ⟨B, m, rfl, h.2.1, h3, h4, Wf.app h5 hts⟩, h.2.2⟩
theorem cut_slot {w : World} {F : Nat → Prop} {p : Value} {st : Option (Nat × List Int)} {n : Int} (h : Slot w F p st) (hF : ∀ k, w.heap.size ≤ k → F k) :
    Calls Try.prog 26 #[p, .int .i64 n] w fun e w' => e = .returned (.tuple #[]) ∧ Slot w' F p (stCut n st) ∧ Fr F w w' := by
  cases st with
  | none =>
    obtain rfl : p = .pointer none := h
    refine (cut_none w _).mono ?_
    rintro e w' ⟨rfl, rfl⟩
    exact ⟨rfl, rfl, Fr.refl _ _⟩
  | some s =>
    obtain ⟨B, m, rfl, h2, h3, h4, h5⟩ := h
    exact (cut_calls w hF h2 h3 h4 h5).mono fun e w' h => ⟨h.1, ⟨B, m, rfl, h.2.1, h3, h4, Wf.take h5 _⟩, h.2.2⟩
/-- What New makes. -/
def stNew (n : Int) : Option (Nat × List Int) := if n < 1 ∨ 4 < n then none else some (n.toNat, [])
theorem new_slot {w : World} {F : Nat → Prop} {n : Int} (hF : ∀ k, w.heap.size ≤ k → F k) :
    Calls Try.prog 21 #[.int .i64 n] w fun e w' => ∃ p, e = .returned (.tuple #[p, .int .i64 (if n < 1 ∨ 4 < n then 1 else 0)]) ∧ Slot w' F p (stNew n) ∧ Below w.heap.size w w' := by
  unfold stNew
  by_cases c : n < 1 ∨ 4 < n
  · rw [if_pos c, if_pos c]
    refine (new_bad w c).mono ?_
    rintro e w' ⟨rfl, rfl⟩
    exact ⟨_, rfl, rfl, Below.refl _ _⟩
  · rw [if_neg c, if_neg c]
    obtain ⟨k, rfl⟩ : ∃ k : Nat, n = k := ⟨n.toNat, by omega⟩
    refine (new_calls w (by omega) (by omega) hF).mono ?_
    rintro e w' ⟨B, m, rfl, _, h2, h3⟩
    exact ⟨_, rfl, ⟨B, m, rfl, by rw [Int.toNat_natCast]; exact h2, by omega, by omega, fun x hx => absurd hx (by simp)⟩, h3⟩
end Go.Proofs.Ytjeofkobefeigaa.Wk
