/- An index or none, its methods; begun, works, alike, longest; things apart in memory. -/
import Derived.Test.YtjeofkobefeigaaYb
import Derived.Test.YtjeofkobefeigaaPr
import Derived.Test.YtjeofkobefeigaaPCopyIntsx1
set_option linter.unusedVariables false
set_option linter.unusedSimpArgs false
/- An index or none, as a law holds it: what each of its methods does to it. -/
namespace Go.Proofs.Ytjeofkobefeigaa.Wk
open Go.RowKit Go.Shelf Go.Proofs.YtjeofkobefeigaaW.PrintWords Go.Proofs.YtjeofkobefeigaaW.PrintLast Go.Proofs.YtjeofkobefeigaaW.PrintMore Go.Proofs.Ytjeofkobefeigaa.Mp Go.Proofs.Ytjeofkobefeigaa.PEqRaw
open Go.ChangeMaps (setBlock)

theorem Idx.fr {w w1 : World} {F G : Nat → Prop} {B m : Nat} {most : Int} {t : List Int} {O : List Int → List Int} (h : Idx w F B m most t O) (hf : Fr G w w1) (hne : ∀ k, F k → k < w.heap.size → ¬ G k) : Idx w1 F B m most t O := by
  obtain ⟨⟨tv, es, clock, h1, h2, h3, h4, h5⟩, fB, fm⟩ := h
  refine ⟨⟨tv, es, clock, (hf.block B (blk_lt h1) (hne B fB (blk_lt h1))).trans h1, R_fr h2 hf (fun k hk => hne k (h2.1 k hk) (Kd.R_lt h2 k hk)), (hf.block m (blk_lt h3) (hne m fm (blk_lt h3))).trans h3, h4, h5.fr hf (fun e he k hk => ?_)⟩, fB, fm⟩
  obtain ⟨j, hj⟩ := List.mem_iff_getElem?.1 he
  obtain ⟨g, _, _, hR⟩ := h5.row j e hj
  exact hne k (hR.1 k hk) (Kd.R_lt hR k hk)
theorem R_reF {w : World} {F F' : Nat → Prop} {v : Value} {xs : List Int} (h : Kd.R (Kd.int .i64) 3 w 0 F v xs) (hok : ∀ k, F k → k < w.heap.size → F' k) : Kd.R (Kd.int .i64) 3 w 0 F' v xs :=
  Kd.R_reok rfl h (fun k hk => hok k (h.1 k hk) (Kd.R_lt h k hk))
theorem Idx.reF {w : World} {F F' : Nat → Prop} {B m : Nat} {most : Int} {t : List Int} {O : List Int → List Int} (h : Idx w F B m most t O) (hF : ∀ k, F k → k < w.heap.size → F' k) : Idx w F' B m most t O := by
  obtain ⟨⟨tv, es, clock, h1, h2, h3, h4, h5⟩, fB, fm⟩ := h
  exact ⟨⟨tv, es, clock, h1, R_reF h2 hF, h3, h4, ⟨fun j e he => by obtain ⟨g, a1, a2, a3⟩ := h5.row j e he; exact ⟨g, a1, a2, R_reF a3 hF⟩, h5.none, h5.keys, h5.apart, h5.text⟩⟩, hF B fB (blk_lt h1), hF m fm (blk_lt h3)⟩
/-- Numbers of 64 bits. -/
def Wf (t : List Int) : Prop := ∀ x ∈ t, (Lit.int .i64 x).wf = true
theorem Wf.app {a b : List Int} (h : Wf a) (k : Wf b) : Wf (a ++ b) := fun x hx => (List.mem_append.1 hx).elim (h x) (k x)
theorem Wf.take {a : List Int} (h : Wf a) (n : Nat) : Wf (a.take n) := fun x hx => h x (List.mem_of_mem_take hx)
/-- What a law holds: no index, or an index of runs of up to so many tokens over a text. -/
def Slot (w : World) (F : Nat → Prop) (p : Value) : Option (Nat × List Int) → Prop
  | none => p = .pointer none
  | some (most, t) => ∃ B m, p = .pointer (some ⟨B, 0, none⟩) ∧ Idx w F B m most t (ocM most t) ∧ 1 ≤ most ∧ most ≤ 4 ∧ Wf t
def stText : Option (Nat × List Int) → List Int
  | none => []
  | some (_, t) => t
def stPl : Option (Nat × List Int) → List Int
  | none => []
  | some (most, t) => placesL most t
def stPr (st : Option (Nat × List Int)) (ways deep : Int) : List S35 := proposeL (stText st) deep ((stPl st).reverse.take ways.toNat)
theorem Slot.fr {w w1 : World} {F G : Nat → Prop} {p : Value} {st : Option (Nat × List Int)} (h : Slot w F p st) (hf : Fr G w w1) (hne : ∀ k, F k → k < w.heap.size → ¬ G k) : Slot w1 F p st := by
  cases st with
  | none => exact h
  | some s => obtain ⟨B, m, h1, h2, h3⟩ := h; exact ⟨B, m, h1, h2.fr hf hne, h3⟩
theorem Slot.below {w w1 : World} {F : Nat → Prop} {p : Value} {st : Option (Nat × List Int)} (h : Slot w F p st) (hb : Below w.heap.size w w1) : Slot w1 F p st := by
  cases st with
  | none => exact h
  | some s => obtain ⟨B, m, h1, h2, h3⟩ := h; exact ⟨B, m, h1, h2.below hb, h3⟩
theorem Slot.reF {w : World} {F F' : Nat → Prop} {p : Value} {st : Option (Nat × List Int)} (h : Slot w F p st) (hF : ∀ k, F k → k < w.heap.size → F' k) : Slot w F' p st := by
  cases st with
  | none => exact h
  | some s => obtain ⟨B, m, h1, h2, h3⟩ := h; exact ⟨B, m, h1, h2.reF hF, h3⟩
theorem Slot.ptr {w : World} {F : Nat → Prop} {p : Value} {st : Option (Nat × List Int)} (h : Slot w F p st) : ∃ q, p = .pointer q := by
  cases st with
  | none => exact ⟨_, h⟩
  | some s => obtain ⟨B, m, h1, _⟩ := h; exact ⟨_, h1⟩
theorem placesN_mem {t : List Int} : ∀ {n : Nat} {x : Int}, x ∈ placesN t n → ∃ p : Nat, x = p ∧ p ≤ t.length
  | 0, x, h => by simp [placesN] at h
  | n + 1, x, h => by
    unfold placesN at h
    split at h
    · obtain ⟨q, h1, _, h3, _⟩ := occ_mem (List.mem_of_mem_take h)
      exact ⟨q, h1, h3⟩
    · exact placesN_mem h
theorem placesN_length {t : List Int} : ∀ {n : Nat}, (placesN t n).length ≤ t.length
  | 0 => by simp [placesN]
  | n + 1 => by
    unfold placesN
    split
    · rw [List.length_take]
      have := occ_length t (gramAt t t.length (n + 1))
      omega
    · exact placesN_length
theorem stPl_mem {st : Option (Nat × List Int)} {x : Int} (h : x ∈ stPl st) : ∃ p : Nat, x = p ∧ p ≤ (stText st).length := by
  cases st with
  | none => simp [stPl] at h
  | some s => exact placesN_mem h
theorem stPl_length (st : Option (Nat × List Int)) : (stPl st).length ≤ (stText st).length := by
  cases st with
  | none => simp [stPl]
  | some s => exact placesN_length
theorem inner_slot {w : World} {F : Nat → Prop} {q : Option Addr} {st : Option (Nat × List Int)} (h : Slot w F (.pointer q) st) (hl : (stText st).length * 8 ≤ 140737488355328) :
    Calls Try.prog 39 #[.pointer q] w fun e w' => ∃ v, e = .returned v ∧ Kd.R (Kd.int .i64) 3 w' w.heap.size (fun _ => True) v (stPl st) ∧ Below w.heap.size w w' := by
  cases st with
  | none =>
    injection (show Value.pointer q = .pointer none from h) with h
    subst h
    refine (inner_none w).mono ?_
    rintro e w' ⟨rfl, rfl⟩
    exact ⟨_, rfl, Kd.R_nil _ _ _ _ _, Below.refl _ _⟩
  | some s =>
    obtain ⟨B, m, h1, h2, h3, h4, h5⟩ := h
    injection h1 with h1
    subst h1
    exact inner_calls w h2 h4 h5 hl
/-- augurlaw13's places, on whatever a law holds. -/
theorem places_slot {w : World} {F : Nat → Prop} {p : Value} {st : Option (Nat × List Int)} {most : Int} (h : Slot w F p st) (hl : (stText st).length * 8 ≤ 140737488355328) :
    Calls Try.prog 14 #[p, .int .i64 most] w fun e w' => ∃ v, e = .returned v ∧ Kd.R (Kd.int .i64) 3 w' w.heap.size (fun _ => True) v (firstL (stPl st).reverse most) ∧ Below w.heap.size w w' := by
  obtain ⟨q, rfl⟩ := h.ptr
  exact lawplaces_calls w q (fun W hb => inner_slot (h.below hb) hl) (by have := stPl_length st; omega)
theorem propose_slot {w : World} {F : Nat → Prop} {p : Value} {st : Option (Nat × List Int)} {ways deep : Int} (h : Slot w F p st) (hl : (stText st).length * 8 ≤ 140737488355328) (hw : ways ≤ 9223372036854775807) :
    Calls Try.prog 18 #[p, .int .i64 ways, .int .i64 deep] w fun e w' => ∃ v, e = .returned v ∧ k35.R 35 w' w.heap.size (fun _ => True) v (stPr st ways deep) ∧ Below w.heap.size w w' := by
  obtain ⟨q, rfl⟩ := h.ptr
  refine propose_calls w q (fun W hb => inner_slot (h.below hb) hl) (fun x hx => stPl_mem hx) ?_ hw (by omega)
  intro hne
  cases st with
  | none => exact absurd rfl hne
  | some s =>
    obtain ⟨B, m, h1, h2, h3, h4, h5⟩ := h
    injection h1 with h1
    obtain ⟨tv, es, clock, hE⟩ := h2.open
    obtain ⟨At, ct, eAt, hct, hCt⟩ := Kd.R_reads hE.text
    subst eAt
    exact ⟨B, m, _, At, ct, h1, hE.box, hCt, hct⟩
theorem len_slot {w : World} {F : Nat → Prop} {p : Value} {st : Option (Nat × List Int)} (h : Slot w F p st) : Calls Try.prog 17 #[p] w fun e w' => e = .returned (.int .i64 (stText st).length) ∧ w = w' := by
  cases st with
  | none =>
    obtain rfl : p = .pointer none := h
    exact (len_none w).mono fun e w' h => ⟨h.1, h.2.symm⟩
  | some s =>
    obtain ⟨B, m, rfl, h2, _⟩ := h
    exact (len_calls w h2).mono fun e w' h => ⟨h.1, h.2.symm⟩
theorem append_none (w : World) (v : Value) : Calls Try.prog 19 #[.pointer none, v] w fun e w' => e = .returned (.tuple #[]) ∧ w' = w := by
  go_enter Try.func19, Try.ntmps19
  go_wp2
  exact bodyPost_ret (results_none rfl _ _ _) rfl ⟨rfl, rfl⟩
theorem cut_none (w : World) (v : Value) : Calls Try.prog 26 #[.pointer none, v] w fun e w' => e = .returned (.tuple #[]) ∧ w' = w := by
  go_enter Try.func26, Try.ntmps26
  go_wp2
  exact bodyPost_ret (results_none rfl _ _ _) rfl ⟨rfl, rfl⟩
def stApp (ts : List Int) : Option (Nat × List Int) → Option (Nat × List Int)
  | none => none
  | some (most, t) => some (most, t ++ ts)
def stCut (n : Int) : Option (Nat × List Int) → Option (Nat × List Int)
  | none => none
  | some (most, t) => some (most, t.take n.toNat)
theorem append_slot {w : World} {F : Nat → Prop} {p : Value} {st : Option (Nat × List Int)} {A : Option Addr} {c : Nat} {ts : List Int} (h : Slot w F p st) (hF : ∀ k, w.heap.size ≤ k → F k) (hts : Wf ts) (hC : Kd.C (Kd.int .i64) w A ts.length ts) (hc : ts.length ≤ c) (hA : ts ≠ [] → ∀ ad, A = some ad → ¬ F ad.block)
    (hl : ((stText st).length + ts.length) * 8 ≤ 140737488355328) :
    Calls Try.prog 19 #[p, .slice A ts.length c] w fun e w' => e = .returned (.tuple #[]) ∧ Slot w' F p (stApp ts st) ∧ Fr F w w' := by
  cases st with
  | none =>
    obtain rfl : p = .pointer none := h
    refine (append_none w _).mono ?_
    rintro e w' ⟨rfl, rfl⟩
    exact ⟨rfl, rfl, Fr.refl _ _⟩
  | some s =>
    obtain ⟨B, m, rfl, h2, h3, h4, h5⟩ := h
    exact (append_calls w hF h2 h3 h4 h5 hts hC hc hA hl).mono fun e w' h => ⟨h.1, ⟨B, m, rfl, h.2.1, h3, h4, Wf.app h5 hts⟩, h.2.2⟩
theorem cut_slot {w : World} {F : Nat → Prop} {p : Value} {st : Option (Nat × List Int)} {n : Int} (h : Slot w F p st) (hF : ∀ k, w.heap.size ≤ k → F k) :
    Calls Try.prog 26 #[p, .int .i64 n] w fun e w' => e = .returned (.tuple #[]) ∧ Slot w' F p (stCut n st) ∧ Fr F w w' := by
  cases st with
  | none =>
    obtain rfl : p = .pointer none := h
    refine (cut_none w _).mono ?_
    rintro e w' ⟨rfl, rfl⟩
    exact ⟨rfl, rfl, Fr.refl _ _⟩
  | some s =>
    obtain ⟨B, m, rfl, h2, h3, h4, h5⟩ := h
    exact (cut_calls w hF h2 h3 h4 h5).mono fun e w' h => ⟨h.1, ⟨B, m, rfl, h.2.1, h3, h4, Wf.take h5 _⟩, h.2.2⟩
/-- What New makes. -/
def stNew (n : Int) : Option (Nat × List Int) := if n < 1 ∨ 4 < n then none else some (n.toNat, [])
theorem new_slot {w : World} {F : Nat → Prop} {n : Int} (hF : ∀ k, w.heap.size ≤ k → F k) :
    Calls Try.prog 21 #[.int .i64 n] w fun e w' => ∃ p, e = .returned (.tuple #[p, .int .i64 (if n < 1 ∨ 4 < n then 1 else 0)]) ∧ Slot w' F p (stNew n) ∧ Below w.heap.size w w' := by
  unfold stNew
  by_cases c : n < 1 ∨ 4 < n
  · rw [if_pos c, if_pos c]
    refine (new_bad w c).mono ?_
    rintro e w' ⟨rfl, rfl⟩
    exact ⟨_, rfl, rfl, Below.refl _ _⟩
  · rw [if_neg c, if_neg c]
    obtain ⟨k, rfl⟩ : ∃ k : Nat, n = k := ⟨n.toNat, by omega⟩
    refine (new_calls w (by omega) (by omega) hF).mono ?_
    rintro e w' ⟨B, m, rfl, _, h2, h3⟩
    exact ⟨_, rfl, ⟨B, m, rfl, by rw [Int.toNat_natCast]; exact h2, by omega, by omega, fun x hx => absurd hx (by simp)⟩, h3⟩
end Go.Proofs.Ytjeofkobefeigaa.Wk
/- The walk of augurlaw13's begun: an index over a text. -/
namespace Go.Proofs.Ytjeofkobefeigaa.Wk
open Go.RowKit Go.Shelf Go.Proofs.YtjeofkobefeigaaW.PrintWords Go.Proofs.YtjeofkobefeigaaW.PrintLast Go.Proofs.YtjeofkobefeigaaW.PrintMore Go.Proofs.Ytjeofkobefeigaa.Mp Go.Proofs.Ytjeofkobefeigaa.PEqRaw Go.Proofs.Ytjeofkobefeigaa.PCopyInts
open Go.ChangeMaps (setBlock)

theorem copy_l0 (l : List Int) (hl : l.length ≤ 17592186044416) : ∀ (d k i : Nat), i + d = l.length → d < k → augurref00_CopyInts.l0 k l (l.take i) (i : Int) = some l := by
  intro d
  induction d with
  | zero =>
    intro k i hi hk
    obtain ⟨k, rfl⟩ : ∃ m, k = m + 1 := ⟨k - 1, by omega⟩
    simp only [augurref00_CopyInts.l0]
    rw [if_neg (by omega), List.take_of_length_le (by omega)]
  | succ d ih =>
    intro k i hi hk
    obtain ⟨k, rfl⟩ : ∃ m, k = m + 1 := ⟨k - 1, by omega⟩
    simp only [augurref00_CopyInts.l0]
    rw [if_pos (by omega), if_pos (by omega), if_pos (by rw [List.length_take]; omega), IntWalk.wrap64_in _ (by omega), rd_nth, ← take_step (by omega)]
    exact ih k (i + 1) (by omega) (by omega)
theorem copy_f (l : List Int) (hl : l.length ≤ 17592186044416) : augurref00_CopyInts.f (l.length + 1) l = some l := by
  have := copy_l0 l hl l.length (l.length + 1) 0 (by omega) (by omega)
  unfold augurref00_CopyInts.f
  simpa using this
theorem copy_calls {w : World} {A : Option Addr} {c : Nat} {t : List Int} (hC : Kd.C (Kd.int .i64) w A t.length t) (hc : t.length ≤ c) (hl : t.length ≤ 17592186044416) :
    Calls Try.prog 34 #[.slice A t.length c] w fun e w' => ∃ A' c', e = .returned (.slice A' t.length c') ∧ Kd.R (Kd.int .i64) 3 w' w.heap.size (fun _ => True) (.slice A' t.length c') t ∧ Below w.heap.size w w' := by
  refine (augurref00_CopyInts.calls _ A c t t w hC hc (copy_f t hl)).mono ?_
  rintro e w' ⟨v, rfl, hR, hb⟩
  obtain ⟨A', c', rfl, _, _⟩ := Kd.R_reads hR
  exact ⟨A', c', rfl, hR, hb⟩
set_option maxHeartbeats 2000000 in
theorem begun_calls {w : World} {A : Option Addr} {c most : Nat} {t : List Int} (h1 : 1 ≤ most) (h4 : most ≤ 4) (hC : Kd.C (Kd.int .i64) w A t.length t) (hc : t.length ≤ c) (ht : Wf t) (hl : t.length * 8 ≤ 140737488355328) :
    Calls Try.prog 13 #[.int .i64 most, .slice A t.length c] w fun e w' => ∃ B, e = .returned (.pointer (some ⟨B, 0, none⟩)) ∧ Slot w' (fun k => w.heap.size ≤ k) (.pointer (some ⟨B, 0, none⟩)) (some (most, t)) ∧ Below w.heap.size w w' := by
  have HC := Lib.hid hC
  have HT := Lib.hid ht
  have HLL := Lib.hid hl
  have HCC := Lib.hid hc
  clear hC ht hl hc
  go_enter Try.func13, Try.ntmps13
  go_wp2_with fail
  refine (new_calls (F := fun k => w.heap.size ≤ k) w h1 h4 (fun _ h => h)).mono ?_
  rintro e w1 ⟨B, m, rfl, hB, hI, hb⟩
  have hS : Slot w1 (fun k => w.heap.size ≤ k) (.pointer (some ⟨B, 0, none⟩)) (some (most, [])) := ⟨B, m, rfl, hI, h1, h4, fun x hx => absurd hx (by simp)⟩
  have HS := Lib.hid hS
  have HB := Lib.hid hb
  clear hI hS hb hB
  go_wp2_with fail
  have hcp := copy_calls (Kd.C_below HC.out HB.out) HCC.out (by have := HLL.out; omega)
  refine hcp.mono ?_
  rintro e w2 ⟨A', c', rfl, hR, hb⟩
  have HR := Lib.hid hR
  have HB2 := Lib.hid hb
  clear hcp hR hb
  have hS2 : Slot w2 (fun k => (w.heap.size ≤ k ∧ k < w1.heap.size) ∨ w2.heap.size ≤ k) (.pointer (some ⟨B, 0, none⟩)) (some (most, [])) := (HS.out.reF (F' := fun k => (w.heap.size ≤ k ∧ k < w1.heap.size) ∨ w2.heap.size ≤ k) (fun k h1 h2 => .inl ⟨h1, h2⟩)).below HB2.out
  have hR2 := Kd.R_reads' HR.out
  have hown : ∀ ad, A' = some ad → ¬ ((w.heap.size ≤ ad.block ∧ ad.block < w1.heap.size) ∨ w2.heap.size ≤ ad.block) := fun ad e h => by
    subst e
    obtain ⟨_, inner, hown, _⟩ := HR.out
    rcases hown.2 with ⟨h0, _⟩ | ⟨g, cap, cur, h0, h2, hc, _⟩
    · cases h0
    · injection h0 with h0
      injection h0 with h0
      subst h0
      have := blk_lt hc
      rcases h with h | h <;> simp at h <;> omega
  have hap := append_slot (A := A') (c := c') hS2 (fun k h => .inr h) HT.out hR2.2.2 hR2.2.1 (fun _ => hown) (by simp [stText]; exact HLL.out)
  go_wp2_with fail
  refine hap.mono ?_
  rintro e w3 ⟨rfl, hS3, hf⟩
  have HS3 := Lib.hid hS3
  have HF := Lib.hid hf
  clear hap hS3 hf hS2 hR2 hown
  go_wp2_with fail
  go_ret
  have hbz : Below w.heap.size w w2 := HB.out.trans (HB2.out.mono HB.out.size)
  refine ⟨B, rfl, ?_, hbz.trans (HF.out.below (fun k h => ?_) hbz.size)⟩
  · have := HS3.out.reF (F' := fun k => w.heap.size ≤ k) (fun k h _ => by
      rcases h with h | h
      · exact h.1
      · exact Nat.le_trans hbz.size h)
    simpa [stApp] using this
  · rcases h with h | h
    · exact h.1
    · exact Nat.le_trans hbz.size h
end Go.Proofs.Ytjeofkobefeigaa.Wk
/- The walk of augurlaw13's works: true. -/
namespace Go.Proofs.Ytjeofkobefeigaa.Wk
open Go.RowKit Go.Shelf Go.Proofs.YtjeofkobefeigaaW.PrintWords Go.Proofs.YtjeofkobefeigaaW.PrintLast Go.Proofs.YtjeofkobefeigaaW.PrintMore Go.Proofs.Ytjeofkobefeigaa.Mp Go.Proofs.Ytjeofkobefeigaa.PEqRaw Go.Proofs.Ytjeofkobefeigaa.PCopyInts
open Go.ChangeMaps (setBlock)

theorem add_0 (a : Addr) : a.add (0 : Int).toNat = a := by cases a; rfl
theorem add_02 (a : Addr) : a.add ((0 : Int).toNat * 2) = a := by cases a; rfl
theorem works_places : firstL (stPl (some (2, [7, 8, 7]))).reverse 0 = [1] := by decide +kernel
theorem works_raw : stPr (some (2, [7, 8, 7])) 1 1 = [⟨-1, 8⟩] := by
  have h : stPl (some (2, [7, 8, 7])) = [1] := by decide +kernel
  unfold stPr
  rw [h]
  rfl
set_option maxHeartbeats 2000000 in
theorem works_calls (w : World) : Calls Try.prog 11 #[] w fun e w' => e = .returned (.bool true) ∧ Below w.heap.size w w' := by
  go_enter Try.func11, Try.ntmps11
  go_wp2_with fail
  refine (new_calls (F := fun k => w.heap.size ≤ k) (n := 2) w (by omega) (by omega) (fun _ h => h)).mono ?_
  rintro e w1 ⟨B, m, rfl, hB, hI, hb⟩
  have hS : Slot w1 (fun k => w.heap.size ≤ k) (.pointer (some ⟨B, 0, none⟩)) (some (2, [])) := ⟨B, m, rfl, hI, by omega, by omega, fun x hx => absurd hx (by simp)⟩
  have HS := Lib.hid hS
  have HB := Lib.hid hb
  clear hI hS hb hB
  go_wp2_with fail
  obtain ⟨w2, hw2⟩ : ∃ w2, w1.alloc (.cells #[.int .i64 7, .int .i64 8, .int .i64 7] 3) = w2 := ⟨_, rfl⟩
  have hz : w2.heap.size = w1.heap.size + 1 := by rw [← hw2, World.size_alloc]
  have hb2 : Below w1.heap.size w1 w2 := by rw [← hw2]; exact below_alloc (Below.refl _ _) _
  have hblk : w2.heap[w1.heap.size]? = some (.cells #[.int .i64 7, .int .i64 8, .int .i64 7] 3 (0, 0)) := by rw [← hw2]; exact blk_new _ _
  have hC : Kd.C (Kd.int .i64) w2 (some ⟨w1.heap.size, 0, none⟩) ([7, 8, 7] : List Int).length [7, 8, 7] := Kd.C_of_reads (d := (0 : Int)) (h1 := fun _ => rfl) ⟨rfl, by decide, fun _ => ⟨_, rfl, fun j hj => by
    rcases (show j = 0 ∨ j = 1 ∨ j = 2 by simp at hj; omega) with rfl | rfl | rfl <;> exact (blk_cell hblk _).trans rfl⟩⟩
  rw [hw2]
  have HB2 := Lib.hid hb2
  have HC := Lib.hid hC
  have HZ := Lib.hid hz
  clear hw2 hb2 hblk hC hz
  have hS2 : Slot w2 (fun k => (w.heap.size ≤ k ∧ k < w1.heap.size) ∨ w2.heap.size ≤ k) (.pointer (some ⟨B, 0, none⟩)) (some (2, [])) := (HS.out.reF (F' := fun k => (w.heap.size ≤ k ∧ k < w1.heap.size) ∨ w2.heap.size ≤ k) (fun k h1 h2 => .inl ⟨h1, h2⟩)).below HB2.out
  refine (append_slot (A := some ⟨w1.heap.size, 0, none⟩) (c := 3) hS2 (fun k h => .inr h) (fun x hx => by simp at hx; rcases hx with rfl | rfl | rfl <;> decide) HC.out (by decide) (fun _ ad e h => by cases e; have := HZ.out; rcases h with h | h <;> simp at h <;> omega) (by decide)).mono ?_
  rintro e w3 ⟨rfl, hS3, hf⟩
  have hbz : Below w.heap.size w w2 := HB.out.trans (HB2.out.mono HB.out.size)
  have hb3 : Below w.heap.size w w3 := hbz.trans (hf.below (fun k h => by rcases h with h | h; exact h.1; exact Nat.le_trans hbz.size h) hbz.size)
  have HB3 := Lib.hid hb3
  have HS3 : Hid (Slot w3 (fun k => (w.heap.size ≤ k ∧ k < w1.heap.size) ∨ w2.heap.size ≤ k) (.pointer (some ⟨B, 0, none⟩)) (some (2, [7, 8, 7]))) := Lib.hid hS3
  clear hS2 hS3 hf hbz hb3
  go_wp2_with fail
  refine (places_slot HS3.out (by decide)).mono ?_
  rintro e w4 ⟨v, rfl, hR, hb⟩
  rw [works_places] at hR
  obtain ⟨A4, c4, rfl, hc4, hC4⟩ := Kd.R_reads hR
  have HS4 := Lib.hid (HS3.out.below hb)
  have HB4 := Lib.hid (HB3.out.trans (hb.mono HB3.out.size))
  obtain ⟨a4, e4, k4⟩ := Kd.at_int hC4 (0 : Int) (by omega) (by decide)
  subst e4
  have k4' : w4.cell? a4 = some (.int .i64 1) := by rw [add_0] at k4; exact k4
  have HK4 := Lib.hid k4'
  clear hR hb hC4 k4 k4' hc4
  go_wp2_with fail
  refine (propose_slot HS4.out (by decide) (by decide)).mono ?_
  rintro e w5 ⟨v, rfl, hR, hb⟩
  rw [works_raw] at hR
  obtain ⟨A5, c5, rfl, hc5, hC5⟩ := Kd.R_reads hR
  have HS5 := Lib.hid (HS4.out.below hb)
  have HB5 := Lib.hid (HB4.out.trans (hb.mono HB4.out.size))
  have k4 : w5.cell? a4 = some (.int .i64 1) := pw_cell_below hb HK4.out
  obtain ⟨a5, e5, k5, k6⟩ := at_T35 hC5 (0 : Int) (by omega) (by decide)
  subst e5
  have k5' : w5.cell? a5 = some (.int .i64 (-1)) := by
    rw [add_02] at k5; exact k5
  have k6' : w5.cell? ⟨a5.block, a5.off + 1, none⟩ = some (.int .i64 8) := by
    rw [add_02] at k6; exact k6
  clear hR hb hC5 k5 k6 hc5
  go_wp2_with (go_at_call 17; refine (len_slot HS5.out).mono ?_; rintro e w' ⟨rfl, rfl⟩)
  go_ret
  exact ⟨rfl, HB5.out⟩
end Go.Proofs.Ytjeofkobefeigaa.Wk
/- The walks of EqInts (plainly), alike and longest. -/
namespace Go.Proofs.Ytjeofkobefeigaa.Wk
open Go.RowKit Go.Shelf Go.Proofs.YtjeofkobefeigaaW.PrintWords Go.Proofs.YtjeofkobefeigaaW.PrintLast Go.Proofs.YtjeofkobefeigaaW.PrintMore Go.Proofs.Ytjeofkobefeigaa.Mp Go.Proofs.Ytjeofkobefeigaa.PEqInts
open Go.ChangeMaps (setBlock)

theorem eqints_l0 (a b : List Int) (he : a.length = b.length) (hl : a.length ≤ 9223372036854775807) : ∀ (d k i : Nat), i + d = a.length → d < k → augurref00_EqInts.l0 k a b (i : Int) = some (decide (a.drop i = b.drop i)) := by
  intro d
  induction d with
  | zero =>
    intro k i hi hk
    obtain ⟨k, rfl⟩ : ∃ m, k = m + 1 := ⟨k - 1, by omega⟩
    simp only [augurref00_EqInts.l0]
    rw [if_neg (by omega), List.drop_of_length_le (by omega), List.drop_of_length_le (by omega)]
    simp
  | succ d ih =>
    intro k i hi hk
    obtain ⟨k, rfl⟩ : ∃ m, k = m + 1 := ⟨k - 1, by omega⟩
    have e1 : a.drop i = nth a i :: a.drop (i + 1) := by
      rw [List.drop_eq_getElem_cons (by omega)]; congr 1; unfold nth; rw [List.getD_eq_getElem?_getD, List.getElem?_eq_getElem (by omega)]; rfl
    have e2 : b.drop i = nth b i :: b.drop (i + 1) := by
      rw [List.drop_eq_getElem_cons (by omega)]; congr 1; unfold nth; rw [List.getD_eq_getElem?_getD, List.getElem?_eq_getElem (by omega)]; rfl
    simp only [augurref00_EqInts.l0]
    rw [if_pos (by omega), if_pos (by omega), if_pos (by omega), rd_nth, rd_nth]
    by_cases c : nth a i = nth b i
    · rw [if_pos c, IntWalk.wrap64_in _ (by omega)]
      rw [show ((i : Int) + 1) = ((i + 1 : Nat) : Int) by omega, ih k (i + 1) (by omega) (by omega), e1, e2, c]
      simp
    · rw [if_neg c, e1, e2]
      simp [c]
theorem eqints_f (a b : List Int) (hl : a.length ≤ 9223372036854775807) : augurref00_EqInts.f (a.length + 1) a b = some (decide (a = b)) := by
  unfold augurref00_EqInts.f
  by_cases he : a.length = b.length
  · rw [if_pos (by omega)]
    have := eqints_l0 a b he hl a.length (a.length + 1) 0 (by omega) (by omega)
    simpa using this
  · rw [if_neg (by omega)]
    have : a ≠ b := fun e => he (by rw [e])
    simp [this]
theorem eqints_calls {w : World} {A0 A1 : Option Addr} {c0 c1 : Nat} {a b : List Int} (h0 : Kd.C (Kd.int .i64) w A0 a.length a) (hc0 : a.length ≤ c0) (h1 : Kd.C (Kd.int .i64) w A1 b.length b) (hc1 : b.length ≤ c1) :
    Calls Try.prog 30 #[.slice A0 a.length c0, .slice A1 b.length c1] w fun e w' => e = .returned (.bool (decide (a = b))) ∧ Drawn0 w w' :=
  augurref00_EqInts.calls _ A0 c0 a A1 c1 b _ w h0 hc0 h1 hc1 (eqints_f a b (Kd.C_max h0))
/-- Does the run of l tokens of the end stand ahead of place q too? -/
def alikeB (t : List Int) (q l : Nat) : Bool := decide (l ≤ q ∧ q < t.length ∧ gramAt t q l = gramAt t t.length l)
set_option maxHeartbeats 2000000 in
theorem alike_calls {w : World} {A : Option Addr} {c q l : Nat} {t : List Int} (hC : Kd.C (Kd.int .i64) w A t.length t) (hc : t.length ≤ c) (hl : l ≤ 4) (hq : q ≤ 9223372036854775807) :
    Calls Try.prog 16 #[.slice A t.length c, .int .i64 q, .int .i64 l] w fun e w' => e = .returned (.bool (alikeB t q l)) ∧ Drawn0 w w' := by
  have hmax := Kd.C_max hC
  by_cases c1 : l ≤ q
  · have d1 : decide ((l : Int) ≤ (q : Int)) = true := decide_eq_true (by omega)
    have d1' : decide (l ≤ q) = true := decide_eq_true c1
    by_cases c2 : q < t.length
    · have d2 : decide ((q : Int) < (t.length : Int)) = true := decide_eq_true (by omega)
      have d2' : decide (q < t.length) = true := decide_eq_true c2
      obtain ⟨L, hL⟩ : ∃ L, t.length - l = L := ⟨_, rfl⟩
      obtain ⟨lo, hlo⟩ : ∃ lo, q - l = lo := ⟨_, rfl⟩
      have e1 : IntKind.i64.wrap ((q : Int) - (l : Int)) = (lo : Int) := by rw [IntWalk.i64_in _ (by omega)]; omega
      have e2 : IntKind.i64.wrap ((t.length : Int) - (l : Int)) = (L : Int) := by rw [IntWalk.i64_in _ (by omega)]; omega
      have e1' : wrap64 ((q : Int) - (l : Int)) = (lo : Int) := by rw [IntWalk.wrap64_in _ (by omega)]; omega
      have e2' : wrap64 ((t.length : Int) - (l : Int)) = (L : Int) := by rw [IntWalk.wrap64_in _ (by omega)]; omega
      obtain ⟨i0, hi0, _, hsz, _⟩ := info_parts info3
      have hcut1 := cut_mid (P := Try.prog) 22 3 .i64 .i64 Try.underlying22 hi0 1 hsz A t.length c (lo : Int) (q : Int) (by omega) (by omega) (by omega) hc
      have hcut2 := cut_from (P := Try.prog) 22 3 .i64 Try.underlying22 hi0 1 hsz A t.length c (L : Int) (by omega) (by omega)
      have hC1 := Kd.C_mid (k := Kd.int .i64) (xs := t) (c := c) (lo := lo) (hi := q) hC (by omega) (by omega) hc
      have hC2 := Kd.C_mid (k := Kd.int .i64) (xs := t) (c := c) (lo := L) (hi := t.length) hC (by omega) (by omega) hc
      obtain ⟨g1, hg1⟩ : ∃ g, gramAt t q l = g := ⟨_, rfl⟩
      obtain ⟨g2, hg2⟩ : ∃ g, gramAt t t.length l = g := ⟨_, rfl⟩
      rw [show (t.take q).drop lo = g1 by rw [← hg1, ← hlo]; rfl] at hC1
      rw [show (t.take t.length).drop L = g2 by rw [← hg2, ← hL]; rfl] at hC2
      have hl1 : q - lo = g1.length := by rw [← hg1, gramAt_length c1 (by omega)]; omega
      have hl2 : t.length - L = g2.length := by rw [← hg2, gramAt_length (by omega) (Nat.le_refl _)]; omega
      rw [Int.toNat_natCast, Int.toNat_natCast, hl1] at hcut1
      rw [Int.toNat_natCast, hl2] at hcut2
      obtain ⟨A1, hA1⟩ : ∃ A1, (if c = lo then A else A.map (·.add (lo * 1))) = A1 := ⟨_, rfl⟩
      obtain ⟨A2, hA2⟩ : ∃ A2, (if c = L then A else A.map (·.add (L * 1))) = A2 := ⟨_, rfl⟩
      rw [hA1] at hcut1
      rw [hA2] at hcut2
      rw [show (if c = lo then A else A.map (·.add (lo * (Kd.int .i64).sz))) = A1 from hA1] at hC1
      rw [show (if c = L then A else A.map (·.add (L * (Kd.int .i64).sz))) = A2 from hA2] at hC2
      obtain ⟨x1, hx1⟩ : ∃ x, c - lo = x := ⟨_, rfl⟩
      obtain ⟨x2, hx2⟩ : ∃ x, c - L = x := ⟨_, rfl⟩
      rw [hx1] at hcut1
      rw [hx2] at hcut2
      have hy1 : g1.length ≤ x1 := by omega
      have hy2 : g2.length ≤ x2 := by omega
      have hcall := fun w' (hd : Drawn0 w w') => eqints_calls (w := w') (Kd.C_below hC1 hd.below) hy1 (Kd.C_below hC2 hd.below) hy2
      have HCALL := Lib.hid hcall
      have HR : Hid (alikeB t q l = decide (g1 = g2)) := Lib.hid (by unfold alikeB; rw [hg1, hg2]; exact decide_eq_decide.2 ⟨fun h => h.2.2, fun h => ⟨c1, c2, h⟩⟩)
      rw [HR.out]
      clear hC hC1 hC2 hcall hg1 hg2 hl1 hl2 hA1 hA2 hx1 hx2 hy1 hy2 hi0 hsz hL hlo hmax hc
      go_enter Try.func16, Try.ntmps16
      go_wp2
      go_quiet ((go_at_call 30; refine (HCALL.out _ ⟨⟨_, rfl⟩⟩).mono ?_; rintro e w' ⟨rfl, ⟨nd, rfl⟩⟩; first | exact ⟨rfl, _, World.drewN_drewN _ _ _⟩ | exact ⟨rfl, _, Eq.trans (World.drewN_drewN _ _ _) (congrArg (World.drewN _) (Nat.add_assoc _ _ _))⟩))
      go_wp2
      go_ret
      exact ⟨rfl, ⟨_, rfl⟩⟩
    · have d2 : decide ((q : Int) < (t.length : Int)) = false := decide_eq_false (by omega)
      have d2' : decide (q < t.length) = false := decide_eq_false c2
      have HR : Hid (alikeB t q l = false) := Lib.hid (by unfold alikeB; exact decide_eq_false (fun h => c2 h.2.1))
      rw [HR.out]
      go_enter Try.func16, Try.ntmps16
      go_wp2
      go_quiet (fail)
      go_wp2
      go_ret
      exact ⟨rfl, ⟨_, rfl⟩⟩
  · have d1 : decide ((l : Int) ≤ (q : Int)) = false := decide_eq_false (by omega)
    have d1' : decide (l ≤ q) = false := decide_eq_false c1
    have HR : Hid (alikeB t q l = false) := Lib.hid (by unfold alikeB; exact decide_eq_false (fun h => c1 h.1))
    rw [HR.out]
    go_enter Try.func16, Try.ntmps16
    go_wp2
    go_quiet (fail)
    go_wp2
    go_ret
    exact ⟨rfl, ⟨_, rfl⟩⟩
/-- Does the run of l tokens of the end stand ahead of a place before q? -/
def hasQ (t : List Int) (l q : Nat) : Bool := (List.range q).any (fun p => alikeB t p l)
def longestN (t : List Int) : Nat → Nat
  | 0 => 0
  | n + 1 => if hasQ t (n + 1) t.length = true then n + 1 else longestN t n
theorem hasQ_succ (t : List Int) (l q : Nat) : hasQ t l (q + 1) = (hasQ t l q || alikeB t q l) := by
  unfold hasQ
  rw [List.range_succ, List.any_append]
  simp
theorem hasQ_low (t : List Int) (l : Nat) : ∀ q, q ≤ l → hasQ t l q = false
  | 0, _ => rfl
  | q + 1, h => by
    rw [hasQ_succ, hasQ_low t l q (by omega)]
    unfold alikeB
    simp
    omega
theorem hasQ_high (t : List Int) (l : Nat) {q : Nat} (h : t.length ≤ q) : hasQ t l q = hasQ t l t.length := by
  obtain ⟨d, rfl⟩ : ∃ d, q = t.length + d := ⟨q - t.length, by omega⟩
  clear h
  induction d with
  | zero => rfl
  | succ d ih =>
    rw [← Nat.add_assoc, hasQ_succ, ih]
    have : alikeB t (t.length + d) l = false := decide_eq_false (fun h => by omega)
    rw [this, Bool.or_false]
theorem longestN_le (t : List Int) : ∀ n, longestN t n ≤ n
  | 0 => Nat.le_refl _
  | n + 1 => by
    unfold longestN
    split
    · exact Nat.le_refl _
    · exact Nat.le_succ_of_le (longestN_le t n)
theorem drawn_trans {a b c : World} (h : Drawn0 a b) (k : Drawn0 b c) : Drawn0 a c := by
  obtain ⟨n, rfl⟩ := h
  obtain ⟨m, rfl⟩ := k
  exact ⟨⟨n + m, World.drewN_drewN ..⟩⟩
def L1Rel (w : World) (t : List Int) (most : Nat) (s5 s6 : Value) (wr : World) : Prop :=
  ∃ l : Nat, s6 = .int .i64 l ∧ 1 ≤ l ∧ l ≤ most + 1 ∧ s5 = .int .i64 (longestN t (l - 1) : Nat) ∧ Drawn0 w wr
def L2Rel (w : World) (t : List Int) (l : Nat) (s5 s7 : Value) (wr : World) : Prop :=
  ∃ q : Nat, s7 = .int .i64 q ∧ l ≤ q ∧ (q ≤ t.length ∨ q = l) ∧ s5 = .int .i64 ((if hasQ t l q = true then l else longestN t (l - 1) : Nat)) ∧ Drawn0 w wr
set_option maxHeartbeats 2000000 in
theorem longest_calls {w : World} {A : Option Addr} {c most : Nat} {t : List Int} (hC : Kd.C (Kd.int .i64) w A t.length t) (hc : t.length ≤ c) (h4 : most ≤ 4) (hl : t.length ≤ 17592186044416) :
    Calls Try.prog 15 #[.slice A t.length c, .int .i64 most] w fun e w' => e = .returned (.int .i64 (longestN t most : Nat)) ∧ Drawn0 w w' := by
  have HC := Lib.hid hC
  have HCC := Lib.hid hc
  have HL := Lib.hid hl
  clear hC hc hl
  go_enter Try.func15, Try.ntmps15
  go_wp2
  go_loopw [5, 6] (fun x y wr => L1Rel w t most x y wr) (fun _ y _ => most + 1 - (intOf y).toNat)
  case atStart => exact ⟨1, rfl, Nat.le_refl _, by omega, rfl, Drawn0.refl _⟩
  case round =>
    obtain ⟨l, rfl, h1, h2, rfl, hd⟩ := hrel
    rename World => wa
    have HD := Lib.hid hd
    obtain ⟨b, hb⟩ : ∃ b, longestN t (l - 1) = b := ⟨_, rfl⟩
    rw [hb]
    have HB := Lib.hid hb
    clear hd hb
    by_cases hle : l ≤ most
    · have d1 : decide ((l : Int) ≤ (most : Int)) = true := decide_eq_true (by omega)
      have d1' : decide (l ≤ most) = true := decide_eq_true hle
      have HLE := Lib.hid hle
      clear hle
      go_wp2
      go_loopw [5, 7] (fun x y wr => L2Rel w t l x y wr) (fun _ y _ => t.length + 5 - (intOf y).toNat)
      case atStart => exact ⟨l, rfl, Nat.le_refl _, .inr rfl, by rw [hasQ_low t l l (Nat.le_refl _), ← HB.out]; rfl, HD.out⟩
      case round =>
        obtain ⟨q, rfl, g1, g2, rfl, hd⟩ := hrel
        rename World => wb
        have HD2 := Lib.hid hd
        obtain ⟨x, hx⟩ : ∃ x, (if hasQ t l q = true then l else longestN t (l - 1)) = x := ⟨_, rfl⟩
        rw [hx]
        have HX := Lib.hid hx
        have hq5 : q ≤ t.length + 4 := by have := HLE.out; omega
        have HQ5 := Lib.hid hq5
        clear hd hx d1 d1' hq5
        have hqm : (q : Int) ≤ 17592186044420 := by have := HL.out; have := HQ5.out; omega
        by_cases hlt : q < t.length
        · have d2 : decide ((q : Int) < (t.length : Int)) = true := decide_eq_true (by omega)
          have d2' : decide (q < t.length) = true := decide_eq_true hlt
          have HLT := Lib.hid hlt
          cases hal : alikeB t q l
          all_goals
            have HAL := Lib.hid hal
            have hcall := alike_calls (w := wb) (Kd.C_below HC.out HD2.out.below) HCC.out (q := q) (l := l) (by have := HLE.out; omega) (by have := HLT.out; have := HL.out; omega)
            rw [hal] at hcall
            have HCALL := Lib.hid hcall
            clear hal hcall hlt g2
            go_wp2_with (go_at_call 16; refine HCALL.out.mono ?_; rintro e w' ⟨rfl, hd⟩)
            have hw := IntWalk.wrap64_in ((q : Int) + 1) (by omega)
            refine ⟨⟨q + 1, by first | rfl | rw [hw]; rfl, by omega, .inl HLT.out, ?_, drawn_trans HD2.out hd⟩, ?_⟩
            · rw [hasQ_succ, HAL.out]
              have := HX.out
              first
              | (rw [Bool.or_false]; rw [this])
              | (rw [Bool.or_true]; rfl)
            · have := HLT.out
              simp [intOf] <;> omega
        · have d2 : decide ((q : Int) < (t.length : Int)) = false := decide_eq_false (by omega)
          have d2' : decide (q < t.length) = false := decide_eq_false hlt
          have HGE : Hid (t.length ≤ q) := Lib.hid (by omega)
          clear hlt g2
          go_wp2
          refine ⟨⟨l + 1, by first | rfl | skip, by omega, by have := HLE.out; omega, ?_, HD2.out⟩, ?_⟩
          · rw [Nat.add_sub_cancel]
            obtain ⟨l0, rfl⟩ : ∃ l0, l = l0 + 1 := ⟨l - 1, by omega⟩
            have := HX.out
            rw [hasQ_high t _ HGE.out, Nat.add_sub_cancel] at this
            rw [← this]
            rfl
          · have := HLE.out
            simp [intOf] <;> omega
    · have d1 : decide ((l : Int) ≤ (most : Int)) = false := decide_eq_false (by omega)
      have d1' : decide (l ≤ most) = false := decide_eq_false hle
      have HM : Hid (l - 1 = most) := Lib.hid (by omega)
      go_wp2
      go_ret
      exact ⟨by have h1 := HB.out; rw [HM.out] at h1; rw [h1]; rfl, HD.out⟩
end Go.Proofs.Ytjeofkobefeigaa.Wk
/- The places, plainly: those ahead of which the longest run of the end that stood before stands. -/
namespace Go.Proofs.Ytjeofkobefeigaa.Wk
open Go.RowKit Go.Shelf Go.Proofs.YtjeofkobefeigaaW.PrintWords Go.Proofs.YtjeofkobefeigaaW.PrintLast Go.Proofs.YtjeofkobefeigaaW.PrintMore Go.Proofs.Ytjeofkobefeigaa.Mp

/-- The places ahead of which the run of r tokens of the end stands too, rising. -/
def placesAt (t : List Int) (r : Nat) : List Nat := (List.range t.length).filter (fun q => alikeB t q r)
def plAt (t : List Int) (r : Nat) : List Int := if r = 0 then [] else (placesAt t r).map fun q : Nat => (q : Int)
theorem occ_end {t : List Int} {n : Nat} (h : n ≤ t.length) : occ t (gramAt t t.length n) = (placesAt t n).map (fun q : Nat => (q : Int)) ++ [(t.length : Int)] := by
  have hl : (gramAt t t.length n).length = n := gramAt_length h (Nat.le_refl _)
  unfold occ placesAt
  rw [List.range_succ, List.filter_append, List.map_append]
  congr 1
  · congr 1
    refine List.filter_congr fun q hq => ?_
    have := List.mem_range.1 hq
    unfold at? alikeB
    rw [hl]
    by_cases c : n ≤ q
    · simp [c, this]
    · simp [c]
  · have : at? t (gramAt t t.length n) t.length = true := by
      unfold at?
      rw [hl]
      simp [h]
    simp [List.filter, this]
theorem hasQ_iff {t : List Int} {n : Nat} : hasQ t n t.length = true ↔ placesAt t n ≠ [] := by
  unfold hasQ placesAt
  rw [List.any_eq_true]
  constructor
  · rintro ⟨q, h1, h2⟩ e
    have : q ∈ (List.range t.length).filter (fun q => alikeB t q n) := List.mem_filter.2 ⟨h1, h2⟩
    rw [e] at this
    cases this
  · intro h
    obtain ⟨q, hq⟩ := List.exists_mem_of_ne_nil _ h
    obtain ⟨h1, h2⟩ := List.mem_filter.1 hq
    exact ⟨q, h1, h2⟩
theorem placesN_eq {t : List Int} : ∀ {n : Nat}, n ≤ t.length → placesN t n = plAt t (longestN t n)
  | 0, _ => rfl
  | n + 1, h => by
    unfold placesN longestN
    rw [occ_end h]
    by_cases c : hasQ t (n + 1) t.length = true
    · have hne := hasQ_iff.1 c
      rw [if_pos c, if_pos (by
        rw [List.length_append, List.length_map, List.length_singleton]
        have := List.length_pos_iff.2 hne
        omega)]
      unfold plAt
      rw [if_neg (by omega), List.length_append, List.length_singleton, Nat.add_sub_cancel, List.take_left' rfl]
    · rw [if_neg c, if_neg (by
        rw [List.length_append, List.length_map, List.length_singleton]
        have : placesAt t (n + 1) = [] := Classical.byContradiction fun hh => c (hasQ_iff.2 hh)
        rw [this]
        simp)]
      exact placesN_eq (by omega)
theorem hasQ_long {t : List Int} {n : Nat} (h : t.length ≤ n) : hasQ t n t.length = false := hasQ_low t n t.length h
theorem longestN_min (t : List Int) : ∀ n, longestN t n = longestN t (min n t.length)
  | 0 => by simp
  | n + 1 => by
    by_cases c : n + 1 ≤ t.length
    · rw [Nat.min_eq_left c]
    · rw [Nat.min_eq_right (by omega)]
      have h1 : longestN t (n + 1) = longestN t n := by
        show (if hasQ t (n + 1) t.length = true then n + 1 else longestN t n) = longestN t n
        rw [hasQ_long (by omega)]
        rfl
      rw [h1, longestN_min t n, Nat.min_eq_right (by omega)]
theorem placesL_eq (most : Nat) (t : List Int) : placesL most t = plAt t (longestN t most) := by
  unfold placesL
  rw [placesN_eq (Nat.min_le_right _ _), ← longestN_min]
theorem placesAt_mem {t : List Int} {r q : Nat} (h : q ∈ placesAt t r) : alikeB t q r = true := (List.mem_filter.1 h).2
theorem placesAt_sorted (t : List Int) (r : Nat) : (placesAt t r).Pairwise (· < ·) := (List.pairwise_lt_range).filter _
theorem plAt_length (t : List Int) (r : Nat) : (plAt t r).length = if r = 0 then 0 else (placesAt t r).length := by
  unfold plAt
  split
  · rfl
  · rw [List.length_map]
theorem plAt_cons {t : List Int} {r : Nat} (h : r ≠ 0) : plAt t r = (placesAt t r).map fun q : Nat => (q : Int) := by unfold plAt; rw [if_neg h]
theorem alikeB_lt {t : List Int} {q l : Nat} (h : alikeB t q l = true) : l ≤ q ∧ q < t.length := by
  unfold alikeB at h
  have := of_decide_eq_true h
  exact ⟨this.1, this.2.1⟩
/-- A place of those told, the latest first. -/
theorem down_at {t : List Int} {r i : Nat} (h : i < ((plAt t r).reverse).length) : ∃ p : Nat, nth (plAt t r).reverse i = p ∧ alikeB t p r = true := by
  have hm : nth (plAt t r).reverse i ∈ plAt t r := by
    unfold nth
    rw [List.getD_eq_getElem?_getD, List.getElem?_eq_getElem h]
    exact List.mem_reverse.1 (List.getElem_mem h)
  obtain ⟨x, hx⟩ : ∃ x, nth (plAt t r).reverse i = x := ⟨_, rfl⟩
  rw [hx] at hm ⊢
  unfold plAt at hm
  split at hm
  · cases hm
  · obtain ⟨p, hp, e⟩ := List.mem_map.1 hm
    exact ⟨p, e.symm, placesAt_mem hp⟩
theorem down_lt {t : List Int} {r i : Nat} (h : i + 1 < ((plAt t r).reverse).length) : nth (plAt t r).reverse (i + 1) < nth (plAt t r).reverse i := by
  have hs : (plAt t r).reverse.Pairwise (fun a b => b < a) := by
    rw [List.pairwise_reverse]
    unfold plAt
    split
    · exact List.Pairwise.nil
    · rw [List.pairwise_map]
      exact (placesAt_sorted t r).imp (fun h => by omega)
  have := List.pairwise_iff_getElem.1 hs i (i + 1) (by omega) h (by omega)
  unfold nth
  rw [List.getD_eq_getElem?_getD, List.getD_eq_getElem?_getD, List.getElem?_eq_getElem h, List.getElem?_eq_getElem (by omega)]
  exact this
/-- How many of the first q places are told. -/
def cntQ (t : List Int) (r q : Nat) : Nat := if r = 0 then 0 else ((List.range q).filter (fun p => alikeB t p r)).length
theorem cntQ_one (t : List Int) (r : Nat) : cntQ t r 1 = 0 := by
  unfold cntQ
  split
  · rfl
  · rename_i h
    have : alikeB t 0 r = false := decide_eq_false (fun h2 => by omega)
    simp [List.range, List.range.loop, this]
theorem cntQ_succ (t : List Int) (r q : Nat) : cntQ t r (q + 1) = cntQ t r q + (if r = 0 then 0 else if alikeB t q r = true then 1 else 0) := by
  unfold cntQ
  by_cases h : r = 0
  · simp [h]
  · rw [if_neg h, if_neg h, if_neg h, List.range_succ, List.filter_append, List.length_append]
    congr 1
    by_cases c : alikeB t q r = true
    · simp [c]
    · simp [c]
theorem cntQ_end (t : List Int) (r : Nat) : cntQ t r t.length = (plAt t r).length := by
  rw [plAt_length]; rfl
theorem cntQ_le (t : List Int) (r q : Nat) : cntQ t r q ≤ q := by
  unfold cntQ
  split
  · exact Nat.zero_le _
  · exact Nat.le_trans (List.length_filter_le _ _) (by rw [List.length_range]; exact Nat.le_refl _)
end Go.Proofs.Ytjeofkobefeigaa.Wk
/- Several things in memory, each with blocks of its own: what is done to one leaves the others. -/
namespace Go.Proofs.Ytjeofkobefeigaa.Wk
open Go.RowKit Go.Shelf Go.Proofs.YtjeofkobefeigaaW.PrintWords Go.Proofs.YtjeofkobefeigaaW.PrintLast Go.Proofs.YtjeofkobefeigaaW.PrintMore Go.Proofs.Ytjeofkobefeigaa.Mp Go.Proofs.Ytjeofkobefeigaa.PEqRaw

/-- What is said of a world and of the blocks that it is said about. -/
abbrev Asr : Type := World → (Nat → Prop) → Prop
structure Asr.Ok (P : Asr) : Prop where
  fr : ∀ {w w' : World} {F G : Nat → Prop}, P w F → Fr G w w' → (∀ k, F k → k < w.heap.size → ¬ G k) → P w' F
  re : ∀ {w : World} {F F' : Nat → Prop}, P w F → (∀ k, F k → k < w.heap.size → F' k) → P w F'
def Emp : Asr := fun _ _ => True
theorem Emp.ok : Asr.Ok Emp := ⟨fun _ _ _ => trivial, fun _ _ => trivial⟩
def Star (P Q : Asr) : Asr := fun w F => ∃ Fp Fq : Nat → Prop, P w Fp ∧ Q w Fq ∧ (∀ k, Fp k → ¬ Fq k) ∧ (∀ k, Fp k ∨ Fq k → F k)
theorem Star.ok {P Q : Asr} (hP : Asr.Ok P) (hQ : Asr.Ok Q) : Asr.Ok (Star P Q) :=
  ⟨fun ⟨Fp, Fq, h1, h2, h3, h4⟩ hf hne => ⟨Fp, Fq, hP.fr h1 hf (fun k hk => hne k (h4 k (.inl hk))), hQ.fr h2 hf (fun k hk => hne k (h4 k (.inr hk))), h3, h4⟩,
   fun {w F F'} ⟨Fp, Fq, h1, h2, h3, h4⟩ hF => ⟨fun k => Fp k ∧ k < w.heap.size, fun k => Fq k ∧ k < w.heap.size, hP.re h1 (fun k a b => ⟨a, b⟩), hQ.re h2 (fun k a b => ⟨a, b⟩), fun k a b => h3 k a.1 b.1, fun k hk => by
      rcases hk with hk | hk
      · exact hF k (h4 k (.inl hk.1)) hk.2
      · exact hF k (h4 k (.inr hk.1)) hk.2⟩⟩
theorem Star.comm {P Q : Asr} {w : World} {F : Nat → Prop} (h : Star P Q w F) : Star Q P w F := by
  obtain ⟨Fp, Fq, h1, h2, h3, h4⟩ := h
  exact ⟨Fq, Fp, h2, h1, fun k a b => h3 k b a, fun k hk => h4 k hk.symm⟩
theorem Star.assoc {P Q R : Asr} {w : World} {F : Nat → Prop} (h : Star (Star P Q) R w F) : Star P (Star Q R) w F := by
  obtain ⟨Fpq, Fr, ⟨Fp, Fq, h1, h2, h3, h4⟩, h5, h6, h7⟩ := h
  refine ⟨Fp, fun k => Fq k ∨ Fr k, h1, ⟨Fq, Fr, h2, h5, fun k a b => h6 k (h4 k (.inr a)) b, fun k h => h⟩, fun k a b => ?_, fun k h => ?_⟩
  · rcases b with b | b
    · exact h3 k a b
    · exact h6 k (h4 k (.inl a)) b
  · rcases h with h | h | h
    · exact h7 k (.inl (h4 k (.inl h)))
    · exact h7 k (.inl (h4 k (.inr h)))
    · exact h7 k (.inr h)
theorem Star.assoc' {P Q R : Asr} {w : World} {F : Nat → Prop} (h : Star P (Star Q R) w F) : Star (Star P Q) R w F := by
  obtain ⟨Fp, Fqr, h1, ⟨Fq, Fr, h2, h3, h4, h5⟩, h6, h7⟩ := h
  refine ⟨fun k => Fp k ∨ Fq k, Fr, ⟨Fp, Fq, h1, h2, fun k a b => h6 k a (h5 k (.inl b)), fun k h => h⟩, h3, fun k a b => ?_, fun k h => ?_⟩
  · rcases a with a | a
    · exact h6 k a (h5 k (.inr b))
    · exact h4 k a b
  · rcases h with (h | h) | h
    · exact h7 k (.inl h)
    · exact h7 k (.inr (h5 k (.inl h)))
    · exact h7 k (.inr (h5 k (.inr h)))
/-- The second and the first change places. -/
theorem Star.swap {P Q R : Asr} {w : World} {F : Nat → Prop} (h : Star P (Star Q R) w F) : Star Q (Star P R) w F := by
  obtain ⟨Fpq, Fr, h1, h2, h3, h4⟩ := h.assoc'
  exact Star.assoc ⟨Fpq, Fr, h1.comm, h2, h3, h4⟩
/-- All of it lies in blocks from base on. -/
def Stt (base : Nat) (w : World) (P : Asr) : Prop := ∃ F, P w F ∧ ∀ k, F k → base ≤ k ∧ k < w.heap.size
theorem Stt.imp {base : Nat} {w : World} {P Q : Asr} (h : Stt base w P) (hPQ : ∀ F, P w F → Q w F) : Stt base w Q := by
  obtain ⟨F, h1, h2⟩ := h
  exact ⟨F, hPQ F h1, h2⟩
theorem fr_below {w w' : World} (hb : Below w.heap.size w w') : Fr (fun k => w.heap.size ≤ k) w w' := ⟨hb.os, hb.tape, hb.output, hb.size, fun i hi _ => hb.block i hi⟩
theorem Stt.below {base : Nat} {w w' : World} {P : Asr} (hP : Asr.Ok P) (h : Stt base w P) (hb : Below w.heap.size w w') : Stt base w' P := by
  obtain ⟨F, h1, h2⟩ := h
  exact ⟨F, hP.fr h1 (fr_below hb) (fun k _ hk hg => by omega), fun k hk => ⟨(h2 k hk).1, Nat.lt_of_lt_of_le (h2 k hk).2 hb.size⟩⟩
theorem Stt.emp {base : Nat} {w : World} : Stt base w Emp := ⟨fun _ => False, trivial, fun _ h => h.elim⟩
/-- Something new beside what is there. -/
theorem Stt.add {base : Nat} {w w1 w2 : World} {P Q : Asr} (hP : Asr.Ok P) (hQ : Asr.Ok Q) (h : Stt base w Q) (hb : Below w.heap.size w w1) (hbase : base ≤ w.heap.size) (hb2 : Below w1.heap.size w1 w2) (hp : P w2 (fun k => w1.heap.size ≤ k)) : Stt base w2 (Star P Q) := by
  obtain ⟨F, h1, h2⟩ := h.below hQ (hb.trans (hb2.mono hb.size))
  obtain ⟨F0, h3, h4⟩ := h
  refine ⟨fun k => (w1.heap.size ≤ k ∧ k < w2.heap.size) ∨ F0 k, ⟨fun k => w1.heap.size ≤ k ∧ k < w2.heap.size, F0, hP.re hp (fun k a b => ⟨a, b⟩), hQ.fr h3 (fr_below (hb.trans (hb2.mono hb.size))) (fun k _ hk hg => by omega), fun k a b => ?_, fun k h => h⟩, fun k hk => ?_⟩
  · have := (h4 k b).2
    have := hb.size
    omega
  · rcases hk with hk | hk
    · exact ⟨Nat.le_trans (Nat.le_trans hbase hb.size) hk.1, hk.2⟩
    · have := h4 k hk
      exact ⟨this.1, Nat.lt_of_lt_of_le this.2 (Nat.le_trans hb.size hb2.size)⟩
/-- What is done to the one leaves the other. -/
theorem Stt.frame {base : Nat} {w w1 : World} {P P' Q : Asr} {f : FuncId} {args : Array Value} {Post : Ending → Prop} (hP : Asr.Ok P) (hP' : Asr.Ok P') (hQ : Asr.Ok Q) (h : Stt base w (Star P Q)) (hb : Below w.heap.size w w1) (hbase : base ≤ w.heap.size)
    (hop : ∀ F : Nat → Prop, P w1 F → (∀ k, w1.heap.size ≤ k → F k) → (∀ k, F k → (base ≤ k ∧ k < w.heap.size) ∨ w1.heap.size ≤ k) → Calls Try.prog f args w1 fun e w' => Post e ∧ P' w' F ∧ Fr F w1 w') :
    Calls Try.prog f args w1 fun e w' => Post e ∧ Stt base w' (Star P' Q) ∧ Below base w1 w' := by
  obtain ⟨F, ⟨Fp, Fq, h1, h2, h3, h4⟩, h5⟩ := h
  have hp1 := hP.fr h1 (fr_below hb) (fun k _ hk hg => by omega)
  have hq1 := hQ.fr h2 (fr_below hb) (fun k _ hk hg => by omega)
  have hsz := hb.size
  refine (hop (fun k => (Fp k ∧ k < w.heap.size) ∨ w1.heap.size ≤ k) (hP.re hp1 (fun k a b => .inl ⟨a, (h5 k (h4 k (.inl a))).2⟩)) (fun k hk => .inr hk) (fun k hk => hk.imp (fun a => ⟨(h5 k (h4 k (.inl a.1))).1, a.2⟩) id)).mono ?_
  rintro e w' ⟨he, hp', hf⟩
  refine ⟨he, ⟨fun k => ((Fp k ∨ Fq k) ∧ k < w.heap.size) ∨ (w1.heap.size ≤ k ∧ k < w'.heap.size), ⟨fun k => (Fp k ∧ k < w.heap.size) ∨ (w1.heap.size ≤ k ∧ k < w'.heap.size), fun k => Fq k ∧ k < w.heap.size, hP'.re hp' (fun k a b => a.imp id (fun c => ⟨c, b⟩)), ?_, ?_, ?_⟩, ?_⟩, hf.below (fun k hk => ?_) (by omega)⟩
  · refine hQ.fr (hQ.re hq1 (F' := fun k => Fq k ∧ k < w.heap.size) (fun k a b => ⟨a, (h5 k (h4 k (.inr a))).2⟩)) hf (fun k hk _ hg => ?_)
    rcases hg with hg | hg
    · exact h3 k hg.1 hk.1
    · omega
  · rintro k (a | a) b
    · exact h3 k a.1 b.1
    · omega
  · rintro k ((a | a) | a)
    · exact .inl ⟨.inl a.1, a.2⟩
    · exact .inr a
    · exact .inl ⟨.inr a.1, a.2⟩
  · rintro k (⟨a | a, b⟩ | a)
    · have := hf.size; exact ⟨(h5 k (h4 k (.inl a))).1, by omega⟩
    · have := hf.size; exact ⟨(h5 k (h4 k (.inr a))).1, by omega⟩
    · exact ⟨by omega, a.2⟩
  · rcases hk with hk | hk
    · exact (h5 k (h4 k (.inl hk.1))).1
    · omega
/-- An index or none. -/
def SlotA (p : Value) (st : Option (Nat × List Int)) : Asr := fun w F => Slot w F p st
theorem SlotA.ok (p : Value) (st : Option (Nat × List Int)) : Asr.Ok (SlotA p st) := ⟨fun h hf hne => Slot.fr h hf hne, fun h hF => Slot.reF h hF⟩
/-- An own list of numbers. -/
def IntsA (v : Value) (xs : List Int) : Asr := fun w F => Kd.R (Kd.int .i64) 3 w 0 F v xs
theorem IntsA.ok (v : Value) (xs : List Int) : Asr.Ok (IntsA v xs) := ⟨fun {w w' F G} h hf hne => R_fr h hf (fun k hk => hne k (h.1 k hk) (Kd.R_lt h k hk)), fun h hF => R_reF h hF⟩
/-- Does a block lie ahead of base, or was it made since w? -/
def Away (base : Nat) (w w1 : World) (A : Option Addr) : Prop := ∀ ad, A = some ad → (ad.block < base ∨ w.heap.size ≤ ad.block) ∧ ad.block < w1.heap.size
theorem append_fr {base : Nat} {w w1 : World} {p : Value} {st : Option (Nat × List Int)} {Q : Asr} {A : Option Addr} {c : Nat} {ts : List Int} (hQ : Asr.Ok Q) (h : Stt base w (Star (SlotA p st) Q)) (hb : Below w.heap.size w w1) (hbase : base ≤ w.heap.size)
    (hts : Wf ts) (hC : Kd.C (Kd.int .i64) w1 A ts.length ts) (hc : ts.length ≤ c) (hA : ts ≠ [] → Away base w w1 A) (hl : ((stText st).length + ts.length) * 8 ≤ 140737488355328) :
    Calls Try.prog 19 #[p, .slice A ts.length c] w1 fun e w' => e = .returned (.tuple #[]) ∧ Stt base w' (Star (SlotA p (stApp ts st)) Q) ∧ Below base w1 w' :=
  Stt.frame (SlotA.ok _ _) (SlotA.ok _ _) hQ h hb hbase fun F hp h1 h2 => append_slot hp h1 hts hC hc (fun hn ad e hf => by
    obtain ⟨a, b⟩ := hA hn ad e
    rcases h2 _ hf with h2 | h2 <;> omega) hl
theorem cut_fr {base : Nat} {w w1 : World} {p : Value} {st : Option (Nat × List Int)} {Q : Asr} {n : Int} (hQ : Asr.Ok Q) (h : Stt base w (Star (SlotA p st) Q)) (hb : Below w.heap.size w w1) (hbase : base ≤ w.heap.size) :
    Calls Try.prog 26 #[p, .int .i64 n] w1 fun e w' => e = .returned (.tuple #[]) ∧ Stt base w' (Star (SlotA p (stCut n st)) Q) ∧ Below base w1 w' :=
  Stt.frame (SlotA.ok _ _) (SlotA.ok _ _) hQ h hb hbase fun F hp h1 _ => cut_slot hp h1
theorem Stt.slot {base : Nat} {w : World} {p : Value} {st : Option (Nat × List Int)} {Q : Asr} (h : Stt base w (Star (SlotA p st) Q)) : ∃ F, Slot w F p st := by
  obtain ⟨F, ⟨Fp, Fq, h1, _⟩, _⟩ := h
  exact ⟨Fp, h1⟩
end Go.Proofs.Ytjeofkobefeigaa.Wk
/- A loop over an index' iterator that collects what it gives; boxes, kept apart from the rest. -/
namespace Go.Proofs.Ytjeofkobefeigaa.Wk
open Go.RowKit Go.Shelf Go.Proofs.YtjeofkobefeigaaW.PrintWords Go.Proofs.YtjeofkobefeigaaW.PrintLast Go.Proofs.YtjeofkobefeigaaW.PrintMore Go.Proofs.Ytjeofkobefeigaa.Mp
attribute [local go_sem] Oper.semAt_some

theorem Star.impL {P P' Q : Asr} {w : World} {F : Nat → Prop} (h : Star P Q w F) (hP : ∀ F, P w F → P' w F) : Star P' Q w F := by
  obtain ⟨Fp, Fq, h1, h2, h3, h4⟩ := h
  exact ⟨Fp, Fq, hP Fp h1, h2, h3, h4⟩
theorem Star.impR {P Q Q' : Asr} {w : World} {F : Nat → Prop} (h : Star P Q w F) (hQ : ∀ F, Q w F → Q' w F) : Star P Q' w F := by
  obtain ⟨Fp, Fq, h1, h2, h3, h4⟩ := h
  exact ⟨Fp, Fq, h1, hQ Fq h2, h3, h4⟩
theorem Stt.drop {base : Nat} {w : World} {P Q : Asr} (h : Stt base w (Star P Q)) : Stt base w Q := by
  obtain ⟨F, ⟨Fp, Fq, h1, h2, h3, h4⟩, h5⟩ := h
  exact ⟨Fq, h2, fun k hk => h5 k (h4 k (.inr hk))⟩
/-- A block that holds just this. -/
def ObjA (B : Nat) (o : Obj) : Asr := fun w F => F B ∧ w.heap[B]? = some o
theorem ObjA.ok (B : Nat) (o : Obj) : Asr.Ok (ObjA B o) := ⟨fun {w w' F G} ⟨h1, h2⟩ hf hne => ⟨h1, (hf.block B (blk_lt h2) (hne B h1 (blk_lt h2))).trans h2⟩, fun {w F F'} ⟨h1, h2⟩ hF => ⟨hF B h1 (blk_lt h2), h2⟩⟩
theorem Stt.obj {base : Nat} {w : World} {B : Nat} {o : Obj} {Q : Asr} (h : Stt base w (Star (ObjA B o) Q)) : w.heap[B]? = some o := by
  obtain ⟨F, ⟨Fp, Fq, h1, _⟩, _⟩ := h
  exact h1.2
theorem Stt.alloc {base : Nat} {w : World} {P : Asr} (hP : Asr.Ok P) (h : Stt base w P) (hbase : base ≤ w.heap.size) (o : Obj) : Stt base (w.alloc o) (Star (ObjA w.heap.size o) P) :=
  Stt.add (ObjA.ok _ _) hP h (Below.refl _ _) hbase (below_alloc (Below.refl _ _) o) ⟨Nat.le_refl _, blk_new w o⟩
/-- A list's box and the list in it. -/
def BoxA (B : Nat) (xs : List Int) : Asr := fun w F => ∃ v, F B ∧ w.heap[B]? = some (.cells #[v] 22 (0, 0)) ∧ Kd.R (Kd.int .i64) 3 w 0 F v xs
theorem BoxA.ok (B : Nat) (xs : List Int) : Asr.Ok (BoxA B xs) :=
  ⟨fun {w w' F G} ⟨v, h1, h2, h3⟩ hf hne => ⟨v, h1, (hf.block B (blk_lt h2) (hne B h1 (blk_lt h2))).trans h2, R_fr h3 hf (fun k hk => hne k (h3.1 k hk) (Kd.R_lt h3 k hk))⟩,
   fun {w F F'} ⟨v, h1, h2, h3⟩ hF => ⟨v, hF B h1 (blk_lt h2), h2, R_reF h3 hF⟩⟩
theorem BoxA.nil {B : Nat} {w : World} {F : Nat → Prop} (h : ObjA B (.cells #[.slice none 0 0] 22) w F) : BoxA B [] w F := ⟨_, h.1, h.2, Kd.R_nil _ _ _ _ _⟩
/-- Taken out of its box. -/
theorem Stt.unbox {base : Nat} {w : World} {B : Nat} {xs : List Int} {Q : Asr} (h : Stt base w (Star (BoxA B xs) Q)) : ∃ v, w.heap[B]? = some (.cells #[v] 22 (0, 0)) ∧ Stt base w (Star (IntsA v xs) Q) := by
  obtain ⟨F, ⟨Fp, Fq, ⟨v, h1, h2, h3⟩, hq, hd, hi⟩, h5⟩ := h
  exact ⟨v, h2, ⟨F, ⟨Fp, Fq, h3, hq, hd, hi⟩, h5⟩⟩
/-- One block of another kind turned. -/
theorem Stt.put {base : Nat} {w : World} {D : Nat} {o o' : Obj} {Q : Asr} (hQ : Asr.Ok Q) (h : Stt base w (Star (ObjA D o) Q)) : Stt base (w.putObj D o') Q ∧ Below base w (w.putObj D o') := by
  have hg := grownBy_putObj' w D o'
  obtain ⟨F, ⟨Fp, Fq, h1, hq, hd, hi⟩, h5⟩ := h
  have hfr : Fr (fun k => k = D) w (w.putObj D o') := Fr.of_grown hg (fun k e => by cases e; rfl)
  refine ⟨⟨Fq, hQ.fr hq hfr (fun k hk _ e => hd k (by subst e; exact h1.1) hk), fun k hk => ?_⟩, hfr.below (fun k e => by subst e; exact (h5 k (hi k (.inl h1.1))).1) (by have := h5 D (hi D (.inl h1.1)); omega)⟩
  have := h5 k (hi k (.inr hk))
  exact ⟨this.1, Nat.lt_of_lt_of_le this.2 hg.size⟩
/-- Within a loop that collects into box Bx: what has come. -/
def ThI (W0 : World) (Bx : Nat) (pre : List Int) (W : World) : Prop :=
  (∃ v, W.heap[Bx]? = some (.cells #[v] 22 (0, 0)) ∧ Kd.R (Kd.int .i64) 3 W W0.heap.size (fun _ => True) v pre) ∧ Fr (fun k => k = Bx ∨ W0.heap.size ≤ k) W0 W
theorem ThI.own (W0 : World) (Bx : Nat) : OwnFrom W0.heap.size (ThI W0 Bx) := fun s A B row ⟨⟨v, h1, h2⟩, h3⟩ hg hr =>
  ⟨⟨v, (cells_kept hg (fun r e => (hr r e).2) h1).trans h1, R_same h2 (fun k hk => by obtain ⟨_, cs, fr, hc⟩ := R_cells h2 k hk; exact cells_kept hg (fun r e => (hr r e).2) hc)⟩, h3.trans (Fr.of_grown hg (fun k e => .inr (hr k e).1))⟩
theorem ThI.start {W0 : World} {Bx : Nat} (h : W0.heap[Bx]? = some (.cells #[.slice none 0 0] 22 (0, 0))) : ThI W0 Bx [] W0 := ⟨⟨_, h, Kd.R_nil _ _ _ _ _⟩, Fr.refl _ _⟩
/-- One more. -/
theorem ThI.step {W0 W w1 : World} {Bx : Nat} {v v1 : Value} {pre : List Int} {x : Int} (hlt : Bx < W0.heap.size) (hv : W.heap[Bx]? = some (.cells #[v] 22 (0, 0))) (hR : Kd.R (Kd.int .i64) 3 W W0.heap.size (fun _ => True) v pre) (hf : Fr (fun k => k = Bx ∨ W0.heap.size ≤ k) W0 W)
    (ho : Kd.R (Kd.int .i64) 3 w1 W0.heap.size (fun _ => True) v1 (pre ++ [x])) (hg : W.grownBy w1 v.ownBlock) (hat : v1.ownBlock = v.ownBlock ∨ ∃ b, v1.ownBlock = some b ∧ W.heap.size ≤ b) (hk : KeepsOthers W w1) :
    ∃ A1 c1, v1 = .slice A1 (pre.length + 1) c1 ∧ w1.cell? ⟨Bx, 0, none⟩ = some v ∧ w1.frozen? ⟨Bx, 0, none⟩ = false ∧
      (KeepsOthers W (w1.setCell ⟨Bx, 0, none⟩ v1) ∧ KpB (fun _ => False) Bx 22 W (w1.setCell ⟨Bx, 0, none⟩ v1) ∧ ThI W0 Bx (pre ++ [x]) (w1.setCell ⟨Bx, 0, none⟩ v1) ∧ (w1.setCell ⟨Bx, 0, none⟩ v1).cell? ⟨Bx, 0, none⟩ = some v1) := by
  obtain ⟨A1, c1, e1, hc1, hC1⟩ := Kd.R_reads ho
  rw [List.length_append, List.length_singleton] at e1
  have hn := R_nebox hR hv (by decide)
  have hv1 : w1.heap[Bx]? = some (.cells #[v] 22 (0, 0)) := blk_grown hv hg (fun e => hn e.symm)
  have hset : (w1.setCell ⟨Bx, 0, none⟩ v1).heap[Bx]? = some (.cells #[v1] 22 (0, 0)) := blk_put hv1 0 v1 rfl
  have hn1 := R_nebox ho hv1 (by decide)
  have hfr : Fr (fun k => k = Bx ∨ W0.heap.size ≤ k) W0 (w1.setCell ⟨Bx, 0, none⟩ v1) := (hf.trans (Fr.of_grown hg (fun k hk => .inr (R_cells hR k hk).1))).set (.inl rfl) 0 v1
  refine ⟨A1, c1, e1, (blk_cell hv1 0).trans rfl, blk_frozen hv1 0, hk.trans (KeepsOthers.setCell _ _ _), fun k hs => ?_, ⟨⟨v1, hset, R_same ho (fun k hk2 => Below.heap_setCell w1 ⟨Bx, 0, none⟩ v1 k (fun e => hn1 (by rw [hk2]; exact congrArg some e)))⟩, hfr⟩, (blk_cell hset 0).trans rfl⟩
  obtain ⟨⟨cs, t, fr, h1⟩, h2, h3', v', h4, h5⟩ := hs
  rw [hv] at h4
  injection h4 with h4
  injection h4 with h4
  have hvv : v = v' := by simpa using h4
  subst hvv
  have hsame : (w1.setCell ⟨Bx, 0, none⟩ v1).heap[k]? = W.heap[k]? := (Below.heap_setCell w1 ⟨Bx, 0, none⟩ v1 k h3').trans (hg.block k (blk_lt h1) (fun e => h5 e.symm))
  refine ⟨hsame, ⟨cs, t, fr, hsame.trans h1⟩, h2, h3', v1, hset, fun e => ?_⟩
  rcases hat with hat | ⟨b, hb1, hb2⟩
  · exact h5 (hat ▸ e)
  · rw [hb1] at e
    injection e with e
    have := blk_lt h1
    omega
/-- Behind the loop: the box with its list, the mark of the loop, the rest as it was. -/
theorem ThI.stt {base : Nat} {W0 W : World} {Bx D : Nat} {pre : List Int} {Q : Asr} (hQ : Asr.Ok Q) (h : Stt base W0 (Star (ObjA Bx (.cells #[.slice none 0 0] 22)) Q)) (hbase : base ≤ W0.heap.size) (hI : ThI W0 Bx pre W) (hD : W0.heap.size ≤ D) (hK : W.heap[D]? = some (.deferred (some []))) :
    Stt base W (Star (ObjA D (.deferred (some []))) (Star (BoxA Bx pre) Q)) ∧ Below base W0 W := by
  obtain ⟨F, ⟨Fp, Fq, h1, hq, hd, hi⟩, h5⟩ := h
  obtain ⟨⟨v, hv, hR⟩, hf⟩ := hI
  have hBx := blk_lt h1.2
  have hDlt := blk_lt hK
  refine ⟨⟨fun k => k = D ∨ (k = Bx ∨ v.ownBlock = some k) ∨ (Fq k ∧ k < W0.heap.size), ⟨fun k => k = D, fun k => (k = Bx ∨ v.ownBlock = some k) ∨ (Fq k ∧ k < W0.heap.size), ⟨rfl, hK⟩, ⟨fun k => k = Bx ∨ v.ownBlock = some k, fun k => Fq k ∧ k < W0.heap.size, ⟨v, .inl rfl, hv, ?_⟩, ?_, ?_, fun k h => h⟩, ?_, fun k h => h⟩, ?_⟩, hf.below (fun k hk => ?_) hbase⟩
  · exact Kd.R_reok rfl (Kd.R_raise (b := W0.heap.size) (b' := 0) (fun _ _ _ _ hm => hm) hR (fun _ _ => Nat.zero_le _)) (fun k hk => .inr hk)
  · refine hQ.fr (hQ.re hq (F' := fun k => Fq k ∧ k < W0.heap.size) (fun k a b => ⟨a, b⟩)) hf (fun k hk _ hg => ?_)
    rcases hg with hg | hg
    · subst hg; exact hd k h1.1 hk.1
    · omega
  · rintro k (a | a) b
    · subst a; exact hd k h1.1 b.1
    · have := (R_cells hR k a).1; omega
  · rintro k a b
    have a : k = D := a
    subst a
    rcases b with (b | b) | b
    · subst b; rw [hv] at hK; cases hK
    · obtain ⟨_, cs, fr, hc⟩ := R_cells hR k b; rw [hc] at hK; cases hK
    · omega
  · rintro k (a | (a | a) | a)
    · subst a; exact ⟨by omega, hDlt⟩
    · subst a; exact ⟨(h5 k (hi k (.inl h1.1))).1, blk_lt hv⟩
    · obtain ⟨g1, cs, fr, hc⟩ := R_cells hR k a; exact ⟨by omega, blk_lt hc⟩
    · have := hf.size; exact ⟨(h5 k (hi k (.inr a.1))).1, by omega⟩
  · rcases hk with hk | hk
    · subst hk; exact (h5 k (hi k (.inl h1.1))).1
    · omega
/-- The law of such a loop. -/
theorem loop_law {n : Nat} (hn : 1 ≤ n - 1) {g : Operand} {ps : Array Tmp} {assign body : Code} {Q : Exit → Act → World → Prop} {a : Act} {W0 : World} {Bx Bp : Nat} {p : Value} {pl : List Int} (hps : ps.size = 1) (hg : a.eval g = .func (.func 38) #[] #[.pointer (some ⟨Bp, 0, none⟩)])
    (hBp : W0.heap[Bp]? = some (.cells #[p] 25 (0, 0))) (hp : ∃ q, p = .pointer q) (hBx : W0.heap[Bx]? = some (.cells #[.slice none 0 0] 22 (0, 0)))
    (hin : ∀ W, Below W0.heap.size W0 W → Calls Try.prog 39 #[p] W fun e w' => ∃ v, e = .returned v ∧ Kd.R (Kd.int .i64) 3 w' W.heap.size (fun _ => True) v pl ∧ Below W.heap.size W w') (Ci : List Int → Prop) (hC0 : Ci []) (Cx : Code → List Int → Prop) (a₁ : Int → Act)
    (hassign : ∀ (l : Nat) (x : Int) (W : World) (K : Act → World → Prop), K (a₁ x) W → assign.wpIn (Fence.wide.inRound l) (n - 1 - 1) Try.prog (Exit.then K (fun _ _ _ => False)) { tmps := (ps.zip (#[Value.int .i64 x])).foldl (fun t (p, v) => t.setIfInBounds p v) a.tmps, defers := [] } W)
    (hbody : ∀ (l : Nat) (pre : List Int) (x : Int) (W : World), Ci pre → ThI W0 Bx pre W → pre.length < pl.length → body.wpIn (Fence.wide.inRound l) (n - 1 - 1) Try.prog (ownPostK (KpB (fun _ => False) Bx 22) (fun pre W => Ci pre ∧ ThI W0 Bx pre W) (fun c pre W => Cx c pre ∧ ThI W0 Bx pre W) (pre ++ [x]) W) (a₁ x) W)
    (hdone : ∀ (D : Nat) (W : World), W0.heap.size ≤ D → Ci pl.reverse → ThI W0 Bx pl.reverse W → W.heap[D]? = some (.deferred (some [])) → Q .normal { a with defers := { target := .collected D, args := #[] } :: a.defers } W)
    (hstop : ∀ (D : Nat) (c : Code) (pre : List Int) (W : World), W0.heap.size ≤ D → pre <+: pl.reverse → Cx c pre → ThI W0 Bx pre W → W.heap[D]? = some (.deferred (some [])) → c.wpIn Fence.wide n Try.prog Q { a with defers := { target := .collected D, args := #[] } :: a.defers } W) :
    (Code.rangeFunc g ps assign body).wpIn Fence.wide n Try.prog Q a W0 := by
  have hseq : SeqStopsK Fence.wide (n - 1) Try.prog 38 #[.pointer (some ⟨Bp, 0, none⟩)] (fun x : Int => #[Value.int .i64 x]) (KpB (fun _ => False) Bx 22) (fun ys => ys = pl.reverse) (fun pre => pre <+: pl.reverse) pl.length W0 :=
    fun l J Jx W hW hJ hJx hY h0 => places1_in (n - 1) hn l Bp p pl _ (SafeB (fun _ => False) Bx 22) J Jx (fun k W1 W' hs hk => hk k hs) (fun pre x W1 hj hl _ => hY pre x W1 hj hl) W
      (fun W2 k cs fr hb hk hc => ⟨⟨cs, 3, fr, hc⟩, fun h => h, by have := hW.size; have := blk_lt hBx; omega, .slice none 0 0, blk_below (blk_below hBx hW) hb, fun e => by cases e⟩)
      ((blk_cell (blk_below hBp hW) 0).trans rfl) hp (hin W hW) hJ h0
  exact wpIn_rangeFunc_ownF rfl (by omega) (gf := 38) (lb := #[.pointer (some ⟨Bp, 0, none⟩)]) hg trivial (enters_of Try.func38 (by kernel_rfl) rfl)
    hseq (fun h k => h.trans k) (fun W l o o' _ h hc _ => KpB.putObj W l o o' h hc) (Below.refl _ _) (fun _ => by rw [hps]; rfl)
    (fun pre W => Ci pre ∧ ThI W0 Bx pre W) (fun c pre W => Cx c pre ∧ ThI W0 Bx pre W) (fun s A B row h hg hr => ⟨h.1, ThI.own W0 Bx s A B row h.2 hg hr⟩) (fun c s A B row h hg hr => ⟨h.1, ThI.own W0 Bx s A B row h.2 hg hr⟩) ⟨hC0, ThI.start hBx⟩ a₁ hassign (fun l pre x W h hl => hbody l pre x W h.1 h.2 hl)
    (fun D ys W hD he hI hK => by subst he; exact hdone D W hD hI.1 hI.2 hK) (fun D c pre W hD hpre hI hK => hstop D c pre W hD hpre hI.1 hI.2 hK)
end Go.Proofs.Ytjeofkobefeigaa.Wk
