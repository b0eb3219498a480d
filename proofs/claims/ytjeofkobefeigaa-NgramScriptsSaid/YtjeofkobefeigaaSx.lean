/- Two indexes and the document's two, held in two arrays. -/
import Derived.Test.YtjeofkobefeigaaMk
set_option linter.unusedVariables false
set_option linter.unusedSimpArgs false
namespace Go.Proofs.Ytjeofkobefeigaa.Wk
open Go.RowKit Go.Shelf Go.Proofs.YtjeofkobefeigaaW.PrintWords Go.Proofs.YtjeofkobefeigaaW.PrintLast Go.Proofs.YtjeofkobefeigaaW.PrintMore Go.Proofs.Ytjeofkobefeigaa.Mp
attribute [local go_sem] Oper.semAt_some

/-- What is done to an index by a call that is handed the beginning of a list of the same state. -/
theorem append_pre {base : Nat} {w : World} {p : Value} {st : Option (Nat × List Int)} {Q : Asr} {A : Option Addr} {m c : Nat} {ts full : List Int} (hQ : Asr.Ok Q) (h : Stt base w (Star (SlotA p st) (Star (IntsA (.slice A m c) full) Q))) (hbase : base ≤ w.heap.size)
    (hle : ts.length ≤ full.length) (htk : full.take ts.length = ts) (hts : Wf ts) (hl : ((stText st).length + ts.length) * 8 ≤ 140737488355328) :
    Calls Try.prog 19 #[p, .slice A ts.length c] w fun e w' => e = .returned (.tuple #[]) ∧ Stt base w' (Star (SlotA p (stApp ts st)) (Star (IntsA (.slice A m c) full) Q)) ∧ Below base w w' := by
  obtain ⟨F, ⟨Fp, Fq, h1, h2, h3, h4⟩, h5⟩ := h
  obtain ⟨Fi, Fr', i1, i2, i3, i4⟩ := h2
  obtain ⟨A', c', ev, hc', hC⟩ := Kd.R_reads i1
  injection ev with e1 e2 e3
  subst e1; subst e3
  have hC2 := Kd.C_take hC hle
  rw [htk] at hC2
  refine (append_slot (F := fun k => Fp k ∨ w.heap.size ≤ k) (Slot.reF h1 (fun k hk _ => .inl hk)) (fun k hk => .inr hk) hts hC2 (by omega) (fun hn ad e hf => ?_) hl).mono ?_
  · subst e
    have hi := i1.1 ad.block rfl
    rcases hf with hf | hf
    · exact h3 _ hf (i4 _ (.inl hi))
    · have := Kd.R_lt i1 ad.block rfl; omega
  rintro e w' ⟨he, hS, hf⟩
  exact ⟨he, turn_core (Star.ok (IntsA.ok _ _) hQ) (SlotA.ok _ _) (Q := Star (IntsA (.slice A m c) full) Q) ⟨Fi, Fr', i1, i2, i3, i4⟩ h3 h4 h5 hbase hS hf⟩
/-- A cell of a block that holds just this is written. -/
theorem Stt.objset {base : Nat} {w : World} {B : Nat} {cs : Array Value} {ta : TypeId} {P : Asr} (hP : Asr.Ok P) (h : Stt base w (Star (ObjA B (.cells cs ta)) P)) (hbase : base ≤ w.heap.size) (i : Nat) (v : Value) (cs' : Array Value) (hcs : cs.setIfInBounds i v = cs') :
    Stt base (w.setCell ⟨B, i, none⟩ v) (Star (ObjA B (.cells cs' ta)) P) ∧ Below base w (w.setCell ⟨B, i, none⟩ v) :=
  h.turn hP (ObjA.ok _ _) hbase fun Fp hp _ => ⟨⟨.inl hp.1, by subst hcs; exact blk_put hp.2 i v rfl⟩, Fr.set (Fr.refl _ _) (.inl hp.1) i v⟩
def StA (Ba Bb : Nat) (ta tb : TypeId) (x0 x1 y0 y1 : Value) (s0 s1 : Option (Nat × List Int)) : Asr :=
  Star (ObjA Ba (.cells #[x0, x1] ta)) (Star (ObjA Bb (.cells #[y0, y1] tb)) (Star (SlotA x0 s0) (Star (RSlotA y0 s0) (Star (SlotA x1 s1) (Star (RSlotA y1 s1) Emp)))))
def S2 (base Ba Bb : Nat) (ta tb : TypeId) (T : Nat) (w : World) : Prop := ∃ x0 x1 y0 y1 s0 s1, Stt base w (StA Ba Bb ta tb x0 x1 y0 y1 s0 s1) ∧ (stText s0).length ≤ T ∧ (stText s1).length ≤ T
theorem StA.ok (Ba Bb : Nat) (ta tb : TypeId) (x0 x1 y0 y1 : Value) (s0 s1 : Option (Nat × List Int)) : Asr.Ok (StA Ba Bb ta tb x0 x1 y0 y1 s0 s1) := Star.ok (ObjA.ok _ _) (Star.ok (ObjA.ok _ _) (Star.ok (SlotA.ok _ _) (Star.ok (RSlotA.ok _ _) (Star.ok (SlotA.ok _ _) (Star.ok (RSlotA.ok _ _) Emp.ok)))))
theorem S2.below {base Ba Bb : Nat} {ta tb : TypeId} {T : Nat} {w w1 : World} (h : S2 base Ba Bb ta tb T w) (hb : Below w.heap.size w w1) : S2 base Ba Bb ta tb T w1 := by
  obtain ⟨x0, x1, y0, y1, s0, s1, h1, h2, h3⟩ := h
  exact ⟨x0, x1, y0, y1, s0, s1, h1.below (StA.ok _ _ _ _ _ _ _ _ _ _) hb, h2, h3⟩
theorem S2.mono {base Ba Bb : Nat} {ta tb : TypeId} {T T' : Nat} {w : World} (h : S2 base Ba Bb ta tb T w) (hT : T ≤ T') : S2 base Ba Bb ta tb T' w := by
  obtain ⟨x0, x1, y0, y1, s0, s1, h1, h2, h3⟩ := h
  exact ⟨x0, x1, y0, y1, s0, s1, h1, by omega, by omega⟩
/-- What the two arrays hold at place k. -/
def AtK (Ba Bb k : Nat) (px py : Value) (w : World) : Prop := w.cell? ⟨Ba, k, none⟩ = some px ∧ w.frozen? ⟨Ba, k, none⟩ = false ∧ w.cell? ⟨Bb, k, none⟩ = some py ∧ w.frozen? ⟨Bb, k, none⟩ = false
theorem S2.pick {base Ba Bb : Nat} {ta tb : TypeId} {T k : Nat} {w : World} (h : S2 base Ba Bb ta tb T w) (hk : k < 2) : ∃ (px py : Value) (s : Option (Nat × List Int)) (Q : Asr), Asr.Ok Q ∧ Stt base w (Star (SlotA px s) (Star (RSlotA py s) Q)) ∧ (stText s).length ≤ T ∧
    (∀ w', Stt base w' Q → AtK Ba Bb k px py w') ∧
    (∀ (T' : Nat) (w' : World) (s' : Option (Nat × List Int)), T ≤ T' → (stText s').length ≤ T' → Stt base w' (Star (SlotA px s') (Star (RSlotA py s') Q)) → S2 base Ba Bb ta tb T' w') ∧
    (∀ (w' : World) (px' py' : Value) (s' : Option (Nat × List Int)), (stText s').length ≤ T → base ≤ w'.heap.size → Stt base w' (Star (SlotA px' s') (Star (RSlotA py' s') Q)) →
      S2 base Ba Bb ta tb T ((w'.setCell ⟨Ba, k, none⟩ px').setCell ⟨Bb, k, none⟩ py') ∧ Below base w' ((w'.setCell ⟨Ba, k, none⟩ px').setCell ⟨Bb, k, none⟩ py') ∧ (w'.setCell ⟨Ba, k, none⟩ px').cell? ⟨Bb, k, none⟩ = some py ∧ (w'.setCell ⟨Ba, k, none⟩ px').frozen? ⟨Bb, k, none⟩ = false) := by
  obtain ⟨x0, x1, y0, y1, s0, s1, h1, h2, h3⟩ := h
  have hkk : k = 0 ∨ k = 1 := by omega
  rcases hkk with rfl | rfl
  · refine ⟨x0, y0, s0, Star (ObjA Ba (.cells #[x0, x1] ta)) (Star (ObjA Bb (.cells #[y0, y1] tb)) (Star (SlotA x1 s1) (Star (RSlotA y1 s1) Emp))), Star.ok (ObjA.ok _ _) (Star.ok (ObjA.ok _ _) (Star.ok (SlotA.ok _ _) (Star.ok (RSlotA.ok _ _) Emp.ok))), h1.imp (fun F h => h.up3.impR (fun F h => h.up3)), h2, fun w' h => ?_, fun T' w' s' hT hs h => ?_, fun w' px' py' s' hs hb h => ?_⟩
    · have a := h.obj
      have b := (h.imp (fun F h => h.swap)).obj
      exact ⟨(blk_cell a 0).trans rfl, blk_frozen a 0, (blk_cell b 0).trans rfl, blk_frozen b 0⟩
    · exact ⟨x0, x1, y0, y1, s', s1, h.imp (fun F h => h.up3.impR (fun F h => h.up3)), hs, by omega⟩
    · have ok1 := fun (P : Asr) (hP : Asr.Ok P) => Star.ok (SlotA.ok px' s') (Star.ok (RSlotA.ok py' s') hP)
      obtain ⟨g1, b1⟩ := Stt.objset (ok1 _ (Star.ok (ObjA.ok _ _) (Star.ok (SlotA.ok _ _) (Star.ok (RSlotA.ok _ _) Emp.ok)))) (h.imp (fun F h => h.up3)) hb 0 px' #[px', x1] rfl
      have g2 := g1.imp (fun F h => h.up4)
      have b := g2.obj
      obtain ⟨g3, b3⟩ := Stt.objset (Star.ok (ObjA.ok _ _) (ok1 _ (Star.ok (SlotA.ok _ _) (Star.ok (RSlotA.ok _ _) Emp.ok)))) g2 (Nat.le_trans hb b1.size) 0 py' #[py', y1] rfl
      exact ⟨⟨px', x1, py', y1, s', s1, g3.imp (fun F h => h.swap), hs, h3⟩, b1.trans b3, (blk_cell b 0).trans rfl, blk_frozen b 0⟩
  · refine ⟨x1, y1, s1, Star (ObjA Ba (.cells #[x0, x1] ta)) (Star (ObjA Bb (.cells #[y0, y1] tb)) (Star (SlotA x0 s0) (Star (RSlotA y0 s0) Emp))), Star.ok (ObjA.ok _ _) (Star.ok (ObjA.ok _ _) (Star.ok (SlotA.ok _ _) (Star.ok (RSlotA.ok _ _) Emp.ok))), h1.imp (fun F h => h.up5.impR (fun F h => h.up5)), h3, fun w' h => ?_, fun T' w' s' hT hs h => ?_, fun w' px' py' s' hs hb h => ?_⟩
    · have a := h.obj
      have b := (h.imp (fun F h => h.swap)).obj
      exact ⟨(blk_cell a 1).trans rfl, blk_frozen a 1, (blk_cell b 1).trans rfl, blk_frozen b 1⟩
    · exact ⟨x0, x1, y0, y1, s0, s', h.imp (fun F h => h.up3.impR (fun F h => h.up3.impR (fun F h => h.up3.impR (fun F h => h.up3)))), by omega, hs⟩
    · have ok1 := fun (P : Asr) (hP : Asr.Ok P) => Star.ok (SlotA.ok px' s') (Star.ok (RSlotA.ok py' s') hP)
      obtain ⟨g1, b1⟩ := Stt.objset (ok1 _ (Star.ok (ObjA.ok _ _) (Star.ok (SlotA.ok _ _) (Star.ok (RSlotA.ok _ _) Emp.ok)))) (h.imp (fun F h => h.up3)) hb 1 px' #[x0, px'] rfl
      have g2 := g1.imp (fun F h => h.up4)
      have b := g2.obj
      obtain ⟨g3, b3⟩ := Stt.objset (Star.ok (ObjA.ok _ _) (ok1 _ (Star.ok (SlotA.ok _ _) (Star.ok (RSlotA.ok _ _) Emp.ok)))) g2 (Nat.le_trans hb b1.size) 1 py' #[y0, py'] rfl
      exact ⟨⟨x0, px', y0, py', s0, s', g3.imp (fun F h => h.swap.impR (fun F h => h.impR (fun F h => h.up3.impR (fun F h => h.up3)))), h2, hs⟩, b1.trans b3, (blk_cell b 1).trans rfl, blk_frozen b 1⟩
/-- What says nothing of memory. -/
theorem Stt.triv {base : Nat} {w : World} {P0 P : Asr} (h : Stt base w P) (h0 : P0 w (fun _ => False)) : Stt base w (Star P0 P) := by
  obtain ⟨F, h1, h2⟩ := h
  exact ⟨F, ⟨fun _ => False, F, h0, h1, fun k hk => hk.elim, fun k hk => hk.elim (fun h => h.elim) id⟩, h2⟩
theorem S2.start {base : Nat} {w : World} {ta tb : TypeId} (hb : base ≤ w.heap.size) :
    S2 base w.heap.size (w.heap.size + 1) ta tb 0 ((w.alloc (.cells #[.pointer none, .pointer none] ta)).alloc (.cells #[.pointer none, .pointer none] tb)) := by
  have h0 : Stt base w (Star (SlotA (.pointer none) none) (Star (RSlotA (.pointer none) none) (Star (SlotA (.pointer none) none) (Star (RSlotA (.pointer none) none) Emp)))) :=
    (((Stt.emp.triv (P0 := RSlotA (.pointer none) none) rfl).triv (P0 := SlotA (.pointer none) none) rfl).triv (P0 := RSlotA (.pointer none) none) rfl).triv (P0 := SlotA (.pointer none) none) rfl
  have ok := Star.ok (SlotA.ok (.pointer none) none) (Star.ok (RSlotA.ok (.pointer none) none) (Star.ok (SlotA.ok (.pointer none) none) (Star.ok (RSlotA.ok (.pointer none) none) Emp.ok)))
  have h1 := (h0.alloc ok hb (.cells #[.pointer none, .pointer none] ta)).alloc (Star.ok (ObjA.ok _ _) ok) (by simp; omega) (.cells #[.pointer none, .pointer none] tb)
  rw [World.size_alloc] at h1
  exact ⟨_, _, _, _, none, none, h1.imp (fun F h => h.swap), Nat.le_refl _, Nat.le_refl _⟩
end Go.Proofs.Ytjeofkobefeigaa.Wk
